/- Functions of the program, and what they compute. -/
import Derived.Test.YtcpjdjgipmjhdaaGreatQ18
import Derived.Test.YtcpjdjgipmjhdaaGreatQ171
import Derived.Test.YtcpjdjgipmjhdaaGreatFacts
import Derived.Test.YtcpjdjgipmjhdaaGreatRows
import Derived.ChangeCalls
namespace Go.Proofs.YtcpjdjgipmjhdaaGreat.Dm
open Go Go.ChangeShapes Go.WideShapes Go.ChangeAt Go.RowKit
def f4_tree (a0 : List UInt8) : Out (((Bool × Unit) × Unit) × (Unit × Unit)) :=
 .ite (decide (((List.length a0 : Nat) : Int) > (1048576 : Int)))
 (.ret (((true, ()), ()), ((), ())))
 (.ite ((((readImageV a0).1 != (readImageV a0).1)) == false)
 (.ite ((!(eqUnixV (readImageV a0).2.1 (readImageV a0).2.2.1 (readImageV a0).2.2.2.1 (readImageV a0).2.2.2.2.1 (readImageV a0).2.2.2.2.2.1 (readImageV a0).2.2.2.2.2.2.1 (readImageV a0).2.2.2.2.2.2.2.1 (readImageV a0).2.2.2.2.2.2.2.2.1 (readImageV a0).2.2.2.2.2.2.2.2.2.1 (readImageV a0).2.1 (readImageV a0).2.2.1 (readImageV a0).2.2.2.1 (readImageV a0).2.2.2.2.1 (readImageV a0).2.2.2.2.2.1 (readImageV a0).2.2.2.2.2.2.1 (readImageV a0).2.2.2.2.2.2.2.1 (readImageV a0).2.2.2.2.2.2.2.2.1 (readImageV a0).2.2.2.2.2.2.2.2.2.1)) == false)
 (.ite (!((readImageV a0).2.2.2.2.2.2.2.2.2.2 == (readImageV a0).2.2.2.2.2.2.2.2.2.2))
 (.ret (((false, ()), ()), ((), ())))
 (.get (markUnixV (readImageV a0).2.1 (readImageV a0).2.2.1 (readImageV a0).2.2.2.1 (readImageV a0).2.2.2.2.1 (readImageV a0).2.2.2.2.2.1 (readImageV a0).2.2.2.2.2.2.1 (readImageV a0).2.2.2.2.2.2.2.1 (readImageV a0).2.2.2.2.2.2.2.2.1 (readImageV a0).2.2.2.2.2.2.2.2.2.1 (1 : Int)) fun y1 =>
 .get (heldUnixV (readImageV a0).2.1 (readImageV a0).2.2.1 y1.2.1 y1.2.2.1 y1.2.2.2.1 y1.2.2.2.2.1 y1.2.2.2.2.2.1 y1.2.2.2.2.2.2.1 y1.2.2.2.2.2.2.2 (1 : Int)) fun y2 =>
 .ite (decide (y2 < (0 : Int)))
 (.ret (((false, ()), ()), ((), ())))
 (.ite ((y2 != y1.1))
 (.ret (((false, ()), ()), ((), ())))
 (.ite ((((readImageV a0).1 != (readImageV a0).1)) == false)
 (.ite ((!(eqUnixV (readImageV a0).2.1 (readImageV a0).2.2.1 (readImageV a0).2.2.2.1 (readImageV a0).2.2.2.2.1 (readImageV a0).2.2.2.2.2.1 (readImageV a0).2.2.2.2.2.2.1 (readImageV a0).2.2.2.2.2.2.2.1 (readImageV a0).2.2.2.2.2.2.2.2.1 (readImageV a0).2.2.2.2.2.2.2.2.2.1 (readImageV a0).2.1 (readImageV a0).2.2.1 (readImageV a0).2.2.2.1 (readImageV a0).2.2.2.2.1 (readImageV a0).2.2.2.2.2.1 (readImageV a0).2.2.2.2.2.2.1 (readImageV a0).2.2.2.2.2.2.2.1 (readImageV a0).2.2.2.2.2.2.2.2.1 (readImageV a0).2.2.2.2.2.2.2.2.2.1)) == false)
 (.ite (!((readImageV a0).2.2.2.2.2.2.2.2.2.2 == (readImageV a0).2.2.2.2.2.2.2.2.2.2))
 (.ret (((false, ()), ()), ((), ())))
 (.get (heldUnixV (readImageV a0).2.1 (readImageV a0).2.2.1 y1.2.1 y1.2.2.1 y1.2.2.2.1 y1.2.2.2.2.1 y1.2.2.2.2.2.1 y1.2.2.2.2.2.2.1 y1.2.2.2.2.2.2.2 (1 : Int)) fun y3 =>
 .ite (decide (y3 < (0 : Int)))
 (.ret (((false, ()), ()), ((), ())))
 (.ite ((y3 != y1.1))
 (.ret (((false, ()), ()), ((), ())))
 (.ret (((true, ()), ()), ((), ()))))))
 (.ret (((false, ()), ()), ((), ()))))
 (.ret (((false, ()), ()), ((), ())))))))
 (.ret (((false, ()), ()), ((), ()))))
 (.ret (((false, ()), ()), ((), ()))))
def true1i (_ : Str) : Bool := true
def k4 : Con := { f := 4, lend := true, its := [⟨false, false, [.s]⟩], lay := [none], rs := [⟨false, false, [.b]⟩], F := fun x => .ret ((((true1i x.1.1), ()), ()), ((), ())) }
theorem f4_eq (x : itemsD k4.its) : bo [k10, k11, k7, k8, k9] (fun _ => none) Tryz.f4 k4 [.tmp 2] x = f4_tree x.1.1 := by kernel_rfl
theorem f4_ok (hr : ∀ x : (List UInt8 × Unit) × Unit, itemsWF k4.its x → (f4_tree x.1.1).eval = (k4.F x).eval) : k4.Ok Tryz.prog := con_fn [k10, k11, k7, k8, k9] ⟨k10_ok, k11_ok, k7_ok, k8_ok, k9_ok, trivial⟩ f4_eq fun x hw _ hy => (hr x hw).trans hy
theorem k4_ok : k4.Ok Tryz.prog := by
  refine f4_ok fun x hw => ?_
  obtain ⟨⟨a0, _⟩, _⟩ := x
  show (f4_tree a0).eval = some ((((true1i a0), ()), ()), ((), ()))
  unfold f4_tree
  by_cases q : ((List.length a0 : Nat) : Int) > 1048576
  · exact (eval_ite_t (decide_eq_true q)).trans rfl
  refine (eval_ite_f (decide_eq_false q)).trans ?_
  have hz := image_szc a0
  generalize readImageV a0 = v at hz
  obtain ⟨kd, nx, tk, pg, ps, os, pp, fl, rd, ou, ok⟩ := v
  obtain ⟨m, z, e6, e7⟩ := marks_told nx tk pg ps os pp fl rd ou hz
  have s2 : eqUnixV nx tk pg ps os pp fl rd ou nx tk pg ps os pp fl rd ou = true := decide_eq_true rfl
  have n1 : decide ((1 : Int) + ((m : Nat) : Int) < 0) = false := decide_eq_false (by omega)
  exact (eval_ite_t (by simp)).trans ((eval_ite_t (by rw [s2]; rfl)).trans ((eval_ite_f (by simp)).trans ((eval_get_some e6).trans ((eval_get_some e7).trans ((eval_ite_f n1).trans ((eval_ite_f (by simp)).trans ((eval_ite_t (by simp)).trans ((eval_ite_t (by rw [s2]; rfl)).trans ((eval_ite_f (by simp)).trans ((eval_get_some e7).trans ((eval_ite_f n1).trans ((eval_ite_f (by simp)).trans rfl))))))))))))
theorem f4_own : ownKnob Tryz.prog.godebug = none := by kernel_rfl
set_option maxRecDepth 100000 in
theorem f4_contract (H : Type) (enc : TypeId × Value → H) (W : World) (base : Nat) (args : Array Value) (ds gs : List (DataW H)) (before : List MemPlace)
    (hval : ∀ (j : Nat) t v, Tryz.f4.params[j]? = some t → args[j]? = some v → Value.okWide Tryz.prog W .any base t v)
    (hW : DataW.Whole enc Tryz.prog Tryz.f4.params.toList Rows.fnExactReadImageSpec.vars false W args.toList ds gs before) :
    Calls Tryz.prog 4 args W fun e W' => ∃ v, e = .returned v ∧ Rows.fnExactReadImageSpec.post enc Tryz.prog Tryz.f4 false true false false W args v W' := by
  have hW' := hW
  obtain ⟨p, q, hA0, hV, rfl, _, _⟩ := hW
  have hA : DataW.TrodAll enc Tryz.prog W 0 (fun _ => true) true [9] args.toList ds p := hA0
  have hlt := hW'.lt
  obtain ⟨rfl, rfl⟩ := trodVars_none hV
  simp only [List.append_nil] at hW' hlt
  have hlen : ds.length = 1 := (trodAll_length hA).2
  obtain ⟨d0, e0⟩ := List.length_eq_one_iff.1 hlen
  subst e0
  have hu : Tryz.prog.underlying 4 = some .bool := by kernel_rfl
  refine (law_calls (ts := [.str]) (tids := [9]) (f := 4) (lend := k4.lend) (F := k4.F) k4_ok (parsB_ok (by kernel_rfl)) (fun x hw => ?_) (b0 := base) (fun j t v ht hv => hval j t v ?_ hv) hA).mono fun e W' ⟨he, hg, hs⟩ => ?_
  · exact ⟨_, rfl⟩
  · rw [← ht, Tryz.params4]; first | rfl | simp
  · subst he
    exact ⟨_, rfl, post_of_kept (pa := p) (pv := []) hW' (fun _ _ _ => trodAll_mk1 (shut_bool hu true)) (fun sp hsp => trodAll_stays (by kernel_rfl) hs (by kernel_rfl) hA hlt hsp) (fun _ _ => rfl) (by simp) hg (ok_one (by kernel_rfl) rfl (okWide_bool_mk hu true))⟩
set_option maxRecDepth 100000 in
theorem f4_lifted (os : Os) (started : os.Started) (H : Type) (enc : TypeId × Value → H) :
    ReturnsInHanded {} Tryz.checked os 4 .any (Rows.fnExactReadImageSpec.pre6 enc Tryz.prog Tryz.f4 Rows.fnExactReadImageRow.domain false) (Rows.fnExactReadImageSpec.post enc Tryz.prog Tryz.f4 false true false false) := by
  refine returnsInHanded_of_change (C := Tryz.checked) f4_own started (by kernel_rfl) Tryz.func4
    (ChangeSpec.witness6 (enc := enc) (C := Tryz.checked) false ⟨#[], #[.string ⟨#[]⟩], []⟩ 8 (by kernel_rfl) (by kernel_rfl) (by kernel_rfl) (by kernel_rfl)) ?_
  intro W base args ds gs before hval hW _ _
  exact f4_contract H enc W base args ds gs before hval hW
theorem f4_closed : joinedFacts Tryz.prog 4 Tryz.f4 Rows.fnExactReadImageSpec Rows.fnExactReadImageRow = true := by
  unfold joinedFacts
  rw [mayEnter_ok, lifts_ok, make_ok]
  kernel_rfl
theorem f4_said : Rows.FnExactReadImageSaid :=
  OpenClaim.holds_of_wide 4 Tryz.f4 rfl rfl rfl rfl rfl rfl rfl ⟨rfl, rfl, rfl, rfl, rfl⟩ rfl rfl rfl rfl rfl (by kernel_rfl) Tryz.func4 f4_closed
    (of_decide_eq_true (by kernel_rfl)) (by unfold Func.isWrapper; first | (rw [if_pos (by decide +kernel)]; kernel_rfl) | (rw [if_neg (by decide +kernel)]; exact ⟨rfl, rfl⟩))
    (fun os started H enc _ => f4_lifted os started H enc)
end Go.Proofs.YtcpjdjgipmjhdaaGreat.Dm
namespace Go.Proofs.YtcpjdjgipmjhdaaGreat
theorem fnExactReadImage_said : Rows.FnExactReadImageSaid := Dm.f4_said
end Go.Proofs.YtcpjdjgipmjhdaaGreat
namespace Go.Proofs.YtcpjdjgipmjhdaaGreat.Dm
end Go.Proofs.YtcpjdjgipmjhdaaGreat.Dm
