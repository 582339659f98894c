/- Functions of the program, and what they compute. -/
import Derived.Test.YtnnpnkegpkladaaGreatL13
import Derived.Test.YtnnpnkegpkladaaGreatL9
import Derived.Test.YtnnpnkegpkladaaGreatFacts
import Derived.Test.YtnnpnkegpkladaaGreatRows
import Derived.ChangeCalls
namespace Go.Proofs.YtnnpnkegpkladaaGreat.Dm
open Go Go.ChangeShapes Go.WideShapes Go.ChangeAt Go.RowKit
def f3_tree (a0 : List Int) : Out (((Bool × Unit) × Unit) × (Unit × Unit)) :=
 .ite (bigV a0)
 (.ret (((true, ()), ()), ((), ())))
 (.get (k6_V a0) fun y1 =>
 .get (k7_V y1.1.1.1) fun y2 =>
 .get (k8_V y1.1.1.1) fun y3 =>
 .ite (!(y2.1.2.1.1 == y3.1.2.1.1))
 (.ret (((false, ()), ()), ((), ())))
 (.get (k9_V y1.1.1.1 (1 : Int)) fun y4 =>
 .get (k9_V y1.1.1.1 (2 : Int)) fun y5 =>
 .ite (!y2.1.2.1.1)
 (.ite (((y2.1.1.1 == (0 : Int))) == true)
 (.ite ((!y4.1.2.1.1) == true)
 (.ret ((((!y5.1.2.1.1), ()), ()), ((), ())))
 (.ret (((false, ()), ()), ((), ()))))
 (.ret (((false, ()), ()), ((), ()))))
 (.ite (y4.1.2.1.1 == true)
 (.ite (y5.1.2.1.1 == true)
 (.get (k10_V y2.1.1.1 y2.1.1.2.1 y2.1.1.2.2.1 y2.1.1.2.2.2.1 y2.1.1.2.2.2.2.1 y2.1.1.2.2.2.2.2.1 y2.1.1.2.2.2.2.2.2.1 y2.1.1.2.2.2.2.2.2.2.1 y2.1.1.2.2.2.2.2.2.2.2.1) fun y6 =>
 .ite (y6.1.1.1 == true)
 (.ite (((((List.length y2.1.1.2.2.2.1 : Nat) : Int) == (1 : Int))) == true)
 (.ite (((((List.length y2.1.1.2.2.2.2.2.2.2.2.1 : Nat) : Int) == (0 : Int))) == true)
 (.get (k12_V y4.1.1.1 y4.1.1.2.1 y4.1.1.2.2.1 y4.1.1.2.2.2.1 y4.1.1.2.2.2.2.1 y4.1.1.2.2.2.2.2.1 y4.1.1.2.2.2.2.2.2.1 y4.1.1.2.2.2.2.2.2.2.1 y4.1.1.2.2.2.2.2.2.2.2.1 y4.1.1.2.2.2.2.2.2.2.2.2.1 y4.1.1.2.2.2.2.2.2.2.2.2.2.1 y4.1.1.2.2.2.2.2.2.2.2.2.2.2.1 y4.1.1.2.2.2.2.2.2.2.2.2.2.2.2.1 y4.1.1.2.2.2.2.2.2.2.2.2.2.2.2.2.1 y4.1.1.2.2.2.2.2.2.2.2.2.2.2.2.2.2.1 y4.1.1.2.2.2.2.2.2.2.2.2.2.2.2.2.2.2.1 y4.1.1.2.2.2.2.2.2.2.2.2.2.2.2.2.2.2.2.1 y4.1.1.2.2.2.2.2.2.2.2.2.2.2.2.2.2.2.2.2.1 y4.1.1.2.2.2.2.2.2.2.2.2.2.2.2.2.2.2.2.2.2.1 y4.1.1.2.2.2.2.2.2.2.2.2.2.2.2.2.2.2.2.2.2.2.1 y4.1.1.2.2.2.2.2.2.2.2.2.2.2.2.2.2.2.2.2.2.2.2.1 y4.1.1.2.2.2.2.2.2.2.2.2.2.2.2.2.2.2.2.2.2.2.2.2.1 y4.1.1.2.2.2.2.2.2.2.2.2.2.2.2.2.2.2.2.2.2.2.2.2.2.1 y4.1.1.2.2.2.2.2.2.2.2.2.2.2.2.2.2.2.2.2.2.2.2.2.2.2.1 y4.1.1.2.2.2.2.2.2.2.2.2.2.2.2.2.2.2.2.2.2.2.2.2.2.2.2.1 y4.1.1.2.2.2.2.2.2.2.2.2.2.2.2.2.2.2.2.2.2.2.2.2.2.2.2.2.1) fun y7 =>
 .get (k11_V y7.1.1.1 y7.1.1.2.1 y7.1.1.2.2.1 y7.1.1.2.2.2.1 y7.1.1.2.2.2.2.1 y7.1.1.2.2.2.2.2.1 y7.1.1.2.2.2.2.2.2.1 y7.1.1.2.2.2.2.2.2.2.1 y7.1.1.2.2.2.2.2.2.2.2.1 y2.1.1.1 y2.1.1.2.1 y2.1.1.2.2.1 y2.1.1.2.2.2.1 y2.1.1.2.2.2.2.1 y2.1.1.2.2.2.2.2.1 y2.1.1.2.2.2.2.2.2.1 y2.1.1.2.2.2.2.2.2.2.1 y2.1.1.2.2.2.2.2.2.2.2.1) fun y8 =>
 .ite (y8.1.1.1 == true)
 (.get (k12_V y5.1.1.1 y5.1.1.2.1 y5.1.1.2.2.1 y5.1.1.2.2.2.1 y5.1.1.2.2.2.2.1 y5.1.1.2.2.2.2.2.1 y5.1.1.2.2.2.2.2.2.1 y5.1.1.2.2.2.2.2.2.2.1 y5.1.1.2.2.2.2.2.2.2.2.1 y5.1.1.2.2.2.2.2.2.2.2.2.1 y5.1.1.2.2.2.2.2.2.2.2.2.2.1 y5.1.1.2.2.2.2.2.2.2.2.2.2.2.1 y5.1.1.2.2.2.2.2.2.2.2.2.2.2.2.1 y5.1.1.2.2.2.2.2.2.2.2.2.2.2.2.2.1 y5.1.1.2.2.2.2.2.2.2.2.2.2.2.2.2.2.1 y5.1.1.2.2.2.2.2.2.2.2.2.2.2.2.2.2.2.1 y5.1.1.2.2.2.2.2.2.2.2.2.2.2.2.2.2.2.2.1 y5.1.1.2.2.2.2.2.2.2.2.2.2.2.2.2.2.2.2.2.1 y5.1.1.2.2.2.2.2.2.2.2.2.2.2.2.2.2.2.2.2.2.1 y5.1.1.2.2.2.2.2.2.2.2.2.2.2.2.2.2.2.2.2.2.2.1 y5.1.1.2.2.2.2.2.2.2.2.2.2.2.2.2.2.2.2.2.2.2.2.1 y5.1.1.2.2.2.2.2.2.2.2.2.2.2.2.2.2.2.2.2.2.2.2.2.1 y5.1.1.2.2.2.2.2.2.2.2.2.2.2.2.2.2.2.2.2.2.2.2.2.2.1 y5.1.1.2.2.2.2.2.2.2.2.2.2.2.2.2.2.2.2.2.2.2.2.2.2.2.1 y5.1.1.2.2.2.2.2.2.2.2.2.2.2.2.2.2.2.2.2.2.2.2.2.2.2.2.1 y5.1.1.2.2.2.2.2.2.2.2.2.2.2.2.2.2.2.2.2.2.2.2.2.2.2.2.2.1) fun y9 =>
 .get (k11_V y9.1.1.1 y9.1.1.2.1 y9.1.1.2.2.1 y9.1.1.2.2.2.1 y9.1.1.2.2.2.2.1 y9.1.1.2.2.2.2.2.1 y9.1.1.2.2.2.2.2.2.1 y9.1.1.2.2.2.2.2.2.2.1 y9.1.1.2.2.2.2.2.2.2.2.1 y2.1.1.1 y2.1.1.2.1 y2.1.1.2.2.1 y2.1.1.2.2.2.1 y2.1.1.2.2.2.2.1 y2.1.1.2.2.2.2.2.1 y2.1.1.2.2.2.2.2.2.1 y2.1.1.2.2.2.2.2.2.2.1 y2.1.1.2.2.2.2.2.2.2.2.1) fun y10 =>
 .ret (((y10.1.1.1, ()), ()), ((), ())))
 (.ret (((false, ()), ()), ((), ()))))
 (.ret (((false, ()), ()), ((), ()))))
 (.ret (((false, ()), ()), ((), ()))))
 (.ret (((false, ()), ()), ((), ()))))
 (.ret (((false, ()), ()), ((), ()))))
 (.ret (((false, ()), ()), ((), ()))))))
def trueFB (_ : List Int) : Bool := true
def k3 : Con := { f := 3, lend := true, its := [⟨false, false, [.ro (.int .u8)]⟩], lay := [none], rs := [⟨false, false, [.b]⟩], F := fun x => .ret ((((trueFB x.1.1), ()), ()), ((), ())) }
theorem f3_eq (x : itemsD k3.its) : bo [k5, k6, k7, k8, k9, k10, k12, k11] (fun _ => none) Tryz.f3 k3 [.tmp 2] x = f3_tree x.1.1 := by kernel_rfl
theorem f3_ok (hr : ∀ x : (List Int × Unit) × Unit, itemsWF k3.its x → (f3_tree x.1.1).eval = (k3.F x).eval) : k3.Ok Tryz.prog := con_fn [k5, k6, k7, k8, k9, k10, k12, k11] ⟨k5_ok, k6_ok, k7_ok, k8_ok, k9_ok, k10_ok, k12_ok, k11_ok, trivial⟩ f3_eq fun x hw _ hy => (hr x hw).trans hy
theorem k3_ok : k3.Ok Tryz.prog := by
  refine f3_ok fun x hw => ?_
  obtain ⟨⟨c, _⟩, _⟩ := x
  have hc : c.length ≤ BIG := hw.1.1.1
  show (f3_tree c).eval = some (((true, ()), ()), ((), ()))
  unfold f3_tree
  by_cases hb : bigV c = true
  · rw [eval_ite_t hb]; rfl
  rw [eval_ite_f (by simpa using hb)]
  obtain ⟨y1, d1, _⟩ := drawBoot_tot hc
  refine (eval_get_some d1).trans ?_
  generalize y1.1.1.1 = p
  cases h : progsOkV p with
  | false =>
    refine (eval_get_some (boot_bad h)).trans ((eval_get_some (boot_bad2 h)).trans ((eval_ite_f (by rfl)).trans ((eval_get_some (live_bad 1 h)).trans ((eval_get_some (live_bad 2 h)).trans ?_))))
    exact (eval_ite_t (by rfl)).trans ((eval_ite_t (by rfl)).trans ((eval_ite_t (by rfl)).trans rfl))
  | true =>
    refine (eval_get_some (booted h)).trans ((eval_get_some (booted2 h)).trans ((eval_ite_f (by rfl)).trans ((eval_get_some (live_one h)).trans ((eval_get_some (live_two h)).trans ?_))))
    refine (eval_ite_f (by rfl)).trans ((eval_ite_t (by rfl)).trans ((eval_ite_t (by rfl)).trans ((eval_get_some (sound h)).trans ((eval_ite_t (by rfl)).trans ((eval_ite_t (by rfl)).trans ((eval_ite_t (by rfl)).trans ?_))))))
    refine (eval_get_some (abs1 h)).trans ((eval_get_some (same_unix h)).trans ((eval_ite_t (by rfl)).trans ((eval_get_some (abs2 h)).trans ((eval_get_some (same_unix h)).trans rfl))))
theorem f3_own : ownKnob Tryz.prog.godebug = none := by kernel_rfl
set_option maxRecDepth 100000 in
theorem f3_contract (H : Type) (enc : TypeId × Value → H) (W : World) (base : Nat) (args : Array Value) (ds gs : List (DataW H)) (before : List MemPlace)
    (hval : ∀ (j : Nat) t v, Tryz.f3.params[j]? = some t → args[j]? = some v → Value.okWide Tryz.prog W .any base t v)
    (hW : DataW.Whole enc Tryz.prog Tryz.f3.params.toList Rows.fnBootSpec.vars false W args.toList ds gs before) :
    Calls Tryz.prog 3 args W fun e W' => ∃ v, e = .returned v ∧ Rows.fnBootSpec.post enc Tryz.prog Tryz.f3 false true false false W args v W' := by
  have hW' := hW
  obtain ⟨p, q, hA0, hV, rfl, _, _⟩ := hW
  have hA : DataW.TrodAll enc Tryz.prog W 0 (fun _ => true) true [22] args.toList ds p := hA0
  have hlt := hW'.lt
  obtain ⟨rfl, rfl⟩ := trodVars_none hV
  simp only [List.append_nil] at hW' hlt
  have hlen : ds.length = 1 := (trodAll_length hA).2
  obtain ⟨d0, e0⟩ := List.length_eq_one_iff.1 hlen
  subst e0
  have hu : Tryz.prog.underlying 4 = some .bool := by kernel_rfl
  refine (law_calls (ts := [(.sl (.int .u8))]) (tids := [22]) (f := 3) (lend := k3.lend) (F := k3.F) k3_ok (parsB_ok (by kernel_rfl)) (fun x hw => ?_) (b0 := base) (fun j t v ht hv => hval j t v ?_ hv) hA).mono fun e W' ⟨he, hg, hs⟩ => ?_
  · exact ⟨_, rfl⟩
  · rw [← ht, Tryz.params3]; first | rfl | simp
  · subst he
    exact ⟨_, rfl, post_of_kept (pa := p) (pv := []) hW' (fun _ _ _ => trodAll_mk1 (shut_bool hu true)) (fun sp hsp => trodAll_stays (by kernel_rfl) hs (by kernel_rfl) hA hlt hsp) (fun _ _ => rfl) (by simp) hg (ok_one (by kernel_rfl) rfl (okWide_bool_mk hu true))⟩
set_option maxRecDepth 100000 in
theorem f3_lifted (os : Os) (started : os.Started) (H : Type) (enc : TypeId × Value → H) :
    ReturnsInHanded {} Tryz.checked os 3 .any (Rows.fnBootSpec.pre6 enc Tryz.prog Tryz.f3 Rows.fnBootRow.domain false) (Rows.fnBootSpec.post enc Tryz.prog Tryz.f3 false true false false) := by
  refine returnsInHanded_of_change (C := Tryz.checked) f3_own started (by kernel_rfl) Tryz.func3
    (ChangeSpec.witness6 (enc := enc) (C := Tryz.checked) false ⟨#[], #[.slice none 0 0], []⟩ 8 (by kernel_rfl) (by kernel_rfl) (by kernel_rfl) (by kernel_rfl)) ?_
  intro W base args ds gs before hval hW _ _
  exact f3_contract H enc W base args ds gs before hval hW
theorem f3_closed : joinedFacts Tryz.prog 3 Tryz.f3 Rows.fnBootSpec Rows.fnBootRow = true := by
  unfold joinedFacts
  rw [mayEnter_ok, lifts_ok, make_ok]
  kernel_rfl
theorem f3_said : Rows.FnBootSaid :=
  OpenClaim.holds_of_wide 3 Tryz.f3 rfl rfl rfl rfl rfl rfl rfl ⟨rfl, rfl, rfl, rfl, rfl⟩ rfl rfl rfl rfl rfl (by kernel_rfl) Tryz.func3 f3_closed
    (of_decide_eq_true (by kernel_rfl)) (by unfold Func.isWrapper; first | (rw [if_pos (by decide +kernel)]; kernel_rfl) | (rw [if_neg (by decide +kernel)]; exact ⟨rfl, rfl⟩))
    (fun os started H enc _ => f3_lifted os started H enc)
end Go.Proofs.YtnnpnkegpkladaaGreat.Dm
namespace Go.Proofs.YtnnpnkegpkladaaGreat
theorem fnBoot_said : Rows.FnBootSaid := Dm.f3_said
end Go.Proofs.YtnnpnkegpkladaaGreat
namespace Go.Proofs.YtnnpnkegpkladaaGreat.Dm
end Go.Proofs.YtnnpnkegpkladaaGreat.Dm
