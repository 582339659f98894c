/- Functions of the program, and what they compute. -/
import Derived.Test.YtjcinikojcfebaaA1
import Derived.Test.YtjcinikojcfebaaFacts
import Derived.Test.YtjcinikojcfebaaRows
import Derived.ChangeCalls
namespace Go.Proofs.Ytjcinikojcfebaa.Dm
open Go Go.ChangeShapes Go.WideShapes Go.ChangeAt Go.RowKit

def f3_tree  : Out ((((Bool) × Unit) × Unit) × (Unit)) :=
 Out.ite ((!(eqDiskV newDiskV.1 newDiskV.2 newDiskV.1 newDiskV.2)))
 (Out.ret (((false, ()), ()), ()))
 (Out.ite ((decide ((heldDiskV (markDiskV newDiskV.1 newDiskV.2 (1 : Int)).2.1 (markDiskV newDiskV.1 newDiskV.2 (1 : Int)).2.2 (1 : Int)) < (0 : Int))))
 (Out.ret (((false, ()), ()), ()))
 (Out.ite ((((heldDiskV (markDiskV newDiskV.1 newDiskV.2 (1 : Int)).2.1 (markDiskV newDiskV.1 newDiskV.2 (1 : Int)).2.2 (1 : Int)) != (markDiskV newDiskV.1 newDiskV.2 (1 : Int)).1)))
 (Out.ret (((false, ()), ()), ()))
 (Out.ite ((!(eqDiskV newDiskV.1 newDiskV.2 newDiskV.1 newDiskV.2)))
 (Out.ret (((false, ()), ()), ()))
 (Out.ite ((decide ((heldDiskV (markDiskV newDiskV.1 newDiskV.2 (1 : Int)).2.1 (markDiskV newDiskV.1 newDiskV.2 (1 : Int)).2.2 (1 : Int)) < (0 : Int))))
 (Out.ret (((false, ()), ()), ()))
 (Out.ite ((((heldDiskV (markDiskV newDiskV.1 newDiskV.2 (1 : Int)).2.1 (markDiskV newDiskV.1 newDiskV.2 (1 : Int)).2.2 (1 : Int)) != (markDiskV newDiskV.1 newDiskV.2 (1 : Int)).1)))
 (Out.ret (((false, ()), ()), ()))
 (Out.ret (((true, ()), ()), ())))))))
def f3_A : Nat → Option LoopAnn := fun _ => none
def f3_cx : Cx := cxOf [k26, k27, k28, k29, k30]
theorem f3_eq (x : Unit) : bodyOut f3_cx f3_A (codeOf Try.f3) [] [] 36 [⟨false, false, [.b]⟩] [.tmp 0] x = f3_tree  := by kernel_rfl
def k3 : Con := { f := 3, lend := true, its := [], lay := [], rs := [⟨false, false, [.b]⟩], F := fun x => .ret ((((true), ()), ()), ()) }
theorem f3_ok (h0 : k26.Ok Try.prog) (h1 : k27.Ok Try.prog) (h2 : k28.Ok Try.prog) (h3 : k29.Ok Try.prog) (h4 : k30.Ok Try.prog) (hr : ∀ x : Unit, itemsWF k3.its x → (f3_tree ).eval = (k3.F x).eval) : k3.Ok Try.prog := by
  refine con_ok (A := f3_A) (code := codeOf Try.f3) (fn := Try.f3) (rtm := [.tmp 0]) [k26, k27, k28, k29, k30] ?_ ?_
  · intro K hK
    simp only [List.mem_cons, List.not_mem_nil, or_false] at hK
    rcases hK with rfl | rfl | rfl | rfl | rfl
    · exact h0
    · exact h1
    · exact h2
    · exact h3
    · exact h4
  · exact ⟨by kernel_rfl, codeOf_eq (by kernel_rfl), by kernel_rfl, by kernel_rfl, by decide, by decide, by decide, fun x y hw hy => (congrArg Out.eval (f3_eq x)).trans ((hr x hw).trans hy)⟩
theorem k3_ok : k3.Ok Try.prog := by
  refine f3_ok k26_ok k27_ok k28_ok k29_ok k30_ok fun x _ => ?_
  show f3_tree.eval = some (((true, ()), ()), ())
  have h := held_markDisk (a := newDiskV.1) (b := newDiskV.2) (by decide)
  have h0 : ¬ ((markDiskV newDiskV.1 newDiskV.2 1).1 < 0) := by omega
  have h1 : eqDiskV newDiskV.1 newDiskV.2 newDiskV.1 newDiskV.2 = true := by simp [eqDiskV]
  unfold f3_tree
  simp [Out.eval, h.1, h0, h1]

theorem f3_own : ownKnob Try.prog.godebug = none := by kernel_rfl
set_option maxRecDepth 100000 in
theorem f3_contract (H : Type) (enc : TypeId × Value → H) (W : World) (base : Nat) (args : Array Value) (ds gs : List (DataW H)) (before : List MemPlace)
    (hval : ∀ (j : Nat) t v, Try.f3.params[j]? = some t → args[j]? = some v → Value.okWide Try.prog W .any base t v)
    (hW : DataW.Whole enc Try.prog Try.f3.params.toList Rows.fnExactNewDiskSpec.vars false W args.toList ds gs before) :
    Calls Try.prog 3 args W fun e W' => ∃ v, e = .returned v ∧ Rows.fnExactNewDiskSpec.post enc Try.prog Try.f3 false true false false W args v W' := by
  have hW' := hW
  obtain ⟨p, q, hA0, hV, rfl, _, _⟩ := hW
  have hA : DataW.TrodAll enc Try.prog W 0 (fun _ => true) true [] args.toList ds p := hA0
  have hlt := hW'.lt
  obtain ⟨rfl, rfl⟩ := trodVars_none hV
  simp only [List.append_nil] at hW' hlt
  have hlen : ds.length = 0 := (trodAll_length hA).2
  have e0 : ds = [] := List.eq_nil_of_length_eq_zero hlen
  subst e0
  have hu : Try.prog.underlying 4 = some .bool := by kernel_rfl
  refine (law_calls (ts := []) (tids := []) (f := 3) (lend := k3.lend) (F := k3.F) k3_ok (parsB_ok (by kernel_rfl)) (fun x hw => ?_) (b0 := base) (fun j t v ht hv => hval j t v ?_ hv) hA).mono fun e W' ⟨he, hg, hs⟩ => ?_
  · exact ⟨_, rfl⟩
  · rw [← ht]; rfl
  · subst he
    exact ⟨_, rfl, post_of_same (pa := p) (pv := []) hW' (fun _ _ _ => trodAll_mk1 (shut_bool hu true)) (fun sp hsp => trodAll_stays (by kernel_rfl) hs (by kernel_rfl) hA hlt hsp) (fun _ _ => rfl) (by simp) (hg.frame _) hg.2.1 (ok_one (by kernel_rfl) rfl (okWide_bool_mk hu true))⟩
set_option maxRecDepth 100000 in
theorem f3_lifted (os : Os) (started : os.Started) (H : Type) (enc : TypeId × Value → H) :
    ReturnsInHanded {} Try.checked os 3 .any (Rows.fnExactNewDiskSpec.pre6 enc Try.prog Try.f3 Rows.fnExactNewDiskRow.domain false) (Rows.fnExactNewDiskSpec.post enc Try.prog Try.f3 false true false false) := by
  refine returnsInHanded_of_change (C := Try.checked) f3_own started (by kernel_rfl) Try.func3
    (ChangeSpec.witness6 (enc := enc) (C := Try.checked) false ⟨#[], #[], []⟩ 8 (by kernel_rfl) (by kernel_rfl) (by kernel_rfl) (by kernel_rfl)) ?_
  intro W base args ds gs before hval hW _ _
  exact f3_contract H enc W base args ds gs before hval hW
theorem f3_closed : joinedFacts Try.prog 3 Try.f3 Rows.fnExactNewDiskSpec Rows.fnExactNewDiskRow = true := by
  unfold joinedFacts
  rw [mayEnter_ok, lifts_ok, make_ok]
  kernel_rfl
theorem f3_said : Rows.FnExactNewDiskSaid :=
  OpenClaim.holds_of_wide 3 Try.f3 rfl rfl rfl rfl rfl rfl rfl ⟨rfl, rfl, rfl, rfl, rfl⟩ rfl rfl rfl rfl rfl (by kernel_rfl) Try.func3 f3_closed
    (of_decide_eq_true (by kernel_rfl)) (by unfold Func.isWrapper; first | (rw [if_pos (by decide +kernel)]; kernel_rfl) | (rw [if_neg (by decide +kernel)]; exact ⟨rfl, rfl⟩))
    (fun os started H enc _ => f3_lifted os started H enc)
end Go.Proofs.Ytjcinikojcfebaa.Dm
namespace Go.Proofs.Ytjcinikojcfebaa
theorem fnExactNewDisk_said : Rows.FnExactNewDiskSaid := Dm.f3_said
end Go.Proofs.Ytjcinikojcfebaa
namespace Go.Proofs.Ytjcinikojcfebaa.Dm

end Go.Proofs.Ytjcinikojcfebaa.Dm
