/- Functions of the program, and what they compute. -/
import Derived.Test.YtjcinikojcfebaaA10
import Derived.Test.YtjcinikojcfebaaFacts
import Derived.Test.YtjcinikojcfebaaRows
import Derived.ChangeCalls
namespace Go.Proofs.Ytjcinikojcfebaa.Dm
open Go Go.ChangeShapes Go.WideShapes Go.ChangeAt Go.RowKit

def f9_tree (a0 : List (Int × List Int × Unit)) : Out (((Bool × Unit) × Unit) × (Unit × Unit)) :=
 .ite (decide ((szFilesV a0 (1048576 : Int)) < (0 : Int)))
 (.ret (((true, ()), ()), ((), ())))
 (.get (toFilesV a0) fun y1 =>
 .get (toFilesV a0) fun y2 =>
 .ite (!(eqStrsV (fileBlocksV y2) (fileBlocksV y1)))
 (.ret (((false, ()), ()), ((), ())))
 (.get (toFilesV a0) fun y3 =>
 .ite (!(eqFilesV y2 y3))
 (.ret (((false, ()), ()), ((), ())))
 (.ite ((decide ((markFileSV y2 (1 : Int)).1 < (0 : Int))) == false)
 (.ite (!(eqStrsV (fileBlocksV y2) (fileBlocksV y1)))
 (.ret (((false, ()), ()), ((), ())))
 (.ite (decide ((heldStringSV (markStringSV (fileBlocksV y2) (1 : Int)).2 (1 : Int)) < (0 : Int)))
 (.ret (((false, ()), ()), ((), ())))
 (.ite (((heldStringSV (markStringSV (fileBlocksV y2) (1 : Int)).2 (1 : Int)) != (markStringSV (fileBlocksV y2) (1 : Int)).1))
 (.ret (((false, ()), ()), ((), ())))
 (.get (toFilesV a0) fun y4 =>
 .ite (!(eqStrsV (fileBlocksV y4) (fileBlocksV y1)))
 (.ret (((false, ()), ()), ((), ())))
 (.ite (decide ((heldStringSV (markStringSV (fileBlocksV y2) (1 : Int)).2 (1 : Int)) < (0 : Int)))
 (.ret (((false, ()), ()), ((), ())))
 (.ite (((heldStringSV (markStringSV (fileBlocksV y2) (1 : Int)).2 (1 : Int)) != (markStringSV (fileBlocksV y2) (1 : Int)).1))
 (.ret (((false, ()), ()), ((), ())))
 (.ret (((true, ()), ()), ((), ())))))))))
 (.ret (((false, ()), ()), ((), ()))))))
def true1f (_ : List FileD) : Bool := true
def k9 : Con := { f := 9, lend := true, its := [⟨false, false, [.ro (.st (.cons (.int .i64) (.cons (.sl (.int .i64)) .nil)))]⟩], lay := [none], rs := [⟨false, false, [.b]⟩], F := fun x => .ret ((((true1f x.1.1), ()), ()), ((), ())) }
theorem f9_eq (x : itemsD k9.its) : bodyOut (cxOf [k55, k57, k56, k58, k59, k60, k61, k62, k63]) (fun _ => none) (codeOf Try.f9) k9.its k9.lay Try.f9.ntmps k9.rs [.tmp 2] x = f9_tree x.1.1 := by kernel_rfl
theorem f9_ok (hr : ∀ x : (List (Int × List Int × Unit) × Unit) × Unit, itemsWF k9.its x → (f9_tree x.1.1).eval = (k9.F x).eval) : k9.Ok Try.prog :=
  con_fn [k55, k57, k56, k58, k59, k60, k61, k62, k63] ⟨k55_ok, k57_ok, k56_ok, k58_ok, k59_ok, k60_ok, k61_ok, k62_ok, k63_ok, trivial⟩ (by kernel_rfl) (codeOf_eq (by kernel_rfl)) (by kernel_rfl) (by kernel_rfl) (by kernel_rfl) f9_eq fun x hw _ hy => (hr x hw).trans hy
theorem mem_big {α : Type} {p : α → Prop} {a : List α} (h : ∀ (i : Nat) (y : α), a[i]? = some y → p y) : ∀ x ∈ a, p x := fun x hx => by
  obtain ⟨i, hi⟩ := List.getElem?_of_mem hx
  exact h i x hi
theorem k9_ok : k9.Ok Try.prog := by
  refine f9_ok fun x hw => ?_
  obtain ⟨⟨a, _⟩, _⟩ := x
  have ha : a.length ≤ BIG := hw.1.1.1
  have ha' : ∀ x ∈ a, x.2.1.length ≤ BIG := mem_big fun i y hy => (hw.1.1.2 i y hy).2.1.1
  show (f9_tree a).eval = some (((true, ()), ()), ((), ()))
  unfold f9_tree
  by_cases h1 : szFilesV a 1048576 < 0
  · rw [eval_ite_t (decide_eq_true h1)]; rfl
  rw [eval_ite_f (decide_eq_false h1)]
  have s1 := szFilesV_eq ha ha' (by omega) (by omega) h1
  have t1 : toFilesV a = some a := if_pos (limF_of (by omega))
  have m1 : ¬ (markFileSV a 1).1 < 0 := by rw [markFileSV_up]; exact up_nonneg (by unfold BIG; omega)
  have e1 : eqFilesV a a = true := decide_eq_true rfl
  have e2 : ∀ l : List Str, eqStrsV l l = true := fun l => decide_eq_true rfl
  have hl : (fileBlocksV a).length ≤ 6 := by
    by_cases h : filesOkV a = true
    · exact Nat.le_of_eq (fileBlocksV_len h)
    · rw [fileBlocksV_not h]; simp
  have m2 : heldStringSV (markStringSV (fileBlocksV a) 1).2 1 = (markStringSV (fileBlocksV a) 1).1 := by unfold heldStringSV markStringSV; simp
  have m3 : ¬ (markStringSV (fileBlocksV a) 1).1 < 0 := up_nonneg (n := (fileBlocksV a).length) (by unfold BIG; omega)
  simp [Out.eval, t1, e1, e2, m1, m2, m3]

theorem f9_own : ownKnob Try.prog.godebug = none := by kernel_rfl
set_option maxRecDepth 100000 in
theorem f9_contract (H : Type) (enc : TypeId × Value → H) (W : World) (base : Nat) (args : Array Value) (ds gs : List (DataW H)) (before : List MemPlace)
    (hval : ∀ (j : Nat) t v, Try.f9.params[j]? = some t → args[j]? = some v → Value.okWide Try.prog W .any base t v)
    (hW : DataW.Whole enc Try.prog Try.f9.params.toList Rows.fnExactFileBlocksSpec.vars false W args.toList ds gs before) :
    Calls Try.prog 9 args W fun e W' => ∃ v, e = .returned v ∧ Rows.fnExactFileBlocksSpec.post enc Try.prog Try.f9 false true false false W args v W' := by
  have hW' := hW
  obtain ⟨p, q, hA0, hV, rfl, _, _⟩ := hW
  have hA : DataW.TrodAll enc Try.prog W 0 (fun _ => true) true [74] args.toList ds p := hA0
  have hlt := hW'.lt
  obtain ⟨rfl, rfl⟩ := trodVars_none hV
  simp only [List.append_nil] at hW' hlt
  have hlen : ds.length = 1 := (trodAll_length hA).2
  obtain ⟨d0, e0⟩ := List.length_eq_one_iff.1 hlen
  subst e0
  have hu : Try.prog.underlying 4 = some .bool := by kernel_rfl
  refine (law_calls (ts := [(.sl (.st (.cons (.int .i64) (.cons (.sl (.int .i64)) .nil))))]) (tids := [74]) (f := 9) (lend := k9.lend) (F := k9.F) k9_ok (parsB_ok (by kernel_rfl)) (fun x hw => ?_) (b0 := base) (fun j t v ht hv => hval j t v ?_ hv) hA).mono fun e W' ⟨he, hg, hs⟩ => ?_
  · exact ⟨_, rfl⟩
  · rw [← ht, Try.params9]; first | rfl | simp
  · subst he
    exact ⟨_, rfl, post_of_same (pa := p) (pv := []) hW' (fun _ _ _ => trodAll_mk1 (shut_bool hu true)) (fun sp hsp => trodAll_stays (by kernel_rfl) hs (by kernel_rfl) hA hlt hsp) (fun _ _ => rfl) (by simp) (hg.frame _) hg.2.1 (ok_one (by kernel_rfl) rfl (okWide_bool_mk hu true))⟩
set_option maxRecDepth 100000 in
theorem f9_lifted (os : Os) (started : os.Started) (H : Type) (enc : TypeId × Value → H) :
    ReturnsInHanded {} Try.checked os 9 .any (Rows.fnExactFileBlocksSpec.pre6 enc Try.prog Try.f9 Rows.fnExactFileBlocksRow.domain false) (Rows.fnExactFileBlocksSpec.post enc Try.prog Try.f9 false true false false) := by
  refine returnsInHanded_of_change (C := Try.checked) f9_own started (by kernel_rfl) Try.func9
    (ChangeSpec.witness6 (enc := enc) (C := Try.checked) false ⟨#[], #[.slice none 0 0], []⟩ 8 (by kernel_rfl) (by kernel_rfl) (by kernel_rfl) (by kernel_rfl)) ?_
  intro W base args ds gs before hval hW _ _
  exact f9_contract H enc W base args ds gs before hval hW
theorem f9_closed : joinedFacts Try.prog 9 Try.f9 Rows.fnExactFileBlocksSpec Rows.fnExactFileBlocksRow = true := by
  unfold joinedFacts
  rw [mayEnter_ok, lifts_ok, make_ok]
  kernel_rfl
theorem f9_said : Rows.FnExactFileBlocksSaid :=
  OpenClaim.holds_of_wide 9 Try.f9 rfl rfl rfl rfl rfl rfl rfl ⟨rfl, rfl, rfl, rfl, rfl⟩ rfl rfl rfl rfl rfl (by kernel_rfl) Try.func9 f9_closed
    (of_decide_eq_true (by kernel_rfl)) (by unfold Func.isWrapper; first | (rw [if_pos (by decide +kernel)]; kernel_rfl) | (rw [if_neg (by decide +kernel)]; exact ⟨rfl, rfl⟩))
    (fun os started H enc _ => f9_lifted os started H enc)
end Go.Proofs.Ytjcinikojcfebaa.Dm
namespace Go.Proofs.Ytjcinikojcfebaa
theorem fnExactFileBlocks_said : Rows.FnExactFileBlocksSaid := Dm.f9_said
end Go.Proofs.Ytjcinikojcfebaa
namespace Go.Proofs.Ytjcinikojcfebaa.Dm


end Go.Proofs.Ytjcinikojcfebaa.Dm
