/- Functions of the program, and what they compute. -/
import Derived.Test.YtjcinikojcfebaaA16
import Derived.Test.YtjcinikojcfebaaFacts
import Derived.Test.YtjcinikojcfebaaRows
import Derived.ChangeCalls
namespace Go.Proofs.Ytjcinikojcfebaa.Dm
open Go Go.ChangeShapes Go.WideShapes Go.ChangeAt Go.RowKit

def f18_tree (a0 : List Int) : Out (((Bool × Unit) × Unit) × (Unit × Unit)) :=
 .ite (bigV a0)
 (.ret (((true, ()), ()), ((), ())))
 (.get (k93_V a0) fun y1 =>
 .ite ((!((readFilesV (fileBlocksV y1.1.1.1)).2 == (decide (((List.length (fileBlocksV y1.1.1.1) : Nat) : Int) > (0 : Int))))) == false)
 (.ite ((readFilesV (fileBlocksV y1.1.1.1)).2 == true)
 (.ite (!(eqFilesV (readFilesV (fileBlocksV y1.1.1.1)).1 y1.1.1.1))
 (.ret (((false, ()), ()), ((), ())))
 (.get (k95_V a0) fun y2 =>
 .ite (((readFilesV y2.1.1.1).2 == (readFilesV y2.1.1.1).2) == true)
 (.ite ((!(readFilesV y2.1.1.1).2) == false)
 (.ret ((((eqStrsV (fileBlocksV (readFilesV y2.1.1.1).1) y2.1.1.1), ()), ()), ((), ())))
 (.ret (((true, ()), ()), ((), ()))))
 (.ret (((false, ()), ()), ((), ())))))
 (.get (k95_V a0) fun y3 =>
 .ite (((readFilesV y3.1.1.1).2 == (readFilesV y3.1.1.1).2) == true)
 (.ite ((!(readFilesV y3.1.1.1).2) == false)
 (.ret ((((eqStrsV (fileBlocksV (readFilesV y3.1.1.1).1) y3.1.1.1), ()), ()), ((), ())))
 (.ret (((true, ()), ()), ((), ()))))
 (.ret (((false, ()), ()), ((), ())))))
 (.ret (((false, ()), ()), ((), ()))))
def true1c (_ : List Int) : Bool := true
def k18 : Con := { f := 18, lend := true, its := [⟨false, false, [.ro (.int .u8)]⟩], lay := [none], rs := [⟨false, false, [.b]⟩], F := fun x => .ret ((((true1c x.1.1), ()), ()), ((), ())) }
theorem f18_eq (x : itemsD k18.its) : bodyOut (cxOf [k45, k93, k58, k88, k56, k94, k95, k86, k49]) (fun _ => none) (codeOf Try.f18) k18.its k18.lay Try.f18.ntmps k18.rs [.tmp 2] x = f18_tree x.1.1 := by kernel_rfl
theorem f18_ok (hr : ∀ x : (List Int × Unit) × Unit, itemsWF k18.its x → (f18_tree x.1.1).eval = (k18.F x).eval) : k18.Ok Try.prog :=
  con_fn [k45, k93, k58, k88, k56, k94, k95, k86, k49] ⟨k45_ok, k93_ok, k58_ok, k88_ok, k56_ok, k94_ok, k95_ok, k86_ok, k49_ok, trivial⟩ (by kernel_rfl) (codeOf_eq (by kernel_rfl)) (by kernel_rfl) (by kernel_rfl) (by kernel_rfl) f18_eq fun x hw _ hy => (hr x hw).trans hy
theorem k18_ok : k18.Ok Try.prog := by
  refine f18_ok fun x hw => ?_
  obtain ⟨⟨c, _⟩, _⟩ := x
  have hc : c.length ≤ BIG := hw.1.1.1
  show (f18_tree c).eval = some (((true, ()), ()), ((), ()))
  unfold f18_tree
  by_cases hb : bigV c = true
  · rw [eval_ite_t hb]; rfl
  rw [eval_ite_f (by simpa using hb)]
  obtain ⟨y, e, _⟩ := drawFiles_tot hc
  obtain ⟨z, e2, _⟩ := drawBlocks_tot hc
  refine (eval_get_some e).trans ?_
  generalize y.1.1.1 = a
  have e1 : eqFilesV a a = true := decide_eq_true rfl
  have last : (Out.get (k95_V c) fun y3 => .ite (((readFilesV y3.1.1.1).2 == (readFilesV y3.1.1.1).2) == true)
      (.ite ((!(readFilesV y3.1.1.1).2) == false)
      (.ret ((((eqStrsV (fileBlocksV (readFilesV y3.1.1.1).1) y3.1.1.1), ()), ()), ((), ())))
      (.ret (((true, ()), ()), ((), ()))))
      (.ret (((false, ()), ()), ((), ()))) : Out (((Bool × Unit) × Unit) × (Unit × Unit))).eval = some (((true, ()), ()), ((), ())) := by
    refine (eval_get_some e2).trans ?_
    refine (eval_ite_t (by simp)).trans ?_
    cases hr : (readFilesV z.1.1.1).2 with
    | false => exact (eval_ite_f rfl).trans rfl
    | true =>
      refine (eval_ite_t rfl).trans ?_
      have : eqStrsV (fileBlocksV (readFilesV z.1.1.1).1) z.1.1.1 = true := decide_eq_true (readFiles_again _ hr)
      simp only [Out.eval, this]
  rw [readFiles_blocks]
  by_cases h : filesOkV a = true
  · have h6 : decide (((List.length (fileBlocksV a) : Nat) : Int) > (0 : Int)) = true := decide_eq_true (by rw [fileBlocksV_len h]; decide)
    rw [if_pos h, h6]
    exact (eval_ite_t rfl).trans ((eval_ite_t rfl).trans ((eval_ite_f (by rw [e1]; rfl)).trans last))
  · have h6 : decide (((List.length (fileBlocksV a) : Nat) : Int) > (0 : Int)) = false := decide_eq_false (by rw [fileBlocksV_not h]; decide)
    rw [if_neg h, h6]
    exact (eval_ite_t rfl).trans ((eval_ite_f rfl).trans last)

theorem f18_own : ownKnob Try.prog.godebug = none := by kernel_rfl
set_option maxRecDepth 100000 in
theorem f18_contract (H : Type) (enc : TypeId × Value → H) (W : World) (base : Nat) (args : Array Value) (ds gs : List (DataW H)) (before : List MemPlace)
    (hval : ∀ (j : Nat) t v, Try.f18.params[j]? = some t → args[j]? = some v → Value.okWide Try.prog W .any base t v)
    (hW : DataW.Whole enc Try.prog Try.f18.params.toList Rows.fnBlocksSpec.vars false W args.toList ds gs before) :
    Calls Try.prog 18 args W fun e W' => ∃ v, e = .returned v ∧ Rows.fnBlocksSpec.post enc Try.prog Try.f18 false true false false W args v W' := by
  have hW' := hW
  obtain ⟨p, q, hA0, hV, rfl, _, _⟩ := hW
  have hA : DataW.TrodAll enc Try.prog W 0 (fun _ => true) true [58] args.toList ds p := hA0
  have hlt := hW'.lt
  obtain ⟨rfl, rfl⟩ := trodVars_none hV
  simp only [List.append_nil] at hW' hlt
  have hlen : ds.length = 1 := (trodAll_length hA).2
  obtain ⟨d0, e0⟩ := List.length_eq_one_iff.1 hlen
  subst e0
  have hu : Try.prog.underlying 4 = some .bool := by kernel_rfl
  refine (law_calls (ts := [(.sl (.int .u8))]) (tids := [58]) (f := 18) (lend := k18.lend) (F := k18.F) k18_ok (parsB_ok (by kernel_rfl)) (fun x hw => ?_) (b0 := base) (fun j t v ht hv => hval j t v ?_ hv) hA).mono fun e W' ⟨he, hg, hs⟩ => ?_
  · exact ⟨_, rfl⟩
  · rw [← ht, Try.params18]; first | rfl | simp
  · subst he
    exact ⟨_, rfl, post_of_same (pa := p) (pv := []) hW' (fun _ _ _ => trodAll_mk1 (shut_bool hu true)) (fun sp hsp => trodAll_stays (by kernel_rfl) hs (by kernel_rfl) hA hlt hsp) (fun _ _ => rfl) (by simp) (hg.frame _) hg.2.1 (ok_one (by kernel_rfl) rfl (okWide_bool_mk hu true))⟩
set_option maxRecDepth 100000 in
theorem f18_lifted (os : Os) (started : os.Started) (H : Type) (enc : TypeId × Value → H) :
    ReturnsInHanded {} Try.checked os 18 .any (Rows.fnBlocksSpec.pre6 enc Try.prog Try.f18 Rows.fnBlocksRow.domain false) (Rows.fnBlocksSpec.post enc Try.prog Try.f18 false true false false) := by
  refine returnsInHanded_of_change (C := Try.checked) f18_own started (by kernel_rfl) Try.func18
    (ChangeSpec.witness6 (enc := enc) (C := Try.checked) false ⟨#[], #[.slice none 0 0], []⟩ 8 (by kernel_rfl) (by kernel_rfl) (by kernel_rfl) (by kernel_rfl)) ?_
  intro W base args ds gs before hval hW _ _
  exact f18_contract H enc W base args ds gs before hval hW
theorem f18_closed : joinedFacts Try.prog 18 Try.f18 Rows.fnBlocksSpec Rows.fnBlocksRow = true := by
  unfold joinedFacts
  rw [mayEnter_ok, lifts_ok, make_ok]
  kernel_rfl
theorem f18_said : Rows.FnBlocksSaid :=
  OpenClaim.holds_of_wide 18 Try.f18 rfl rfl rfl rfl rfl rfl rfl ⟨rfl, rfl, rfl, rfl, rfl⟩ rfl rfl rfl rfl rfl (by kernel_rfl) Try.func18 f18_closed
    (of_decide_eq_true (by kernel_rfl)) (by unfold Func.isWrapper; first | (rw [if_pos (by decide +kernel)]; kernel_rfl) | (rw [if_neg (by decide +kernel)]; exact ⟨rfl, rfl⟩))
    (fun os started H enc _ => f18_lifted os started H enc)
end Go.Proofs.Ytjcinikojcfebaa.Dm
namespace Go.Proofs.Ytjcinikojcfebaa
theorem fnBlocks_said : Rows.FnBlocksSaid := Dm.f18_said
end Go.Proofs.Ytjcinikojcfebaa
namespace Go.Proofs.Ytjcinikojcfebaa.Dm


end Go.Proofs.Ytjcinikojcfebaa.Dm
