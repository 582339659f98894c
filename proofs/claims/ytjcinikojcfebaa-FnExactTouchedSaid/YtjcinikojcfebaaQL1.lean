/- Functions of the program, and what they compute. -/
import Derived.Test.YtjcinikojcfebaaQ3
import Derived.Test.YtjcinikojcfebaaFacts
import Derived.Test.YtjcinikojcfebaaRows
import Derived.ChangeCalls
namespace Go.Proofs.Ytjcinikojcfebaa.Dm
open Go Go.ChangeShapes Go.WideShapes Go.ChangeAt Go.RowKit

def f19_tree (a0 : List (Int × Int × Int × Int × List Int × Unit)) : Out (((Bool × Unit) × Unit) × (Unit × Unit)) :=
 .get (szEffSV a0 (1048576 : Int)) fun y1 =>
 .ite (decide (y1 < (0 : Int)))
 (.ret (((true, ()), ()), ((), ())))
 (.get (toEffSV a0) fun y2 =>
 .get (touchedV y2) fun y3 =>
 .get (toEffSV a0) fun y4 =>
 .get (touchedV y4) fun y5 =>
 .ite (!(eqIntSV y5 y3))
 (.ret (((false, ()), ()), ((), ())))
 (.get (toEffSV a0) fun y6 =>
 .ite (!(eqEffSV y4 y6))
 (.ret (((false, ()), ()), ((), ())))
 (.get (markEffSV y4 (1 : Int)) fun y7 =>
 .ite ((decide (y7.1 < (0 : Int))) == false)
 (.ite (!(eqIntSV y5 y3))
 (.ret (((false, ()), ()), ((), ())))
 (.get (markIntSV y5 (1 : Int)) fun y8 =>
 .get (heldIntSV y8.2 (1 : Int)) fun y9 =>
 .ite (decide (y9 < (0 : Int)))
 (.ret (((false, ()), ()), ((), ())))
 (.ite ((y9 != y8.1))
 (.ret (((false, ()), ()), ((), ())))
 (.get (toEffSV a0) fun y10 =>
 .get (touchedV y10) fun y11 =>
 .ite (!(eqIntSV y11 y3))
 (.ret (((false, ()), ()), ((), ())))
 (.get (heldIntSV y8.2 (1 : Int)) fun y12 =>
 .ite (decide (y12 < (0 : Int)))
 (.ret (((false, ()), ()), ((), ())))
 (.ite ((y12 != y8.1))
 (.ret (((false, ()), ()), ((), ())))
 (.ret (((true, ()), ()), ((), ())))))))))
 (.ret (((false, ()), ()), ((), ()))))))
def true1 (_ : List EffD) : Bool := true
def k19 : Con := { f := 19, lend := true, its := [⟨false, false, [.ro (.st (.cons (.int .i64) (.cons (.int .i64) (.cons (.int .i64) (.cons (.int .i64) (.cons (.sl (.int .i64)) .nil))))))]⟩], lay := [none], rs := [⟨false, false, [.b]⟩], F := fun x => .ret ((((true1 x.1.1), ()), ()), ((), ())) }
theorem f19_eq (x : itemsD k19.its) : bodyOut (cxOf [k96, k98, k97, k99, k100, k101, k102, k103, k104]) (fun _ => none) (codeOf Try.f19) k19.its k19.lay Try.f19.ntmps k19.rs [.tmp 2] x = f19_tree x.1.1 := by kernel_rfl
theorem f19_ok (hr : ∀ x : (List (Int × Int × Int × Int × List Int × Unit) × Unit) × Unit, itemsWF k19.its x → (f19_tree x.1.1).eval = (k19.F x).eval) : k19.Ok Try.prog :=
  con_fn [k96, k98, k97, k99, k100, k101, k102, k103, k104] ⟨k96_ok, k98_ok, k97_ok, k99_ok, k100_ok, k101_ok, k102_ok, k103_ok, k104_ok, trivial⟩ (by kernel_rfl) (codeOf_eq (by kernel_rfl)) (by kernel_rfl) (by kernel_rfl) (by kernel_rfl) f19_eq fun x hw _ hy => (hr x hw).trans hy
theorem foldl_tstep_len : ∀ (a : List EffD) (p : List Int), (a.foldl tstep p).length ≤ p.length + a.length
  | [], p => by simp
  | e :: r, p => by
    rw [List.foldl_cons]
    have h1 := foldl_tstep_len r (tstep p e)
    have h2 := tstep_len p e
    simp only [List.length_cons]
    omega
theorem k19_ok : k19.Ok Try.prog := by
  refine f19_ok fun x hw => ?_
  obtain ⟨⟨a, _⟩, _⟩ := x
  show (f19_tree a).eval = some (((true, ()), ()), ((), ()))
  unfold f19_tree
  have e1 : szEffSV a 1048576 = some (if ((szcEffS a : Nat) : Int) ≤ 1048576 then 1048576 - ((szcEffS a : Nat) : Int) else -1) := szP_in (by decide) (by decide)
  rw [eval_get_some e1]
  by_cases q : ((szcEffS a : Nat) : Int) ≤ 1048576
  case neg => rw [if_neg q, eval_ite_t (by decide)]; rfl
  rw [if_pos q, eval_ite_f (decide_eq_false (by omega))]
  have hs : szcEffS a ≤ 1048576 := by omega
  have hl : a.length ≤ 1048576 := by unfold szcEffS at hs; omega
  have e2 : toEffSV a = some a := toP_in hs
  have e3 : touchedV a = some (a.foldl tstep []) := if_pos hl
  have hr := foldl_tstep_len a []
  generalize a.foldl tstep [] = r at e3 hr
  have hr : r.length ≤ 1048576 := by simp at hr; omega
  have hm := mkcEffS_le a
  have hm2 := mkcIntS_le r
  have hz : szcIntS r = r.length := rfl
  have e4 : markEffSV a 1 = some ((1 : Int) + ((mkcEffS a : Nat) : Int), mkdEffS 1 a) := mkP_in (by decide) (by omega)
  have e5 : markIntSV r 1 = some ((1 : Int) + ((mkcIntS r : Nat) : Int), mkdIntS 1 r) := mkP_in (by decide) (by omega)
  have e6 : heldIntSV (mkdIntS 1 r) 1 = some ((1 : Int) + ((mkcIntS r : Nat) : Int)) := by
    unfold heldIntSV
    rw [mkcIntS_d, mkdIntS_d, decide_eq_true rfl]
    exact hdP_in (by decide) (by omega)
  have n1 : ¬ 1 + ((mkcEffS a : Nat) : Int) < 0 := by omega
  have n2 : ¬ 1 + ((mkcIntS r : Nat) : Int) < 0 := by omega
  have s1 : eqIntSV r r = true := decide_eq_true rfl
  have s2 : eqEffSV a a = true := decide_eq_true rfl
  simp [Out.eval, e2, e3, e4, e5, e6, n1, n2, s1, s2]

theorem f19_own : ownKnob Try.prog.godebug = none := by kernel_rfl
set_option maxRecDepth 100000 in
theorem f19_contract (H : Type) (enc : TypeId × Value → H) (W : World) (base : Nat) (args : Array Value) (ds gs : List (DataW H)) (before : List MemPlace)
    (hval : ∀ (j : Nat) t v, Try.f19.params[j]? = some t → args[j]? = some v → Value.okWide Try.prog W .any base t v)
    (hW : DataW.Whole enc Try.prog Try.f19.params.toList Rows.fnExactTouchedSpec.vars false W args.toList ds gs before) :
    Calls Try.prog 19 args W fun e W' => ∃ v, e = .returned v ∧ Rows.fnExactTouchedSpec.post enc Try.prog Try.f19 false true false false W args v W' := by
  have hW' := hW
  obtain ⟨p, q, hA0, hV, rfl, _, _⟩ := hW
  have hA : DataW.TrodAll enc Try.prog W 0 (fun _ => true) true [114] args.toList ds p := hA0
  have hlt := hW'.lt
  obtain ⟨rfl, rfl⟩ := trodVars_none hV
  simp only [List.append_nil] at hW' hlt
  have hlen : ds.length = 1 := (trodAll_length hA).2
  obtain ⟨d0, e0⟩ := List.length_eq_one_iff.1 hlen
  subst e0
  have hu : Try.prog.underlying 4 = some .bool := by kernel_rfl
  refine (law_calls (ts := [(.sl (.st (.cons (.int .i64) (.cons (.int .i64) (.cons (.int .i64) (.cons (.int .i64) (.cons (.sl (.int .i64)) .nil)))))))]) (tids := [114]) (f := 19) (lend := k19.lend) (F := k19.F) k19_ok (parsB_ok (by kernel_rfl)) (fun x hw => ?_) (b0 := base) (fun j t v ht hv => hval j t v ?_ hv) hA).mono fun e W' ⟨he, hg, hs⟩ => ?_
  · exact ⟨_, rfl⟩
  · rw [← ht, Try.params19]; first | rfl | simp
  · subst he
    exact ⟨_, rfl, post_of_kept (pa := p) (pv := []) hW' (fun _ _ _ => trodAll_mk1 (shut_bool hu true)) (fun sp hsp => trodAll_stays (by kernel_rfl) hs (by kernel_rfl) hA hlt hsp) (fun _ _ => rfl) (by simp) hg (ok_one (by kernel_rfl) rfl (okWide_bool_mk hu true))⟩
set_option maxRecDepth 100000 in
theorem f19_lifted (os : Os) (started : os.Started) (H : Type) (enc : TypeId × Value → H) :
    ReturnsInHanded {} Try.checked os 19 .any (Rows.fnExactTouchedSpec.pre6 enc Try.prog Try.f19 Rows.fnExactTouchedRow.domain false) (Rows.fnExactTouchedSpec.post enc Try.prog Try.f19 false true false false) := by
  refine returnsInHanded_of_change (C := Try.checked) f19_own started (by kernel_rfl) Try.func19
    (ChangeSpec.witness6 (enc := enc) (C := Try.checked) false ⟨#[], #[.slice none 0 0], []⟩ 8 (by kernel_rfl) (by kernel_rfl) (by kernel_rfl) (by kernel_rfl)) ?_
  intro W base args ds gs before hval hW _ _
  exact f19_contract H enc W base args ds gs before hval hW
theorem f19_closed : joinedFacts Try.prog 19 Try.f19 Rows.fnExactTouchedSpec Rows.fnExactTouchedRow = true := by
  unfold joinedFacts
  rw [mayEnter_ok, lifts_ok, make_ok]
  kernel_rfl
theorem f19_said : Rows.FnExactTouchedSaid :=
  OpenClaim.holds_of_wide 19 Try.f19 rfl rfl rfl rfl rfl rfl rfl ⟨rfl, rfl, rfl, rfl, rfl⟩ rfl rfl rfl rfl rfl (by kernel_rfl) Try.func19 f19_closed
    (of_decide_eq_true (by kernel_rfl)) (by unfold Func.isWrapper; first | (rw [if_pos (by decide +kernel)]; kernel_rfl) | (rw [if_neg (by decide +kernel)]; exact ⟨rfl, rfl⟩))
    (fun os started H enc _ => f19_lifted os started H enc)
end Go.Proofs.Ytjcinikojcfebaa.Dm
namespace Go.Proofs.Ytjcinikojcfebaa
theorem fnExactTouched_said : Rows.FnExactTouchedSaid := Dm.f19_said
end Go.Proofs.Ytjcinikojcfebaa
namespace Go.Proofs.Ytjcinikojcfebaa.Dm


end Go.Proofs.Ytjcinikojcfebaa.Dm
