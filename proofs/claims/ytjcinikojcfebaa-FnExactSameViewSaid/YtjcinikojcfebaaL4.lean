/- Functions of the program, and what they compute. -/
import Derived.Test.YtjcinikojcfebaaA2
import Derived.Test.YtjcinikojcfebaaFacts
import Derived.Test.YtjcinikojcfebaaRows
import Derived.ChangeCalls
namespace Go.Proofs.Ytjcinikojcfebaa.Dm
open Go Go.ChangeShapes Go.WideShapes Go.ChangeAt Go.RowKit

def f4_tree (a0 : Int) (a1 : List (Int)) (a2 : List (Int)) (a3 : List (Int)) (a4 : Int) (a5 : List (Int)) (a6 : List (Int)) (a7 : List (Int)) : Out ((((Bool) × Unit) × Unit) × ((Unit) × (Unit) × Unit)) :=
 Out.ite ((decide ((szViewV a0 a1 a2 a3 (1048576 : Int)) < (0 : Int))))
 (Out.ret (((true, ()), ()), ((), ((), ()))))
 (Out.ite ((decide ((szViewV a4 a5 a6 a7 (szViewV a0 a1 a2 a3 (1048576 : Int))) < (0 : Int))))
 (Out.ret (((true, ()), ()), ((), ((), ()))))
 (Out.get (toViewV a0 a1 a2 a3) fun (y1 : (Int) × (List (Int)) × (List (Int)) × (List (Int))) =>
 Out.get (toViewV a4 a5 a6 a7) fun (y2 : (Int) × (List (Int)) × (List (Int)) × (List (Int))) =>
 Out.get (toViewV a0 a1 a2 a3) fun (y3 : (Int) × (List (Int)) × (List (Int)) × (List (Int))) =>
 Out.get (toViewV a4 a5 a6 a7) fun (y4 : (Int) × (List (Int)) × (List (Int)) × (List (Int))) =>
 Out.ite ((!((eqViewV y3.1 y3.2.1 y3.2.2.1 y3.2.2.2 y4.1 y4.2.1 y4.2.2.1 y4.2.2.2) == (eqViewV y1.1 y1.2.1 y1.2.2.1 y1.2.2.2 y2.1 y2.2.1 y2.2.2.1 y2.2.2.2))))
 (Out.ret (((false, ()), ()), ((), ((), ()))))
 (Out.get (toViewV a0 a1 a2 a3) fun (y5 : (Int) × (List (Int)) × (List (Int)) × (List (Int))) =>
 Out.ite ((!(eqViewV y3.1 y3.2.1 y3.2.2.1 y3.2.2.2 y5.1 y5.2.1 y5.2.2.1 y5.2.2.2)))
 (Out.ret (((false, ()), ()), ((), ((), ()))))
 (Out.get (toViewV a4 a5 a6 a7) fun (y6 : (Int) × (List (Int)) × (List (Int)) × (List (Int))) =>
 Out.ite ((!(eqViewV y4.1 y4.2.1 y4.2.2.1 y4.2.2.2 y6.1 y6.2.1 y6.2.2.1 y6.2.2.2)))
 (Out.ret (((false, ()), ()), ((), ((), ()))))
 (Out.ret (((true, ()), ()), ((), ((), ()))))))))
def f4_A : Nat → Option LoopAnn := fun _ => none
def f4_cx : Cx := cxOf [k31, k33, k32, k34, k35]
theorem f4_eq (x : ((Int) × (List (Int)) × (List (Int)) × (List (Int)) × Unit) × ((Int) × (List (Int)) × (List (Int)) × (List (Int)) × Unit) × Unit) : bodyOut f4_cx f4_A (codeOf Try.f4) [⟨false, true, [.i .i64, .ro (.int .i64), .ro (.int .i64), .ro (.int .i64)]⟩, ⟨false, true, [.i .i64, .ro (.int .i64), .ro (.int .i64), .ro (.int .i64)]⟩] [none, none] 45 [⟨false, false, [.b]⟩] [.tmp 4] x = f4_tree x.1.1 x.1.2.1 x.1.2.2.1 x.1.2.2.2.1 x.2.1.1 x.2.1.2.1 x.2.1.2.2.1 x.2.1.2.2.2.1 := by kernel_rfl
def true8 (_ : Int) (_ _ _ : List Int) (_ : Int) (_ _ _ : List Int) : Bool := true
def k4 : Con := { f := 4, lend := true, its := [⟨false, true, [.i .i64, .ro (.int .i64), .ro (.int .i64), .ro (.int .i64)]⟩, ⟨false, true, [.i .i64, .ro (.int .i64), .ro (.int .i64), .ro (.int .i64)]⟩], lay := [none, none], rs := [⟨false, false, [.b]⟩], F := fun x => .ret ((((true8 x.1.1 x.1.2.1 x.1.2.2.1 x.1.2.2.2.1 x.2.1.1 x.2.1.2.1 x.2.1.2.2.1 x.2.1.2.2.2.1), ()), ()), ((), ((), ()))) }
theorem f4_ok (h0 : k31.Ok Try.prog) (h1 : k33.Ok Try.prog) (h2 : k32.Ok Try.prog) (h3 : k34.Ok Try.prog) (h4 : k35.Ok Try.prog) (hr : ∀ x : ((Int) × (List (Int)) × (List (Int)) × (List (Int)) × Unit) × ((Int) × (List (Int)) × (List (Int)) × (List (Int)) × Unit) × Unit, itemsWF k4.its x → (f4_tree x.1.1 x.1.2.1 x.1.2.2.1 x.1.2.2.2.1 x.2.1.1 x.2.1.2.1 x.2.1.2.2.1 x.2.1.2.2.2.1).eval = (k4.F x).eval) : k4.Ok Try.prog := by
  refine con_ok (A := f4_A) (code := codeOf Try.f4) (fn := Try.f4) (rtm := [.tmp 4]) [k31, k33, k32, k34, k35] ?_ ?_
  · intro K hK
    simp only [List.mem_cons, List.not_mem_nil, or_false] at hK
    rcases hK with rfl | rfl | rfl | rfl | rfl
    · exact h0
    · exact h1
    · exact h2
    · exact h3
    · exact h4
  · exact ⟨by kernel_rfl, codeOf_eq (by kernel_rfl), by kernel_rfl, by kernel_rfl, by decide, by decide, by decide, fun x y hw hy => (congrArg Out.eval (f4_eq x)).trans ((hr x hw).trans hy)⟩
theorem k4_ok : k4.Ok Try.prog := by
  refine f4_ok k31_ok k33_ok k32_ok k34_ok k35_ok fun x hw => ?_
  obtain ⟨⟨p, a, b, c, _⟩, ⟨q, d, e, f, _⟩, _⟩ := x
  have ha : a.length ≤ BIG := hw.1.1.1
  have hb : b.length ≤ BIG := hw.1.2.1.1
  have hc : c.length ≤ BIG := hw.1.2.2.1.1
  have hd : d.length ≤ BIG := hw.2.1.1.1
  have he : e.length ≤ BIG := hw.2.1.2.1.1
  have hf : f.length ≤ BIG := hw.2.1.2.2.1.1
  show (f4_tree p a b c q d e f).eval = some (((true, ()), ()), ((), ((), ())))
  unfold f4_tree
  by_cases h1 : szViewV p a b c 1048576 < 0
  · simp [Out.eval, h1]
  · have s1 := szView_le ha hb hc (by omega) (by omega) h1
    by_cases h2 : szViewV q d e f (szViewV p a b c 1048576) < 0
    · simp [Out.eval, h1, h2]
    · have s2 := szView_le hd he hf (by omega) (by omega) h2
      have hL : (1048576 : Nat) ≤ LIM := by decide
      have t1 : toViewV p a b c = some (p, a, b, c) := if_pos ⟨by omega, by omega, by omega⟩
      have t2 : toViewV q d e f = some (q, d, e, f) := if_pos ⟨by omega, by omega, by omega⟩
      have e1 : eqViewV p a b c p a b c = true := by simp [eqViewV]
      have e2 : eqViewV q d e f q d e f = true := by simp [eqViewV]
      simp [Out.eval, h1, h2, t1, t2, e1, e2]

theorem f4_own : ownKnob Try.prog.godebug = none := by kernel_rfl
set_option maxRecDepth 100000 in
theorem f4_contract (H : Type) (enc : TypeId × Value → H) (W : World) (base : Nat) (args : Array Value) (ds gs : List (DataW H)) (before : List MemPlace)
    (hval : ∀ (j : Nat) t v, Try.f4.params[j]? = some t → args[j]? = some v → Value.okWide Try.prog W .any base t v)
    (hW : DataW.Whole enc Try.prog Try.f4.params.toList Rows.fnExactSameViewSpec.vars false W args.toList ds gs before) :
    Calls Try.prog 4 args W fun e W' => ∃ v, e = .returned v ∧ Rows.fnExactSameViewSpec.post enc Try.prog Try.f4 false true false false W args v W' := by
  have hW' := hW
  obtain ⟨p, q, hA0, hV, rfl, _, _⟩ := hW
  have hA : DataW.TrodAll enc Try.prog W 0 (fun _ => true) true [34, 34] args.toList ds p := hA0
  have hlt := hW'.lt
  obtain ⟨rfl, rfl⟩ := trodVars_none hV
  simp only [List.append_nil] at hW' hlt
  have hlen : ds.length = 2 := (trodAll_length hA).2
  rcases ds with _ | ⟨d0, _ | ⟨d1, _ | ⟨d2, dr⟩⟩⟩ <;> first | (simp at hlen; done) | skip
  have hu : Try.prog.underlying 4 = some .bool := by kernel_rfl
  refine (law_calls (ts := [(.st (.cons (.st (.cons (.int .i64) (.cons (.sl (.int .i64)) .nil))) (.cons (.sl (.int .i64)) (.cons (.sl (.int .i64)) .nil)))), (.st (.cons (.st (.cons (.int .i64) (.cons (.sl (.int .i64)) .nil))) (.cons (.sl (.int .i64)) (.cons (.sl (.int .i64)) .nil))))]) (tids := [34, 34]) (f := 4) (lend := k4.lend) (F := k4.F) k4_ok (parsB_ok (by kernel_rfl)) (fun x hw => ?_) (b0 := base) (fun j t v ht hv => hval j t v ?_ hv) hA).mono fun e W' ⟨he, hg, hs⟩ => ?_
  · exact ⟨_, rfl⟩
  · rw [← ht, Try.params4]; first | rfl | simp
  · subst he
    exact ⟨_, rfl, post_of_same (pa := p) (pv := []) hW' (fun _ _ _ => trodAll_mk1 (shut_bool hu true)) (fun sp hsp => trodAll_stays (by kernel_rfl) hs (by kernel_rfl) hA hlt hsp) (fun _ _ => rfl) (by simp) (hg.frame _) hg.2.1 (ok_one (by kernel_rfl) rfl (okWide_bool_mk hu true))⟩
set_option maxRecDepth 100000 in
theorem f4_lifted (os : Os) (started : os.Started) (H : Type) (enc : TypeId × Value → H) :
    ReturnsInHanded {} Try.checked os 4 .any (Rows.fnExactSameViewSpec.pre6 enc Try.prog Try.f4 Rows.fnExactSameViewRow.domain false) (Rows.fnExactSameViewSpec.post enc Try.prog Try.f4 false true false false) := by
  refine returnsInHanded_of_change (C := Try.checked) f4_own started (by kernel_rfl) Try.func4
    (ChangeSpec.witness6 (enc := enc) (C := Try.checked) false ⟨#[], #[.agg #[.int .i64 0, .slice none 0 0, .slice none 0 0, .slice none 0 0], .agg #[.int .i64 0, .slice none 0 0, .slice none 0 0, .slice none 0 0]], []⟩ 8 (by kernel_rfl) (by kernel_rfl) (by kernel_rfl) (by kernel_rfl)) ?_
  intro W base args ds gs before hval hW _ _
  exact f4_contract H enc W base args ds gs before hval hW
theorem f4_closed : joinedFacts Try.prog 4 Try.f4 Rows.fnExactSameViewSpec Rows.fnExactSameViewRow = true := by
  unfold joinedFacts
  rw [mayEnter_ok, lifts_ok, make_ok]
  kernel_rfl
theorem f4_said : Rows.FnExactSameViewSaid :=
  OpenClaim.holds_of_wide 4 Try.f4 rfl rfl rfl rfl rfl rfl rfl ⟨rfl, rfl, rfl, rfl, rfl⟩ rfl rfl rfl rfl rfl (by kernel_rfl) Try.func4 f4_closed
    (of_decide_eq_true (by kernel_rfl)) (by unfold Func.isWrapper; first | (rw [if_pos (by decide +kernel)]; kernel_rfl) | (rw [if_neg (by decide +kernel)]; exact ⟨rfl, rfl⟩))
    (fun os started H enc _ => f4_lifted os started H enc)
end Go.Proofs.Ytjcinikojcfebaa.Dm
namespace Go.Proofs.Ytjcinikojcfebaa
theorem fnExactSameView_said : Rows.FnExactSameViewSaid := Dm.f4_said
end Go.Proofs.Ytjcinikojcfebaa
namespace Go.Proofs.Ytjcinikojcfebaa.Dm


end Go.Proofs.Ytjcinikojcfebaa.Dm
