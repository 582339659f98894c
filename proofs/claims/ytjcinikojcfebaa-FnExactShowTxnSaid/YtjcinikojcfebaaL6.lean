/- Functions of the program, and what they compute. -/
import Derived.Test.YtjcinikojcfebaaA5
import Derived.Test.YtjcinikojcfebaaFacts
import Derived.Test.YtjcinikojcfebaaRows
import Derived.ChangeCalls
namespace Go.Proofs.Ytjcinikojcfebaa.Dm
open Go Go.ChangeShapes Go.WideShapes Go.ChangeAt Go.RowKit

def f6_tree (a0 : Int) (a1 : List (((Int) × ((List UInt8) × Unit)))) : Out ((((Bool) × Unit) × Unit) × ((Unit) × Unit)) :=
 Out.ite ((decide ((szTxnV a0 a1 (1048576 : Int)) < (0 : Int))))
 (Out.ret (((true, ()), ()), ((), ())))
 (Out.get (toTxnV a0 a1) fun (y1 : (Int) × (List (((Int) × ((List UInt8) × Unit))))) =>
 Out.get (toTxnV a0 a1) fun (y2 : (Int) × (List (((Int) × ((List UInt8) × Unit))))) =>
 Out.ite (((showTxnV y2.1 y2.2) != (showTxnV y1.1 y1.2)))
 (Out.ret (((false, ()), ()), ((), ())))
 (Out.get (toTxnV a0 a1) fun (y3 : (Int) × (List (((Int) × ((List UInt8) × Unit))))) =>
 Out.ite ((!(eqTxnV y2.1 y2.2 y3.1 y3.2)))
 (Out.ret (((false, ()), ()), ((), ())))
 (Out.ret (((true, ()), ()), ((), ())))))
def f6_A : Nat → Option LoopAnn := fun _ => none
def f6_cx : Cx := cxOf [k40, k42, k41, k43, k44]
theorem f6_eq (x : ((Int) × (List (((Int) × ((List UInt8) × Unit)))) × Unit) × Unit) : bodyOut f6_cx f6_A (codeOf Try.f6) [⟨false, true, [.i .i64, .ro (.st (.cons (.int .i64) (.cons .str .nil)))]⟩] [none] 27 [⟨false, false, [.b]⟩] [.tmp 2] x = f6_tree x.1.1 x.1.2.1 := by kernel_rfl
def true2i (_ : Int) (_ : List WriteD) : Bool := true
def k6 : Con := { f := 6, lend := true, its := [⟨false, true, [.i .i64, .ro (.st (.cons (.int .i64) (.cons .str .nil)))]⟩], lay := [none], rs := [⟨false, false, [.b]⟩], F := fun x => .ret ((((true2i x.1.1 x.1.2.1), ()), ()), ((), ())) }
theorem f6_okp (h0 : k40.Ok Try.prog) (h1 : k42.Ok Try.prog) (h2 : k41.Ok Try.prog) (h3 : k43.Ok Try.prog) (h4 : k44.Ok Try.prog) (hr : ∀ x : ((Int) × (List (((Int) × ((List UInt8) × Unit)))) × Unit) × Unit, itemsWF k6.its x → ∀ y, (k6.F x).eval = some y → (f6_tree x.1.1 x.1.2.1).eval = some y) : k6.Ok Try.prog := by
  refine con_ok (A := f6_A) (code := codeOf Try.f6) (fn := Try.f6) (rtm := [.tmp 2]) [k40, k42, k41, k43, k44] ?_ ?_
  · intro K hK
    simp only [List.mem_cons, List.not_mem_nil, or_false] at hK
    rcases hK with rfl | rfl | rfl | rfl | rfl
    · exact h0
    · exact h1
    · exact h2
    · exact h3
    · exact h4
  · exact ⟨by kernel_rfl, codeOf_eq (by kernel_rfl), by kernel_rfl, by kernel_rfl, by decide, by decide, by decide, fun x y hw hy => (congrArg Out.eval (f6_eq x)).trans (hr x hw y hy)⟩
theorem f6_ok (h0 : k40.Ok Try.prog) (h1 : k42.Ok Try.prog) (h2 : k41.Ok Try.prog) (h3 : k43.Ok Try.prog) (h4 : k44.Ok Try.prog) (hr : ∀ x : ((Int) × (List (((Int) × ((List UInt8) × Unit)))) × Unit) × Unit, itemsWF k6.its x → (f6_tree x.1.1 x.1.2.1).eval = (k6.F x).eval) : k6.Ok Try.prog := f6_okp h0 h1 h2 h3 h4 fun x hw _ hy => (hr x hw).trans hy
theorem mem_big {α : Type} {p : α → Prop} {a : List α} (h : ∀ (i : Nat) (y : α), a[i]? = some y → p y) : ∀ x ∈ a, p x := fun x hx => by
  obtain ⟨i, hi⟩ := List.getElem?_of_mem hx
  exact h i x hi
theorem k6_ok : k6.Ok Try.prog := by
  refine f6_ok k40_ok k42_ok k41_ok k43_ok k44_ok fun x hw => ?_
  obtain ⟨⟨q, a, _⟩, _⟩ := x
  have ha : a.length ≤ BIG := hw.1.1.1
  have ha' : ∀ x ∈ a, x.2.1.length ≤ BIG := mem_big fun i y hy => (hw.1.1.2 i y hy).2.1
  show (f6_tree q a).eval = some (((true, ()), ()), ((), ()))
  unfold f6_tree
  by_cases h1 : szTxnV q a 1048576 < 0
  · rw [eval_ite_t (decide_eq_true h1)]; rfl
  · have g1 := (thenV_not h1).1
    have q1 := szList_le (m := 1048576) (by decide) (by decide) (by decide) ha (fun x hx l hl1 hl2 => lessV_bound (by decide) hl1 hl2 (ha' x hx)) g1
    have t1 : toTxnV q a = some (q, a) := lim_some (by have : (1048576 : Nat) ≤ LIM := by decide
                                                       omega)
    have e1 : eqTxnV q a q a = true := by simp [eqTxnV, eqWritesV]
    simp [Out.eval, h1, t1, e1]

theorem f6_own : ownKnob Try.prog.godebug = none := by kernel_rfl
set_option maxRecDepth 100000 in
theorem f6_contract (H : Type) (enc : TypeId × Value → H) (W : World) (base : Nat) (args : Array Value) (ds gs : List (DataW H)) (before : List MemPlace)
    (hval : ∀ (j : Nat) t v, Try.f6.params[j]? = some t → args[j]? = some v → Value.okWide Try.prog W .any base t v)
    (hW : DataW.Whole enc Try.prog Try.f6.params.toList Rows.fnExactShowTxnSpec.vars false W args.toList ds gs before) :
    Calls Try.prog 6 args W fun e W' => ∃ v, e = .returned v ∧ Rows.fnExactShowTxnSpec.post enc Try.prog Try.f6 false true false false W args v W' := by
  have hW' := hW
  obtain ⟨p, q, hA0, hV, rfl, _, _⟩ := hW
  have hA : DataW.TrodAll enc Try.prog W 0 (fun _ => true) true [50] args.toList ds p := hA0
  have hlt := hW'.lt
  obtain ⟨rfl, rfl⟩ := trodVars_none hV
  simp only [List.append_nil] at hW' hlt
  have hlen : ds.length = 1 := (trodAll_length hA).2
  obtain ⟨d0, e0⟩ := List.length_eq_one_iff.1 hlen
  subst e0
  have hu : Try.prog.underlying 4 = some .bool := by kernel_rfl
  refine (law_calls (ts := [(.st (.cons (.int .i64) (.cons (.sl (.st (.cons (.int .i64) (.cons .str .nil)))) .nil)))]) (tids := [50]) (f := 6) (lend := k6.lend) (F := k6.F) k6_ok (parsB_ok (by kernel_rfl)) (fun x hw => ?_) (b0 := base) (fun j t v ht hv => hval j t v ?_ hv) hA).mono fun e W' ⟨he, hg, hs⟩ => ?_
  · exact ⟨_, rfl⟩
  · rw [← ht, Try.params6]; first | rfl | simp
  · subst he
    exact ⟨_, rfl, post_of_same (pa := p) (pv := []) hW' (fun _ _ _ => trodAll_mk1 (shut_bool hu true)) (fun sp hsp => trodAll_stays (by kernel_rfl) hs (by kernel_rfl) hA hlt hsp) (fun _ _ => rfl) (by simp) (hg.frame _) hg.2.1 (ok_one (by kernel_rfl) rfl (okWide_bool_mk hu true))⟩
set_option maxRecDepth 100000 in
theorem f6_lifted (os : Os) (started : os.Started) (H : Type) (enc : TypeId × Value → H) :
    ReturnsInHanded {} Try.checked os 6 .any (Rows.fnExactShowTxnSpec.pre6 enc Try.prog Try.f6 Rows.fnExactShowTxnRow.domain false) (Rows.fnExactShowTxnSpec.post enc Try.prog Try.f6 false true false false) := by
  refine returnsInHanded_of_change (C := Try.checked) f6_own started (by kernel_rfl) Try.func6
    (ChangeSpec.witness6 (enc := enc) (C := Try.checked) false ⟨#[], #[.agg #[.int .i64 0, .slice none 0 0]], []⟩ 8 (by kernel_rfl) (by kernel_rfl) (by kernel_rfl) (by kernel_rfl)) ?_
  intro W base args ds gs before hval hW _ _
  exact f6_contract H enc W base args ds gs before hval hW
theorem f6_closed : joinedFacts Try.prog 6 Try.f6 Rows.fnExactShowTxnSpec Rows.fnExactShowTxnRow = true := by
  unfold joinedFacts
  rw [mayEnter_ok, lifts_ok, make_ok]
  kernel_rfl
theorem f6_said : Rows.FnExactShowTxnSaid :=
  OpenClaim.holds_of_wide 6 Try.f6 rfl rfl rfl rfl rfl rfl rfl ⟨rfl, rfl, rfl, rfl, rfl⟩ rfl rfl rfl rfl rfl (by kernel_rfl) Try.func6 f6_closed
    (of_decide_eq_true (by kernel_rfl)) (by unfold Func.isWrapper; first | (rw [if_pos (by decide +kernel)]; kernel_rfl) | (rw [if_neg (by decide +kernel)]; exact ⟨rfl, rfl⟩))
    (fun os started H enc _ => f6_lifted os started H enc)
end Go.Proofs.Ytjcinikojcfebaa.Dm
namespace Go.Proofs.Ytjcinikojcfebaa
theorem fnExactShowTxn_said : Rows.FnExactShowTxnSaid := Dm.f6_said
end Go.Proofs.Ytjcinikojcfebaa
namespace Go.Proofs.Ytjcinikojcfebaa.Dm


end Go.Proofs.Ytjcinikojcfebaa.Dm
