/- Functions of the program, and what they compute. -/
import Derived.Test.YtjcinikojcfebaaA13
import Derived.Test.YtjcinikojcfebaaFacts
import Derived.Test.YtjcinikojcfebaaRows
import Derived.ChangeCalls
namespace Go.Proofs.Ytjcinikojcfebaa.Dm
open Go Go.ChangeShapes Go.WideShapes Go.ChangeAt Go.RowKit

def f14_tree (a0 : List (List UInt8)) (a1 : List (Int × List UInt8 × Unit)) (a2 : List (Int × List Int × Unit)) (a3 : List (Int × List Int × Unit)) (a4 : Int) (a5 : Int) : Out (((Bool × Unit) × Unit) × (Unit × Unit)) :=
 .ite (decide ((szSaverV a0 a1 a2 a3 a4 a5 (1048576 : Int)) < (0 : Int)))
 (.ret (((true, ()), ()), ((), ())))
 (.get (toSaverV a0 a1 a2 a3 a4 a5) fun y1 =>
 .get (toSaverV a0 a1 a2 a3 a4 a5) fun y2 =>
 .ite (!((saverOkV y2.1 y2.2.1 y2.2.2.1 y2.2.2.2.1 y2.2.2.2.2.1 y2.2.2.2.2.2) == (saverOkV y1.1 y1.2.1 y1.2.2.1 y1.2.2.2.1 y1.2.2.2.2.1 y1.2.2.2.2.2)))
 (.ret (((false, ()), ()), ((), ())))
 (.get (toSaverV a0 a1 a2 a3 a4 a5) fun y3 =>
 .ite (!(eqSaverV y2.1 y2.2.1 y2.2.2.1 y2.2.2.2.1 y2.2.2.2.2.1 y2.2.2.2.2.2 y3.1 y3.2.1 y3.2.2.1 y3.2.2.2.1 y3.2.2.2.2.1 y3.2.2.2.2.2))
 (.ret (((false, ()), ()), ((), ())))
 (.ret (((true, ()), ()), ((), ())))))
def true6 (_ : List Str) (_ : List WriteD) (_ _ : List FileD) (_ _ : Int) : Bool := true
def k14 : Con := { f := 14, lend := true, its := [⟨false, true, [.ro .str, .ro (.st (.cons (.int .i64) (.cons .str .nil))), .ro (.st (.cons (.int .i64) (.cons (.sl (.int .i64)) .nil))), .ro (.st (.cons (.int .i64) (.cons (.sl (.int .i64)) .nil))), .i .i64, .i .i64]⟩], lay := [none], rs := [⟨false, false, [.b]⟩], F := fun x => .ret ((((true6 x.1.1 x.1.2.1 x.1.2.2.1 x.1.2.2.2.1 x.1.2.2.2.2.1 x.1.2.2.2.2.2.1), ()), ()), ((), ())) }
theorem f14_eq (x : itemsD k14.its) : bodyOut (cxOf [k77, k79, k78, k80, k52]) (fun _ => none) (codeOf Try.f14) k14.its k14.lay Try.f14.ntmps k14.rs [.tmp 2] x = f14_tree x.1.1 x.1.2.1 x.1.2.2.1 x.1.2.2.2.1 x.1.2.2.2.2.1 x.1.2.2.2.2.2.1 := by kernel_rfl
theorem f14_ok (hr : ∀ x : (List (List UInt8) × List (Int × List UInt8 × Unit) × List (Int × List Int × Unit) × List (Int × List Int × Unit) × Int × Int × Unit) × Unit, itemsWF k14.its x → (f14_tree x.1.1 x.1.2.1 x.1.2.2.1 x.1.2.2.2.1 x.1.2.2.2.2.1 x.1.2.2.2.2.2.1).eval = (k14.F x).eval) : k14.Ok Try.prog :=
  con_fn [k77, k79, k78, k80, k52] ⟨k77_ok, k79_ok, k78_ok, k80_ok, k52_ok, trivial⟩ (by kernel_rfl) (codeOf_eq (by kernel_rfl)) (by kernel_rfl) (by kernel_rfl) (by kernel_rfl) f14_eq fun x hw _ hy => (hr x hw).trans hy
theorem mem_big {α : Type} {p : α → Prop} {a : List α} (h : ∀ (i : Nat) (y : α), a[i]? = some y → p y) : ∀ x ∈ a, p x := fun x hx => by
  obtain ⟨i, hi⟩ := List.getElem?_of_mem hx
  exact h i x hi
theorem k14_ok : k14.Ok Try.prog := by
  refine f14_ok fun x hw => ?_
  obtain ⟨⟨a, b, c, d, q, p, _⟩, _⟩ := x
  have ha : a.length ≤ BIG := hw.1.1.1
  have ha' : ∀ x ∈ a, x.length ≤ BIG := mem_big hw.1.1.2
  have hb : b.length ≤ BIG := hw.1.2.1.1
  have hb' : ∀ x ∈ b, x.2.1.length ≤ BIG := mem_big fun i y hy => (hw.1.2.1.2 i y hy).2.1
  have hc : c.length ≤ BIG := hw.1.2.2.1.1
  have hc' : ∀ x ∈ c, x.2.1.length ≤ BIG := mem_big fun i y hy => (hw.1.2.2.1.2 i y hy).2.1.1
  have hd : d.length ≤ BIG := hw.1.2.2.2.1.1
  have hd' : ∀ x ∈ d, x.2.1.length ≤ BIG := mem_big fun i y hy => (hw.1.2.2.2.1.2 i y hy).2.1.1
  show (f14_tree a b c d q p).eval = some (((true, ()), ()), ((), ()))
  unfold f14_tree
  by_cases h1 : szSaverV a b c d q p 1048576 < 0
  · rw [eval_ite_t (decide_eq_true h1)]; rfl
  rw [eval_ite_f (decide_eq_false h1)]
  have s1 := szSaver_le ha ha' hb hb' hc hc' hd hd' (by omega) (by omega) h1
  have t1 := toSaverV_some (q := q) (p := p) s1.1.1 s1.1.2 s1.2.1.1 s1.2.1.2
  simp [Out.eval, t1, eqSaverV_self]

theorem f14_own : ownKnob Try.prog.godebug = none := by kernel_rfl
set_option maxRecDepth 100000 in
theorem f14_contract (H : Type) (enc : TypeId × Value → H) (W : World) (base : Nat) (args : Array Value) (ds gs : List (DataW H)) (before : List MemPlace)
    (hval : ∀ (j : Nat) t v, Try.f14.params[j]? = some t → args[j]? = some v → Value.okWide Try.prog W .any base t v)
    (hW : DataW.Whole enc Try.prog Try.f14.params.toList Rows.fnExactSaverOkSpec.vars false W args.toList ds gs before) :
    Calls Try.prog 14 args W fun e W' => ∃ v, e = .returned v ∧ Rows.fnExactSaverOkSpec.post enc Try.prog Try.f14 false true false false W args v W' := by
  have hW' := hW
  obtain ⟨p, q, hA0, hV, rfl, _, _⟩ := hW
  have hA : DataW.TrodAll enc Try.prog W 0 (fun _ => true) true [97] args.toList ds p := hA0
  have hlt := hW'.lt
  obtain ⟨rfl, rfl⟩ := trodVars_none hV
  simp only [List.append_nil] at hW' hlt
  have hlen : ds.length = 1 := (trodAll_length hA).2
  obtain ⟨d0, e0⟩ := List.length_eq_one_iff.1 hlen
  subst e0
  have hu : Try.prog.underlying 4 = some .bool := by kernel_rfl
  refine (law_calls (ts := [(.st (.cons (.st (.cons (.sl .str) (.cons (.sl (.st (.cons (.int .i64) (.cons .str .nil)))) .nil))) (.cons (.sl (.st (.cons (.int .i64) (.cons (.sl (.int .i64)) .nil)))) (.cons (.sl (.st (.cons (.int .i64) (.cons (.sl (.int .i64)) .nil)))) (.cons (.int .i64) (.cons (.int .i64) .nil))))))]) (tids := [97]) (f := 14) (lend := k14.lend) (F := k14.F) k14_ok (parsB_ok (by kernel_rfl)) (fun x hw => ?_) (b0 := base) (fun j t v ht hv => hval j t v ?_ hv) hA).mono fun e W' ⟨he, hg, hs⟩ => ?_
  · exact ⟨_, rfl⟩
  · rw [← ht, Try.params14]; first | rfl | simp
  · subst he
    exact ⟨_, rfl, post_of_same (pa := p) (pv := []) hW' (fun _ _ _ => trodAll_mk1 (shut_bool hu true)) (fun sp hsp => trodAll_stays (by kernel_rfl) hs (by kernel_rfl) hA hlt hsp) (fun _ _ => rfl) (by simp) (hg.frame _) hg.2.1 (ok_one (by kernel_rfl) rfl (okWide_bool_mk hu true))⟩
set_option maxRecDepth 100000 in
theorem f14_lifted (os : Os) (started : os.Started) (H : Type) (enc : TypeId × Value → H) :
    ReturnsInHanded {} Try.checked os 14 .any (Rows.fnExactSaverOkSpec.pre6 enc Try.prog Try.f14 Rows.fnExactSaverOkRow.domain false) (Rows.fnExactSaverOkSpec.post enc Try.prog Try.f14 false true false false) := by
  refine returnsInHanded_of_change (C := Try.checked) f14_own started (by kernel_rfl) Try.func14
    (ChangeSpec.witness6 (enc := enc) (C := Try.checked) false ⟨#[], #[.agg #[.slice none 0 0, .slice none 0 0, .slice none 0 0, .slice none 0 0, .int .i64 0, .int .i64 0]], []⟩ 8 (by kernel_rfl) (by kernel_rfl) (by kernel_rfl) (by kernel_rfl)) ?_
  intro W base args ds gs before hval hW _ _
  exact f14_contract H enc W base args ds gs before hval hW
theorem f14_closed : joinedFacts Try.prog 14 Try.f14 Rows.fnExactSaverOkSpec Rows.fnExactSaverOkRow = true := by
  unfold joinedFacts
  rw [mayEnter_ok, lifts_ok, make_ok]
  kernel_rfl
theorem f14_said : Rows.FnExactSaverOkSaid :=
  OpenClaim.holds_of_wide 14 Try.f14 rfl rfl rfl rfl rfl rfl rfl ⟨rfl, rfl, rfl, rfl, rfl⟩ rfl rfl rfl rfl rfl (by kernel_rfl) Try.func14 f14_closed
    (of_decide_eq_true (by kernel_rfl)) (by unfold Func.isWrapper; first | (rw [if_pos (by decide +kernel)]; kernel_rfl) | (rw [if_neg (by decide +kernel)]; exact ⟨rfl, rfl⟩))
    (fun os started H enc _ => f14_lifted os started H enc)
end Go.Proofs.Ytjcinikojcfebaa.Dm
namespace Go.Proofs.Ytjcinikojcfebaa
theorem fnExactSaverOk_said : Rows.FnExactSaverOkSaid := Dm.f14_said
end Go.Proofs.Ytjcinikojcfebaa
namespace Go.Proofs.Ytjcinikojcfebaa.Dm
end Go.Proofs.Ytjcinikojcfebaa.Dm
