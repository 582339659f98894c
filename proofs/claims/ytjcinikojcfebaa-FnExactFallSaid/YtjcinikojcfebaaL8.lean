/- Functions of the program, and what they compute. -/
import Derived.Test.YtjcinikojcfebaaA6
import Derived.Test.YtjcinikojcfebaaFacts
import Derived.Test.YtjcinikojcfebaaRows
import Derived.ChangeCalls
namespace Go.Proofs.Ytjcinikojcfebaa.Dm
open Go Go.ChangeShapes Go.WideShapes Go.ChangeAt Go.RowKit

def f12_tree (a0 : List (List UInt8)) (a1 : List (((Int) × ((List UInt8) × Unit)))) (a2 : Int) : Out ((((Bool) × Unit) × Unit) × ((Unit) × (Unit) × Unit)) :=
 Out.ite ((decide ((szDiskV a0 a1 (1048576 : Int)) < (0 : Int))))
 (Out.ret (((true, ()), ()), ((), ((), ()))))
 (Out.get (toDiskV a0 a1) fun (y1 : (List (List UInt8)) × (List (((Int) × ((List UInt8) × Unit))))) =>
 Out.get (fallV y1.1 y1.2 a2) fun (y2 : (List (List UInt8)) × (List (((Int) × ((List UInt8) × Unit))))) =>
 Out.get (toDiskV a0 a1) fun (y3 : (List (List UInt8)) × (List (((Int) × ((List UInt8) × Unit))))) =>
 Out.get (fallV y3.1 y3.2 a2) fun (y4 : (List (List UInt8)) × (List (((Int) × ((List UInt8) × Unit))))) =>
 Out.ite ((!(eqDiskV y4.1 y4.2 y2.1 y2.2)))
 (Out.ret (((false, ()), ()), ((), ((), ()))))
 (Out.get (toDiskV a0 a1) fun (y5 : (List (List UInt8)) × (List (((Int) × ((List UInt8) × Unit))))) =>
 Out.ite ((!(eqDiskV y3.1 y3.2 y5.1 y5.2)))
 (Out.ret (((false, ()), ()), ((), ((), ()))))
 (Out.ite ((decide ((markDiskV y3.1 y3.2 (1 : Int)).1 < (0 : Int))) == false)
 (Out.ite ((!(eqDiskV y4.1 y4.2 y2.1 y2.2)))
 (Out.ret (((false, ()), ()), ((), ((), ()))))
 (Out.ite ((decide ((heldDiskV (markDiskV y4.1 y4.2 (1 : Int)).2.1 (markDiskV y4.1 y4.2 (1 : Int)).2.2 (1 : Int)) < (0 : Int))))
 (Out.ret (((false, ()), ()), ((), ((), ()))))
 (Out.ite ((((heldDiskV (markDiskV y4.1 y4.2 (1 : Int)).2.1 (markDiskV y4.1 y4.2 (1 : Int)).2.2 (1 : Int)) != (markDiskV y4.1 y4.2 (1 : Int)).1)))
 (Out.ret (((false, ()), ()), ((), ((), ()))))
 (Out.get (toDiskV a0 a1) fun (y6 : (List (List UInt8)) × (List (((Int) × ((List UInt8) × Unit))))) =>
 Out.get (fallV y6.1 y6.2 a2) fun (y7 : (List (List UInt8)) × (List (((Int) × ((List UInt8) × Unit))))) =>
 Out.ite ((!(eqDiskV y7.1 y7.2 y2.1 y2.2)))
 (Out.ret (((false, ()), ()), ((), ((), ()))))
 (Out.ite ((decide ((heldDiskV (markDiskV y4.1 y4.2 (1 : Int)).2.1 (markDiskV y4.1 y4.2 (1 : Int)).2.2 (1 : Int)) < (0 : Int))))
 (Out.ret (((false, ()), ()), ((), ((), ()))))
 (Out.ite ((((heldDiskV (markDiskV y4.1 y4.2 (1 : Int)).2.1 (markDiskV y4.1 y4.2 (1 : Int)).2.2 (1 : Int)) != (markDiskV y4.1 y4.2 (1 : Int)).1)))
 (Out.ret (((false, ()), ()), ((), ((), ()))))
 (Out.ret (((true, ()), ()), ((), ((), ()))))))))))
 (Out.ret (((false, ()), ()), ((), ((), ())))))))
def f12_A : Nat → Option LoopAnn := fun _ => none
def f12_cx : Cx := cxOf [k36, k38, k71, k47, k28, k29, k30]
theorem f12_eq (x : ((List (List UInt8)) × (List (((Int) × ((List UInt8) × Unit)))) × Unit) × ((Int) × Unit) × Unit) : bodyOut f12_cx f12_A (codeOf Try.f12) [⟨false, true, [.ro .str, .ro (.st (.cons (.int .i64) (.cons .str .nil)))]⟩, ⟨false, false, [.i .i64]⟩] [none, none] 74 [⟨false, false, [.b]⟩] [.tmp 4] x = f12_tree x.1.1 x.1.2.1 x.2.1.1 := by kernel_rfl
def true3i (_ : List Str) (_ : List WriteD) (_ : Int) : Bool := true
def k12 : Con := { f := 12, lend := true, its := [⟨false, true, [.ro .str, .ro (.st (.cons (.int .i64) (.cons .str .nil)))]⟩, ⟨false, false, [.i .i64]⟩], lay := [none, none], rs := [⟨false, false, [.b]⟩], F := fun x => .ret ((((true3i x.1.1 x.1.2.1 x.2.1.1), ()), ()), ((), ((), ()))) }
theorem f12_okp (h0 : k36.Ok Try.prog) (h1 : k38.Ok Try.prog) (h2 : k71.Ok Try.prog) (h3 : k47.Ok Try.prog) (h4 : k28.Ok Try.prog) (h5 : k29.Ok Try.prog) (h6 : k30.Ok Try.prog) (hr : ∀ x : ((List (List UInt8)) × (List (((Int) × ((List UInt8) × Unit)))) × Unit) × ((Int) × Unit) × Unit, itemsWF k12.its x → ∀ y, (k12.F x).eval = some y → (f12_tree x.1.1 x.1.2.1 x.2.1.1).eval = some y) : k12.Ok Try.prog := by
  refine con_ok (A := f12_A) (code := codeOf Try.f12) (fn := Try.f12) (rtm := [.tmp 4]) [k36, k38, k71, k47, k28, k29, k30] ?_ ?_
  · intro K hK
    simp only [List.mem_cons, List.not_mem_nil, or_false] at hK
    rcases hK with rfl | rfl | rfl | rfl | rfl | rfl | rfl
    · exact h0
    · exact h1
    · exact h2
    · exact h3
    · exact h4
    · exact h5
    · exact h6
  · exact ⟨by kernel_rfl, codeOf_eq (by kernel_rfl), by kernel_rfl, by kernel_rfl, by decide, by decide, by decide, fun x y hw hy => (congrArg Out.eval (f12_eq x)).trans (hr x hw y hy)⟩
theorem f12_ok (h0 : k36.Ok Try.prog) (h1 : k38.Ok Try.prog) (h2 : k71.Ok Try.prog) (h3 : k47.Ok Try.prog) (h4 : k28.Ok Try.prog) (h5 : k29.Ok Try.prog) (h6 : k30.Ok Try.prog) (hr : ∀ x : ((List (List UInt8)) × (List (((Int) × ((List UInt8) × Unit)))) × Unit) × ((Int) × Unit) × Unit, itemsWF k12.its x → (f12_tree x.1.1 x.1.2.1 x.2.1.1).eval = (k12.F x).eval) : k12.Ok Try.prog := f12_okp h0 h1 h2 h3 h4 h5 h6 fun x hw _ hy => (hr x hw).trans hy
theorem mem_big {α : Type} {p : α → Prop} {a : List α} (h : ∀ (i : Nat) (y : α), a[i]? = some y → p y) : ∀ x ∈ a, p x := fun x hx => by
  obtain ⟨i, hi⟩ := List.getElem?_of_mem hx
  exact h i x hi
theorem k12_ok : k12.Ok Try.prog := by
  refine f12_ok k36_ok k38_ok k71_ok k47_ok k28_ok k29_ok k30_ok fun x hw => ?_
  obtain ⟨⟨a, b, _⟩, ⟨m, _⟩, _⟩ := x
  have ha : a.length ≤ BIG := hw.1.1.1
  have ha' : ∀ x ∈ a, x.length ≤ BIG := mem_big hw.1.1.2
  have hb : b.length ≤ BIG := hw.1.2.1.1
  have hb' : ∀ x ∈ b, x.2.1.length ≤ BIG := mem_big fun i y hy => (hw.1.2.1.2 i y hy).2.1
  show (f12_tree a b m).eval = some (((true, ()), ()), ((), ((), ())))
  unfold f12_tree
  by_cases h1 : szDiskV a b 1048576 < 0
  · rw [eval_ite_t (decide_eq_true h1)]; rfl
  · have s1 := szDisk_le ha ha' hb hb' (by omega) (by omega) h1
    have hL : (1048576 : Nat) ≤ LIM := by decide
    have t1 : toDiskV a b = some (a, b) := toDiskV_t (by omega) (by omega)
    obtain ⟨r, t2, hr⟩ := fallV_some a b m
    have m1 := marks_disk (a := r) (b := []) (by simp; omega)
    have m2 := (marks_disk (a := a) (b := b) (by omega)).1
    simp [Out.eval, h1, t1, t2, eqDiskV_self, m1, m2]

theorem f12_own : ownKnob Try.prog.godebug = none := by kernel_rfl
set_option maxRecDepth 100000 in
theorem f12_contract (H : Type) (enc : TypeId × Value → H) (W : World) (base : Nat) (args : Array Value) (ds gs : List (DataW H)) (before : List MemPlace)
    (hval : ∀ (j : Nat) t v, Try.f12.params[j]? = some t → args[j]? = some v → Value.okWide Try.prog W .any base t v)
    (hW : DataW.Whole enc Try.prog Try.f12.params.toList Rows.fnExactFallSpec.vars false W args.toList ds gs before) :
    Calls Try.prog 12 args W fun e W' => ∃ v, e = .returned v ∧ Rows.fnExactFallSpec.post enc Try.prog Try.f12 false true false false W args v W' := by
  have hW' := hW
  obtain ⟨p, q, hA0, hV, rfl, _, _⟩ := hW
  have hA : DataW.TrodAll enc Try.prog W 0 (fun _ => true) true [44, 3] args.toList ds p := hA0
  have hlt := hW'.lt
  obtain ⟨rfl, rfl⟩ := trodVars_none hV
  simp only [List.append_nil] at hW' hlt
  have hlen : ds.length = 2 := (trodAll_length hA).2
  rcases ds with _ | ⟨d0, _ | ⟨d1, _ | ⟨d2, dr⟩⟩⟩ <;> first | (simp at hlen; done) | skip
  have hu : Try.prog.underlying 4 = some .bool := by kernel_rfl
  refine (law_calls (ts := [(.st (.cons (.sl .str) (.cons (.sl (.st (.cons (.int .i64) (.cons .str .nil)))) .nil))), (.int .i64)]) (tids := [44, 3]) (f := 12) (lend := k12.lend) (F := k12.F) k12_ok (parsB_ok (by kernel_rfl)) (fun x hw => ?_) (b0 := base) (fun j t v ht hv => hval j t v ?_ hv) hA).mono fun e W' ⟨he, hg, hs⟩ => ?_
  · exact ⟨_, rfl⟩
  · rw [← ht, Try.params12]; first | rfl | simp
  · subst he
    exact ⟨_, rfl, post_of_same (pa := p) (pv := []) hW' (fun _ _ _ => trodAll_mk1 (shut_bool hu true)) (fun sp hsp => trodAll_stays (by kernel_rfl) hs (by kernel_rfl) hA hlt hsp) (fun _ _ => rfl) (by simp) (hg.frame _) hg.2.1 (ok_one (by kernel_rfl) rfl (okWide_bool_mk hu true))⟩
set_option maxRecDepth 100000 in
theorem f12_lifted (os : Os) (started : os.Started) (H : Type) (enc : TypeId × Value → H) :
    ReturnsInHanded {} Try.checked os 12 .any (Rows.fnExactFallSpec.pre6 enc Try.prog Try.f12 Rows.fnExactFallRow.domain false) (Rows.fnExactFallSpec.post enc Try.prog Try.f12 false true false false) := by
  refine returnsInHanded_of_change (C := Try.checked) f12_own started (by kernel_rfl) Try.func12
    (ChangeSpec.witness6 (enc := enc) (C := Try.checked) false ⟨#[], #[.agg #[.slice none 0 0, .slice none 0 0], .int .i64 0], []⟩ 8 (by kernel_rfl) (by kernel_rfl) (by kernel_rfl) (by kernel_rfl)) ?_
  intro W base args ds gs before hval hW _ _
  exact f12_contract H enc W base args ds gs before hval hW
theorem f12_closed : joinedFacts Try.prog 12 Try.f12 Rows.fnExactFallSpec Rows.fnExactFallRow = true := by
  unfold joinedFacts
  rw [mayEnter_ok, lifts_ok, make_ok]
  kernel_rfl
theorem f12_said : Rows.FnExactFallSaid :=
  OpenClaim.holds_of_wide 12 Try.f12 rfl rfl rfl rfl rfl rfl rfl ⟨rfl, rfl, rfl, rfl, rfl⟩ rfl rfl rfl rfl rfl (by kernel_rfl) Try.func12 f12_closed
    (of_decide_eq_true (by kernel_rfl)) (by unfold Func.isWrapper; first | (rw [if_pos (by decide +kernel)]; kernel_rfl) | (rw [if_neg (by decide +kernel)]; exact ⟨rfl, rfl⟩))
    (fun os started H enc _ => f12_lifted os started H enc)
end Go.Proofs.Ytjcinikojcfebaa.Dm
namespace Go.Proofs.Ytjcinikojcfebaa
theorem fnExactFall_said : Rows.FnExactFallSaid := Dm.f12_said
end Go.Proofs.Ytjcinikojcfebaa
namespace Go.Proofs.Ytjcinikojcfebaa.Dm
end Go.Proofs.Ytjcinikojcfebaa.Dm
