/- Functions of the program, and what they compute. -/
import Derived.Test.YtjcinikojcfebaaA15
import Derived.Test.YtjcinikojcfebaaFacts
import Derived.Test.YtjcinikojcfebaaRows
import Derived.ChangeCalls
namespace Go.Proofs.Ytjcinikojcfebaa.Dm
open Go Go.ChangeShapes Go.WideShapes Go.ChangeAt Go.RowKit

def f23_tree (a0 : List (List UInt8)) : Out (((Bool × Unit) × Unit) × (Unit × Unit)) :=
 .ite (decide ((szStrsV a0 (1048576 : Int)) < (0 : Int)))
 (.ret (((true, ()), ()), ((), ())))
 (.get (toStrsV a0) fun y1 =>
 .get (toStrsV a0) fun y2 =>
 .ite ((!(eqFilesV (mountV y2).1 (mountV y1).1)) == false)
 (.ite ((!(eqWritesV (mountV y2).2.1 (mountV y1).2.1)) == false)
 (.ite ((((mountV y2).2.2.1 != (mountV y1).2.2.1)) == false)
 (.ite (!((mountV y2).2.2.2 == (mountV y1).2.2.2))
 (.ret (((false, ()), ()), ((), ())))
 (.get (toStrsV a0) fun y3 =>
 .ite (!(eqStrsV y2 y3))
 (.ret (((false, ()), ()), ((), ())))
 (.ite ((decide ((markStringSV y2 (1 : Int)).1 < (0 : Int))) == false)
 (.ite ((!(eqFilesV (mountV y2).1 (mountV y1).1)) == false)
 (.ite ((!(eqWritesV (mountV y2).2.1 (mountV y1).2.1)) == false)
 (.ite ((((mountV y2).2.2.1 != (mountV y1).2.2.1)) == false)
 (.ite (!((mountV y2).2.2.2 == (mountV y1).2.2.2))
 (.ret (((false, ()), ()), ((), ())))
 (.ite (decide ((heldFileSV (markFileSV (mountV y2).1 (1 : Int)).2 (1 : Int)) < (0 : Int)))
 (.ret (((false, ()), ()), ((), ())))
 (.ite (decide ((heldWriteSV (markWriteSV (mountV y2).2.1 (markFileSV (mountV y2).1 (1 : Int)).1).2 (heldFileSV (markFileSV (mountV y2).1 (1 : Int)).2 (1 : Int))) < (0 : Int)))
 (.ret (((false, ()), ()), ((), ())))
 (.ite (((heldWriteSV (markWriteSV (mountV y2).2.1 (markFileSV (mountV y2).1 (1 : Int)).1).2 (heldFileSV (markFileSV (mountV y2).1 (1 : Int)).2 (1 : Int))) != (markWriteSV (mountV y2).2.1 (markFileSV (mountV y2).1 (1 : Int)).1).1))
 (.ret (((false, ()), ()), ((), ())))
 (.get (toStrsV a0) fun y4 =>
 .ite ((!(eqFilesV (mountV y4).1 (mountV y1).1)) == false)
 (.ite ((!(eqWritesV (mountV y4).2.1 (mountV y1).2.1)) == false)
 (.ite ((((mountV y4).2.2.1 != (mountV y1).2.2.1)) == false)
 (.ite (!((mountV y4).2.2.2 == (mountV y1).2.2.2))
 (.ret (((false, ()), ()), ((), ())))
 (.ite (decide ((heldFileSV (markFileSV (mountV y2).1 (1 : Int)).2 (1 : Int)) < (0 : Int)))
 (.ret (((false, ()), ()), ((), ())))
 (.ite (decide ((heldWriteSV (markWriteSV (mountV y2).2.1 (markFileSV (mountV y2).1 (1 : Int)).1).2 (heldFileSV (markFileSV (mountV y2).1 (1 : Int)).2 (1 : Int))) < (0 : Int)))
 (.ret (((false, ()), ()), ((), ())))
 (.ite (((heldWriteSV (markWriteSV (mountV y2).2.1 (markFileSV (mountV y2).1 (1 : Int)).1).2 (heldFileSV (markFileSV (mountV y2).1 (1 : Int)).2 (1 : Int))) != (markWriteSV (mountV y2).2.1 (markFileSV (mountV y2).1 (1 : Int)).1).1))
 (.ret (((false, ()), ()), ((), ())))
 (.ret (((true, ()), ()), ((), ())))))))
 (.ret (((false, ()), ()), ((), ()))))
 (.ret (((false, ()), ()), ((), ()))))
 (.ret (((false, ()), ()), ((), ()))))))))
 (.ret (((false, ()), ()), ((), ()))))
 (.ret (((false, ()), ()), ((), ()))))
 (.ret (((false, ()), ()), ((), ()))))
 (.ret (((false, ()), ()), ((), ()))))))
 (.ret (((false, ()), ()), ((), ()))))
 (.ret (((false, ()), ()), ((), ()))))
 (.ret (((false, ()), ()), ((), ()))))
def true1l (_ : List Str) : Bool := true
def k23 : Con := { f := 23, lend := true, its := [⟨false, false, [.ro .str]⟩], lay := [none], rs := [⟨false, false, [.b]⟩], F := fun x => .ret ((((true1l x.1.1), ()), ()), ((), ())) }
theorem f23_eq (x : itemsD k23.its) : bodyOut (cxOf [k85, k87, k112, k111, k60, k68, k59, k62, k61, k69, k89, k113]) (fun _ => none) (codeOf Try.f23) k23.its k23.lay Try.f23.ntmps k23.rs [.tmp 2] x = f23_tree x.1.1 := by kernel_rfl
theorem f23_ok (hr : ∀ x : (List (List UInt8) × Unit) × Unit, itemsWF k23.its x → (f23_tree x.1.1).eval = (k23.F x).eval) : k23.Ok Try.prog :=
  con_fn [k85, k87, k112, k111, k60, k68, k59, k62, k61, k69, k89, k113] ⟨k85_ok, k87_ok, k112_ok, k111_ok, k60_ok, k68_ok, k59_ok, k62_ok, k61_ok, k69_ok, k89_ok, k113_ok, trivial⟩ (by kernel_rfl) (codeOf_eq (by kernel_rfl)) (by kernel_rfl) (by kernel_rfl) (by kernel_rfl) f23_eq fun x hw _ hy => (hr x hw).trans hy
theorem mem_big {α : Type} {p : α → Prop} {a : List α} (h : ∀ (i : Nat) (y : α), a[i]? = some y → p y) : ∀ x ∈ a, p x := fun x hx => by
  obtain ⟨i, hi⟩ := List.getElem?_of_mem hx
  exact h i x hi
theorem k23_ok : k23.Ok Try.prog := by
  refine f23_ok fun x hw => ?_
  obtain ⟨⟨a, _⟩, _⟩ := x
  have ha : a.length ≤ BIG := hw.1.1.1
  have ha' : ∀ x ∈ a, x.length ≤ BIG := mem_big hw.1.1.2
  show (f23_tree a).eval = some (((true, ()), ()), ((), ()))
  unfold f23_tree
  by_cases h1 : szStrsV a 1048576 < 0
  · rw [eval_ite_t (decide_eq_true h1)]; rfl
  rw [eval_ite_f (decide_eq_false h1)]
  have s1 := szList_le (m := 1048576) (by decide) (by decide) (by decide) ha (fun x hx l hl1 hl2 => lessV_bound (by decide) hl1 hl2 (ha' x hx)) h1
  have t1 : toStrsV a = some a := lim_some (by rw [LIM_eq]; omega)
  have k : ¬ (markStringSV a 1).1 < 0 := up_nonneg (n := a.length) (by unfold BIG; omega)
  have hcnt := mountV_cnt a
  generalize hR : mountV a = r at hcnt
  obtain ⟨f, o, q, ok⟩ := r
  dsimp only at hcnt
  have m1 : heldFileSV (markFileSV f 1).2 1 = (markFileSV f 1).1 := by
    have := held_markFiles (a := f) (m := 0) (by unfold BIG; omega)
    rw [markFileSV_up]
    rw [Nat.zero_add] at this
    exact this
  have m2 : ¬ (markFileSV f 1).1 < 0 := by rw [markFileSV_up]; exact up_nonneg (by unfold BIG; omega)
  have m3 := held_markWrites o (markFileSV f 1).1
  have m4 : ¬ (markWriteSV o (markFileSV f 1).1).1 < 0 := by
    show ¬ up (markFileSV f 1).1 (2 * o.length) < 0
    rw [markFileSV_up, up_add]
    exact up_nonneg (by unfold BIG; omega)
  have e1 : ∀ l : List FileD, eqFilesV l l = true := fun l => decide_eq_true rfl
  have e2 : ∀ l : List Str, eqStrsV l l = true := fun l => decide_eq_true rfl
  simp [Out.eval, t1, hR, e1, e2, eqWritesV_self, m1, m2, m3, m4, k]

theorem f23_own : ownKnob Try.prog.godebug = none := by kernel_rfl
set_option maxRecDepth 100000 in
theorem f23_contract (H : Type) (enc : TypeId × Value → H) (W : World) (base : Nat) (args : Array Value) (ds gs : List (DataW H)) (before : List MemPlace)
    (hval : ∀ (j : Nat) t v, Try.f23.params[j]? = some t → args[j]? = some v → Value.okWide Try.prog W .any base t v)
    (hW : DataW.Whole enc Try.prog Try.f23.params.toList Rows.fnExactMountSpec.vars false W args.toList ds gs before) :
    Calls Try.prog 23 args W fun e W' => ∃ v, e = .returned v ∧ Rows.fnExactMountSpec.post enc Try.prog Try.f23 false true false false W args v W' := by
  have hW' := hW
  obtain ⟨p, q, hA0, hV, rfl, _, _⟩ := hW
  have hA : DataW.TrodAll enc Try.prog W 0 (fun _ => true) true [22] args.toList ds p := hA0
  have hlt := hW'.lt
  obtain ⟨rfl, rfl⟩ := trodVars_none hV
  simp only [List.append_nil] at hW' hlt
  have hlen : ds.length = 1 := (trodAll_length hA).2
  obtain ⟨d0, e0⟩ := List.length_eq_one_iff.1 hlen
  subst e0
  have hu : Try.prog.underlying 4 = some .bool := by kernel_rfl
  refine (law_calls (ts := [(.sl .str)]) (tids := [22]) (f := 23) (lend := k23.lend) (F := k23.F) k23_ok (parsB_ok (by kernel_rfl)) (fun x hw => ?_) (b0 := base) (fun j t v ht hv => hval j t v ?_ hv) hA).mono fun e W' ⟨he, hg, hs⟩ => ?_
  · exact ⟨_, rfl⟩
  · rw [← ht, Try.params23]; first | rfl | simp
  · subst he
    exact ⟨_, rfl, post_of_same (pa := p) (pv := []) hW' (fun _ _ _ => trodAll_mk1 (shut_bool hu true)) (fun sp hsp => trodAll_stays (by kernel_rfl) hs (by kernel_rfl) hA hlt hsp) (fun _ _ => rfl) (by simp) (hg.frame _) hg.2.1 (ok_one (by kernel_rfl) rfl (okWide_bool_mk hu true))⟩
set_option maxRecDepth 100000 in
theorem f23_lifted (os : Os) (started : os.Started) (H : Type) (enc : TypeId × Value → H) :
    ReturnsInHanded {} Try.checked os 23 .any (Rows.fnExactMountSpec.pre6 enc Try.prog Try.f23 Rows.fnExactMountRow.domain false) (Rows.fnExactMountSpec.post enc Try.prog Try.f23 false true false false) := by
  refine returnsInHanded_of_change (C := Try.checked) f23_own started (by kernel_rfl) Try.func23
    (ChangeSpec.witness6 (enc := enc) (C := Try.checked) false ⟨#[], #[.slice none 0 0], []⟩ 8 (by kernel_rfl) (by kernel_rfl) (by kernel_rfl) (by kernel_rfl)) ?_
  intro W base args ds gs before hval hW _ _
  exact f23_contract H enc W base args ds gs before hval hW
theorem f23_closed : joinedFacts Try.prog 23 Try.f23 Rows.fnExactMountSpec Rows.fnExactMountRow = true := by
  unfold joinedFacts
  rw [mayEnter_ok, lifts_ok, make_ok]
  kernel_rfl
theorem f23_said : Rows.FnExactMountSaid :=
  OpenClaim.holds_of_wide 23 Try.f23 rfl rfl rfl rfl rfl rfl rfl ⟨rfl, rfl, rfl, rfl, rfl⟩ rfl rfl rfl rfl rfl (by kernel_rfl) Try.func23 f23_closed
    (of_decide_eq_true (by kernel_rfl)) (by unfold Func.isWrapper; first | (rw [if_pos (by decide +kernel)]; kernel_rfl) | (rw [if_neg (by decide +kernel)]; exact ⟨rfl, rfl⟩))
    (fun os started H enc _ => f23_lifted os started H enc)
end Go.Proofs.Ytjcinikojcfebaa.Dm
namespace Go.Proofs.Ytjcinikojcfebaa
theorem fnExactMount_said : Rows.FnExactMountSaid := Dm.f23_said
end Go.Proofs.Ytjcinikojcfebaa
namespace Go.Proofs.Ytjcinikojcfebaa.Dm
end Go.Proofs.Ytjcinikojcfebaa.Dm
