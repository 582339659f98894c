/- Functions of the program, and what they compute. -/
import Derived.Test.YtjcinikojcfebaaA6
import Derived.Test.YtjcinikojcfebaaFacts
import Derived.Test.YtjcinikojcfebaaRows
import Derived.ChangeCalls
namespace Go.Proofs.Ytjcinikojcfebaa.Dm
open Go Go.ChangeShapes Go.WideShapes Go.ChangeAt Go.RowKit

def f10_tree (a0 : List (List UInt8)) (a1 : List (((Int) × ((List UInt8) × Unit)))) (a2 : List (((Int) × ((List UInt8) × Unit)))) : Out ((((Bool) × Unit) × Unit) × ((Unit) × (Unit) × Unit)) :=
 Out.ite ((decide ((szDiskV a0 a1 (1048576 : Int)) < (0 : Int))))
 (Out.ret (((true, ()), ()), ((), ((), ()))))
 (Out.ite ((decide ((szWritesV a2 (szDiskV a0 a1 (1048576 : Int))) < (0 : Int))))
 (Out.ret (((true, ()), ()), ((), ((), ()))))
 (Out.get (toDiskV a0 a1) fun (y1 : (List (List UInt8)) × (List (((Int) × ((List UInt8) × Unit))))) =>
 Out.get (toWritesV a2) fun (y2 : (List (((Int) × ((List UInt8) × Unit))))) =>
 Out.get (putV y1.1 y1.2 y2) fun (y3 : (List (List UInt8)) × (List (((Int) × ((List UInt8) × Unit)))) × (Bool)) =>
 Out.get (toDiskV a0 a1) fun (y4 : (List (List UInt8)) × (List (((Int) × ((List UInt8) × Unit))))) =>
 Out.get (toWritesV a2) fun (y5 : (List (((Int) × ((List UInt8) × Unit))))) =>
 Out.get (putV y4.1 y4.2 y5) fun (y6 : (List (List UInt8)) × (List (((Int) × ((List UInt8) × Unit)))) × (Bool)) =>
 Out.ite ((!(eqDiskV y6.1 y6.2.1 y3.1 y3.2.1)) == false)
 (Out.ite ((!(y6.2.2 == y3.2.2)))
 (Out.ret (((false, ()), ()), ((), ((), ()))))
 (Out.get (toDiskV a0 a1) fun (y7 : (List (List UInt8)) × (List (((Int) × ((List UInt8) × Unit))))) =>
 Out.ite ((!(eqDiskV y4.1 y4.2 y7.1 y7.2)))
 (Out.ret (((false, ()), ()), ((), ((), ()))))
 (Out.get (toWritesV a2) fun (y8 : (List (((Int) × ((List UInt8) × Unit))))) =>
 Out.ite ((!(eqWritesV y5 y8)))
 (Out.ret (((false, ()), ()), ((), ((), ()))))
 (Out.ite ((decide ((markWriteSV y5 (markDiskV y4.1 y4.2 (1 : Int)).1).1 < (0 : Int))) == false)
 (Out.ite ((!(eqDiskV y6.1 y6.2.1 y3.1 y3.2.1)) == false)
 (Out.ite ((!(y6.2.2 == y3.2.2)))
 (Out.ret (((false, ()), ()), ((), ((), ()))))
 (Out.ite ((decide ((heldDiskV (markDiskV y6.1 y6.2.1 (1 : Int)).2.1 (markDiskV y6.1 y6.2.1 (1 : Int)).2.2 (1 : Int)) < (0 : Int))))
 (Out.ret (((false, ()), ()), ((), ((), ()))))
 (Out.ite ((((heldDiskV (markDiskV y6.1 y6.2.1 (1 : Int)).2.1 (markDiskV y6.1 y6.2.1 (1 : Int)).2.2 (1 : Int)) != (markDiskV y6.1 y6.2.1 (1 : Int)).1)))
 (Out.ret (((false, ()), ()), ((), ((), ()))))
 (Out.get (toDiskV a0 a1) fun (y9 : (List (List UInt8)) × (List (((Int) × ((List UInt8) × Unit))))) =>
 Out.get (toWritesV a2) fun (y10 : (List (((Int) × ((List UInt8) × Unit))))) =>
 Out.get (putV y9.1 y9.2 y10) fun (y11 : (List (List UInt8)) × (List (((Int) × ((List UInt8) × Unit)))) × (Bool)) =>
 Out.ite ((!(eqDiskV y11.1 y11.2.1 y3.1 y3.2.1)) == false)
 (Out.ite ((!(y11.2.2 == y3.2.2)))
 (Out.ret (((false, ()), ()), ((), ((), ()))))
 (Out.ite ((decide ((heldDiskV (markDiskV y6.1 y6.2.1 (1 : Int)).2.1 (markDiskV y6.1 y6.2.1 (1 : Int)).2.2 (1 : Int)) < (0 : Int))))
 (Out.ret (((false, ()), ()), ((), ((), ()))))
 (Out.ite ((((heldDiskV (markDiskV y6.1 y6.2.1 (1 : Int)).2.1 (markDiskV y6.1 y6.2.1 (1 : Int)).2.2 (1 : Int)) != (markDiskV y6.1 y6.2.1 (1 : Int)).1)))
 (Out.ret (((false, ()), ()), ((), ((), ()))))
 (Out.ret (((true, ()), ()), ((), ((), ())))))))
 (Out.ret (((false, ()), ()), ((), ((), ()))))))))
 (Out.ret (((false, ()), ()), ((), ((), ())))))
 (Out.ret (((false, ()), ()), ((), ((), ()))))))))
 (Out.ret (((false, ()), ()), ((), ((), ()))))))
def f10_A : Nat → Option LoopAnn := fun _ => none
def f10_cx : Cx := cxOf [k36, k64, k38, k66, k65, k67, k28, k68, k29, k69, k30]
theorem f10_eq (x : ((List (List UInt8)) × (List (((Int) × ((List UInt8) × Unit)))) × Unit) × ((List (((Int) × ((List UInt8) × Unit)))) × Unit) × Unit) : bodyOut f10_cx f10_A (codeOf Try.f10) [⟨false, true, [.ro .str, .ro (.st (.cons (.int .i64) (.cons .str .nil)))]⟩, ⟨false, false, [.ro (.st (.cons (.int .i64) (.cons .str .nil)))]⟩] [none, none] 119 [⟨false, false, [.b]⟩] [.tmp 4] x = f10_tree x.1.1 x.1.2.1 x.2.1.1 := by kernel_rfl
def true3 (_ : List Str) (_ : List WriteD) (_ : List WriteD) : Bool := true
def k10 : Con := { f := 10, lend := true, its := [⟨false, true, [.ro .str, .ro (.st (.cons (.int .i64) (.cons .str .nil)))]⟩, ⟨false, false, [.ro (.st (.cons (.int .i64) (.cons .str .nil)))]⟩], lay := [none, none], rs := [⟨false, false, [.b]⟩], F := fun x => .ret ((((true3 x.1.1 x.1.2.1 x.2.1.1), ()), ()), ((), ((), ()))) }
theorem f10_okp (h0 : k36.Ok Try.prog) (h1 : k64.Ok Try.prog) (h2 : k38.Ok Try.prog) (h3 : k66.Ok Try.prog) (h4 : k65.Ok Try.prog) (h5 : k67.Ok Try.prog) (h6 : k28.Ok Try.prog) (h7 : k68.Ok Try.prog) (h8 : k29.Ok Try.prog) (h9 : k69.Ok Try.prog) (h10 : k30.Ok Try.prog) (hr : ∀ x : ((List (List UInt8)) × (List (((Int) × ((List UInt8) × Unit)))) × Unit) × ((List (((Int) × ((List UInt8) × Unit)))) × Unit) × Unit, itemsWF k10.its x → ∀ y, (k10.F x).eval = some y → (f10_tree x.1.1 x.1.2.1 x.2.1.1).eval = some y) : k10.Ok Try.prog := by
  refine con_ok (A := f10_A) (code := codeOf Try.f10) (fn := Try.f10) (rtm := [.tmp 4]) [k36, k64, k38, k66, k65, k67, k28, k68, k29, k69, k30] ?_ ?_
  · intro K hK
    simp only [List.mem_cons, List.not_mem_nil, or_false] at hK
    rcases hK with rfl | rfl | rfl | rfl | rfl | rfl | rfl | rfl | rfl | rfl | rfl
    · exact h0
    · exact h1
    · exact h2
    · exact h3
    · exact h4
    · exact h5
    · exact h6
    · exact h7
    · exact h8
    · exact h9
    · exact h10
  · exact ⟨by kernel_rfl, codeOf_eq (by kernel_rfl), by kernel_rfl, by kernel_rfl, by decide, by decide, by decide, fun x y hw hy => (congrArg Out.eval (f10_eq x)).trans (hr x hw y hy)⟩
theorem f10_ok (h0 : k36.Ok Try.prog) (h1 : k64.Ok Try.prog) (h2 : k38.Ok Try.prog) (h3 : k66.Ok Try.prog) (h4 : k65.Ok Try.prog) (h5 : k67.Ok Try.prog) (h6 : k28.Ok Try.prog) (h7 : k68.Ok Try.prog) (h8 : k29.Ok Try.prog) (h9 : k69.Ok Try.prog) (h10 : k30.Ok Try.prog) (hr : ∀ x : ((List (List UInt8)) × (List (((Int) × ((List UInt8) × Unit)))) × Unit) × ((List (((Int) × ((List UInt8) × Unit)))) × Unit) × Unit, itemsWF k10.its x → (f10_tree x.1.1 x.1.2.1 x.2.1.1).eval = (k10.F x).eval) : k10.Ok Try.prog := f10_okp h0 h1 h2 h3 h4 h5 h6 h7 h8 h9 h10 fun x hw _ hy => (hr x hw).trans hy
theorem mem_big {α : Type} {p : α → Prop} {a : List α} (h : ∀ (i : Nat) (y : α), a[i]? = some y → p y) : ∀ x ∈ a, p x := fun x hx => by
  obtain ⟨i, hi⟩ := List.getElem?_of_mem hx
  exact h i x hi
theorem k10_ok : k10.Ok Try.prog := by
  refine f10_ok k36_ok k64_ok k38_ok k66_ok k65_ok k67_ok k28_ok k68_ok k29_ok k69_ok k30_ok fun x hw => ?_
  obtain ⟨⟨a, b, _⟩, ⟨l, _⟩, _⟩ := x
  have ha : a.length ≤ BIG := hw.1.1.1
  have ha' : ∀ x ∈ a, x.length ≤ BIG := mem_big hw.1.1.2
  have hb : b.length ≤ BIG := hw.1.2.1.1
  have hb' : ∀ x ∈ b, x.2.1.length ≤ BIG := mem_big fun i y hy => (hw.1.2.1.2 i y hy).2.1
  have hl : l.length ≤ BIG := hw.2.1.1.1
  have hl' : ∀ x ∈ l, x.2.1.length ≤ BIG := mem_big fun i y hy => (hw.2.1.1.2 i y hy).2.1
  show (f10_tree a b l).eval = some (((true, ()), ()), ((), ((), ())))
  unfold f10_tree
  by_cases h1 : szDiskV a b 1048576 < 0
  · rw [eval_ite_t (decide_eq_true h1)]; rfl
  rw [eval_ite_f (decide_eq_false h1)]
  have s1 := szDisk_le ha ha' hb hb' (by omega) (by omega) h1
  by_cases h2 : szWritesV l (szDiskV a b 1048576) < 0
  · rw [eval_ite_t (decide_eq_true h2)]; rfl
  rw [eval_ite_f (decide_eq_false h2)]
  have s2 := szList_le (m := 1048576) (by decide) s1.2.2.1 s1.2.2.2 hl (fun x hx l hl1 hl2 => lessV_bound (by decide) hl1 hl2 (hl' x hx)) h2
  have hL : (1048576 : Nat) ≤ LIM := by decide
  have t1 : toDiskV a b = some (a, b) := toDiskV_t (by omega) (by omega)
  have t3 : toWritesV l = some l := lim_some (by omega)
  obtain ⟨r, s, t, t2, hr, hs⟩ := putV_some (a := a) (b := b) (l := l) (by omega)
  have m1 := marks_disk (a := r) (b := s) (by omega)
  have m2 : ¬ (markWriteSV l (markDiskV a b 1).1).1 < 0 := by
    show ¬ up (markDiskV a b 1).1 (2 * l.length) < 0
    rw [mark_disk_up, up_add]
    exact up_nonneg (by unfold BIG; omega)
  simp [Out.eval, t1, t2, t3, eqDiskV_self, eqWritesV_self, m1, m2]

theorem f10_own : ownKnob Try.prog.godebug = none := by kernel_rfl
set_option maxRecDepth 100000 in
theorem f10_contract (H : Type) (enc : TypeId × Value → H) (W : World) (base : Nat) (args : Array Value) (ds gs : List (DataW H)) (before : List MemPlace)
    (hval : ∀ (j : Nat) t v, Try.f10.params[j]? = some t → args[j]? = some v → Value.okWide Try.prog W .any base t v)
    (hW : DataW.Whole enc Try.prog Try.f10.params.toList Rows.fnExactPutSpec.vars false W args.toList ds gs before) :
    Calls Try.prog 10 args W fun e W' => ∃ v, e = .returned v ∧ Rows.fnExactPutSpec.post enc Try.prog Try.f10 false true false false W args v W' := by
  have hW' := hW
  obtain ⟨p, q, hA0, hV, rfl, _, _⟩ := hW
  have hA : DataW.TrodAll enc Try.prog W 0 (fun _ => true) true [44, 42] args.toList ds p := hA0
  have hlt := hW'.lt
  obtain ⟨rfl, rfl⟩ := trodVars_none hV
  simp only [List.append_nil] at hW' hlt
  have hlen : ds.length = 2 := (trodAll_length hA).2
  rcases ds with _ | ⟨d0, _ | ⟨d1, _ | ⟨d2, dr⟩⟩⟩ <;> first | (simp at hlen; done) | skip
  have hu : Try.prog.underlying 4 = some .bool := by kernel_rfl
  refine (law_calls (ts := [(.st (.cons (.sl .str) (.cons (.sl (.st (.cons (.int .i64) (.cons .str .nil)))) .nil))), (.sl (.st (.cons (.int .i64) (.cons .str .nil))))]) (tids := [44, 42]) (f := 10) (lend := k10.lend) (F := k10.F) k10_ok (parsB_ok (by kernel_rfl)) (fun x hw => ?_) (b0 := base) (fun j t v ht hv => hval j t v ?_ hv) hA).mono fun e W' ⟨he, hg, hs⟩ => ?_
  · exact ⟨_, rfl⟩
  · rw [← ht, Try.params10]; first | rfl | simp
  · subst he
    exact ⟨_, rfl, post_of_same (pa := p) (pv := []) hW' (fun _ _ _ => trodAll_mk1 (shut_bool hu true)) (fun sp hsp => trodAll_stays (by kernel_rfl) hs (by kernel_rfl) hA hlt hsp) (fun _ _ => rfl) (by simp) (hg.frame _) hg.2.1 (ok_one (by kernel_rfl) rfl (okWide_bool_mk hu true))⟩
set_option maxRecDepth 100000 in
theorem f10_lifted (os : Os) (started : os.Started) (H : Type) (enc : TypeId × Value → H) :
    ReturnsInHanded {} Try.checked os 10 .any (Rows.fnExactPutSpec.pre6 enc Try.prog Try.f10 Rows.fnExactPutRow.domain false) (Rows.fnExactPutSpec.post enc Try.prog Try.f10 false true false false) := by
  refine returnsInHanded_of_change (C := Try.checked) f10_own started (by kernel_rfl) Try.func10
    (ChangeSpec.witness6 (enc := enc) (C := Try.checked) false ⟨#[], #[.agg #[.slice none 0 0, .slice none 0 0], .slice none 0 0], []⟩ 8 (by kernel_rfl) (by kernel_rfl) (by kernel_rfl) (by kernel_rfl)) ?_
  intro W base args ds gs before hval hW _ _
  exact f10_contract H enc W base args ds gs before hval hW
theorem f10_closed : joinedFacts Try.prog 10 Try.f10 Rows.fnExactPutSpec Rows.fnExactPutRow = true := by
  unfold joinedFacts
  rw [mayEnter_ok, lifts_ok, make_ok]
  kernel_rfl
theorem f10_said : Rows.FnExactPutSaid :=
  OpenClaim.holds_of_wide 10 Try.f10 rfl rfl rfl rfl rfl rfl rfl ⟨rfl, rfl, rfl, rfl, rfl⟩ rfl rfl rfl rfl rfl (by kernel_rfl) Try.func10 f10_closed
    (of_decide_eq_true (by kernel_rfl)) (by unfold Func.isWrapper; first | (rw [if_pos (by decide +kernel)]; kernel_rfl) | (rw [if_neg (by decide +kernel)]; exact ⟨rfl, rfl⟩))
    (fun os started H enc _ => f10_lifted os started H enc)
end Go.Proofs.Ytjcinikojcfebaa.Dm
namespace Go.Proofs.Ytjcinikojcfebaa
theorem fnExactPut_said : Rows.FnExactPutSaid := Dm.f10_said
end Go.Proofs.Ytjcinikojcfebaa
namespace Go.Proofs.Ytjcinikojcfebaa.Dm


end Go.Proofs.Ytjcinikojcfebaa.Dm
