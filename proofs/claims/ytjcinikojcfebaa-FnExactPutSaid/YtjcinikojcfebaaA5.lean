/- Functions of the program, and what they compute. -/
import Derived.Test.YtjcinikojcfebaaA4
namespace Go.Proofs.Ytjcinikojcfebaa.Dm
open Go Go.ChangeShapes Go.WideShapes Go.ChangeAt Go.RowKit

/-! ## Several numbers -/
def varsV (l : List Int) : Option Str := lim (l.flatMap varV) (l.flatMap varV)
def f135_L0 (x : ((List UInt8) × (List (Int)) × (Int) × (Int) × Unit) × (Unit)) : Out (Round (((List UInt8) × (List (Int)) × (Int) × (Int) × Unit) × (Unit)) (((List UInt8) × Unit) × (Unit)) (Empty)) :=
 Out.ite ((decide (x.1.2.2.2.1 < x.1.2.2.1)))
 (Out.ite (decide (0 ≤ x.1.2.2.2.1))
 (Out.get (nth x.1.2.1 (Int.toNat x.1.2.2.2.1)) fun (y1 : Int) =>
 Out.ite (decide (List.length x.1.1 + List.length (varV y1) ≤ LIM))
 (Out.ret (Round.again (((x.1.1 ++ (varV y1)), (x.1.2.1, (x.1.2.2.1, ((IntKind.i64.wrap (x.1.2.2.2.1 + (1 : Int))), ())))), ())))
 (Out.fail))
 (Out.fail))
 (Out.ret (Round.out ((x.1.1, ()), ())))
def f135_tree (a0 : List (Int)) : Out ((((List UInt8) × Unit) × Unit) × ((Unit) × Unit)) :=
 Out.get (iter1 f135_L0 FUEL ((([] : List UInt8), (a0, (((List.length a0 : Nat) : Int), ((0 : Int), ())))), ())) fun (y1 : ((List UInt8) × Unit) × (Unit)) =>
 Out.ret (((y1.1.1, ()), ()), ((), ()))
def f135_A : Nat → Option LoopAnn := fun n => annOf [(0, { head := { t := [.dead, .dead, .dead, .s, .dead, .dead, .ro (.int .i64) (some 0), .i .i64, .i .i64, .dead, .dead, .dead, .dead, .dead, .dead, .dead, .dead, .dead], v := [] }, out := { t := [.dead, .dead, .dead, .s, .dead, .dead, .dead, .dead, .dead, .dead, .dead, .dead, .dead, .dead, .dead, .dead, .dead, .dead], v := [] }, ret := none })] n
def f135_cx : Cx := cxOf [k200]
theorem f135_eq (x : ((List (Int)) × Unit) × Unit) : bodyOut f135_cx f135_A (codeOf Try.f135) [⟨false, false, [.ro (.int .i64)]⟩] [none] 18 [⟨false, false, [.s]⟩] [.tmp 2] x = f135_tree x.1.1 := by kernel_rfl
def k135 : Con := { f := 135, lend := true, its := [⟨false, false, [.ro (.int .i64)]⟩], lay := [none], rs := [⟨false, false, [.s]⟩], F := fun x => .get (varsV x.1.1) fun y => .ret (((y, ()), ()), ((), ())) }
theorem f135_okp (h0 : k200.Ok Try.prog) (hr : ∀ x : ((List (Int)) × Unit) × Unit, itemsWF k135.its x → ∀ y, (k135.F x).eval = some y → (f135_tree x.1.1).eval = some y) : k135.Ok Try.prog := by
  refine con_ok (A := f135_A) (code := codeOf Try.f135) (fn := Try.f135) (rtm := [.tmp 2]) [k200] ?_ ?_
  · intro K hK
    simp only [List.mem_cons, List.not_mem_nil, or_false] at hK
    rcases hK with rfl
    · exact h0
  · exact ⟨by kernel_rfl, codeOf_eq (by kernel_rfl), by kernel_rfl, by kernel_rfl, by decide, by decide, by decide, fun x y hw hy => (congrArg Out.eval (f135_eq x)).trans (hr x hw y hy)⟩
theorem f135_ok (h0 : k200.Ok Try.prog) (hr : ∀ x : ((List (Int)) × Unit) × Unit, itemsWF k135.its x → (f135_tree x.1.1).eval = (k135.F x).eval) : k135.Ok Try.prog := f135_okp h0 fun x hw _ hy => (hr x hw).trans hy
theorem k135_ok : k135.Ok Try.prog := by
  refine f135_okp k200_ok fun x hw y hy => ?_
  obtain ⟨⟨a, _⟩, _⟩ := x
  have ha : a.length ≤ BIG := hw.1.1.1
  change (Out.get (varsV a) fun y => Out.ret (((y, ()), ()), ((), ()))).eval = some y at hy
  show (f135_tree a).eval = some y
  unfold f135_tree
  unfold varsV at hy
  by_cases hl : (a.flatMap varV).length ≤ LIM
  · rw [lim_some hl] at hy
    refine Eq.trans ?_ hy
    have := flat_loop (f := f135_L0) varV a (fun s i => ((s, (a, (((a.length : Nat) : Int), (((i : Nat) : Int), ())))), ())) (fun s => ((s, ()), ())) LIM
      (fun i hi s hs => by
        have w1 := wrap_succ (i := i) (by omega)
        simp only [f135_L0, Out.eval, lt_t hi, ge0, nth_get hi, Option.bind_some, cond_true, decide_eq_true hs, w1])
      (fun s => by simp [f135_L0, Out.eval]) ha [] (by simpa using hl)
    exact (eval_get_some this).trans rfl
  · rw [lim_not hl] at hy; exact nomatch hy
theorem varsV_two (m n : Int) : varsV [m, n] = some (varV m ++ varV n) := by
  have h : (List.flatMap varV [m, n]) = varV m ++ varV n := by simp
  unfold varsV
  rw [h]
  exact lim_some (by have := varV_len m; have := varV_len n; rw [LIM_eq, List.length_append]; omega)

/-! ## Records of the log -/
def f40_tree (a0 : Int) (a1 : List (((Int) × ((List UInt8) × Unit)))) (a2 : Int) : Out ((((Int) × Unit) × Unit) × ((Unit) × (Unit) × Unit)) :=
 Out.ite ((decide ((szWritesV a1 a2) < (0 : Int))))
 (Out.ret ((((-1 : Int), ()), ()), ((), ((), ()))))
 (Out.ret ((((szWritesV a1 a2), ()), ()), ((), ((), ()))))
def f40_A : Nat → Option LoopAnn := fun _ => none
def f40_cx : Cx := cxOf [k64]
theorem f40_eq (x : ((Int) × (List (((Int) × ((List UInt8) × Unit)))) × Unit) × ((Int) × Unit) × Unit) : bodyOut f40_cx f40_A (codeOf Try.f40) [⟨false, true, [.i .i64, .ro (.st (.cons (.int .i64) (.cons .str .nil)))]⟩, ⟨false, false, [.i .i64]⟩] [none, none] 12 [⟨false, false, [.i .i64]⟩] [.tmp 4] x = f40_tree x.1.1 x.1.2.1 x.2.1.1 := by kernel_rfl
def szTxnV (_q : Int) (a : List WriteD) (left : Int) : Int := thenV (szWritesV a left) (szWritesV a left)
def k40 : Con := { f := 40, lend := true, its := [⟨false, true, [.i .i64, .ro (.st (.cons (.int .i64) (.cons .str .nil)))]⟩, ⟨false, false, [.i .i64]⟩], lay := [none, none], rs := [⟨false, false, [.i .i64]⟩], F := fun x => .ret ((((szTxnV x.1.1 x.1.2.1 x.2.1.1), ()), ()), ((), ((), ()))) }
theorem f40_okp (h0 : k64.Ok Try.prog) (hr : ∀ x : ((Int) × (List (((Int) × ((List UInt8) × Unit)))) × Unit) × ((Int) × Unit) × Unit, itemsWF k40.its x → ∀ y, (k40.F x).eval = some y → (f40_tree x.1.1 x.1.2.1 x.2.1.1).eval = some y) : k40.Ok Try.prog := by
  refine con_ok (A := f40_A) (code := codeOf Try.f40) (fn := Try.f40) (rtm := [.tmp 4]) [k64] ?_ ?_
  · intro K hK
    simp only [List.mem_cons, List.not_mem_nil, or_false] at hK
    rcases hK with rfl
    · exact h0
  · exact ⟨by kernel_rfl, codeOf_eq (by kernel_rfl), by kernel_rfl, by kernel_rfl, by decide, by decide, by decide, fun x y hw hy => (congrArg Out.eval (f40_eq x)).trans (hr x hw y hy)⟩
theorem f40_ok (h0 : k64.Ok Try.prog) (hr : ∀ x : ((Int) × (List (((Int) × ((List UInt8) × Unit)))) × Unit) × ((Int) × Unit) × Unit, itemsWF k40.its x → (f40_tree x.1.1 x.1.2.1 x.2.1.1).eval = (k40.F x).eval) : k40.Ok Try.prog := f40_okp h0 fun x hw _ hy => (hr x hw).trans hy
theorem k40_ok : k40.Ok Try.prog := by
  refine f40_ok k64_ok fun x _ => ?_
  obtain ⟨⟨q, a, _⟩, ⟨k, _⟩, _⟩ := x
  show (f40_tree q a k).eval = some (((szTxnV q a k, ()), ()), ((), ((), ())))
  unfold f40_tree szTxnV thenV
  by_cases h : szWritesV a k < 0 <;> simp [Out.eval, h]
def f42_tree (a0 : Int) (a1 : List (((Int) × ((List UInt8) × Unit)))) : Out ((((Int) × (List (((Int) × ((List UInt8) × Unit)))) × Unit) × Unit) × ((Unit) × Unit)) :=
 Out.get (toWritesV a1) fun (y1 : (List (((Int) × ((List UInt8) × Unit))))) =>
 Out.ret (((a0, (y1, ())), ()), ((), ()))
def f42_A : Nat → Option LoopAnn := fun _ => none
def f42_cx : Cx := cxOf [k66]
theorem f42_eq (x : ((Int) × (List (((Int) × ((List UInt8) × Unit)))) × Unit) × Unit) : bodyOut f42_cx f42_A (codeOf Try.f42) [⟨false, true, [.i .i64, .ro (.st (.cons (.int .i64) (.cons .str .nil)))]⟩] [none] 12 [⟨false, true, [.i .i64, .own (.st (.cons (.int .i64) (.cons .str .nil)))]⟩] [.cell 2 54] x = f42_tree x.1.1 x.1.2.1 := by kernel_rfl
def toTxnV (q : Int) (a : List WriteD) : Option (Int × List WriteD) := lim a (q, a)
def k42 : Con := { f := 42, lend := true, its := [⟨false, true, [.i .i64, .ro (.st (.cons (.int .i64) (.cons .str .nil)))]⟩], lay := [none], rs := [⟨false, true, [.i .i64, .own (.st (.cons (.int .i64) (.cons .str .nil)))]⟩], F := fun x => .get (toTxnV x.1.1 x.1.2.1) fun y => .ret (((y.1, (y.2, ())), ()), ((), ())) }
theorem f42_okp (h0 : k66.Ok Try.prog) (hr : ∀ x : ((Int) × (List (((Int) × ((List UInt8) × Unit)))) × Unit) × Unit, itemsWF k42.its x → ∀ y, (k42.F x).eval = some y → (f42_tree x.1.1 x.1.2.1).eval = some y) : k42.Ok Try.prog := by
  refine con_ok (A := f42_A) (code := codeOf Try.f42) (fn := Try.f42) (rtm := [.cell 2 54]) [k66] ?_ ?_
  · intro K hK
    simp only [List.mem_cons, List.not_mem_nil, or_false] at hK
    rcases hK with rfl
    · exact h0
  · exact ⟨by kernel_rfl, codeOf_eq (by kernel_rfl), by kernel_rfl, by kernel_rfl, by decide, by decide, by decide, fun x y hw hy => (congrArg Out.eval (f42_eq x)).trans (hr x hw y hy)⟩
theorem f42_ok (h0 : k66.Ok Try.prog) (hr : ∀ x : ((Int) × (List (((Int) × ((List UInt8) × Unit)))) × Unit) × Unit, itemsWF k42.its x → (f42_tree x.1.1 x.1.2.1).eval = (k42.F x).eval) : k42.Ok Try.prog := f42_okp h0 fun x hw _ hy => (hr x hw).trans hy
theorem k42_ok : k42.Ok Try.prog := by
  refine f42_ok k66_ok fun x _ => ?_
  obtain ⟨⟨q, a, _⟩, _⟩ := x
  show (f42_tree q a).eval = (Out.get (toTxnV q a) fun y => Out.ret (((y.1, (y.2, ())), ()), ((), ()))).eval
  unfold f42_tree toTxnV toWritesV
  by_cases h : a.length ≤ LIM
  · rw [lim_some h, lim_some h]; rfl
  · rw [lim_not h, lim_not h]; rfl
def f44_tree (a0 : Int) (a1 : List (((Int) × ((List UInt8) × Unit)))) (a2 : Int) (a3 : List (((Int) × ((List UInt8) × Unit)))) : Out ((((Bool) × Unit) × Unit) × ((Unit) × (Unit) × Unit)) :=
 Out.ite (((a0 != a2)))
 (Out.ret (((false, ()), ()), ((), ((), ()))))
 (Out.ite ((!(eqWritesV a1 a3)))
 (Out.ret (((false, ()), ()), ((), ((), ()))))
 (Out.ret (((true, ()), ()), ((), ((), ())))))
def f44_A : Nat → Option LoopAnn := fun _ => none
def f44_cx : Cx := cxOf [k68]
theorem f44_eq (x : ((Int) × (List (((Int) × ((List UInt8) × Unit)))) × Unit) × ((Int) × (List (((Int) × ((List UInt8) × Unit)))) × Unit) × Unit) : bodyOut f44_cx f44_A (codeOf Try.f44) [⟨false, true, [.i .i64, .ro (.st (.cons (.int .i64) (.cons .str .nil)))]⟩, ⟨false, true, [.i .i64, .ro (.st (.cons (.int .i64) (.cons .str .nil)))]⟩] [none, none] 16 [⟨false, false, [.b]⟩] [.tmp 4] x = f44_tree x.1.1 x.1.2.1 x.2.1.1 x.2.1.2.1 := by kernel_rfl
def eqTxnV (q : Int) (a : List WriteD) (r : Int) (b : List WriteD) : Bool := decide (q = r) && eqWritesV a b
def k44 : Con := { f := 44, lend := true, its := [⟨false, true, [.i .i64, .ro (.st (.cons (.int .i64) (.cons .str .nil)))]⟩, ⟨false, true, [.i .i64, .ro (.st (.cons (.int .i64) (.cons .str .nil)))]⟩], lay := [none, none], rs := [⟨false, false, [.b]⟩], F := fun x => .ret ((((eqTxnV x.1.1 x.1.2.1 x.2.1.1 x.2.1.2.1), ()), ()), ((), ((), ()))) }
theorem f44_okp (h0 : k68.Ok Try.prog) (hr : ∀ x : ((Int) × (List (((Int) × ((List UInt8) × Unit)))) × Unit) × ((Int) × (List (((Int) × ((List UInt8) × Unit)))) × Unit) × Unit, itemsWF k44.its x → ∀ y, (k44.F x).eval = some y → (f44_tree x.1.1 x.1.2.1 x.2.1.1 x.2.1.2.1).eval = some y) : k44.Ok Try.prog := by
  refine con_ok (A := f44_A) (code := codeOf Try.f44) (fn := Try.f44) (rtm := [.tmp 4]) [k68] ?_ ?_
  · intro K hK
    simp only [List.mem_cons, List.not_mem_nil, or_false] at hK
    rcases hK with rfl
    · exact h0
  · exact ⟨by kernel_rfl, codeOf_eq (by kernel_rfl), by kernel_rfl, by kernel_rfl, by decide, by decide, by decide, fun x y hw hy => (congrArg Out.eval (f44_eq x)).trans (hr x hw y hy)⟩
theorem f44_ok (h0 : k68.Ok Try.prog) (hr : ∀ x : ((Int) × (List (((Int) × ((List UInt8) × Unit)))) × Unit) × ((Int) × (List (((Int) × ((List UInt8) × Unit)))) × Unit) × Unit, itemsWF k44.its x → (f44_tree x.1.1 x.1.2.1 x.2.1.1 x.2.1.2.1).eval = (k44.F x).eval) : k44.Ok Try.prog := f44_okp h0 fun x hw _ hy => (hr x hw).trans hy
theorem k44_ok : k44.Ok Try.prog := by
  refine f44_ok k68_ok fun x _ => ?_
  obtain ⟨⟨q, a, _⟩, ⟨r, b, _⟩, _⟩ := x
  show (f44_tree q a r b).eval = some (((eqTxnV q a r b, ()), ()), ((), ((), ())))
  unfold f44_tree eqTxnV
  by_cases h : q = r
  · subst h; cases h2 : eqWritesV a b <;> simp [Out.eval]
  · rw [eval_ite_t (by simpa using h), decide_eq_false h]; rfl
/-- Is this one right, and behind the one before? -/
def rowOkV (a : List WriteD) (i : Nat) : Bool := match a[i]? with
  | none => true
  | some x => inV x.1 0 5 && (match i with | 0 => true | j + 1 => match a[j]? with | none => true | some z => decide (z.1 < x.1)) && decide (x.2.1.length ≤ 60)
def outsOkV (a : List WriteD) : Bool := (List.range a.length).all (rowOkV a)
def txnOkV (q : Int) (a : List WriteD) : Bool := inV q 1 1000000 && inV ((a.length : Nat) : Int) 1 6 && outsOkV a
theorem rowOkV_zero {a : List WriteD} (h : 0 < a.length) : rowOkV a 0 = (inV a[0].1 0 5 && decide (a[0].2.1.length ≤ 60)) := by
  unfold rowOkV
  rw [List.getElem?_eq_getElem h]
  simp
theorem rowOkV_succ {a : List WriteD} {i : Nat} (h : i + 1 < a.length) : rowOkV a (i + 1) = (inV a[i + 1].1 0 5 && decide (a[i].1 < a[i + 1].1) && decide (a[i + 1].2.1.length ≤ 60)) := by
  unfold rowOkV
  rw [List.getElem?_eq_getElem h]
  simp only [List.getElem?_eq_getElem (show i < a.length by omega)]
theorem wrap_pred (i : Nat) (h : i < BIG) : IntKind.i64.wrap (((i + 1 : Nat) : Int) - 1) = ((i : Nat) : Int) := by
  rw [wrap_id (by omega) (by unfold BIG at h; omega)]; omega
theorem wrap_one : IntKind.i64.wrap 1 = 1 := by decide
theorem not_ge (x y : Int) : decide (x ≥ y) = !decide (x < y) := by
  rw [Bool.eq_iff_iff]; simp
def f130_L0 (x : ((Int) × Unit) × (((Int) × (List (((Int) × ((List UInt8) × Unit)))) × Unit) × Unit)) : Out (Round (((Int) × Unit) × (((Int) × (List (((Int) × ((List UInt8) × Unit)))) × Unit) × Unit)) ((Unit) × (Unit)) (((Bool) × Unit) × (Unit))) :=
 Out.ite ((decide (x.1.1 < ((List.length x.2.1.2.1 : Nat) : Int))))
 (Out.ite (decide (0 ≤ x.1.1))
 (Out.get (nth x.2.1.2.1 (Int.toNat x.1.1)) fun (y1 : ((Int) × ((List UInt8) × Unit))) =>
 Out.ite ((!(inV y1.1 (0 : Int) (5 : Int))) == false)
 (Out.ite ((decide (x.1.1 > (0 : Int))) == true)
 (Out.ite (decide (0 ≤ (IntKind.i64.wrap (x.1.1 - (1 : Int)))))
 (Out.get (nth x.2.1.2.1 (Int.toNat (IntKind.i64.wrap (x.1.1 - (1 : Int))))) fun (y2 : ((Int) × ((List UInt8) × Unit))) =>
 Out.ite (decide (0 ≤ x.1.1))
 (Out.get (nth x.2.1.2.1 (Int.toNat x.1.1)) fun (y3 : ((Int) × ((List UInt8) × Unit))) =>
 Out.ite ((decide (y2.1 ≥ y3.1)) == false)
 (Out.ite (decide (0 ≤ x.1.1))
 (Out.get (nth x.2.1.2.1 (Int.toNat x.1.1)) fun (y4 : ((Int) × ((List UInt8) × Unit))) =>
 Out.ite ((decide (((List.length y4.2.1 : Nat) : Int) > (60 : Int))))
 (Out.ret (Round.ret ((false, ()), ())))
 (Out.ret (Round.again (((IntKind.i64.wrap (x.1.1 + (1 : Int))), ()), ((x.2.1.1, (x.2.1.2.1, ())), ())))))
 (Out.fail))
 (Out.ret (Round.ret ((false, ()), ()))))
 (Out.fail))
 (Out.fail))
 (Out.ite (decide (0 ≤ x.1.1))
 (Out.get (nth x.2.1.2.1 (Int.toNat x.1.1)) fun (y5 : ((Int) × ((List UInt8) × Unit))) =>
 Out.ite ((decide (((List.length y5.2.1 : Nat) : Int) > (60 : Int))))
 (Out.ret (Round.ret ((false, ()), ())))
 (Out.ret (Round.again (((IntKind.i64.wrap (x.1.1 + (1 : Int))), ()), ((x.2.1.1, (x.2.1.2.1, ())), ())))))
 (Out.fail)))
 (Out.ret (Round.ret ((false, ()), ()))))
 (Out.fail))
 (Out.ret (Round.out ((), ())))
def f130_tree (a0 : Int) (a1 : List (((Int) × ((List UInt8) × Unit)))) : Out ((((Bool) × Unit) × Unit) × ((Unit) × Unit)) :=
 Out.ite ((!(inV a0 (1 : Int) (1000000 : Int))) == false)
 (Out.ite ((!(inV ((List.length a1 : Nat) : Int) (1 : Int) (6 : Int))))
 (Out.ret (((false, ()), ()), ((), ())))
 (Out.get (iter f130_L0 FUEL (((0 : Int), ()), ((a0, (a1, ())), ()))) fun y1 => Out.alt y1 (fun (y2 : (Unit) × (Unit)) =>
 Out.ret (((true, ()), ()), ((), ()))) (fun (y3 : ((Bool) × Unit) × (Unit)) =>
 Out.ret (((y3.1.1, ()), ()), ((), ())))))
 (Out.ret (((false, ()), ()), ((), ())))
def f130_A : Nat → Option LoopAnn := fun n => annOf [(0, { head := { t := [.dead, .vptr 64000000 0, .dead, .i .i64, .dead, .dead, .dead, .dead, .dead, .dead, .dead, .dead, .dead, .dead, .dead, .dead, .dead, .dead, .dead, .dead, .dead, .dead, .dead, .dead, .dead, .dead, .dead, .dead, .dead, .dead, .dead, .dead, .dead, .dead, .dead, .dead, .dead, .dead, .dead, .dead, .dead, .dead, .dead, .dead, .dead, .dead, .dead, .dead, .dead, .dead, .dead, .dead, .dead, .dead, .dead, .dead, .dead, .dead, .dead, .dead], v := [(64000000, .var [.i .i64, .ro (.st (.cons (.int .i64) (.cons .str .nil))) (some 0)])] }, out := { t := [.dead, .dead, .dead, .dead, .dead, .dead, .dead, .dead, .dead, .dead, .dead, .dead, .dead, .dead, .dead, .dead, .dead, .dead, .dead, .dead, .dead, .dead, .dead, .dead, .dead, .dead, .dead, .dead, .dead, .dead, .dead, .dead, .dead, .dead, .dead, .dead, .dead, .dead, .dead, .dead, .dead, .dead, .dead, .dead, .dead, .dead, .dead, .dead, .dead, .dead, .dead, .dead, .dead, .dead, .dead, .dead, .dead, .dead, .dead, .dead], v := [] }, ret := some { t := [.dead, .dead, .b, .dead, .dead, .dead, .dead, .dead, .dead, .dead, .dead, .dead, .dead, .dead, .dead, .dead, .dead, .dead, .dead, .dead, .dead, .dead, .dead, .dead, .dead, .dead, .dead, .dead, .dead, .dead, .dead, .dead, .dead, .dead, .dead, .dead, .dead, .dead, .dead, .dead, .dead, .dead, .dead, .dead, .dead, .dead, .dead, .dead, .dead, .dead, .dead, .dead, .dead, .dead, .dead, .dead, .dead, .dead, .dead, .dead], v := [] } })] n
def f130_cx : Cx := cxOf [k165]
theorem f130_eq (x : ((Int) × (List (((Int) × ((List UInt8) × Unit)))) × Unit) × Unit) : bodyOut f130_cx f130_A (codeOf Try.f130) [⟨false, true, [.i .i64, .ro (.st (.cons (.int .i64) (.cons .str .nil)))]⟩] [none] 60 [⟨false, false, [.b]⟩] [.tmp 2] x = f130_tree x.1.1 x.1.2.1 := by kernel_rfl
def k130 : Con := { f := 130, lend := true, its := [⟨false, true, [.i .i64, .ro (.st (.cons (.int .i64) (.cons .str .nil)))]⟩], lay := [none], rs := [⟨false, false, [.b]⟩], F := fun x => .ret ((((txnOkV x.1.1 x.1.2.1), ()), ()), ((), ())) }
theorem f130_okp (h0 : k165.Ok Try.prog) (hr : ∀ x : ((Int) × (List (((Int) × ((List UInt8) × Unit)))) × Unit) × Unit, itemsWF k130.its x → ∀ y, (k130.F x).eval = some y → (f130_tree x.1.1 x.1.2.1).eval = some y) : k130.Ok Try.prog := by
  refine con_ok (A := f130_A) (code := codeOf Try.f130) (fn := Try.f130) (rtm := [.tmp 2]) [k165] ?_ ?_
  · intro K hK
    simp only [List.mem_cons, List.not_mem_nil, or_false] at hK
    rcases hK with rfl
    · exact h0
  · exact ⟨by kernel_rfl, codeOf_eq (by kernel_rfl), by kernel_rfl, by kernel_rfl, by decide, by decide, by decide, fun x y hw hy => (congrArg Out.eval (f130_eq x)).trans (hr x hw y hy)⟩
theorem f130_ok (h0 : k165.Ok Try.prog) (hr : ∀ x : ((Int) × (List (((Int) × ((List UInt8) × Unit)))) × Unit) × Unit, itemsWF k130.its x → (f130_tree x.1.1 x.1.2.1).eval = (k130.F x).eval) : k130.Ok Try.prog := f130_okp h0 fun x hw _ hy => (hr x hw).trans hy
theorem k130_ok : k130.Ok Try.prog := by
  refine f130_ok k165_ok fun x hw => ?_
  obtain ⟨⟨q, a, _⟩, _⟩ := x
  have ha : a.length ≤ BIG := hw.1.1.1
  show (f130_tree q a).eval = some (((txnOkV q a, ()), ()), ((), ()))
  unfold f130_tree txnOkV
  by_cases h1 : inV q 1 1000000 = true
  · by_cases h2 : inV ((a.length : Nat) : Int) 1 6 = true
    · rw [eval_ite_t (by simp [h1]), eval_ite_f (by simp [h2]), h1, h2]
      have := iter_scan (f := f130_L0) (fun i => ((((i : Nat) : Int), ()), ((q, (a, ())), ()))) (rowOkV a) a.length (y := ((), ())) (z := ((false, ()), ())) (lt_fuel ha)
        (fun i hi hp => by
          have w1 := wrap_succ (i := i) (by omega)
          cases i with
          | zero =>
            rw [rowOkV_zero hi] at hp
            obtain ⟨p1, p2⟩ := Bool.and_eq_true_iff.1 hp
            have p2 : ¬ (60 : Int) < ((a[0].2.1.length : Nat) : Int) := by have := of_decide_eq_true p2; omega
            simp [f130_L0, Out.eval, hi, p1, p2, wrap_one]
          | succ i =>
            rw [rowOkV_succ hi] at hp
            obtain ⟨p1, p2⟩ := Bool.and_eq_true_iff.1 hp
            obtain ⟨p1, p3⟩ := Bool.and_eq_true_iff.1 p1
            have p2 : decide (((a[i + 1].2.1.length : Nat) : Int) > (60 : Int)) = false := decide_eq_false (by have := of_decide_eq_true p2; omega)
            have w2 := wrap_pred i (by omega)
            have w3 : decide (((i + 1 : Nat) : Int) > 0) = true := decide_eq_true (by omega)
            simp only [f130_L0, Out.eval, lt_t hi, ge0, nth_get hi, nth_get (show i < a.length by omega), w1, w2, w3, p1, p2, p3, not_ge, Option.bind_some, cond_true]
            rfl)
        (fun i hi hp => by
          cases i with
          | zero =>
            rw [rowOkV_zero hi] at hp
            by_cases p1 : inV a[0].1 0 5 = true
            · rw [p1, Bool.true_and] at hp
              have p2 : (60 : Int) < ((a[0].2.1.length : Nat) : Int) := by have := of_decide_eq_false hp; omega
              simp [f130_L0, Out.eval, hi, p1, p2]
            · simp [f130_L0, Out.eval, hi, p1]
          | succ i =>
            rw [rowOkV_succ hi] at hp
            have w2 := wrap_pred i (by omega)
            have w3 : decide (((i + 1 : Nat) : Int) > 0) = true := decide_eq_true (by omega)
            have g : decide (((a[i + 1].2.1.length : Nat) : Int) > (60 : Int)) = !decide (a[i + 1].2.1.length ≤ 60) := gt_cast (m := 60)
            simp only [f130_L0, Out.eval, lt_t hi, ge0, nth_get hi, nth_get (show i < a.length by omega), w2, w3, not_ge, g, Option.bind_some, cond_true]
            cases p1 : inV a[i + 1].1 0 5 <;> cases p2 : decide (a[i].1 < a[i + 1].1) <;> cases p3 : decide (a[i + 1].2.1.length ≤ 60) <;> rw [p1, p2, p3] at hp <;> first | rfl | exact absurd hp (by decide))
        (by simp [f130_L0, Out.eval])
      refine (eval_get_some this).trans ?_
      unfold outsOkV
      cases (List.range a.length).all (rowOkV a) <;> rfl
    · rw [eval_ite_t (by simp [h1]), eval_ite_t (by simp [h2]), Bool.eq_false_iff.2 h2]; simp [Out.eval]
  · rw [eval_ite_f (by simp [h1]), Bool.eq_false_iff.2 h1]; simp [Out.eval]
def f134_L0 (x : ((List (((Int) × ((List UInt8) × Unit)))) × (Int) × (Int) × Unit) × (((Int) × (List (((Int) × ((List UInt8) × Unit)))) × Unit) × Unit)) : Out (Round (((List (((Int) × ((List UInt8) × Unit)))) × (Int) × (Int) × Unit) × (((Int) × (List (((Int) × ((List UInt8) × Unit)))) × Unit) × Unit)) ((Unit) × (Unit)) (((Bool) × Unit) × (Unit))) :=
 Out.ite ((decide (x.1.2.2.1 < x.1.2.1)))
 (Out.ite (decide (0 ≤ x.1.2.2.1))
 (Out.get (nth x.1.1 (Int.toNat x.1.2.2.1)) fun (y1 : ((Int) × ((List UInt8) × Unit))) =>
 Out.ite ((!(inV y1.1 (0 : Int) (5 : Int))) == false)
 (Out.ite ((decide (x.1.2.2.1 > (0 : Int))) == true)
 (Out.ite (decide (0 ≤ (IntKind.i64.wrap (x.1.2.2.1 - (1 : Int)))))
 (Out.get (nth x.2.1.2.1 (Int.toNat (IntKind.i64.wrap (x.1.2.2.1 - (1 : Int))))) fun (y2 : ((Int) × ((List UInt8) × Unit))) =>
 Out.ite ((decide (y2.1 ≥ y1.1)) == false)
 (Out.ite ((decide (((List.length y1.2.1 : Nat) : Int) > (60 : Int))))
 (Out.ret (Round.ret ((false, ()), ())))
 (Out.ret (Round.again ((x.1.1, (x.1.2.1, ((IntKind.i64.wrap (x.1.2.2.1 + (1 : Int))), ()))), ((x.2.1.1, (x.2.1.2.1, ())), ())))))
 (Out.ret (Round.ret ((false, ()), ()))))
 (Out.fail))
 (Out.ite ((decide (((List.length y1.2.1 : Nat) : Int) > (60 : Int))))
 (Out.ret (Round.ret ((false, ()), ())))
 (Out.ret (Round.again ((x.1.1, (x.1.2.1, ((IntKind.i64.wrap (x.1.2.2.1 + (1 : Int))), ()))), ((x.2.1.1, (x.2.1.2.1, ())), ()))))))
 (Out.ret (Round.ret ((false, ()), ()))))
 (Out.fail))
 (Out.ret (Round.out ((), ())))
def f134_tree (a0 : Int) (a1 : List (((Int) × ((List UInt8) × Unit)))) : Out ((((Bool) × Unit) × Unit) × ((Unit) × Unit)) :=
 Out.ite ((!(inV a0 (1 : Int) (1000000 : Int))) == false)
 (Out.ite ((!(inV ((List.length a1 : Nat) : Int) (1 : Int) (6 : Int))))
 (Out.ret (((false, ()), ()), ((), ())))
 (Out.get (iter f134_L0 FUEL ((a1, (((List.length a1 : Nat) : Int), ((0 : Int), ()))), ((a0, (a1, ())), ()))) fun y1 => Out.alt y1 (fun (y2 : (Unit) × (Unit)) =>
 Out.ret (((true, ()), ()), ((), ()))) (fun (y3 : ((Bool) × Unit) × (Unit)) =>
 Out.ret (((y3.1.1, ()), ()), ((), ())))))
 (Out.ret (((false, ()), ()), ((), ())))
def f134_A : Nat → Option LoopAnn := fun n => annOf [(0, { head := { t := [.dead, .vptr 64000000 0, .dead, .dead, .dead, .dead, .dead, .dead, .dead, .dead, .dead, .dead, .dead, .dead, .dead, .dead, .dead, .ro (.st (.cons (.int .i64) (.cons .str .nil))) (some 0), .i .i64, .i .i64, .dead, .dead, .dead, .dead, .dead, .dead, .dead, .dead, .dead, .dead, .dead, .dead, .dead, .dead, .dead, .dead, .dead, .dead, .dead, .dead, .dead, .dead, .dead, .dead, .dead, .dead, .dead, .dead, .dead, .dead, .dead], v := [(64000000, .var [.i .i64, .ro (.st (.cons (.int .i64) (.cons .str .nil))) (some 0)])] }, out := { t := [.dead, .dead, .dead, .dead, .dead, .dead, .dead, .dead, .dead, .dead, .dead, .dead, .dead, .dead, .dead, .dead, .dead, .dead, .dead, .dead, .dead, .dead, .dead, .dead, .dead, .dead, .dead, .dead, .dead, .dead, .dead, .dead, .dead, .dead, .dead, .dead, .dead, .dead, .dead, .dead, .dead, .dead, .dead, .dead, .dead, .dead, .dead, .dead, .dead, .dead, .dead], v := [] }, ret := some { t := [.dead, .dead, .b, .dead, .dead, .dead, .dead, .dead, .dead, .dead, .dead, .dead, .dead, .dead, .dead, .dead, .dead, .dead, .dead, .dead, .dead, .dead, .dead, .dead, .dead, .dead, .dead, .dead, .dead, .dead, .dead, .dead, .dead, .dead, .dead, .dead, .dead, .dead, .dead, .dead, .dead, .dead, .dead, .dead, .dead, .dead, .dead, .dead, .dead, .dead, .dead], v := [] } })] n
def f134_cx : Cx := cxOf [k166]
theorem f134_eq (x : ((Int) × (List (((Int) × ((List UInt8) × Unit)))) × Unit) × Unit) : bodyOut f134_cx f134_A (codeOf Try.f134) [⟨false, true, [.i .i64, .ro (.st (.cons (.int .i64) (.cons .str .nil)))]⟩] [none] 51 [⟨false, false, [.b]⟩] [.tmp 2] x = f134_tree x.1.1 x.1.2.1 := by kernel_rfl
def k134 : Con := { f := 134, lend := true, its := [⟨false, true, [.i .i64, .ro (.st (.cons (.int .i64) (.cons .str .nil)))]⟩], lay := [none], rs := [⟨false, false, [.b]⟩], F := fun x => .ret ((((txnOkV x.1.1 x.1.2.1), ()), ()), ((), ())) }
theorem f134_okp (h0 : k166.Ok Try.prog) (hr : ∀ x : ((Int) × (List (((Int) × ((List UInt8) × Unit)))) × Unit) × Unit, itemsWF k134.its x → ∀ y, (k134.F x).eval = some y → (f134_tree x.1.1 x.1.2.1).eval = some y) : k134.Ok Try.prog := by
  refine con_ok (A := f134_A) (code := codeOf Try.f134) (fn := Try.f134) (rtm := [.tmp 2]) [k166] ?_ ?_
  · intro K hK
    simp only [List.mem_cons, List.not_mem_nil, or_false] at hK
    rcases hK with rfl
    · exact h0
  · exact ⟨by kernel_rfl, codeOf_eq (by kernel_rfl), by kernel_rfl, by kernel_rfl, by decide, by decide, by decide, fun x y hw hy => (congrArg Out.eval (f134_eq x)).trans (hr x hw y hy)⟩
theorem f134_ok (h0 : k166.Ok Try.prog) (hr : ∀ x : ((Int) × (List (((Int) × ((List UInt8) × Unit)))) × Unit) × Unit, itemsWF k134.its x → (f134_tree x.1.1 x.1.2.1).eval = (k134.F x).eval) : k134.Ok Try.prog := f134_okp h0 fun x hw _ hy => (hr x hw).trans hy
theorem k134_ok : k134.Ok Try.prog := by
  refine f134_ok k166_ok fun x hw => ?_
  obtain ⟨⟨q, a, _⟩, _⟩ := x
  have ha : a.length ≤ BIG := hw.1.1.1
  show (f134_tree q a).eval = some (((txnOkV q a, ()), ()), ((), ()))
  unfold f134_tree txnOkV
  by_cases h1 : inV q 1 1000000 = true
  · by_cases h2 : inV ((a.length : Nat) : Int) 1 6 = true
    · rw [eval_ite_t (by simp [h1]), eval_ite_f (by simp [h2]), h1, h2]
      have := iter_scan (f := f134_L0) (fun i => ((a, (((a.length : Nat) : Int), (((i : Nat) : Int), ()))), ((q, (a, ())), ()))) (rowOkV a) a.length (y := ((), ())) (z := ((false, ()), ())) (lt_fuel ha)
        (fun i hi hp => by
          have w1 := wrap_succ (i := i) (by omega)
          cases i with
          | zero =>
            rw [rowOkV_zero hi] at hp
            obtain ⟨p1, p2⟩ := Bool.and_eq_true_iff.1 hp
            have p2 : ¬ (60 : Int) < ((a[0].2.1.length : Nat) : Int) := by have := of_decide_eq_true p2; omega
            simp [f134_L0, Out.eval, hi, p1, p2, wrap_one]
          | succ i =>
            rw [rowOkV_succ hi] at hp
            obtain ⟨p1, p2⟩ := Bool.and_eq_true_iff.1 hp
            obtain ⟨p1, p3⟩ := Bool.and_eq_true_iff.1 p1
            have p2 : decide (((a[i + 1].2.1.length : Nat) : Int) > (60 : Int)) = false := decide_eq_false (by have := of_decide_eq_true p2; omega)
            have w2 := wrap_pred i (by omega)
            have w3 : decide (((i + 1 : Nat) : Int) > 0) = true := decide_eq_true (by omega)
            simp only [f134_L0, Out.eval, lt_t hi, ge0, nth_get hi, nth_get (show i < a.length by omega), w1, w2, w3, p1, p2, p3, not_ge, Option.bind_some, cond_true]
            rfl)
        (fun i hi hp => by
          cases i with
          | zero =>
            rw [rowOkV_zero hi] at hp
            by_cases p1 : inV a[0].1 0 5 = true
            · rw [p1, Bool.true_and] at hp
              have p2 : (60 : Int) < ((a[0].2.1.length : Nat) : Int) := by have := of_decide_eq_false hp; omega
              simp [f134_L0, Out.eval, hi, p1, p2]
            · simp [f134_L0, Out.eval, hi, p1]
          | succ i =>
            rw [rowOkV_succ hi] at hp
            have w2 := wrap_pred i (by omega)
            have w3 : decide (((i + 1 : Nat) : Int) > 0) = true := decide_eq_true (by omega)
            have g : decide (((a[i + 1].2.1.length : Nat) : Int) > (60 : Int)) = !decide (a[i + 1].2.1.length ≤ 60) := gt_cast (m := 60)
            simp only [f134_L0, Out.eval, lt_t hi, ge0, nth_get hi, nth_get (show i < a.length by omega), w2, w3, not_ge, g, Option.bind_some, cond_true]
            cases p1 : inV a[i + 1].1 0 5 <;> cases p2 : decide (a[i].1 < a[i + 1].1) <;> cases p3 : decide (a[i + 1].2.1.length ≤ 60) <;> rw [p1, p2, p3] at hp <;> first | rfl | exact absurd hp (by decide))
        (by simp [f134_L0, Out.eval])
      refine (eval_get_some this).trans ?_
      unfold outsOkV
      cases (List.range a.length).all (rowOkV a) <;> rfl
    · rw [eval_ite_t (by simp [h1]), eval_ite_t (by simp [h2]), Bool.eq_false_iff.2 h2]; simp [Out.eval]
  · rw [eval_ite_f (by simp [h1]), Bool.eq_false_iff.2 h1]; simp [Out.eval]
theorem txnOkV_parts {q : Int} {a : List WriteD} (h : txnOkV q a = true) : (1 ≤ q ∧ q ≤ 1000000) ∧ (1 ≤ a.length ∧ a.length ≤ 6) ∧ ∀ x ∈ a, (0 ≤ x.1 ∧ x.1 ≤ 5) ∧ x.2.1.length ≤ 60 := by
  unfold txnOkV at h
  obtain ⟨h1, h2⟩ := Bool.and_eq_true_iff.1 h
  obtain ⟨h1, h3⟩ := Bool.and_eq_true_iff.1 h1
  refine ⟨by simpa [inV] using h1, by have : 1 ≤ ((a.length : Nat) : Int) ∧ ((a.length : Nat) : Int) ≤ 6 := by simpa [inV] using h3
                                      omega, fun x hx => ?_⟩
  obtain ⟨i, hi, rfl⟩ := List.getElem_of_mem hx
  have hr := List.all_eq_true.1 h2 i (List.mem_range.2 hi)
  cases i with
  | zero =>
    rw [rowOkV_zero hi] at hr
    simpa [inV] using hr
  | succ i =>
    rw [rowOkV_succ hi] at hr
    have : ((0 ≤ a[i + 1].1 ∧ a[i + 1].1 ≤ 5) ∧ a[i].1 < a[i + 1].1) ∧ a[i + 1].2.1.length ≤ 60 := by simpa [inV] using hr
    exact ⟨this.1.1, this.2⟩
/-- A write, told. -/
def outS (x : WriteD) : Str := varV x.1 ++ (varV ((x.2.1.length : Nat) : Int) ++ x.2.1)
def txnS (q : Int) (a : List WriteD) : Str := ([116] ++ varV q ++ varV ((a.length : Nat) : Int)) ++ a.flatMap outS
/-- The sum of a text, told. -/
def sumS (s : Str) : Str := fixB 4 (4294967295 - crcN s)
theorem sumS_len (s : Str) : (sumS s).length = 4 := fixB_len _ _
theorem fixed_crc (s : Str) : fixedV (crcV s) 4 = some (sumS s) := by
  unfold fixedV
  rw [if_pos (crcV_le s), if_pos ⟨by decide, by unfold crcV; omega, by show (4294967295 - crcN s) < 256 ^ 4; omega⟩]
  rfl
def showTxnV (q : Int) (a : List WriteD) : Str := if txnOkV q a = true then sumS (txnS q a) ++ txnS q a else []
theorem flatMap_len {α β : Type} (h : α → List β) (m : Nat) : ∀ (a : List α), (∀ x ∈ a, (h x).length ≤ m) → (a.flatMap h).length ≤ m * a.length
  | [], _ => by simp
  | x :: r, hx => by
    have h1 := hx x (by simp)
    have h2 := flatMap_len h m r fun y hy => hx y (by simp [hy])
    rw [List.flatMap_cons, List.length_append, List.length_cons, Nat.mul_succ]; omega
theorem txnS_len {q : Int} {a : List WriteD} (h : txnOkV q a = true) : ([116] ++ varV q ++ varV ((a.length : Nat) : Int)).length + (a.flatMap outS).length ≤ 459 := by
  obtain ⟨_, h2, h3⟩ := txnOkV_parts h
  have h4 := flatMap_len outS 74 a fun x hx => by
    have := (h3 x hx).2
    have := varV_len x.1; have := varV_len ((x.2.1.length : Nat) : Int)
    simp only [outS, List.length_append]; omega
  have := varV_len q; have := varV_len ((a.length : Nat) : Int)
  have : 74 * a.length ≤ 74 * 6 := Nat.mul_le_mul_left _ h2.2
  simp only [List.length_append, List.length_cons, List.length_nil]; omega
def f41_L0 (x : ((List UInt8) × (Int) × Unit) × (((Int) × (List (((Int) × ((List UInt8) × Unit)))) × Unit) × Unit)) : Out (Round (((List UInt8) × (Int) × Unit) × (((Int) × (List (((Int) × ((List UInt8) × Unit)))) × Unit) × Unit)) (((List UInt8) × Unit) × (Unit)) (Empty)) :=
 Out.ite ((decide (x.1.2.1 < ((List.length x.2.1.2.1 : Nat) : Int))))
 (Out.ite (decide (0 ≤ x.1.2.1))
 (Out.get (nth x.2.1.2.1 (Int.toNat x.1.2.1)) fun (y1 : ((Int) × ((List UInt8) × Unit))) =>
 Out.ite (decide (List.length x.1.1 + List.length (varV y1.1) ≤ LIM))
 (Out.ite (decide (0 ≤ x.1.2.1))
 (Out.get (nth x.2.1.2.1 (Int.toNat x.1.2.1)) fun (y2 : ((Int) × ((List UInt8) × Unit))) =>
 Out.ite (decide (List.length (x.1.1 ++ (varV y1.1)) + List.length (varV ((List.length y2.2.1 : Nat) : Int)) ≤ LIM))
 (Out.ite (decide (0 ≤ x.1.2.1))
 (Out.get (nth x.2.1.2.1 (Int.toNat x.1.2.1)) fun (y3 : ((Int) × ((List UInt8) × Unit))) =>
 Out.ite (decide (List.length ((x.1.1 ++ (varV y1.1)) ++ (varV ((List.length y2.2.1 : Nat) : Int))) + List.length y3.2.1 ≤ LIM))
 (Out.ret (Round.again (((((x.1.1 ++ (varV y1.1)) ++ (varV ((List.length y2.2.1 : Nat) : Int))) ++ y3.2.1), ((IntKind.i64.wrap (x.1.2.1 + (1 : Int))), ())), ((x.2.1.1, (x.2.1.2.1, ())), ()))))
 (Out.fail))
 (Out.fail))
 (Out.fail))
 (Out.fail))
 (Out.fail))
 (Out.fail))
 (Out.ret (Round.out ((x.1.1, ()), ())))
def f41_tree (a0 : Int) (a1 : List (((Int) × ((List UInt8) × Unit)))) : Out ((((List UInt8) × Unit) × Unit) × ((Unit) × Unit)) :=
 Out.ite ((!(txnOkV a0 a1)))
 (Out.ret (((([] : List UInt8), ()), ()), ((), ())))
 (Out.ite (decide (List.length ([116] : List UInt8) + List.length (varV a0) ≤ LIM))
 (Out.ite (decide (List.length (([116] : List UInt8) ++ (varV a0)) + List.length (varV ((List.length a1 : Nat) : Int)) ≤ LIM))
 (Out.get (iter1 f41_L0 FUEL ((((([116] : List UInt8) ++ (varV a0)) ++ (varV ((List.length a1 : Nat) : Int))), ((0 : Int), ())), ((a0, (a1, ())), ()))) fun (y1 : ((List UInt8) × Unit) × (Unit)) =>
 Out.get (fixedV (crcV y1.1.1) (4 : Int)) fun (y2 : (List UInt8)) =>
 Out.ite (decide (List.length y2 + List.length y1.1.1 ≤ LIM))
 (Out.ret ((((y2 ++ y1.1.1), ()), ()), ((), ())))
 (Out.fail))
 (Out.fail))
 (Out.fail))
def f41_A : Nat → Option LoopAnn := fun n => annOf [(0, { head := { t := [.dead, .vptr 64000000 0, .dead, .s, .i .i64, .dead, .dead, .dead, .dead, .dead, .dead, .dead, .dead, .dead, .dead, .dead, .dead, .dead, .dead, .dead, .dead, .dead, .dead, .dead, .dead, .dead, .dead, .dead, .dead, .dead, .dead, .dead, .dead, .dead, .dead, .dead, .dead, .dead, .dead, .dead, .dead, .dead, .dead, .dead, .dead, .dead, .dead, .dead, .dead, .dead, .dead, .dead, .dead, .dead], v := [(64000000, .var [.i .i64, .ro (.st (.cons (.int .i64) (.cons .str .nil))) (some 0)])] }, out := { t := [.dead, .dead, .dead, .s, .dead, .dead, .dead, .dead, .dead, .dead, .dead, .dead, .dead, .dead, .dead, .dead, .dead, .dead, .dead, .dead, .dead, .dead, .dead, .dead, .dead, .dead, .dead, .dead, .dead, .dead, .dead, .dead, .dead, .dead, .dead, .dead, .dead, .dead, .dead, .dead, .dead, .dead, .dead, .dead, .dead, .dead, .dead, .dead, .dead, .dead, .dead, .dead, .dead, .dead], v := [] }, ret := none })] n
def f41_cx : Cx := cxOf [k130, k131, k133, k132]
theorem f41_eq (x : ((Int) × (List (((Int) × ((List UInt8) × Unit)))) × Unit) × Unit) : bodyOut f41_cx f41_A (codeOf Try.f41) [⟨false, true, [.i .i64, .ro (.st (.cons (.int .i64) (.cons .str .nil)))]⟩] [none] 54 [⟨false, false, [.s]⟩] [.tmp 2] x = f41_tree x.1.1 x.1.2.1 := by kernel_rfl
def k41 : Con := { f := 41, lend := true, its := [⟨false, true, [.i .i64, .ro (.st (.cons (.int .i64) (.cons .str .nil)))]⟩], lay := [none], rs := [⟨false, false, [.s]⟩], F := fun x => .ret ((((showTxnV x.1.1 x.1.2.1), ()), ()), ((), ())) }
theorem f41_okp (h0 : k130.Ok Try.prog) (h1 : k131.Ok Try.prog) (h2 : k133.Ok Try.prog) (h3 : k132.Ok Try.prog) (hr : ∀ x : ((Int) × (List (((Int) × ((List UInt8) × Unit)))) × Unit) × Unit, itemsWF k41.its x → ∀ y, (k41.F x).eval = some y → (f41_tree x.1.1 x.1.2.1).eval = some y) : k41.Ok Try.prog := by
  refine con_ok (A := f41_A) (code := codeOf Try.f41) (fn := Try.f41) (rtm := [.tmp 2]) [k130, k131, k133, k132] ?_ ?_
  · intro K hK
    simp only [List.mem_cons, List.not_mem_nil, or_false] at hK
    rcases hK with rfl | rfl | rfl | rfl
    · exact h0
    · exact h1
    · exact h2
    · exact h3
  · exact ⟨by kernel_rfl, codeOf_eq (by kernel_rfl), by kernel_rfl, by kernel_rfl, by decide, by decide, by decide, fun x y hw hy => (congrArg Out.eval (f41_eq x)).trans (hr x hw y hy)⟩
theorem f41_ok (h0 : k130.Ok Try.prog) (h1 : k131.Ok Try.prog) (h2 : k133.Ok Try.prog) (h3 : k132.Ok Try.prog) (hr : ∀ x : ((Int) × (List (((Int) × ((List UInt8) × Unit)))) × Unit) × Unit, itemsWF k41.its x → (f41_tree x.1.1 x.1.2.1).eval = (k41.F x).eval) : k41.Ok Try.prog := f41_okp h0 h1 h2 h3 fun x hw _ hy => (hr x hw).trans hy
theorem k41_ok : k41.Ok Try.prog := by
  refine f41_ok k130_ok k131_ok k133_ok k132_ok fun x hw => ?_
  obtain ⟨⟨q, a, _⟩, _⟩ := x
  have ha : a.length ≤ BIG := hw.1.1.1
  show (f41_tree q a).eval = some (((showTxnV q a, ()), ()), ((), ()))
  unfold f41_tree showTxnV
  by_cases h : txnOkV q a = true
  · have hl := txnS_len h
    have hl1 : List.length ([116] : Str) + (varV q).length ≤ LIM := by have := varV_len q; rw [LIM_eq]; simp; omega
    have hl2 : List.length (([116] : Str) ++ varV q) + (varV ((a.length : Nat) : Int)).length ≤ LIM := by have := varV_len q; have := varV_len ((a.length : Nat) : Int); rw [LIM_eq]; simp; omega
    rw [eval_ite_f (by simp [h]), if_pos h, eval_ite_t (decide_eq_true hl1), eval_ite_t (decide_eq_true hl2)]
    have := flat_loop (f := f41_L0) outS a (fun s i => ((s, (((i : Nat) : Int), ())), ((q, (a, ())), ()))) (fun s => ((s, ()), ())) LIM
      (fun i hi s hs => by
        have w1 := wrap_succ (i := i) (by omega)
        simp only [outS, List.length_append] at hs
        have g1 : s.length + (varV a[i].1).length ≤ LIM := by omega
        have g2 : (s ++ varV a[i].1).length + (varV ((a[i].2.1.length : Nat) : Int)).length ≤ LIM := by rw [List.length_append]; omega
        have g3 : ((s ++ varV a[i].1) ++ varV ((a[i].2.1.length : Nat) : Int)).length + a[i].2.1.length ≤ LIM := by rw [List.length_append, List.length_append]; omega
        simp only [f41_L0, Out.eval, lt_t hi, ge0, nth_get hi, Option.bind_some, cond_true, decide_eq_true g1, decide_eq_true g2, decide_eq_true g3, w1, outS]
        simp only [List.append_assoc])
      (fun s => by simp [f41_L0, Out.eval]) ha ([116] ++ varV q ++ varV ((a.length : Nat) : Int)) (by rw [LIM_eq]; omega)
    refine (eval_get_some this).trans ?_
    rw [fixed_crc]
    have g : (sumS (txnS q a)).length + (txnS q a).length ≤ LIM := by rw [LIM_eq, sumS_len]; unfold txnS; rw [List.length_append]; omega
    exact (eval_get_some rfl).trans ((eval_ite_t (decide_eq_true g)).trans rfl)
  · rw [eval_ite_t (by simp [h]), if_neg h]; rfl
def f43_L0 (x : ((List UInt8) × (List (((Int) × ((List UInt8) × Unit)))) × (Int) × (Int) × Unit) × (Unit)) : Out (Round (((List UInt8) × (List (((Int) × ((List UInt8) × Unit)))) × (Int) × (Int) × Unit) × (Unit)) (((List UInt8) × Unit) × (Unit)) (Empty)) :=
 Out.ite ((decide (x.1.2.2.2.1 < x.1.2.2.1)))
 (Out.ite (decide (0 ≤ x.1.2.2.2.1))
 (Out.get (nth x.1.2.1 (Int.toNat x.1.2.2.2.1)) fun (y1 : ((Int) × ((List UInt8) × Unit))) =>
 Out.get (varsV ([y1.1, ((List.length y1.2.1 : Nat) : Int)] : List (Int))) fun (y2 : (List UInt8)) =>
 Out.ite (decide (List.length y2 + List.length y1.2.1 ≤ LIM))
 (Out.ite (decide (List.length x.1.1 + List.length (y2 ++ y1.2.1) ≤ LIM))
 (Out.ret (Round.again (((x.1.1 ++ (y2 ++ y1.2.1)), (x.1.2.1, (x.1.2.2.1, ((IntKind.i64.wrap (x.1.2.2.2.1 + (1 : Int))), ())))), ())))
 (Out.fail))
 (Out.fail))
 (Out.fail))
 (Out.ret (Round.out ((x.1.1, ()), ())))
def f43_tree (a0 : Int) (a1 : List (((Int) × ((List UInt8) × Unit)))) : Out ((((List UInt8) × Unit) × Unit) × ((Unit) × Unit)) :=
 Out.ite ((!(txnOkV a0 a1)))
 (Out.ret (((([] : List UInt8), ()), ()), ((), ())))
 (Out.get (varsV ([a0, ((List.length a1 : Nat) : Int)] : List (Int))) fun (y1 : (List UInt8)) =>
 Out.ite (decide (List.length ([116] : List UInt8) + List.length y1 ≤ LIM))
 (Out.get (iter1 f43_L0 FUEL (((([116] : List UInt8) ++ y1), (a1, (((List.length a1 : Nat) : Int), ((0 : Int), ())))), ())) fun (y2 : ((List UInt8) × Unit) × (Unit)) =>
 Out.get (fixedV (crcV y2.1.1) (4 : Int)) fun (y3 : (List UInt8)) =>
 Out.ite (decide (List.length y3 + List.length y2.1.1 ≤ LIM))
 (Out.ret ((((y3 ++ y2.1.1), ()), ()), ((), ())))
 (Out.fail))
 (Out.fail))
def f43_A : Nat → Option LoopAnn := fun n => annOf [(0, { head := { t := [.dead, .dead, .dead, .s, .dead, .dead, .dead, .dead, .dead, .dead, .dead, .dead, .dead, .dead, .dead, .dead, .dead, .dead, .ro (.st (.cons (.int .i64) (.cons .str .nil))) (some 0), .i .i64, .i .i64, .dead, .dead, .dead, .dead, .dead, .dead, .dead, .dead, .dead, .dead, .dead, .dead, .dead, .dead, .dead, .dead, .dead, .dead, .dead, .dead, .dead], v := [] }, out := { t := [.dead, .dead, .dead, .s, .dead, .dead, .dead, .dead, .dead, .dead, .dead, .dead, .dead, .dead, .dead, .dead, .dead, .dead, .dead, .dead, .dead, .dead, .dead, .dead, .dead, .dead, .dead, .dead, .dead, .dead, .dead, .dead, .dead, .dead, .dead, .dead, .dead, .dead, .dead, .dead, .dead, .dead], v := [] }, ret := none })] n
def f43_cx : Cx := cxOf [k134, k135, k137, k136]
theorem f43_eq (x : ((Int) × (List (((Int) × ((List UInt8) × Unit)))) × Unit) × Unit) : bodyOut f43_cx f43_A (codeOf Try.f43) [⟨false, true, [.i .i64, .ro (.st (.cons (.int .i64) (.cons .str .nil)))]⟩] [none] 42 [⟨false, false, [.s]⟩] [.tmp 2] x = f43_tree x.1.1 x.1.2.1 := by kernel_rfl
def k43 : Con := { f := 43, lend := true, its := [⟨false, true, [.i .i64, .ro (.st (.cons (.int .i64) (.cons .str .nil)))]⟩], lay := [none], rs := [⟨false, false, [.s]⟩], F := fun x => .ret ((((showTxnV x.1.1 x.1.2.1), ()), ()), ((), ())) }
theorem f43_okp (h0 : k134.Ok Try.prog) (h1 : k135.Ok Try.prog) (h2 : k137.Ok Try.prog) (h3 : k136.Ok Try.prog) (hr : ∀ x : ((Int) × (List (((Int) × ((List UInt8) × Unit)))) × Unit) × Unit, itemsWF k43.its x → ∀ y, (k43.F x).eval = some y → (f43_tree x.1.1 x.1.2.1).eval = some y) : k43.Ok Try.prog := by
  refine con_ok (A := f43_A) (code := codeOf Try.f43) (fn := Try.f43) (rtm := [.tmp 2]) [k134, k135, k137, k136] ?_ ?_
  · intro K hK
    simp only [List.mem_cons, List.not_mem_nil, or_false] at hK
    rcases hK with rfl | rfl | rfl | rfl
    · exact h0
    · exact h1
    · exact h2
    · exact h3
  · exact ⟨by kernel_rfl, codeOf_eq (by kernel_rfl), by kernel_rfl, by kernel_rfl, by decide, by decide, by decide, fun x y hw hy => (congrArg Out.eval (f43_eq x)).trans (hr x hw y hy)⟩
theorem f43_ok (h0 : k134.Ok Try.prog) (h1 : k135.Ok Try.prog) (h2 : k137.Ok Try.prog) (h3 : k136.Ok Try.prog) (hr : ∀ x : ((Int) × (List (((Int) × ((List UInt8) × Unit)))) × Unit) × Unit, itemsWF k43.its x → (f43_tree x.1.1 x.1.2.1).eval = (k43.F x).eval) : k43.Ok Try.prog := f43_okp h0 h1 h2 h3 fun x hw _ hy => (hr x hw).trans hy
theorem k43_ok : k43.Ok Try.prog := by
  refine f43_ok k134_ok k135_ok k137_ok k136_ok fun x hw => ?_
  obtain ⟨⟨q, a, _⟩, _⟩ := x
  have ha : a.length ≤ BIG := hw.1.1.1
  show (f43_tree q a).eval = some (((showTxnV q a, ()), ()), ((), ()))
  unfold f43_tree showTxnV
  by_cases h : txnOkV q a = true
  · have hl := txnS_len h
    have hl2 : List.length ([116] : Str) + (varV q ++ varV ((a.length : Nat) : Int)).length ≤ LIM := by have := varV_len q; have := varV_len ((a.length : Nat) : Int); rw [LIM_eq]; simp; omega
    rw [eval_ite_f (by simp [h]), if_pos h, varsV_two]
    refine (eval_get_some rfl).trans ?_
    rw [eval_ite_t (decide_eq_true hl2)]
    have := flat_loop (f := f43_L0) outS a (fun s i => ((s, (a, (((a.length : Nat) : Int), (((i : Nat) : Int), ())))), ())) (fun s => ((s, ()), ())) LIM
      (fun i hi s hs => by
        have w1 := wrap_succ (i := i) (by omega)
        simp only [outS, List.length_append] at hs
        have g2 : (varV a[i].1 ++ varV ((a[i].2.1.length : Nat) : Int)).length + a[i].2.1.length ≤ LIM := by rw [List.length_append]; omega
        have g3 : s.length + ((varV a[i].1 ++ varV ((a[i].2.1.length : Nat) : Int)) ++ a[i].2.1).length ≤ LIM := by rw [List.length_append, List.length_append]; omega
        simp only [f43_L0, Out.eval, lt_t hi, ge0, nth_get hi, varsV_two, Option.bind_some, cond_true, decide_eq_true g2, decide_eq_true g3, w1, outS]
        simp only [List.append_assoc])
      (fun s => by simp [f43_L0, Out.eval]) ha ([116] ++ varV q ++ varV ((a.length : Nat) : Int)) (by rw [LIM_eq]; omega)
    rw [List.append_assoc] at this
    refine (eval_get_some this).trans ?_
    rw [← List.append_assoc, fixed_crc]
    have g : (sumS (txnS q a)).length + (txnS q a).length ≤ LIM := by rw [LIM_eq, sumS_len]; unfold txnS; rw [List.length_append]; omega
    exact (eval_get_some rfl).trans ((eval_ite_t (decide_eq_true g)).trans rfl)
  · rw [eval_ite_t (by simp [h]), if_neg h]; rfl

end Go.Proofs.Ytjcinikojcfebaa.Dm
