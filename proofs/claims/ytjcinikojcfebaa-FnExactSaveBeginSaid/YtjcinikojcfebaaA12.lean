/- Functions of the program, and what they compute. -/
import Derived.Test.YtjcinikojcfebaaA11
namespace Go.Proofs.Ytjcinikojcfebaa.Dm
open Go Go.ChangeShapes Go.WideShapes Go.ChangeAt Go.RowKit

abbrev InsD := Int × (Int × (Int × (Int × Unit)))
/-! ## Instructions: equal ones, marks -/
def f164_tree (a0 : Int) (a1 : Int) (a2 : Int) (a3 : Int) (a4 : Int) (a5 : Int) (a6 : Int) (a7 : Int) : Out (((Bool × Unit) × Unit) × (Unit × Unit × Unit)) :=
 .ite ((a0 != a4))
 (.ret (((false, ()), ()), ((), (), ())))
 (.ite ((a1 != a5))
 (.ret (((false, ()), ()), ((), (), ())))
 (.ite ((a2 != a6))
 (.ret (((false, ()), ()), ((), (), ())))
 (.ite ((a3 != a7))
 (.ret (((false, ()), ()), ((), (), ())))
 (.ret (((true, ()), ()), ((), (), ()))))))
def eqInsV (a b c d a' b' c' d' : Int) : Bool := decide ((a, (b, (c, (d, ())))) = ((a', (b', (c', (d', ())))) : InsD))
def k164 : Con := { f := 164, lend := true, its := [⟨false, true, [.i .i64, .i .i64, .i .i64, .i .i64]⟩, ⟨false, true, [.i .i64, .i .i64, .i .i64, .i .i64]⟩], lay := [none, none], rs := [⟨false, false, [.b]⟩], F := fun x => .ret ((((eqInsV x.1.1 x.1.2.1 x.1.2.2.1 x.1.2.2.2.1 x.2.1.1 x.2.1.2.1 x.2.1.2.2.1 x.2.1.2.2.2.1), ()), ()), ((), (), ())) }
theorem f164_eq (x : itemsD k164.its) : bodyOut (cxOf []) (fun _ => none) (codeOf Try.f164) k164.its k164.lay Try.f164.ntmps k164.rs [.tmp 4] x = f164_tree x.1.1 x.1.2.1 x.1.2.2.1 x.1.2.2.2.1 x.2.1.1 x.2.1.2.1 x.2.1.2.2.1 x.2.1.2.2.2.1 := by kernel_rfl
theorem f164_ok (hr : ∀ x : (Int × Int × Int × Int × Unit) × (Int × Int × Int × Int × Unit) × Unit, itemsWF k164.its x → (f164_tree x.1.1 x.1.2.1 x.1.2.2.1 x.1.2.2.2.1 x.2.1.1 x.2.1.2.1 x.2.1.2.2.1 x.2.1.2.2.2.1).eval = (k164.F x).eval) : k164.Ok Try.prog :=
  con_fn [] trivial (by kernel_rfl) (codeOf_eq (by kernel_rfl)) (by kernel_rfl) (by kernel_rfl) (by kernel_rfl) f164_eq fun x hw _ hy => (hr x hw).trans hy
theorem k164_ok : k164.Ok Try.prog := by
  refine f164_ok fun x _ => ?_
  obtain ⟨⟨a, b, c, d, _⟩, ⟨a', b', c', d', _⟩, _⟩ := x
  show (f164_tree a b c d a' b' c' d').eval = some (((eqInsV a b c d a' b' c' d', ()), ()), ((), ((), ())))
  unfold f164_tree eqInsV
  by_cases h1 : a = a' <;> by_cases h2 : b = b' <;> by_cases h3 : c = c' <;> by_cases h4 : d = d' <;> simp [Out.eval, h1, h2, h3, h4, cond_eq_ite]
theorem eqInsV_eq (x y : InsD) : eqInsV x.1 x.2.1 x.2.2.1 x.2.2.2.1 y.1 y.2.1 y.2.2.1 y.2.2.2.1 = decide (x = y) := rfl
abbrev f74_S0 := (List ((Int × Int × Int × Int × Unit)) × List ((Int × Int × Int × Int × Unit)) × Int × Unit) × (Unit)
def f74_L0 (x : f74_S0) : Out (Round f74_S0 ((Unit) × (Unit)) ((Bool × Unit) × (Unit))) :=
 .ite (decide (x.1.2.2.1 < ((List.length x.1.1 : Nat) : Int)))
 (.ite (decide (0 ≤ x.1.2.2.1))
 (.get (nth x.1.1 (Int.toNat x.1.2.2.1)) fun y1 =>
 .ite (decide (0 ≤ x.1.2.2.1))
 (.get (nth x.1.2.1 (Int.toNat x.1.2.2.1)) fun y2 =>
 .ite (!(eqInsV y1.1 y1.2.1 y1.2.2.1 y1.2.2.2.1 y2.1 y2.2.1 y2.2.2.1 y2.2.2.2.1))
 (.ret (.ret ((false, ()), ())))
 (.ret (.again ((x.1.1, x.1.2.1, (IntKind.i64.wrap (x.1.2.2.1 + (1 : Int))), ()), ()))))
 .fail)
 .fail)
 (.ret (.out ((), ())))
def f74_tree (a0 : List (Int × Int × Int × Int × Unit)) (a1 : List (Int × Int × Int × Int × Unit)) : Out (((Bool × Unit) × Unit) × (Unit × Unit × Unit)) :=
 .ite ((((List.length a0 : Nat) : Int) != ((List.length a1 : Nat) : Int)))
 (.ret (((false, ()), ()), ((), (), ())))
 (.get (iter f74_L0 FUEL ((a0, a1, (0 : Int), ()), ())) fun y1 => .alt y1 (fun y2 =>
 .ret (((true, ()), ()), ((), (), ()))) (fun y3 =>
 .ret (((y3.1.1, ()), ()), ((), (), ()))))
def f74_A : Nat → Option LoopAnn := fun n => annOf [(0, { head := { t := [.ro (.st (.cons (.int .i64) (.cons (.int .i64) (.cons (.int .i64) (.cons (.int .i64) .nil))))) (some 0), .ro (.st (.cons (.int .i64) (.cons (.int .i64) (.cons (.int .i64) (.cons (.int .i64) .nil))))) (some 1), .dead, .dead, .dead, .i .i64, .dead, .dead, .dead, .dead, .dead, .dead, .dead, .dead, .dead, .dead, .dead, .dead, .dead, .dead, .dead, .dead, .dead, .dead, .dead, .dead, .dead], v := [] }, out := { t := [.dead, .dead, .dead, .dead, .dead, .dead, .dead, .dead, .dead, .dead, .dead, .dead, .dead, .dead, .dead, .dead, .dead, .dead, .dead, .dead, .dead, .dead, .dead, .dead, .dead, .dead, .dead], v := [] }, ret := some { t := [.dead, .dead, .dead, .dead, .b, .dead, .dead, .dead, .dead, .dead, .dead, .dead, .dead, .dead, .dead, .dead, .dead, .dead, .dead, .dead, .dead, .dead, .dead, .dead, .dead, .dead, .dead], v := [] } })] n
def eqInssV (a b : List InsD) : Bool := decide (a = b)
def k74 : Con := { f := 74, lend := true, its := [⟨false, false, [.ro (.st (.cons (.int .i64) (.cons (.int .i64) (.cons (.int .i64) (.cons (.int .i64) .nil)))))]⟩, ⟨false, false, [.ro (.st (.cons (.int .i64) (.cons (.int .i64) (.cons (.int .i64) (.cons (.int .i64) .nil)))))]⟩], lay := [none, none], rs := [⟨false, false, [.b]⟩], F := fun x => .ret ((((eqInssV x.1.1 x.2.1.1), ()), ()), ((), (), ())) }
theorem f74_eq (x : itemsD k74.its) : bodyOut (cxOf [k164]) (f74_A) (codeOf Try.f74) k74.its k74.lay Try.f74.ntmps k74.rs [.tmp 4] x = f74_tree x.1.1 x.2.1.1 := by kernel_rfl
theorem f74_ok (hr : ∀ x : (List (Int × Int × Int × Int × Unit) × Unit) × (List (Int × Int × Int × Int × Unit) × Unit) × Unit, itemsWF k74.its x → (f74_tree x.1.1 x.2.1.1).eval = (k74.F x).eval) : k74.Ok Try.prog :=
  con_fn [k164] ⟨k164_ok, trivial⟩ (by kernel_rfl) (codeOf_eq (by kernel_rfl)) (by kernel_rfl) (by kernel_rfl) (by kernel_rfl) f74_eq fun x hw _ hy => (hr x hw).trans hy
theorem k74_ok : k74.Ok Try.prog := by
  refine f74_ok fun x hw => ?_
  obtain ⟨⟨a, _⟩, ⟨b, _⟩, _⟩ := x
  have ha : a.length ≤ BIG := hw.1.1.1
  show (f74_tree a b).eval = some (((eqInssV a b, ()), ()), ((), ((), ())))
  unfold f74_tree
  by_cases hl : a.length = b.length
  · rw [eval_ite_f (len_eq hl)]
    have := eq_loop (f := f74_L0) a b (fun i => ((a, (b, (((i : Nat) : Int), ()))), ())) (y := ((), ())) (z := ((false, ()), ())) hl ha
      (fun i hi hi' he => by
        have := wrap_succ (i := i) (by omega)
        simp [f74_L0, Out.eval, hi, hi', he, this, eqInsV_eq])
      (fun i hi hi' he => by simp [f74_L0, Out.eval, hi, hi', he, cond_eq_ite, eqInsV_eq])
      (by simp [f74_L0, Out.eval])
    refine (eval_get_some this).trans ?_
    unfold eqInssV
    by_cases hab : a = b
    · simp only [if_pos hab, decide_eq_true hab]; rfl
    · simp only [if_neg hab, decide_eq_false hab]; rfl
  · rw [eval_ite_t (len_ne hl)]
    have : eqInssV a b = false := decide_eq_false fun e => hl (by rw [e])
    rw [this]
    rfl
def markI (k : Int) (i : Nat) : InsD := (up k (4 * i), (up k (4 * i + 1), (up k (4 * i + 2), (up k (4 * i + 3), ()))))
abbrev f75_S0 := (Int × Int × Unit) × (List ((Int × Int × Int × Int × Unit)) × Unit)
def f75_L0 (x : f75_S0) : Out (Round f75_S0 ((Int × Unit) × (List ((Int × Int × Int × Int × Unit)) × Unit)) Empty) :=
 .ite (decide (x.1.2.1 < ((List.length x.2.1 : Nat) : Int)))
 (.ite (decide (0 ≤ x.1.2.1 ∧ x.1.2.1 < ((List.length x.2.1 : Nat) : Int)))
 (.get (nth x.2.1 (Int.toNat x.1.2.1)) fun y1 =>
 .ite (decide (0 ≤ x.1.2.1 ∧ x.1.2.1 < ((List.length (List.set x.2.1 (Int.toNat x.1.2.1) (x.1.1, y1.2)) : Nat) : Int)))
 (.get (nth (List.set x.2.1 (Int.toNat x.1.2.1) (x.1.1, y1.2)) (Int.toNat x.1.2.1)) fun y2 =>
 .ite (decide (0 ≤ x.1.2.1 ∧ x.1.2.1 < ((List.length (List.set (List.set x.2.1 (Int.toNat x.1.2.1) (x.1.1, y1.2)) (Int.toNat x.1.2.1) (y2.1, ((IntKind.i64.wrap (x.1.1 + (1 : Int))), y2.2.2))) : Nat) : Int)))
 (.get (nth (List.set (List.set x.2.1 (Int.toNat x.1.2.1) (x.1.1, y1.2)) (Int.toNat x.1.2.1) (y2.1, ((IntKind.i64.wrap (x.1.1 + (1 : Int))), y2.2.2))) (Int.toNat x.1.2.1)) fun y3 =>
 .ite (decide (0 ≤ x.1.2.1 ∧ x.1.2.1 < ((List.length (List.set (List.set (List.set x.2.1 (Int.toNat x.1.2.1) (x.1.1, y1.2)) (Int.toNat x.1.2.1) (y2.1, ((IntKind.i64.wrap (x.1.1 + (1 : Int))), y2.2.2))) (Int.toNat x.1.2.1) (y3.1, (y3.2.1, ((IntKind.i64.wrap ((IntKind.i64.wrap (x.1.1 + (1 : Int))) + (1 : Int))), y3.2.2.2)))) : Nat) : Int)))
 (.get (nth (List.set (List.set (List.set x.2.1 (Int.toNat x.1.2.1) (x.1.1, y1.2)) (Int.toNat x.1.2.1) (y2.1, ((IntKind.i64.wrap (x.1.1 + (1 : Int))), y2.2.2))) (Int.toNat x.1.2.1) (y3.1, (y3.2.1, ((IntKind.i64.wrap ((IntKind.i64.wrap (x.1.1 + (1 : Int))) + (1 : Int))), y3.2.2.2)))) (Int.toNat x.1.2.1)) fun y4 =>
 .ret (.again (((IntKind.i64.wrap ((IntKind.i64.wrap ((IntKind.i64.wrap ((IntKind.i64.wrap (x.1.1 + (1 : Int))) + (1 : Int))) + (1 : Int))) + (1 : Int))), (IntKind.i64.wrap (x.1.2.1 + (1 : Int))), ()), ((List.set (List.set (List.set (List.set x.2.1 (Int.toNat x.1.2.1) (x.1.1, y1.2)) (Int.toNat x.1.2.1) (y2.1, ((IntKind.i64.wrap (x.1.1 + (1 : Int))), y2.2.2))) (Int.toNat x.1.2.1) (y3.1, (y3.2.1, ((IntKind.i64.wrap ((IntKind.i64.wrap (x.1.1 + (1 : Int))) + (1 : Int))), y3.2.2.2)))) (Int.toNat x.1.2.1) (y4.1, (y4.2.1, (y4.2.2.1, ((IntKind.i64.wrap ((IntKind.i64.wrap ((IntKind.i64.wrap (x.1.1 + (1 : Int))) + (1 : Int))) + (1 : Int))), y4.2.2.2.2))))), ()))))
 .fail)
 .fail)
 .fail)
 .fail)
 (.ret (.out ((x.1.1, ()), (x.2.1, ()))))
def f75_tree (a0 : List (Int × Int × Int × Int × Unit)) (a1 : Int) : Out (((Int × Unit) × Unit) × ((List (Int × Int × Int × Int × Unit) × Unit) × Unit × Unit)) :=
 .get (iter1 f75_L0 FUEL ((a1, (0 : Int), ()), (a0, ()))) fun y1 =>
 .ret (((y1.1.1, ()), ()), ((y1.2.1, ()), (), ()))
def f75_A : Nat → Option LoopAnn := fun n => annOf [(0, { head := { t := [.srf 0, .i .i64, .dead, .dead, .dead, .i .i64, .dead, .dead, .dead, .dead, .dead, .dead, .dead, .dead, .dead, .dead, .dead, .dead, .dead, .dead, .dead, .dead, .dead, .dead, .dead, .dead, .dead, .dead, .dead, .dead, .dead, .dead, .dead, .dead, .dead, .dead, .dead, .dead, .dead, .dead, .dead], v := [(0, .arr (.st (.cons (.int .i64) (.cons (.int .i64) (.cons (.int .i64) (.cons (.int .i64) .nil))))))] }, out := { t := [.srf 0, .i .i64, .dead, .dead, .dead, .dead, .dead, .dead, .dead, .dead, .dead, .dead, .dead, .dead, .dead, .dead, .dead, .dead, .dead, .dead, .dead, .dead, .dead, .dead, .dead, .dead, .dead, .dead, .dead, .dead, .dead, .dead, .dead, .dead, .dead, .dead, .dead, .dead, .dead, .dead, .dead], v := [(0, .arr (.st (.cons (.int .i64) (.cons (.int .i64) (.cons (.int .i64) (.cons (.int .i64) .nil))))))] }, ret := none })] n
def markInsSV (a : List InsD) (k : Int) : Int × List InsD := (up k (4 * a.length), (List.range a.length).map (markI k))
def k75 : Con := { f := 75, lend := true, its := [⟨false, false, [.mut (.st (.cons (.int .i64) (.cons (.int .i64) (.cons (.int .i64) (.cons (.int .i64) .nil)))))]⟩, ⟨false, false, [.i .i64]⟩], lay := [none, none], rs := [⟨false, false, [.i .i64]⟩], F := fun x => .ret ((((markInsSV x.1.1 x.2.1.1).1, ()), ()), (((markInsSV x.1.1 x.2.1.1).2, ()), (), ())) }
theorem f75_eq (x : itemsD k75.its) : bodyOut (cxOf []) (f75_A) (codeOf Try.f75) k75.its k75.lay Try.f75.ntmps k75.rs [.tmp 4] x = f75_tree x.1.1 x.2.1.1 := by kernel_rfl
theorem f75_ok (hr : ∀ x : (List (Int × Int × Int × Int × Unit) × Unit) × (Int × Unit) × Unit, itemsWF k75.its x → (f75_tree x.1.1 x.2.1.1).eval = (k75.F x).eval) : k75.Ok Try.prog :=
  con_fn [] trivial (by kernel_rfl) (codeOf_eq (by kernel_rfl)) (by kernel_rfl) (by kernel_rfl) (by kernel_rfl) f75_eq fun x hw _ hy => (hr x hw).trans hy
theorem k75_ok : k75.Ok Try.prog := by
  refine f75_ok fun x hw => ?_
  obtain ⟨⟨a, _⟩, ⟨k, _⟩, _⟩ := x
  have ha : a.length ≤ BIG := hw.1.1.1
  show (f75_tree a k).eval = some ((((markInsSV a k).1, ()), ()), (((markInsSV a k).2, ()), ((), ())))
  unfold f75_tree
  have := iter1_out (f := f75_L0) (fun i => ((up k (4 * i), (((i : Nat) : Int), ())), (markL (markI k) a i, ()))) a.length (y := ((up k (4 * a.length), ()), (markL (markI k) a a.length, ()))) (lt_fuel ha)
    (fun i hi => by
      have h1 := wrap_succ (i := i) (by omega)
      have h2 := markL_length (g := markI k) (show i ≤ a.length by omega)
      have h3 := markL_get (g := markI k) hi
      have h4 := markL_set (g := markI k) hi
      have h5 : i < (markL (markI k) a i).length := by omega
      have h6 : up k (4 * (i + 1)) = IntKind.i64.wrap (IntKind.i64.wrap (IntKind.i64.wrap (IntKind.i64.wrap (up k (4 * i) + 1) + 1) + 1) + 1) := rfl
      have h7 : markI k i = (up k (4 * i), (IntKind.i64.wrap (up k (4 * i) + 1), (IntKind.i64.wrap (IntKind.i64.wrap (up k (4 * i) + 1) + 1), (IntKind.i64.wrap (IntKind.i64.wrap (IntKind.i64.wrap (up k (4 * i) + 1) + 1) + 1), ())))) := rfl
      rw [h7] at h4
      simp [f75_L0, Out.eval, h1, h2, h3, hi, h5, h6, h4])
    (by
      have h2 := markL_length (g := markI k) (Nat.le_refl a.length)
      simp [f75_L0, Out.eval, h2])
  simp only [markL_zero] at this
  refine (eval_get_some this).trans ?_
  rw [markL_all]
  rfl
abbrev f76_S0 := (List ((Int × Int × Int × Int × Unit)) × Int × Int × Unit) × (Unit)
def f76_L0 (x : f76_S0) : Out (Round f76_S0 ((Int × Unit) × (Unit)) ((Int × Unit) × (Unit))) :=
 .ite (decide (x.1.2.2.1 < ((List.length x.1.1 : Nat) : Int)))
 (.ite (decide (0 ≤ x.1.2.2.1))
 (.get (nth x.1.1 (Int.toNat x.1.2.2.1)) fun y1 =>
 .ite ((y1.1 != x.1.2.1))
 (.ret (.ret (((-1 : Int), ()), ())))
 (.ite (decide (0 ≤ x.1.2.2.1))
 (.get (nth x.1.1 (Int.toNat x.1.2.2.1)) fun y2 =>
 .ite ((y2.2.1 != (IntKind.i64.wrap (x.1.2.1 + (1 : Int)))))
 (.ret (.ret (((-1 : Int), ()), ())))
 (.ite (decide (0 ≤ x.1.2.2.1))
 (.get (nth x.1.1 (Int.toNat x.1.2.2.1)) fun y3 =>
 .ite ((y3.2.2.1 != (IntKind.i64.wrap ((IntKind.i64.wrap (x.1.2.1 + (1 : Int))) + (1 : Int)))))
 (.ret (.ret (((-1 : Int), ()), ())))
 (.ite (decide (0 ≤ x.1.2.2.1))
 (.get (nth x.1.1 (Int.toNat x.1.2.2.1)) fun y4 =>
 .ite ((y4.2.2.2.1 != (IntKind.i64.wrap ((IntKind.i64.wrap ((IntKind.i64.wrap (x.1.2.1 + (1 : Int))) + (1 : Int))) + (1 : Int)))))
 (.ret (.ret (((-1 : Int), ()), ())))
 (.ret (.again ((x.1.1, (IntKind.i64.wrap ((IntKind.i64.wrap ((IntKind.i64.wrap ((IntKind.i64.wrap (x.1.2.1 + (1 : Int))) + (1 : Int))) + (1 : Int))) + (1 : Int))), (IntKind.i64.wrap (x.1.2.2.1 + (1 : Int))), ()), ()))))
 .fail))
 .fail))
 .fail))
 .fail)
 (.ret (.out ((x.1.2.1, ()), ())))
def f76_tree (a0 : List (Int × Int × Int × Int × Unit)) (a1 : Int) : Out (((Int × Unit) × Unit) × (Unit × Unit × Unit)) :=
 .get (iter f76_L0 FUEL ((a0, a1, (0 : Int), ()), ())) fun y1 => .alt y1 (fun y2 =>
 .ret (((y2.1.1, ()), ()), ((), (), ()))) (fun y3 =>
 .ret (((y3.1.1, ()), ()), ((), (), ())))
def f76_A : Nat → Option LoopAnn := fun n => annOf [(0, { head := { t := [.ro (.st (.cons (.int .i64) (.cons (.int .i64) (.cons (.int .i64) (.cons (.int .i64) .nil))))) (some 0), .i .i64, .dead, .dead, .dead, .i .i64, .dead, .dead, .dead, .dead, .dead, .dead, .dead, .dead, .dead, .dead, .dead, .dead, .dead, .dead, .dead, .dead, .dead, .dead, .dead, .dead, .dead, .dead, .dead, .dead, .dead, .dead, .dead, .dead, .dead, .dead, .dead, .dead, .dead, .dead, .dead, .dead, .dead, .dead, .dead, .dead, .dead, .dead, .dead], v := [] }, out := { t := [.dead, .i .i64, .dead, .dead, .dead, .dead, .dead, .dead, .dead, .dead, .dead, .dead, .dead, .dead, .dead, .dead, .dead, .dead, .dead, .dead, .dead, .dead, .dead, .dead, .dead, .dead, .dead, .dead, .dead, .dead, .dead, .dead, .dead, .dead, .dead, .dead, .dead, .dead, .dead, .dead, .dead, .dead, .dead, .dead, .dead, .dead, .dead, .dead, .dead], v := [] }, ret := some { t := [.dead, .dead, .dead, .dead, .i .i64, .dead, .dead, .dead, .dead, .dead, .dead, .dead, .dead, .dead, .dead, .dead, .dead, .dead, .dead, .dead, .dead, .dead, .dead, .dead, .dead, .dead, .dead, .dead, .dead, .dead, .dead, .dead, .dead, .dead, .dead, .dead, .dead, .dead, .dead, .dead, .dead, .dead, .dead, .dead, .dead, .dead, .dead, .dead, .dead], v := [] } })] n
def heldInsSV (a : List InsD) (k : Int) : Int := if a = (List.range a.length).map (markI k) then up k (4 * a.length) else -1
def k76 : Con := { f := 76, lend := true, its := [⟨false, false, [.ro (.st (.cons (.int .i64) (.cons (.int .i64) (.cons (.int .i64) (.cons (.int .i64) .nil)))))]⟩, ⟨false, false, [.i .i64]⟩], lay := [none, none], rs := [⟨false, false, [.i .i64]⟩], F := fun x => .ret ((((heldInsSV x.1.1 x.2.1.1), ()), ()), ((), (), ())) }
theorem f76_eq (x : itemsD k76.its) : bodyOut (cxOf []) (f76_A) (codeOf Try.f76) k76.its k76.lay Try.f76.ntmps k76.rs [.tmp 4] x = f76_tree x.1.1 x.2.1.1 := by kernel_rfl
theorem f76_ok (hr : ∀ x : (List (Int × Int × Int × Int × Unit) × Unit) × (Int × Unit) × Unit, itemsWF k76.its x → (f76_tree x.1.1 x.2.1.1).eval = (k76.F x).eval) : k76.Ok Try.prog :=
  con_fn [] trivial (by kernel_rfl) (codeOf_eq (by kernel_rfl)) (by kernel_rfl) (by kernel_rfl) (by kernel_rfl) f76_eq fun x hw _ hy => (hr x hw).trans hy
theorem k76_ok : k76.Ok Try.prog := by
  refine f76_ok fun x hw => ?_
  obtain ⟨⟨a, _⟩, ⟨k, _⟩, _⟩ := x
  have ha : a.length ≤ BIG := hw.1.1.1
  show (f76_tree a k).eval = some (((heldInsSV a k, ()), ()), ((), ((), ())))
  unfold f76_tree
  have := eq_loop (f := f76_L0) a ((List.range a.length).map (markI k)) (fun i => ((a, (up k (4 * i), (((i : Nat) : Int), ()))), ())) (y := ((up k (4 * a.length), ()), ())) (z := ((-1, ()), ())) (by simp) ha
    (fun i hi hi' he => by
      have := wrap_succ (i := i) (by omega)
      have h6 : up k (4 * (i + 1)) = IntKind.i64.wrap (IntKind.i64.wrap (IntKind.i64.wrap (IntKind.i64.wrap (up k (4 * i) + 1) + 1) + 1) + 1) := rfl
      have h7 : markI k i = (up k (4 * i), (IntKind.i64.wrap (up k (4 * i) + 1), (IntKind.i64.wrap (IntKind.i64.wrap (up k (4 * i) + 1) + 1), (IntKind.i64.wrap (IntKind.i64.wrap (IntKind.i64.wrap (up k (4 * i) + 1) + 1) + 1), ())))) := rfl
      simp only [List.getElem_map, List.getElem_range, h7] at he
      simp [f76_L0, Out.eval, hi, he, this, h6])
    (fun i hi hi' he => by
      have h7 : markI k i = (up k (4 * i), (IntKind.i64.wrap (up k (4 * i) + 1), (IntKind.i64.wrap (IntKind.i64.wrap (up k (4 * i) + 1) + 1), (IntKind.i64.wrap (IntKind.i64.wrap (IntKind.i64.wrap (up k (4 * i) + 1) + 1) + 1), ())))) := rfl
      simp only [List.getElem_map, List.getElem_range, h7] at he
      have hx : a[i] = (a[i].1, (a[i].2.1, (a[i].2.2.1, (a[i].2.2.2.1, ())))) := rfl
      rw [hx] at he
      by_cases q1 : a[i].1 = up k (4 * i) <;> by_cases q2 : a[i].2.1 = IntKind.i64.wrap (up k (4 * i) + 1) <;> by_cases q3 : a[i].2.2.1 = IntKind.i64.wrap (IntKind.i64.wrap (up k (4 * i) + 1) + 1) <;> by_cases q4 : a[i].2.2.2.1 = IntKind.i64.wrap (IntKind.i64.wrap (IntKind.i64.wrap (up k (4 * i) + 1) + 1) + 1) <;>
        first
        | exact absurd (by rw [q1, q2, q3, q4]) he
        | simp [f76_L0, Out.eval, hi, q1, q2, q3, q4, cond_eq_ite])
    (by simp [f76_L0, Out.eval])
  refine (eval_get_some this).trans ?_
  unfold heldInsSV
  by_cases hab : a = (List.range a.length).map (markI k)
  · rw [if_pos hab, if_pos hab]; rfl
  · rw [if_neg hab, if_neg hab]; rfl
/-! ## Right programs -/
def regV (n : Int) : Bool := decide (0 ≤ n) && decide (n < 4)
def placeV (n : Int) : Bool := inV n 0 40
def f244_tree (a0 : Int) : Out (((Bool × Unit) × Unit) × (Unit × Unit)) :=
 .ite ((decide (a0 ≥ (0 : Int))) == true)
 (.ret ((((decide (a0 < (4 : Int))), ()), ()), ((), ())))
 (.ret (((false, ()), ()), ((), ())))
def k244 : Con := { f := 244, lend := true, its := [⟨false, false, [.i .i64]⟩], lay := [none], rs := [⟨false, false, [.b]⟩], F := fun x => .ret ((((regV x.1.1), ()), ()), ((), ())) }
theorem f244_eq (x : itemsD k244.its) : bodyOut (cxOf []) (fun _ => none) (codeOf Try.f244) k244.its k244.lay Try.f244.ntmps k244.rs [.tmp 2] x = f244_tree x.1.1 := by kernel_rfl
theorem f244_ok (hr : ∀ x : (Int × Unit) × Unit, itemsWF k244.its x → (f244_tree x.1.1).eval = (k244.F x).eval) : k244.Ok Try.prog :=
  con_fn [] trivial (by kernel_rfl) (codeOf_eq (by kernel_rfl)) (by kernel_rfl) (by kernel_rfl) (by kernel_rfl) f244_eq fun x hw _ hy => (hr x hw).trans hy
theorem k244_ok : k244.Ok Try.prog := by
  refine f244_ok fun x _ => ?_
  obtain ⟨⟨n, _⟩, _⟩ := x
  show (f244_tree n).eval = some (((regV n, ()), ()), ((), ()))
  unfold f244_tree regV
  by_cases h1 : 0 ≤ n <;> simp [Out.eval, h1]
def f246_tree (a0 : Int) : Out (((Bool × Unit) × Unit) × (Unit × Unit)) :=
 .ret ((((inV a0 (0 : Int) (3 : Int)), ()), ()), ((), ()))
def k246 : Con := { f := 246, lend := true, its := [⟨false, false, [.i .i64]⟩], lay := [none], rs := [⟨false, false, [.b]⟩], F := fun x => .ret ((((regV x.1.1), ()), ()), ((), ())) }
theorem f246_eq (x : itemsD k246.its) : bodyOut (cxOf [k166]) (fun _ => none) (codeOf Try.f246) k246.its k246.lay Try.f246.ntmps k246.rs [.tmp 2] x = f246_tree x.1.1 := by kernel_rfl
theorem f246_ok (hr : ∀ x : (Int × Unit) × Unit, itemsWF k246.its x → (f246_tree x.1.1).eval = (k246.F x).eval) : k246.Ok Try.prog :=
  con_fn [k166] ⟨k166_ok, trivial⟩ (by kernel_rfl) (codeOf_eq (by kernel_rfl)) (by kernel_rfl) (by kernel_rfl) (by kernel_rfl) f246_eq fun x hw _ hy => (hr x hw).trans hy
theorem k246_ok : k246.Ok Try.prog := by
  refine f246_ok fun x _ => ?_
  obtain ⟨⟨n, _⟩, _⟩ := x
  show (f246_tree n).eval = some (((regV n, ()), ()), ((), ()))
  have h4 : decide (n ≤ 3) = decide (n < 4) := by rw [Bool.eq_iff_iff]; simp; omega
  unfold f246_tree regV inV
  rw [h4]; rfl
def f247_tree (a0 : Int) : Out (((Bool × Unit) × Unit) × (Unit × Unit)) :=
 .ret ((((inV a0 (0 : Int) (40 : Int)), ()), ()), ((), ()))
def k247 : Con := { f := 247, lend := true, its := [⟨false, false, [.i .i64]⟩], lay := [none], rs := [⟨false, false, [.b]⟩], F := fun x => .ret ((((placeV x.1.1), ()), ()), ((), ())) }
theorem f247_eq (x : itemsD k247.its) : bodyOut (cxOf [k166]) (fun _ => none) (codeOf Try.f247) k247.its k247.lay Try.f247.ntmps k247.rs [.tmp 2] x = f247_tree x.1.1 := by kernel_rfl
theorem f247_ok (hr : ∀ x : (Int × Unit) × Unit, itemsWF k247.its x → (f247_tree x.1.1).eval = (k247.F x).eval) : k247.Ok Try.prog :=
  con_fn [k166] ⟨k166_ok, trivial⟩ (by kernel_rfl) (codeOf_eq (by kernel_rfl)) (by kernel_rfl) (by kernel_rfl) (by kernel_rfl) f247_eq fun x hw _ hy => (hr x hw).trans hy
theorem k247_ok : k247.Ok Try.prog := f247_ok fun _ _ => rfl
/-- Is this an instruction? -/
def insOkV (o a b c : Int) : Bool :=
  bif o == 1 then regV a && (inV b (-1000000) 1000000 && (c == 0)) else
  bif o == 2 then regV a && (regV b && regV c) else
  bif o == 3 then regV a && (regV b && regV c) else
  bif o == 4 then regV a && (regV b && (c == 0)) else
  bif o == 5 then regV a && (regV b && (c == 0)) else
  bif o == 6 then inV a 0 40 && ((b == 0) && (c == 0)) else
  bif o == 7 then regV a && (inV b 0 40 && (c == 0)) else
  bif o == 8 then inV a 1 20 && ((b == 0) && (c == 0)) else false
theorem zero_eq (n : Int) : ((0 : Int) == n) = (n == 0) := by
  rw [Bool.eq_iff_iff]; simp only [beq_iff_eq]; omega
def f226_tree (a0 : Int) (a1 : Int) (a2 : Int) (a3 : Int) : Out (((Bool × Unit) × Unit) × (Unit × Unit)) :=
 .ite ((a0 == (1 : Int)))
 (.ite ((regV a1) == true)
 (.ite ((inV a2 (-1000000 : Int) (1000000 : Int)) == true)
 (.ret (((((a0 == a0) && ((a1 == a1) && ((a2 == a2) && (((0 : Int) == a3) && true)))), ()), ()), ((), ())))
 (.ret (((false, ()), ()), ((), ()))))
 (.ret (((false, ()), ()), ((), ()))))
 (.ite ((a0 == (2 : Int)))
 (.ite ((regV a1) == true)
 (.ite ((regV a2) == true)
 (.ite ((regV a3) == true)
 (.ret (((((a0 == a0) && ((a1 == a1) && ((a2 == a2) && ((a3 == a3) && true)))), ()), ()), ((), ())))
 (.ret (((false, ()), ()), ((), ()))))
 (.ret (((false, ()), ()), ((), ()))))
 (.ret (((false, ()), ()), ((), ()))))
 (.ite ((a0 == (3 : Int)))
 (.ite ((regV a1) == true)
 (.ite ((regV a2) == true)
 (.ite ((regV a3) == true)
 (.ret (((((a0 == a0) && ((a1 == a1) && ((a2 == a2) && ((a3 == a3) && true)))), ()), ()), ((), ())))
 (.ret (((false, ()), ()), ((), ()))))
 (.ret (((false, ()), ()), ((), ()))))
 (.ret (((false, ()), ()), ((), ()))))
 (.ite ((a0 == (4 : Int)))
 (.ite ((regV a1) == true)
 (.ite ((regV a2) == true)
 (.ret (((((a0 == a0) && ((a1 == a1) && ((a2 == a2) && (((0 : Int) == a3) && true)))), ()), ()), ((), ())))
 (.ret (((false, ()), ()), ((), ()))))
 (.ret (((false, ()), ()), ((), ()))))
 (.ite ((a0 == (5 : Int)))
 (.ite ((regV a1) == true)
 (.ite ((regV a2) == true)
 (.ret (((((a0 == a0) && ((a1 == a1) && ((a2 == a2) && (((0 : Int) == a3) && true)))), ()), ()), ((), ())))
 (.ret (((false, ()), ()), ((), ()))))
 (.ret (((false, ()), ()), ((), ()))))
 (.ite ((a0 == (6 : Int)))
 (.ite ((inV a1 (0 : Int) (40 : Int)) == true)
 (.ret (((((a0 == a0) && ((a1 == a1) && (((0 : Int) == a2) && (((0 : Int) == a3) && true)))), ()), ()), ((), ())))
 (.ret (((false, ()), ()), ((), ()))))
 (.ite ((a0 == (7 : Int)))
 (.ite ((regV a1) == true)
 (.ite ((inV a2 (0 : Int) (40 : Int)) == true)
 (.ret (((((a0 == a0) && ((a1 == a1) && ((a2 == a2) && (((0 : Int) == a3) && true)))), ()), ()), ((), ())))
 (.ret (((false, ()), ()), ((), ()))))
 (.ret (((false, ()), ()), ((), ()))))
 (.ite ((a0 == (8 : Int)))
 (.ite ((inV a1 (1 : Int) (20 : Int)) == true)
 (.ret (((((a0 == a0) && ((a1 == a1) && (((0 : Int) == a2) && (((0 : Int) == a3) && true)))), ()), ()), ((), ())))
 (.ret (((false, ()), ()), ((), ()))))
 (.ret (((false, ()), ()), ((), ()))))))))))
def k226 : Con := { f := 226, lend := true, its := [⟨false, true, [.i .i64, .i .i64, .i .i64, .i .i64]⟩], lay := [none], rs := [⟨false, false, [.b]⟩], F := fun x => .ret ((((insOkV x.1.1 x.1.2.1 x.1.2.2.1 x.1.2.2.2.1), ()), ()), ((), ())) }
theorem f226_eq (x : itemsD k226.its) : bodyOut (cxOf [k244, k165]) (fun _ => none) (codeOf Try.f226) k226.its k226.lay Try.f226.ntmps k226.rs [.tmp 2] x = f226_tree x.1.1 x.1.2.1 x.1.2.2.1 x.1.2.2.2.1 := by kernel_rfl
theorem f226_ok (hr : ∀ x : (Int × Int × Int × Int × Unit) × Unit, itemsWF k226.its x → (f226_tree x.1.1 x.1.2.1 x.1.2.2.1 x.1.2.2.2.1).eval = (k226.F x).eval) : k226.Ok Try.prog :=
  con_fn [k244, k165] ⟨k244_ok, k165_ok, trivial⟩ (by kernel_rfl) (codeOf_eq (by kernel_rfl)) (by kernel_rfl) (by kernel_rfl) (by kernel_rfl) f226_eq fun x hw _ hy => (hr x hw).trans hy
theorem k226_ok : k226.Ok Try.prog := by
  refine f226_ok fun x _ => ?_
  obtain ⟨⟨o, a, b, c, _⟩, _⟩ := x
  show (f226_tree o a b c).eval = some (((insOkV o a b c, ()), ()), ((), ()))
  unfold f226_tree insOkV
  simp only [Out.eval, zero_eq, beq_self_eq_true, Bool.true_and, Bool.and_true]
  cases (o == (1 : Int))
  rotate_left
  · cases regV a <;> cases inV b (-1000000) 1000000 <;> rfl
  cases (o == (2 : Int))
  rotate_left
  · cases regV a <;> cases regV b <;> cases regV c <;> rfl
  cases (o == (3 : Int))
  rotate_left
  · cases regV a <;> cases regV b <;> cases regV c <;> rfl
  cases (o == (4 : Int))
  rotate_left
  · cases regV a <;> cases regV b <;> rfl
  cases (o == (5 : Int))
  rotate_left
  · cases regV a <;> cases regV b <;> rfl
  cases (o == (6 : Int))
  rotate_left
  · cases inV a 0 40 <;> rfl
  cases (o == (7 : Int))
  rotate_left
  · cases regV a <;> cases inV b 0 40 <;> rfl
  cases (o == (8 : Int))
  · rfl
  · cases inV a 1 20 <;> rfl
def f229_tree (a0 : Int) (a1 : Int) (a2 : Int) (a3 : Int) : Out (((Bool × Unit) × Unit) × (Unit × Unit)) :=
 .ite ((a0 == (1 : Int)))
 (.ite ((regV a1) == true)
 (.ite ((wordV a2) == true)
 (.ret (((((a3 == (0 : Int))), ()), ()), ((), ())))
 (.ret (((false, ()), ()), ((), ()))))
 (.ret (((false, ()), ()), ((), ()))))
 (.ite ((a0 == (2 : Int)))
 (.ite ((regV a1) == true)
 (.ite ((regV a2) == true)
 (.ret ((((regV a3), ()), ()), ((), ())))
 (.ret (((false, ()), ()), ((), ()))))
 (.ret (((false, ()), ()), ((), ()))))
 (.ite ((a0 == (3 : Int)))
 (.ite ((regV a1) == true)
 (.ite ((regV a2) == true)
 (.ret ((((regV a3), ()), ()), ((), ())))
 (.ret (((false, ()), ()), ((), ()))))
 (.ret (((false, ()), ()), ((), ()))))
 (.ite ((a0 == (4 : Int)))
 (.ite ((regV a1) == true)
 (.ite ((regV a2) == true)
 (.ret (((((a3 == (0 : Int))), ()), ()), ((), ())))
 (.ret (((false, ()), ()), ((), ()))))
 (.ret (((false, ()), ()), ((), ()))))
 (.ite ((a0 == (5 : Int)))
 (.ite ((regV a1) == true)
 (.ite ((regV a2) == true)
 (.ret (((((a3 == (0 : Int))), ()), ()), ((), ())))
 (.ret (((false, ()), ()), ((), ()))))
 (.ret (((false, ()), ()), ((), ()))))
 (.ite ((a0 == (6 : Int)))
 (.ite ((placeV a1) == true)
 (.ite (((a2 == (0 : Int))) == true)
 (.ret (((((a3 == (0 : Int))), ()), ()), ((), ())))
 (.ret (((false, ()), ()), ((), ()))))
 (.ret (((false, ()), ()), ((), ()))))
 (.ite ((a0 == (7 : Int)))
 (.ite ((regV a1) == true)
 (.ite ((placeV a2) == true)
 (.ret (((((a3 == (0 : Int))), ()), ()), ((), ())))
 (.ret (((false, ()), ()), ((), ()))))
 (.ret (((false, ()), ()), ((), ()))))
 (.ite ((a0 == (8 : Int)))
 (.ite ((inV a1 (1 : Int) (20 : Int)) == true)
 (.ite (((a2 == (0 : Int))) == true)
 (.ret (((((a3 == (0 : Int))), ()), ()), ((), ())))
 (.ret (((false, ()), ()), ((), ()))))
 (.ret (((false, ()), ()), ((), ()))))
 (.ret (((false, ()), ()), ((), ()))))))))))
def k229 : Con := { f := 229, lend := true, its := [⟨false, true, [.i .i64, .i .i64, .i .i64, .i .i64]⟩], lay := [none], rs := [⟨false, false, [.b]⟩], F := fun x => .ret ((((insOkV x.1.1 x.1.2.1 x.1.2.2.1 x.1.2.2.2.1), ()), ()), ((), ())) }
theorem f229_eq (x : itemsD k229.its) : bodyOut (cxOf [k246, k216, k247, k166]) (fun _ => none) (codeOf Try.f229) k229.its k229.lay Try.f229.ntmps k229.rs [.tmp 2] x = f229_tree x.1.1 x.1.2.1 x.1.2.2.1 x.1.2.2.2.1 := by kernel_rfl
theorem f229_ok (hr : ∀ x : (Int × Int × Int × Int × Unit) × Unit, itemsWF k229.its x → (f229_tree x.1.1 x.1.2.1 x.1.2.2.1 x.1.2.2.2.1).eval = (k229.F x).eval) : k229.Ok Try.prog :=
  con_fn [k246, k216, k247, k166] ⟨k246_ok, k216_ok, k247_ok, k166_ok, trivial⟩ (by kernel_rfl) (codeOf_eq (by kernel_rfl)) (by kernel_rfl) (by kernel_rfl) (by kernel_rfl) f229_eq fun x hw _ hy => (hr x hw).trans hy
theorem k229_ok : k229.Ok Try.prog := by
  refine f229_ok fun x _ => ?_
  obtain ⟨⟨o, a, b, c, _⟩, _⟩ := x
  show (f229_tree o a b c).eval = some (((insOkV o a b c, ()), ()), ((), ()))
  unfold f229_tree insOkV placeV wordV
  simp only [Out.eval]
  cases (o == (1 : Int))
  rotate_left
  · cases regV a <;> cases inV b (-1000000) 1000000 <;> rfl
  cases (o == (2 : Int))
  rotate_left
  · cases regV a <;> cases regV b <;> cases regV c <;> rfl
  cases (o == (3 : Int))
  rotate_left
  · cases regV a <;> cases regV b <;> cases regV c <;> rfl
  cases (o == (4 : Int))
  rotate_left
  · cases regV a <;> cases regV b <;> rfl
  cases (o == (5 : Int))
  rotate_left
  · cases regV a <;> cases regV b <;> rfl
  cases (o == (6 : Int))
  rotate_left
  · cases inV a 0 40 <;> cases (b == (0 : Int)) <;> rfl
  cases (o == (7 : Int))
  rotate_left
  · cases regV a <;> cases inV b 0 40 <;> rfl
  cases (o == (8 : Int))
  · rfl
  · cases inV a 1 20 <;> cases (b == (0 : Int)) <;> rfl
def f228_tree (a0 : Int) (a1 : Int) (a2 : Int) (a3 : Int) : Out (((Bool × Unit) × Unit) × (Unit × Unit)) :=
 .ret ((((!(insOkV a0 a1 a2 a3)), ()), ()), ((), ()))
def insNotV (o a b c : Int) : Bool := !insOkV o a b c
def k228 : Con := { f := 228, lend := true, its := [⟨false, true, [.i .i64, .i .i64, .i .i64, .i .i64]⟩], lay := [none], rs := [⟨false, false, [.b]⟩], F := fun x => .ret ((((insNotV x.1.1 x.1.2.1 x.1.2.2.1 x.1.2.2.2.1), ()), ()), ((), ())) }
theorem f228_eq (x : itemsD k228.its) : bodyOut (cxOf [k229]) (fun _ => none) (codeOf Try.f228) k228.its k228.lay Try.f228.ntmps k228.rs [.tmp 2] x = f228_tree x.1.1 x.1.2.1 x.1.2.2.1 x.1.2.2.2.1 := by kernel_rfl
theorem f228_ok (hr : ∀ x : (Int × Int × Int × Int × Unit) × Unit, itemsWF k228.its x → (f228_tree x.1.1 x.1.2.1 x.1.2.2.1 x.1.2.2.2.1).eval = (k228.F x).eval) : k228.Ok Try.prog :=
  con_fn [k229] ⟨k229_ok, trivial⟩ (by kernel_rfl) (codeOf_eq (by kernel_rfl)) (by kernel_rfl) (by kernel_rfl) (by kernel_rfl) f228_eq fun x hw _ hy => (hr x hw).trans hy
theorem k228_ok : k228.Ok Try.prog := f228_ok fun _ _ => rfl
def insOk1 (x : InsD) : Bool := insOkV x.1 x.2.1 x.2.2.1 x.2.2.2.1
def progOkV (l : List InsD) : Bool := decide (l.length ≤ 40) && l.all insOk1
abbrev f208_S0 := (List ((Int × Int × Int × Int × Unit)) × Int × Unit) × (Unit)
def f208_L0 (x : f208_S0) : Out (Round f208_S0 ((Unit) × (Unit)) ((Bool × Unit) × (Unit))) :=
 .ite (decide (x.1.2.1 < ((List.length x.1.1 : Nat) : Int)))
 (.ite (decide (0 ≤ x.1.2.1))
 (.get (nth x.1.1 (Int.toNat x.1.2.1)) fun y1 =>
 .ite (!(insOkV y1.1 y1.2.1 y1.2.2.1 y1.2.2.2.1))
 (.ret (.ret ((false, ()), ())))
 (.ret (.again ((x.1.1, (IntKind.i64.wrap (x.1.2.1 + (1 : Int))), ()), ()))))
 .fail)
 (.ret (.out ((), ())))
def f208_tree (a0 : List (Int × Int × Int × Int × Unit)) : Out (((Bool × Unit) × Unit) × (Unit × Unit)) :=
 .ite (decide (((List.length a0 : Nat) : Int) > (40 : Int)))
 (.ret (((false, ()), ()), ((), ())))
 (.get (iter f208_L0 FUEL ((a0, (0 : Int), ()), ())) fun y1 => .alt y1 (fun y2 =>
 .ret (((true, ()), ()), ((), ()))) (fun y3 =>
 .ret (((y3.1.1, ()), ()), ((), ()))))
def f208_A : Nat → Option LoopAnn := fun n => annOf [(0, { head := { t := [.ro (.st (.cons (.int .i64) (.cons (.int .i64) (.cons (.int .i64) (.cons (.int .i64) .nil))))) (some 0), .dead, .dead, .i .i64, .dead, .dead, .dead, .dead, .dead, .dead, .dead, .dead, .dead, .dead, .dead, .dead, .dead, .dead, .dead], v := [] }, out := { t := [.dead, .dead, .dead, .dead, .dead, .dead, .dead, .dead, .dead, .dead, .dead, .dead, .dead, .dead, .dead, .dead, .dead, .dead, .dead], v := [] }, ret := some { t := [.dead, .dead, .b, .dead, .dead, .dead, .dead, .dead, .dead, .dead, .dead, .dead, .dead, .dead, .dead, .dead, .dead, .dead, .dead], v := [] } })] n
def k208 : Con := { f := 208, lend := true, its := [⟨false, false, [.ro (.st (.cons (.int .i64) (.cons (.int .i64) (.cons (.int .i64) (.cons (.int .i64) .nil)))))]⟩], lay := [none], rs := [⟨false, false, [.b]⟩], F := fun x => .ret ((((progOkV x.1.1), ()), ()), ((), ())) }
theorem f208_eq (x : itemsD k208.its) : bodyOut (cxOf [k226]) (f208_A) (codeOf Try.f208) k208.its k208.lay Try.f208.ntmps k208.rs [.tmp 2] x = f208_tree x.1.1 := by kernel_rfl
theorem f208_ok (hr : ∀ x : (List (Int × Int × Int × Int × Unit) × Unit) × Unit, itemsWF k208.its x → (f208_tree x.1.1).eval = (k208.F x).eval) : k208.Ok Try.prog :=
  con_fn [k226] ⟨k226_ok, trivial⟩ (by kernel_rfl) (codeOf_eq (by kernel_rfl)) (by kernel_rfl) (by kernel_rfl) (by kernel_rfl) f208_eq fun x hw _ hy => (hr x hw).trans hy
theorem k208_ok : k208.Ok Try.prog := by
  refine f208_ok fun x hw => ?_
  obtain ⟨⟨a, _⟩, _⟩ := x
  have ha : a.length ≤ BIG := hw.1.1.1
  show (f208_tree a).eval = some (((progOkV a, ()), ()), ((), ()))
  unfold f208_tree progOkV
  have e2 : decide (((a.length : Nat) : Int) > (40 : Int)) = !decide (a.length ≤ 40) := gt_cast (m := 40)
  rw [e2]
  by_cases h1 : a.length ≤ 40
  · rw [eval_ite_f (by simp [h1]), decide_eq_true h1, Bool.true_and]
    have := all_loop (f := f208_L0) a insOk1 (fun i => ((a, (((i : Nat) : Int), ())), ())) (y := ((), ())) (z := ((false, ()), ()))
      (fun i hi hp => by
        have g1 := wrap_succ (i := i) (by omega)
        have hp : insOkV a[i].1 a[i].2.1 a[i].2.2.1 a[i].2.2.2.1 = true := hp
        simp [f208_L0, Out.eval, hi, g1, hp])
      (fun i hi hp => by
        have hp : insOkV a[i].1 a[i].2.1 a[i].2.2.1 a[i].2.2.2.1 = false := hp
        simp [f208_L0, Out.eval, hi, hp])
      (by simp [f208_L0, Out.eval]) ha
    refine (eval_get_some this).trans ?_
    cases a.all insOk1 <;> rfl
  · rw [eval_ite_t (by simp [h1]), decide_eq_false h1]; rfl
abbrev f245_S0 := (List ((Int × Int × Int × Int × Unit)) × Int × Int × Unit) × (Unit)
def f245_L0 (x : f245_S0) : Out (Round f245_S0 ((Unit) × (Unit)) ((Int × Unit) × (Unit))) :=
 .ite (decide (x.1.2.2.1 < x.1.2.1))
 (.ite (decide (0 ≤ x.1.2.2.1))
 (.get (nth x.1.1 (Int.toNat x.1.2.2.1)) fun y1 =>
 .ite (insNotV y1.1 y1.2.1 y1.2.2.1 y1.2.2.2.1)
 (.ret (.ret ((x.1.2.2.1, ()), ())))
 (.ret (.again ((x.1.1, x.1.2.1, (IntKind.i64.wrap (x.1.2.2.1 + (1 : Int))), ()), ()))))
 .fail)
 (.ret (.out ((), ())))
def f245_tree (a0 : List (Int × Int × Int × Int × Unit)) : Out (((Int × Unit) × Unit) × (Unit × Unit)) :=
 .get (iter f245_L0 FUEL ((a0, ((List.length a0 : Nat) : Int), (0 : Int), ()), ())) fun y1 => .alt y1 (fun y2 =>
 .ret ((((-1 : Int), ()), ()), ((), ()))) (fun y3 =>
 .ret (((y3.1.1, ()), ()), ((), ())))
def f245_A : Nat → Option LoopAnn := fun n => annOf [(0, { head := { t := [.ro (.st (.cons (.int .i64) (.cons (.int .i64) (.cons (.int .i64) (.cons (.int .i64) .nil))))) (some 0), .fn 228 [], .dead, .dead, .dead, .dead, .dead, .i .i64, .i .i64, .dead, .dead, .dead, .dead, .dead, .dead, .dead, .dead, .dead, .dead], v := [] }, out := { t := [.dead, .dead, .dead, .dead, .dead, .dead, .dead, .dead, .dead, .dead, .dead, .dead, .dead, .dead, .dead, .dead, .dead, .dead, .dead], v := [] }, ret := some { t := [.dead, .dead, .dead, .dead, .i .i64, .dead, .dead, .dead, .dead, .dead, .dead, .dead, .dead, .dead, .dead, .dead, .dead, .dead, .dead], v := [] } })] n
def indexInsV (a : List InsD) : Int := idxV (a.findIdx? fun x => !insOk1 x)
def k245 : Con := { f := 245, lend := true, its := [⟨false, false, [.ro (.st (.cons (.int .i64) (.cons (.int .i64) (.cons (.int .i64) (.cons (.int .i64) .nil)))))]⟩], lay := [none, some (228, 0)], rs := [⟨false, false, [.i .i64]⟩], F := fun x => .ret ((((indexInsV x.1.1), ()), ()), ((), ())) }
theorem f245_eq (x : itemsD k245.its) : bodyOut (cxOf [k228]) (f245_A) (codeOf Try.f245) k245.its k245.lay Try.f245.ntmps k245.rs [.tmp 4] x = f245_tree x.1.1 := by kernel_rfl
theorem f245_ok (hr : ∀ x : (List (Int × Int × Int × Int × Unit) × Unit) × Unit, itemsWF k245.its x → (f245_tree x.1.1).eval = (k245.F x).eval) : k245.Ok Try.prog :=
  con_fn [k228] ⟨k228_ok, trivial⟩ (by kernel_rfl) (codeOf_eq (by kernel_rfl)) (by kernel_rfl) (by kernel_rfl) (by kernel_rfl) f245_eq fun x hw _ hy => (hr x hw).trans hy
theorem k245_ok : k245.Ok Try.prog := by
  refine f245_ok fun x hw => ?_
  obtain ⟨⟨a, _⟩, _⟩ := x
  have ha : a.length ≤ BIG := hw.1.1.1
  show (f245_tree a).eval = some (((indexInsV a, ()), ()), ((), ()))
  unfold f245_tree indexInsV
  have := idx_loop (f := f245_L0) a (fun x : InsD => !insOk1 x) (fun i => ((a, (((a.length : Nat) : Int), (((i : Nat) : Int), ()))), ())) (y := ((), ())) (z := fun i => ((((i : Nat) : Int), ()), ()))
    (fun i hi hp => by
      have g1 := wrap_succ (i := i) (by omega)
      have hp : insNotV a[i].1 a[i].2.1 a[i].2.2.1 a[i].2.2.2.1 = false := hp
      simp [f245_L0, Out.eval, hi, g1, hp])
    (fun i hi hp => by
      have hp : insNotV a[i].1 a[i].2.1 a[i].2.2.1 a[i].2.2.2.1 = true := hp
      simp [f245_L0, Out.eval, hi, hp])
    (by simp [f245_L0, Out.eval]) ha
  refine (eval_get_some this).trans ?_
  cases a.findIdx? (fun x : InsD => !insOk1 x) <;> rfl
def f227_tree (a0 : List (Int × Int × Int × Int × Unit)) : Out (((Bool × Unit) × Unit) × (Unit × Unit)) :=
 .ret ((((decide ((indexInsV a0) ≥ (0 : Int))), ()), ()), ((), ()))
def anyInsV (a : List InsD) : Bool := a.any fun x => !insOk1 x
def k227 : Con := { f := 227, lend := true, its := [⟨false, false, [.ro (.st (.cons (.int .i64) (.cons (.int .i64) (.cons (.int .i64) (.cons (.int .i64) .nil)))))]⟩], lay := [none, some (228, 0)], rs := [⟨false, false, [.b]⟩], F := fun x => .ret ((((anyInsV x.1.1), ()), ()), ((), ())) }
theorem f227_eq (x : itemsD k227.its) : bodyOut (cxOf [k245]) (fun _ => none) (codeOf Try.f227) k227.its k227.lay Try.f227.ntmps k227.rs [.tmp 4] x = f227_tree x.1.1 := by kernel_rfl
theorem f227_ok (hr : ∀ x : (List (Int × Int × Int × Int × Unit) × Unit) × Unit, itemsWF k227.its x → (f227_tree x.1.1).eval = (k227.F x).eval) : k227.Ok Try.prog :=
  con_fn [k245] ⟨k245_ok, trivial⟩ (by kernel_rfl) (codeOf_eq (by kernel_rfl)) (by kernel_rfl) (by kernel_rfl) (by kernel_rfl) f227_eq fun x hw _ hy => (hr x hw).trans hy
theorem k227_ok : k227.Ok Try.prog := by
  refine f227_ok fun x _ => ?_
  obtain ⟨⟨a, _⟩, _⟩ := x
  show (f227_tree a).eval = some (((anyInsV a, ()), ()), ((), ()))
  unfold f227_tree anyInsV indexInsV
  rw [idxV_ge]
  rfl
def f210_tree (a0 : List (Int × Int × Int × Int × Unit)) : Out (((Bool × Unit) × Unit) × (Unit × Unit)) :=
 .ite ((decide (((List.length a0 : Nat) : Int) ≤ (40 : Int))) == true)
 (.ret ((((!(anyInsV a0)), ()), ()), ((), ())))
 (.ret (((false, ()), ()), ((), ())))
def k210 : Con := { f := 210, lend := true, its := [⟨false, false, [.ro (.st (.cons (.int .i64) (.cons (.int .i64) (.cons (.int .i64) (.cons (.int .i64) .nil)))))]⟩], lay := [none], rs := [⟨false, false, [.b]⟩], F := fun x => .ret ((((progOkV x.1.1), ()), ()), ((), ())) }
theorem f210_eq (x : itemsD k210.its) : bodyOut (cxOf [k227]) (fun _ => none) (codeOf Try.f210) k210.its k210.lay Try.f210.ntmps k210.rs [.tmp 2] x = f210_tree x.1.1 := by kernel_rfl
theorem f210_ok (hr : ∀ x : (List (Int × Int × Int × Int × Unit) × Unit) × Unit, itemsWF k210.its x → (f210_tree x.1.1).eval = (k210.F x).eval) : k210.Ok Try.prog :=
  con_fn [k227] ⟨k227_ok, trivial⟩ (by kernel_rfl) (codeOf_eq (by kernel_rfl)) (by kernel_rfl) (by kernel_rfl) (by kernel_rfl) f210_eq fun x hw _ hy => (hr x hw).trans hy
theorem k210_ok : k210.Ok Try.prog := by
  refine f210_ok fun x _ => ?_
  obtain ⟨⟨a, _⟩, _⟩ := x
  show (f210_tree a).eval = some (((progOkV a, ()), ()), ((), ()))
  unfold f210_tree progOkV
  have e2 : decide (((a.length : Nat) : Int) ≤ (40 : Int)) = decide (a.length ≤ 40) := le_cast (m := 40)
  have e4 : a.all insOk1 = !anyInsV a := (not_any a _).symm
  rw [e2, e4]
  by_cases h1 : a.length ≤ 40 <;> simp [Out.eval, h1]
/-! ## Programs, read -/
def insD (a b c d : Int) : InsD := (a, (b, ((bif a == 1 then zagV c else c), (d, ()))))
def insL : List Int → InsD
  | [a, b, c, d] => insD a b c d
  | _ => (0, (0, (0, (0, ()))))
def insP : Nat → Str → Option (List InsD × Nat)
  | 0, _ => some ([], 0)
  | n + 1, s => match numsP 4 s with
    | none => none
    | some (v, k) => match insP n (s.drop k) with
      | none => none
      | some (l, k') => some (insL v :: l, k + k')
def progP (s : Str) : Option (List InsD × Nat) := match rvI s with
  | none => none
  | some i => if 40 < decB (s.take (i + 1)) then none else match insP (decB (s.take (i + 1))) (s.drop (i + 1)) with
    | none => none
    | some (l, k) => if progOkV l = true then some (l, i + 1 + k) else none
def readProgV (s : Str) : List InsD × Bool := match progP s with
  | none => ([], false)
  | some (l, k) => if k = s.length then (l, true) else ([], false)
theorem four_of {l : List Int} (h : l.length = 4) : ∃ a b c d, l = [a, b, c, d] := by
  rcases l with _ | ⟨a, _ | ⟨b, _ | ⟨c, _ | ⟨d, _ | ⟨e, r⟩⟩⟩⟩⟩
  · exact nomatch h
  · exact nomatch h
  · exact nomatch h
  · exact nomatch h
  · exact ⟨a, b, c, d, rfl⟩
  · simp at h
theorem insP_le : ∀ {n : Nat} {s : Str} {l : List InsD} {k : Nat}, insP n s = some (l, k) → k ≤ s.length ∧ l.length = n
  | 0, s, l, k, h => by simp only [insP, Option.some.injEq, Prod.mk.injEq] at h; obtain ⟨rfl, rfl⟩ := h; simp
  | n + 1, s, l, k, h => by
    simp only [insP] at h
    split at h
    · exact nomatch h
    · rename_i v k1 hv
      split at h
      · exact nomatch h
      · rename_i l' k' hr
        simp only [Option.some.injEq, Prod.mk.injEq] at h
        obtain ⟨rfl, rfl⟩ := h
        have h1 := insP_le hr
        have h2 := (numsP_le hv).1
        rw [List.length_drop] at h1
        exact ⟨by omega, by rw [List.length_cons, h1.2]⟩
abbrev f162_S0 := (List UInt8 × Int × Int × Unit) × (List ((Int × Int × Int × Int × Unit)) × List (Int) × Unit)
def f162_L0 (x : f162_S0) : Out (Round f162_S0 ((Int × Unit) × (List ((Int × Int × Int × Int × Unit)) × Unit)) ((Int × Unit) × (List ((Int × Int × Int × Int × Unit)) × Unit))) :=
 .ite (decide (0 ≤ (0 : Int) ∧ (0 : Int) < ((List.length x.2.2.1 : Nat) : Int)))
 (.get (nth x.2.2.1 (Int.toNat (0 : Int))) fun y1 =>
 .ite (decide (x.1.2.2.1 < y1))
 (.get (l3VarsV x.1.1 x.1.2.1 (4 : Int)) fun y2 =>
 .ite (decide (y2.2 < (0 : Int)))
 (.ret (.ret (((-1 : Int), ()), (([] : List ((Int × Int × Int × Int × Unit))), ()))))
 (.ite (decide (0 ≤ (0 : Int) ∧ (0 : Int) < ((List.length y2.1 : Nat) : Int)))
 (.get (nth y2.1 (Int.toNat (0 : Int))) fun y3 =>
 .ite (decide (0 ≤ (1 : Int) ∧ (1 : Int) < ((List.length y2.1 : Nat) : Int)))
 (.get (nth y2.1 (Int.toNat (1 : Int))) fun y4 =>
 .ite (decide (0 ≤ (2 : Int) ∧ (2 : Int) < ((List.length y2.1 : Nat) : Int)))
 (.get (nth y2.1 (Int.toNat (2 : Int))) fun y5 =>
 .ite (decide (0 ≤ (3 : Int) ∧ (3 : Int) < ((List.length y2.1 : Nat) : Int)))
 (.get (nth y2.1 (Int.toNat (3 : Int))) fun y6 =>
 .ite ((y3 == (1 : Int)))
 (.ite (decide (List.length x.2.1 + List.length ([(y3, y4, (zagV y5), y6, ())] : List ((Int × Int × Int × Int × Unit))) ≤ LIM))
 (.ret (.again ((x.1.1, y2.2, (IntKind.i64.wrap (x.1.2.2.1 + (1 : Int))), ()), ((x.2.1 ++ ([(y3, y4, (zagV y5), y6, ())] : List ((Int × Int × Int × Int × Unit)))), x.2.2.1, ()))))
 .fail)
 (.ite (decide (List.length x.2.1 + List.length ([(y3, y4, y5, y6, ())] : List ((Int × Int × Int × Int × Unit))) ≤ LIM))
 (.ret (.again ((x.1.1, y2.2, (IntKind.i64.wrap (x.1.2.2.1 + (1 : Int))), ()), ((x.2.1 ++ ([(y3, y4, y5, y6, ())] : List ((Int × Int × Int × Int × Unit)))), x.2.2.1, ()))))
 .fail))
 .fail)
 .fail)
 .fail)
 .fail))
 (.ret (.out ((x.1.2.1, ()), (x.2.1, ())))))
 .fail
def f162_tree (a0 : List UInt8) (a1 : Int) : Out (((List (Int × Int × Int × Int × Unit) × Unit) × (Int × Unit) × Unit) × (Unit × Unit × Unit)) :=
 .get (l3VarsV a0 a1 (1 : Int)) fun y1 =>
 .ite ((decide (y1.2 < (0 : Int))) == false)
 (.ite (decide (0 ≤ (0 : Int) ∧ (0 : Int) < ((List.length y1.1 : Nat) : Int)))
 (.get (nth y1.1 (Int.toNat (0 : Int))) fun y2 =>
 .ite (decide (y2 > (40 : Int)))
 (.ret (((([] : List ((Int × Int × Int × Int × Unit))), ()), ((-1 : Int), ()), ()), ((), (), ())))
 (.get (iter f162_L0 FUEL ((a0, y1.2, (0 : Int), ()), (([] : List ((Int × Int × Int × Int × Unit))), y1.1, ()))) fun y3 => .alt y3 (fun y4 =>
 .ite (!(progOkV y4.2.1))
 (.ret (((([] : List ((Int × Int × Int × Int × Unit))), ()), ((-1 : Int), ()), ()), ((), (), ())))
 (.ret (((y4.2.1, ()), (y4.1.1, ()), ()), ((), (), ())))) (fun y5 =>
 .ret (((y5.2.1, ()), (y5.1.1, ()), ()), ((), (), ())))))
 .fail)
 (.ret (((([] : List ((Int × Int × Int × Int × Unit))), ()), ((-1 : Int), ()), ()), ((), (), ())))
def f162_A : Nat → Option LoopAnn := fun n => annOf [(0, { head := { t := [.s, .i .i64, .dead, .dead, .dead, .dead, .srf 64000000, .srf 64000001, .i .i64, .dead, .dead, .dead, .dead, .dead, .dead, .dead, .dead, .dead, .dead, .dead, .dead, .dead, .dead, .dead, .dead, .dead, .dead, .dead, .dead, .dead, .dead, .dead, .dead, .dead, .dead, .dead, .dead, .dead, .dead, .dead, .dead, .dead, .dead, .dead, .dead, .dead, .dead, .dead, .dead, .dead, .dead, .dead, .dead, .dead, .dead, .dead, .dead, .dead, .dead, .dead, .dead, .dead, .dead, .dead, .dead, .dead, .dead, .dead, .dead, .dead, .dead, .dead, .dead, .dead, .dead], v := [(64000000, .arr (.st (.cons (.int .i64) (.cons (.int .i64) (.cons (.int .i64) (.cons (.int .i64) .nil)))))), (64000001, .arr (.int .i64))] }, out := { t := [.dead, .i .i64, .dead, .dead, .dead, .dead, .srf 64000256, .dead, .dead, .dead, .dead, .dead, .dead, .dead, .dead, .dead, .dead, .dead, .dead, .dead, .dead, .dead, .dead, .dead, .dead, .dead, .dead, .dead, .dead, .dead, .dead, .dead, .dead, .dead, .dead, .dead, .dead, .dead, .dead, .dead, .dead, .dead, .dead, .dead, .dead, .dead, .dead, .dead, .dead, .dead, .dead, .dead, .dead, .dead, .dead, .dead, .dead, .dead, .dead, .dead, .dead, .dead, .dead, .dead, .dead, .dead, .dead, .dead, .dead, .dead, .dead, .dead, .dead, .dead, .dead], v := [(64000256, .arr (.st (.cons (.int .i64) (.cons (.int .i64) (.cons (.int .i64) (.cons (.int .i64) .nil))))))] }, ret := some { t := [.dead, .dead, .dead, .dead, .srf 64000512, .i .i64, .dead, .dead, .dead, .dead, .dead, .dead, .dead, .dead, .dead, .dead, .dead, .dead, .dead, .dead, .dead, .dead, .dead, .dead, .dead, .dead, .dead, .dead, .dead, .dead, .dead, .dead, .dead, .dead, .dead, .dead, .dead, .dead, .dead, .dead, .dead, .dead, .dead, .dead, .dead, .dead, .dead, .dead, .dead, .dead, .dead, .dead, .dead, .dead, .dead, .dead, .dead, .dead, .dead, .dead, .dead, .dead, .dead, .dead, .dead, .dead, .dead, .dead, .dead, .dead, .dead, .dead, .dead, .dead, .dead], v := [(64000512, .arr (.st (.cons (.int .i64) (.cons (.int .i64) (.cons (.int .i64) (.cons (.int .i64) .nil))))))] } })] n
def l3ReadV (s : Str) (p : Int) : Option (List InsD × Int) := if p = 0 then some (match progP s with
  | none => ([], -1)
  | some (l, k) => (l, ((k : Nat) : Int))) else none
def k162 : Con := { f := 162, lend := true, its := [⟨false, false, [.s]⟩, ⟨false, false, [.i .i64]⟩], lay := [none, none], rs := [⟨false, false, [.own (.st (.cons (.int .i64) (.cons (.int .i64) (.cons (.int .i64) (.cons (.int .i64) .nil)))))]⟩, ⟨false, false, [.i .i64]⟩], F := fun x => .get (l3ReadV x.1.1 x.2.1.1) fun y => .ret (((y.1, ()), (y.2, ()), ()), ((), (), ())) }
theorem f162_eq (x : itemsD k162.its) : bodyOut (cxOf [k167, k207, k208]) (f162_A) (codeOf Try.f162) k162.its k162.lay Try.f162.ntmps k162.rs [.tmp 4, .tmp 5] x = f162_tree x.1.1 x.2.1.1 := by kernel_rfl
theorem f162_okp (hr : ∀ x : (List UInt8 × Unit) × (Int × Unit) × Unit, itemsWF k162.its x → ∀ y, (k162.F x).eval = some y → (f162_tree x.1.1 x.2.1.1).eval = some y) : k162.Ok Try.prog :=
  con_fn [k167, k207, k208] ⟨k167_ok, k207_ok, k208_ok, trivial⟩ (by kernel_rfl) (codeOf_eq (by kernel_rfl)) (by kernel_rfl) (by kernel_rfl) (by kernel_rfl) f162_eq hr
theorem l3VarsV_some (s : Str) (p : Int) {n : Nat} (h : n ≤ 1000) : l3VarsV s p ((n : Nat) : Int) = some (varsAtV s n p []) := by
  unfold l3VarsV
  rw [if_pos (by omega), Int.toNat_natCast]
theorem k162_ok : k162.Ok Try.prog := by
  refine f162_okp fun x hw y hy => ?_
  obtain ⟨⟨s, _⟩, ⟨p, _⟩, _⟩ := x
  have hs : s.length ≤ BIG := hw.1.1
  change (Out.get (l3ReadV s p) fun y => Out.ret (((y.1, ()), ((y.2, ()), ())), ((), ((), ())))).eval = some y at hy
  show (f162_tree s p).eval = some y
  unfold l3ReadV at hy
  split at hy
  case isFalse => exact nomatch hy
  rename_i hp
  subst hp
  refine Eq.trans ?_ hy
  unfold f162_tree progP
  have h1 := varsAtV_eq s 1 0 [] (Nat.zero_le _)
  rw [List.drop_zero] at h1
  have v1 : l3VarsV s 0 1 = some (varsAtV s 1 0 []) := l3VarsV_some s 0 (n := 1) (by decide)
  refine (eval_get_some v1).trans ?_
  have hn1 : numsP 1 s = match rvI s with | none => none | some i => some ([((decB (s.take (i + 1)) : Nat) : Int)], i + 1) := by
    simp only [numsP]
    cases rvI s <;> rfl
  rw [hn1] at h1
  cases hi : rvI s with
  | none =>
    rw [hi] at h1
    obtain ⟨l, e, _⟩ := h1
    have e : varsAtV s 1 0 [] = (l, -1) := e
    rw [e]; rfl
  | some i =>
    rw [hi] at h1
    have hil := rvI_lt hi
    have e : varsAtV s 1 0 [] = ([((decB (s.take (i + 1)) : Nat) : Int)], ((i + 1 : Nat) : Int)) := by
      have h1 : varsAtV s 1 ((0 : Nat) : Int) [] = ([] ++ [((decB (s.take (i + 1)) : Nat) : Int)], ((0 + (i + 1) : Nat) : Int)) := h1
      rw [Nat.zero_add] at h1
      exact h1
    rw [e]
    dsimp only
    generalize hn : decB (s.take (i + 1)) = n
    have q1 : decide (((i + 1 : Nat) : Int) < 0) = false := decide_eq_false (by omega)
    rw [q1]
    refine (eval_ite_t rfl).trans ((eval_ite_t rfl).trans ((eval_get_some (x := ((n : Nat) : Int)) rfl).trans ?_))
    by_cases h40 : 40 < n
    · rw [eval_ite_t (decide_eq_true (by omega)), if_pos h40]; rfl
    · rw [eval_ite_f (decide_eq_false (by omega)), if_neg h40]
      have key : ∀ (m j p N : Nat) (out : List InsD), j + m = n → m < N → p ≤ s.length → out.length = j → iter f162_L0 N ((s, (((p : Nat) : Int), (((j : Nat) : Int), ()))), (out, ([((n : Nat) : Int)], ()))) =
          some (match insP m (s.drop p) with | none => .inr ((-1, ()), ([], ())) | some (l, k) => .inl ((((p + k : Nat) : Int), ()), (out ++ l, ()))) := by
        intro m
        induction m with
        | zero =>
          intro j p N out hj hN hp ho
          have w3 : decide (((j : Nat) : Int) < ((n : Nat) : Int)) = false := decide_eq_false (by omega)
          rw [iter_out' (y := ((((p : Nat) : Int), ()), (out, ()))) ?_ hN]
          · simp [insP]
          · refine (eval_ite_t rfl).trans ((eval_get_some (x := ((n : Nat) : Int)) rfl).trans ?_)
            exact (eval_ite_f w3).trans rfl
        | succ m ih =>
          intro j p N out hj hN hp ho
          have w3 : decide (((j : Nat) : Int) < ((n : Nat) : Int)) = true := decide_eq_true (by omega)
          have v4 : l3VarsV s ((p : Nat) : Int) 4 = some (varsAtV s 4 ((p : Nat) : Int) []) := l3VarsV_some s ((p : Nat) : Int) (n := 4) (by decide)
          have h4 := varsAtV_eq s 4 p [] hp
          simp only [insP]
          cases hv : numsP 4 (s.drop p) with
          | none =>
            rw [hv] at h4
            obtain ⟨l, e, _⟩ := h4
            rw [iter_ret' (z := ((-1, ()), ([], ()))) ?_ (by omega)]
            refine (eval_ite_t rfl).trans ((eval_get_some (x := ((n : Nat) : Int)) rfl).trans ((eval_ite_t w3).trans ((eval_get_some v4).trans ?_)))
            rw [e]; rfl
          | some x =>
            obtain ⟨v, k⟩ := x
            rw [hv] at h4
            have hle := numsP_le hv
            rw [List.length_drop] at hle
            obtain ⟨a, b, c, d, rfl⟩ := four_of hle.2.1
            have h4 : varsAtV s 4 ((p : Nat) : Int) [] = ([] ++ [a, b, c, d], ((p + k : Nat) : Int)) := h4
            obtain ⟨N, rfl⟩ : ∃ N', N = N' + 1 := ⟨N - 1, by omega⟩
            have g6 := wrap_succ (i := j) (by unfold BIG; omega)
            have g7 : decide (((p + k : Nat) : Int) < 0) = false := decide_eq_false (by omega)
            have g8 : ∀ z : InsD, decide (out.length + ([z] : List InsD).length ≤ LIM) = true := fun z => decide_eq_true (by rw [LIM_eq]; simp; omega)
            rw [iter_again (x' := ((s, (((p + k : Nat) : Int), (((j + 1 : Nat) : Int), ()))), (out ++ [insD a b c d], ([((n : Nat) : Int)], ()))))]
            · rw [ih (j + 1) (p + k) N (out ++ [insD a b c d]) (by omega) (by omega) (by omega) (by simp; omega)]
              dsimp only
              rw [List.drop_drop]
              cases insP m (s.drop (p + k)) with
              | none => rfl
              | some x => simp [insL, Nat.add_assoc]
            · refine (eval_ite_t rfl).trans ((eval_get_some (x := ((n : Nat) : Int)) rfl).trans ((eval_ite_t w3).trans ((eval_get_some v4).trans ?_)))
              rw [h4]
              refine (eval_ite_f g7).trans ?_
              refine (eval_ite_t rfl).trans ((eval_get_some (x := a) rfl).trans ((eval_ite_t rfl).trans ((eval_get_some (x := b) rfl).trans ((eval_ite_t rfl).trans ((eval_get_some (x := c) rfl).trans ((eval_ite_t rfl).trans ((eval_get_some (x := d) rfl).trans ?_)))))))
              unfold insD
              cases h1 : (a == (1 : Int))
              · exact (eval_ite_f rfl).trans ((eval_ite_t (g8 _)).trans (by simp only [Out.eval, g6]; rfl))
              · exact (eval_ite_t rfl).trans ((eval_ite_t (g8 _)).trans (by simp only [Out.eval, g6]; rfl))
      have hk := key n 0 (i + 1) FUEL [] (by omega) (Nat.lt_of_le_of_lt (show n ≤ 40 by omega) (by decide)) (by omega) rfl
      refine (eval_get_some hk).trans ?_
      cases hr : insP n (s.drop (i + 1)) with
      | none => rfl
      | some x =>
        obtain ⟨l, k⟩ := x
        simp only [List.nil_append]
        by_cases hok : progOkV l = true
        · rw [if_pos hok]
          show (Out.ite (!(progOkV l)) _ _).eval = _
          rw [eval_ite_f (by simp [hok])]; rfl
        · rw [if_neg hok]
          show (Out.ite (!(progOkV l)) _ _).eval = _
          rw [eval_ite_t (by simp [hok])]; rfl
def f72_tree (a0 : List UInt8) : Out (((List (Int × Int × Int × Int × Unit) × Unit) × (Bool × Unit) × Unit) × (Unit × Unit)) :=
 .get (l3ReadV a0 (0 : Int)) fun y1 =>
 .ite ((y1.2 != ((List.length a0 : Nat) : Int)))
 (.ret (((([] : List ((Int × Int × Int × Int × Unit))), ()), (false, ()), ()), ((), ())))
 (.ret (((y1.1, ()), (true, ()), ()), ((), ())))
def k72 : Con := { f := 72, lend := true, its := [⟨false, false, [.s]⟩], lay := [none], rs := [⟨false, false, [.own (.st (.cons (.int .i64) (.cons (.int .i64) (.cons (.int .i64) (.cons (.int .i64) .nil)))))]⟩, ⟨false, false, [.b]⟩], F := fun x => .ret ((((readProgV x.1.1).1, ()), ((readProgV x.1.1).2, ()), ()), ((), ())) }
theorem f72_eq (x : itemsD k72.its) : bodyOut (cxOf [k162]) (fun _ => none) (codeOf Try.f72) k72.its k72.lay Try.f72.ntmps k72.rs [.tmp 2, .tmp 3] x = f72_tree x.1.1 := by kernel_rfl
theorem f72_ok (hr : ∀ x : (List UInt8 × Unit) × Unit, itemsWF k72.its x → (f72_tree x.1.1).eval = (k72.F x).eval) : k72.Ok Try.prog :=
  con_fn [k162] ⟨k162_ok, trivial⟩ (by kernel_rfl) (codeOf_eq (by kernel_rfl)) (by kernel_rfl) (by kernel_rfl) (by kernel_rfl) f72_eq fun x hw _ hy => (hr x hw).trans hy
theorem k72_ok : k72.Ok Try.prog := by
  refine f72_ok fun x _ => ?_
  obtain ⟨⟨s, _⟩, _⟩ := x
  show (f72_tree s).eval = some ((((readProgV s).1, ()), (((readProgV s).2, ()), ())), ((), ()))
  unfold f72_tree readProgV
  refine (eval_get_some (if_pos rfl)).trans ?_
  cases progP s with
  | none => exact (eval_ite_t (by simp only [bne_iff_ne, ne_eq]; omega)).trans rfl
  | some x =>
    obtain ⟨l, k⟩ := x
    simp only
    by_cases h : k = s.length
    · rw [if_pos h]
      exact (eval_ite_f (len_eq h)).trans rfl
    · rw [if_neg h]
      exact (eval_ite_t (len_ne h)).trans rfl
def progL : Nat → Str → Bool → List InsD → List InsD × Str × Bool
  | 0, s, b, p => (p, s, b)
  | n + 1, s, b, p => progL n (numsV 4 s b).2.1 (numsV 4 s b).2.2 (p ++ [insL (numsV 4 s b).1])
theorem progL_bad : ∀ (n : Nat) (s : Str) (p : List InsD), (progL n s true p).2.2 = true
  | 0, _, _ => rfl
  | n + 1, s, p => by
    have h := numsV_bad 4 s
    unfold progL
    rw [h]
    exact progL_bad n _ _
theorem progL_eq : ∀ (n : Nat) (s : Str) (p : List InsD), match insP n s with
    | some (l, k) => progL n s false p = (p ++ l, s.drop k, false)
    | none => (progL n s false p).2.2 = true
  | 0, s, p => by simp [insP, progL]
  | n + 1, s, p => by
    have h := numsV_eq 4 s
    simp only [insP, progL]
    cases hv : numsP 4 s with
    | none =>
      rw [hv] at h
      simp only at h ⊢
      rw [h]
      exact progL_bad n _ _
    | some x =>
      obtain ⟨v, k⟩ := x
      rw [hv] at h
      simp only at h ⊢
      rw [h]
      have ih := progL_eq n (s.drop k) (p ++ [insL v])
      cases hr : insP n (s.drop k) with
      | none => rw [hr] at ih; exact ih
      | some x =>
        obtain ⟨l, k'⟩ := x
        rw [hr] at ih
        simp only at ih ⊢
        rw [ih]
        simp
abbrev f163_S0 := (Int × Int × Unit) × ((List UInt8 × Bool × Unit) × List ((Int × Int × Int × Int × Unit)) × Unit)
def f163_L0 (x : f163_S0) : Out (Round f163_S0 ((Unit) × ((List UInt8 × Bool × Unit) × List ((Int × Int × Int × Int × Unit)) × Unit)) Empty) :=
 .ite (decide (x.1.2.1 < x.1.1))
 (.ite (((numV x.2.1.1 x.2.1.2.1).1 == (1 : Int)))
 (.ite (decide (List.length x.2.2.1 + List.length ([((numV x.2.1.1 x.2.1.2.1).1, (numV (numV x.2.1.1 x.2.1.2.1).2.1 (numV x.2.1.1 x.2.1.2.1).2.2).1, (zagV (numV (numV (numV x.2.1.1 x.2.1.2.1).2.1 (numV x.2.1.1 x.2.1.2.1).2.2).2.1 (numV (numV x.2.1.1 x.2.1.2.1).2.1 (numV x.2.1.1 x.2.1.2.1).2.2).2.2).1), (numV (numV (numV (numV x.2.1.1 x.2.1.2.1).2.1 (numV x.2.1.1 x.2.1.2.1).2.2).2.1 (numV (numV x.2.1.1 x.2.1.2.1).2.1 (numV x.2.1.1 x.2.1.2.1).2.2).2.2).2.1 (numV (numV (numV x.2.1.1 x.2.1.2.1).2.1 (numV x.2.1.1 x.2.1.2.1).2.2).2.1 (numV (numV x.2.1.1 x.2.1.2.1).2.1 (numV x.2.1.1 x.2.1.2.1).2.2).2.2).2.2).1, ())] : List ((Int × Int × Int × Int × Unit))) ≤ LIM))
 (.ret (.again ((x.1.1, (IntKind.i64.wrap (x.1.2.1 + (1 : Int))), ()), (((numV (numV (numV (numV x.2.1.1 x.2.1.2.1).2.1 (numV x.2.1.1 x.2.1.2.1).2.2).2.1 (numV (numV x.2.1.1 x.2.1.2.1).2.1 (numV x.2.1.1 x.2.1.2.1).2.2).2.2).2.1 (numV (numV (numV x.2.1.1 x.2.1.2.1).2.1 (numV x.2.1.1 x.2.1.2.1).2.2).2.1 (numV (numV x.2.1.1 x.2.1.2.1).2.1 (numV x.2.1.1 x.2.1.2.1).2.2).2.2).2.2).2.1, (numV (numV (numV (numV x.2.1.1 x.2.1.2.1).2.1 (numV x.2.1.1 x.2.1.2.1).2.2).2.1 (numV (numV x.2.1.1 x.2.1.2.1).2.1 (numV x.2.1.1 x.2.1.2.1).2.2).2.2).2.1 (numV (numV (numV x.2.1.1 x.2.1.2.1).2.1 (numV x.2.1.1 x.2.1.2.1).2.2).2.1 (numV (numV x.2.1.1 x.2.1.2.1).2.1 (numV x.2.1.1 x.2.1.2.1).2.2).2.2).2.2).2.2, ()), (x.2.2.1 ++ ([((numV x.2.1.1 x.2.1.2.1).1, (numV (numV x.2.1.1 x.2.1.2.1).2.1 (numV x.2.1.1 x.2.1.2.1).2.2).1, (zagV (numV (numV (numV x.2.1.1 x.2.1.2.1).2.1 (numV x.2.1.1 x.2.1.2.1).2.2).2.1 (numV (numV x.2.1.1 x.2.1.2.1).2.1 (numV x.2.1.1 x.2.1.2.1).2.2).2.2).1), (numV (numV (numV (numV x.2.1.1 x.2.1.2.1).2.1 (numV x.2.1.1 x.2.1.2.1).2.2).2.1 (numV (numV x.2.1.1 x.2.1.2.1).2.1 (numV x.2.1.1 x.2.1.2.1).2.2).2.2).2.1 (numV (numV (numV x.2.1.1 x.2.1.2.1).2.1 (numV x.2.1.1 x.2.1.2.1).2.2).2.1 (numV (numV x.2.1.1 x.2.1.2.1).2.1 (numV x.2.1.1 x.2.1.2.1).2.2).2.2).2.2).1, ())] : List ((Int × Int × Int × Int × Unit)))), ()))))
 .fail)
 (.ite (decide (List.length x.2.2.1 + List.length ([((numV x.2.1.1 x.2.1.2.1).1, (numV (numV x.2.1.1 x.2.1.2.1).2.1 (numV x.2.1.1 x.2.1.2.1).2.2).1, (numV (numV (numV x.2.1.1 x.2.1.2.1).2.1 (numV x.2.1.1 x.2.1.2.1).2.2).2.1 (numV (numV x.2.1.1 x.2.1.2.1).2.1 (numV x.2.1.1 x.2.1.2.1).2.2).2.2).1, (numV (numV (numV (numV x.2.1.1 x.2.1.2.1).2.1 (numV x.2.1.1 x.2.1.2.1).2.2).2.1 (numV (numV x.2.1.1 x.2.1.2.1).2.1 (numV x.2.1.1 x.2.1.2.1).2.2).2.2).2.1 (numV (numV (numV x.2.1.1 x.2.1.2.1).2.1 (numV x.2.1.1 x.2.1.2.1).2.2).2.1 (numV (numV x.2.1.1 x.2.1.2.1).2.1 (numV x.2.1.1 x.2.1.2.1).2.2).2.2).2.2).1, ())] : List ((Int × Int × Int × Int × Unit))) ≤ LIM))
 (.ret (.again ((x.1.1, (IntKind.i64.wrap (x.1.2.1 + (1 : Int))), ()), (((numV (numV (numV (numV x.2.1.1 x.2.1.2.1).2.1 (numV x.2.1.1 x.2.1.2.1).2.2).2.1 (numV (numV x.2.1.1 x.2.1.2.1).2.1 (numV x.2.1.1 x.2.1.2.1).2.2).2.2).2.1 (numV (numV (numV x.2.1.1 x.2.1.2.1).2.1 (numV x.2.1.1 x.2.1.2.1).2.2).2.1 (numV (numV x.2.1.1 x.2.1.2.1).2.1 (numV x.2.1.1 x.2.1.2.1).2.2).2.2).2.2).2.1, (numV (numV (numV (numV x.2.1.1 x.2.1.2.1).2.1 (numV x.2.1.1 x.2.1.2.1).2.2).2.1 (numV (numV x.2.1.1 x.2.1.2.1).2.1 (numV x.2.1.1 x.2.1.2.1).2.2).2.2).2.1 (numV (numV (numV x.2.1.1 x.2.1.2.1).2.1 (numV x.2.1.1 x.2.1.2.1).2.2).2.1 (numV (numV x.2.1.1 x.2.1.2.1).2.1 (numV x.2.1.1 x.2.1.2.1).2.2).2.2).2.2).2.2, ()), (x.2.2.1 ++ ([((numV x.2.1.1 x.2.1.2.1).1, (numV (numV x.2.1.1 x.2.1.2.1).2.1 (numV x.2.1.1 x.2.1.2.1).2.2).1, (numV (numV (numV x.2.1.1 x.2.1.2.1).2.1 (numV x.2.1.1 x.2.1.2.1).2.2).2.1 (numV (numV x.2.1.1 x.2.1.2.1).2.1 (numV x.2.1.1 x.2.1.2.1).2.2).2.2).1, (numV (numV (numV (numV x.2.1.1 x.2.1.2.1).2.1 (numV x.2.1.1 x.2.1.2.1).2.2).2.1 (numV (numV x.2.1.1 x.2.1.2.1).2.1 (numV x.2.1.1 x.2.1.2.1).2.2).2.2).2.1 (numV (numV (numV x.2.1.1 x.2.1.2.1).2.1 (numV x.2.1.1 x.2.1.2.1).2.2).2.1 (numV (numV x.2.1.1 x.2.1.2.1).2.1 (numV x.2.1.1 x.2.1.2.1).2.2).2.2).2.2).1, ())] : List ((Int × Int × Int × Int × Unit)))), ()))))
 .fail))
 (.ret (.out ((), ((x.2.1.1, x.2.1.2.1, ()), x.2.2.1, ()))))
def f163_tree (a0 : List UInt8) (a1 : Bool) : Out (((List (Int × Int × Int × Int × Unit) × Unit) × Unit) × ((List UInt8 × Bool × Unit) × Unit)) :=
 .get (iter1 f163_L0 FUEL (((manyV a0 a1 (40 : Int)).1, (0 : Int), ()), (((manyV a0 a1 (40 : Int)).2.1, (manyV a0 a1 (40 : Int)).2.2, ()), ([] : List ((Int × Int × Int × Int × Unit))), ()))) fun y1 =>
 .ite (y1.2.1.2.1 == false)
 (.ret (((y1.2.2.1, ()), ()), ((y1.2.1.1, (!(progOkV y1.2.2.1)), ()), ())))
 (.ret (((y1.2.2.1, ()), ()), ((y1.2.1.1, true, ()), ())))
def f163_A : Nat → Option LoopAnn := fun n => annOf [(0, { head := { t := [.vptr 0 0, .dead, .dead, .srf 64000000, .dead, .dead, .i .i64, .i .i64, .dead, .dead, .dead, .dead, .dead, .dead, .dead, .dead, .dead, .dead, .dead, .dead, .dead, .dead, .dead, .dead, .dead, .dead, .dead, .dead, .dead, .dead, .dead, .dead, .dead, .dead, .dead, .dead, .dead, .dead, .dead, .dead, .dead, .dead, .dead, .dead, .dead, .dead], v := [(0, .var [.s, .b]), (64000000, .arr (.st (.cons (.int .i64) (.cons (.int .i64) (.cons (.int .i64) (.cons (.int .i64) .nil))))))] }, out := { t := [.vptr 0 0, .dead, .dead, .srf 64000256, .dead, .dead, .dead, .dead, .dead, .dead, .dead, .dead, .dead, .dead, .dead, .dead, .dead, .dead, .dead, .dead, .dead, .dead, .dead, .dead, .dead, .dead, .dead, .dead, .dead, .dead, .dead, .dead, .dead, .dead, .dead, .dead, .dead, .dead, .dead, .dead, .dead, .dead, .dead, .dead, .dead, .dead], v := [(0, .var [.s, .b]), (64000256, .arr (.st (.cons (.int .i64) (.cons (.int .i64) (.cons (.int .i64) (.cons (.int .i64) .nil))))))] }, ret := none })] n
def progV (s : Str) (bad : Bool) : List InsD × Str × Bool := match progL (manyV s bad 40).1.toNat (manyV s bad 40).2.1 (manyV s bad 40).2.2 [] with
  | (p, r, b) => (p, r, b || !progOkV p)
def k163 : Con := { f := 163, lend := true, its := [⟨true, false, [.s, .b]⟩], lay := [none], rs := [⟨false, false, [.own (.st (.cons (.int .i64) (.cons (.int .i64) (.cons (.int .i64) (.cons (.int .i64) .nil)))))]⟩], F := fun x => .ret ((((progV x.1.1 x.1.2.1).1, ()), ()), (((progV x.1.1 x.1.2.1).2.1, (progV x.1.1 x.1.2.1).2.2, ()), ())) }
theorem f163_eq (x : itemsD k163.its) : bodyOut (cxOf [k170, k169, k209, k210]) (f163_A) (codeOf Try.f163) k163.its k163.lay Try.f163.ntmps k163.rs [.tmp 2] x = f163_tree x.1.1 x.1.2.1 := by kernel_rfl
theorem f163_ok (hr : ∀ x : (List UInt8 × Bool × Unit) × Unit, itemsWF k163.its x → (f163_tree x.1.1 x.1.2.1).eval = (k163.F x).eval) : k163.Ok Try.prog :=
  con_fn [k170, k169, k209, k210] ⟨k170_ok, k169_ok, k209_ok, k210_ok, trivial⟩ (by kernel_rfl) (codeOf_eq (by kernel_rfl)) (by kernel_rfl) (by kernel_rfl) (by kernel_rfl) f163_eq fun x hw _ hy => (hr x hw).trans hy
theorem numV_le (s : Str) (bad : Bool) : 0 ≤ (numV s bad).1 := by
  unfold numV
  split
  · exact Int.le_refl _
  · exact (rvV_bounds s).1.1
theorem manyV_le (s : Str) (bad : Bool) (m : Int) (hm : 0 ≤ m) : 0 ≤ (manyV s bad m).1 ∧ (manyV s bad m).1 ≤ m := by
  have := numV_le s bad
  unfold manyV
  split
  · exact ⟨Int.le_refl _, hm⟩
  · omega
theorem k163_ok : k163.Ok Try.prog := by
  refine f163_ok fun x _ => ?_
  obtain ⟨⟨s, b, _⟩, _⟩ := x
  show (f163_tree s b).eval = some ((((progV s b).1, ()), ()), (((progV s b).2.1, ((progV s b).2.2, ())), ()))
  unfold f163_tree progV
  have hb := manyV_le s b 40 (by omega)
  obtain ⟨n, hn⟩ := Int.eq_ofNat_of_zero_le hb.1
  rw [hn] at hb ⊢
  rw [Int.toNat_natCast]
  have key : ∀ (m j N : Nat) (s : Str) (b : Bool) (p : List InsD), j + m = n → m < N → p.length = j → iter1 f163_L0 N ((((n : Nat) : Int), (((j : Nat) : Int), ())), ((s, (b, ())), (p, ()))) =
      some ((), (((progL m s b p).2.1, ((progL m s b p).2.2, ())), ((progL m s b p).1, ()))) := by
    intro m
    induction m with
    | zero =>
      intro j N s b p hj hN hp
      have w3 : decide (((j : Nat) : Int) < ((n : Nat) : Int)) = false := decide_eq_false (by omega)
      refine iter1_out' ?_ hN
      exact (eval_ite_f w3).trans rfl
    | succ m ih =>
      intro j N s b p hj hN hp
      have w3 : decide (((j : Nat) : Int) < ((n : Nat) : Int)) = true := decide_eq_true (by omega)
      have g6 := wrap_succ (i := j) (by unfold BIG; omega)
      have g8 : ∀ z : InsD, decide (p.length + ([z] : List InsD).length ≤ LIM) = true := fun z => decide_eq_true (by rw [LIM_eq]; simp; omega)
      obtain ⟨N, rfl⟩ : ∃ N', N = N' + 1 := ⟨N - 1, by omega⟩
      rw [iter1_again (x' := ((((n : Nat) : Int), (((j + 1 : Nat) : Int), ())), (((numsV 4 s b).2.1, ((numsV 4 s b).2.2, ())), (p ++ [insL (numsV 4 s b).1], ()))))]
      · exact ih (j + 1) N _ _ _ (by omega) (by omega) (by simp; omega)
      · refine (eval_ite_t w3).trans ?_
        have e : insL (numsV 4 s b).1 = ((numV s b).1, ((numV (numV s b).2.1 (numV s b).2.2).1, ((bif (numV s b).1 == 1 then zagV (numV (numV (numV s b).2.1 (numV s b).2.2).2.1 (numV (numV s b).2.1 (numV s b).2.2).2.2).1 else (numV (numV (numV s b).2.1 (numV s b).2.2).2.1 (numV (numV s b).2.1 (numV s b).2.2).2.2).1), ((numV (numV (numV (numV s b).2.1 (numV s b).2.2).2.1 (numV (numV s b).2.1 (numV s b).2.2).2.2).2.1 (numV (numV (numV s b).2.1 (numV s b).2.2).2.1 (numV (numV s b).2.1 (numV s b).2.2).2.2).2.2).1, ())))) := rfl
        rw [e]
        cases h1 : ((numV s b).1 == (1 : Int))
        · rw [← g6]; exact (eval_ite_f rfl).trans ((eval_ite_t (g8 _)).trans rfl)
        · rw [← g6]; exact (eval_ite_t rfl).trans ((eval_ite_t (g8 _)).trans rfl)
  have hk := key n 0 FUEL (manyV s b 40).2.1 (manyV s b 40).2.2 [] (by omega) (Nat.lt_of_le_of_lt (show n ≤ 40 by omega) (by decide)) rfl
  refine (eval_get_some hk).trans ?_
  generalize progL n (manyV s b 40).2.1 (manyV s b 40).2.2 [] = r
  obtain ⟨p, r, c⟩ := r
  cases c <;> rfl
def f73_tree (a0 : List UInt8) : Out (((List (Int × Int × Int × Int × Unit) × Unit) × (Bool × Unit) × Unit) × (Unit × Unit)) :=
 .ite ((progV a0 false).2.2 == false)
 (.ite ((progV a0 false).2.1 != ([] : List UInt8))
 (.ret (((([] : List ((Int × Int × Int × Int × Unit))), ()), (false, ()), ()), ((), ())))
 (.ret ((((progV a0 false).1, ()), (true, ()), ()), ((), ()))))
 (.ret (((([] : List ((Int × Int × Int × Int × Unit))), ()), (false, ()), ()), ((), ())))
def k73 : Con := { f := 73, lend := true, its := [⟨false, false, [.s]⟩], lay := [none], rs := [⟨false, false, [.own (.st (.cons (.int .i64) (.cons (.int .i64) (.cons (.int .i64) (.cons (.int .i64) .nil)))))]⟩, ⟨false, false, [.b]⟩], F := fun x => .ret ((((readProgV x.1.1).1, ()), ((readProgV x.1.1).2, ()), ()), ((), ())) }
theorem f73_eq (x : itemsD k73.its) : bodyOut (cxOf [k163]) (fun _ => none) (codeOf Try.f73) k73.its k73.lay Try.f73.ntmps k73.rs [.tmp 2, .tmp 3] x = f73_tree x.1.1 := by kernel_rfl
theorem f73_ok (hr : ∀ x : (List UInt8 × Unit) × Unit, itemsWF k73.its x → (f73_tree x.1.1).eval = (k73.F x).eval) : k73.Ok Try.prog :=
  con_fn [k163] ⟨k163_ok, trivial⟩ (by kernel_rfl) (codeOf_eq (by kernel_rfl)) (by kernel_rfl) (by kernel_rfl) (by kernel_rfl) f73_eq fun x hw _ hy => (hr x hw).trans hy
theorem progV_false (s : Str) : match progP s with
    | some (l, k) => progV s false = (l, s.drop k, false)
    | none => (progV s false).2.2 = true := by
  unfold progP progV manyV
  cases hi : rvI s with
  | none =>
    simp only [numV_none hi]
    rw [if_neg (by omega)]
    simp [progL]
  | some i =>
    simp only [numV_some hi]
    by_cases h40 : 40 < decB (s.take (i + 1))
    · rw [if_pos h40, if_pos (show ((decB (s.take (i + 1)) : Nat) : Int) > 40 by omega)]
      simp [progL]
    · rw [if_neg h40, if_neg (show ¬ ((decB (s.take (i + 1)) : Nat) : Int) > 40 by omega)]
      simp only [Int.toNat_natCast]
      have h := progL_eq (decB (s.take (i + 1))) (s.drop (i + 1)) []
      cases hr : insP (decB (s.take (i + 1))) (s.drop (i + 1)) with
      | none =>
        rw [hr] at h
        simp only at h ⊢
        rw [h]; rfl
      | some x =>
        obtain ⟨l, k⟩ := x
        rw [hr] at h
        simp only at h ⊢
        rw [h]
        by_cases hok : progOkV l = true
        · rw [if_pos hok]; simp [hok]
        · rw [if_neg hok]; simp [hok]
theorem progP_le {s : Str} {l : List InsD} {k : Nat} (h : progP s = some (l, k)) : k ≤ s.length ∧ l.length ≤ 40 := by
  unfold progP at h
  split at h
  · exact nomatch h
  · rename_i i hi
    split at h
    · exact nomatch h
    · split at h
      · exact nomatch h
      · rename_i l' k' hr
        split at h
        · simp only [Option.some.injEq, Prod.mk.injEq] at h
          obtain ⟨rfl, rfl⟩ := h
          have h1 := insP_le hr
          have h2 := rvI_lt hi
          rw [List.length_drop] at h1
          exact ⟨by omega, by omega⟩
        · exact nomatch h
theorem k73_ok : k73.Ok Try.prog := by
  refine f73_ok fun x _ => ?_
  obtain ⟨⟨s, _⟩, _⟩ := x
  show (f73_tree s).eval = some ((((readProgV s).1, ()), (((readProgV s).2, ()), ())), ((), ()))
  unfold f73_tree readProgV
  have h := progV_false s
  cases hp : progP s with
  | none =>
    rw [hp] at h
    simp only at h
    rw [h]; rfl
  | some x =>
    obtain ⟨l, k⟩ := x
    rw [hp] at h
    have hle := (progP_le hp).1
    simp only at h ⊢
    rw [h]
    refine (eval_ite_t rfl).trans ?_
    by_cases hk : k = s.length
    · rw [if_pos hk, hk, List.drop_length]; rfl
    · rw [if_neg hk]
      refine (eval_ite_t ?_).trans rfl
      rw [bne_iff_ne, ne_eq, List.drop_eq_nil_iff]
      omega
theorem readProgV_len (s : Str) : (readProgV s).1.length ≤ 40 := by
  unfold readProgV
  cases hp : progP s with
  | none => simp
  | some x =>
    obtain ⟨l, k⟩ := x
    have hle := (progP_le hp).2
    simp only
    split
    · exact hle
    · simp
end Go.Proofs.Ytjcinikojcfebaa.Dm
