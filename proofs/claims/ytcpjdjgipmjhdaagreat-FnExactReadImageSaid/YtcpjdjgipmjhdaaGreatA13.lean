/- Functions of the program, and what they compute. -/
import Derived.Test.YtcpjdjgipmjhdaaGreatA11
namespace Go.Proofs.YtcpjdjgipmjhdaaGreat.Dm
open Go Go.ChangeShapes Go.WideShapes Go.ChangeAt Go.RowKit
def f84_tree (a0 : List UInt8) (a1 : List UInt8) : Out (((Bool × Unit) × Unit) × (Unit × Unit × Unit)) :=
 .ite ((decide (((List.length a0 : Nat) : Int) ≥ ((List.length a1 : Nat) : Int))) == true)
 (.ite (decide (0 ≤ (0 : Int) ∧ (0 : Int) ≤ ((List.length a1 : Nat) : Int) ∧ ((List.length a1 : Nat) : Int) ≤ ((List.length a0 : Nat) : Int)))
 (.ret (((((List.drop (Int.toNat (0 : Int)) (List.take (Int.toNat ((List.length a1 : Nat) : Int)) a0)) == a1), ()), ()), ((), (), ())))
 .fail)
 (.ret (((false, ()), ()), ((), (), ())))
def hasPrefixV (a b : Str) : Bool := decide (b.length ≤ a.length) && (a.take b.length == b)
def k84 : Con := { f := 84, lend := true, its := [⟨false, false, [.s]⟩, ⟨false, false, [.s]⟩], lay := [none, none], rs := [⟨false, false, [.b]⟩], F := fun x => .ret ((((hasPrefixV x.1.1 x.2.1.1), ()), ()), ((), (), ())) }
theorem f84_eq (x : itemsD k84.its) : bo [] (fun _ => none) Tryz.f84 k84 [.tmp 4] x = f84_tree x.1.1 x.2.1.1 := by kernel_rfl
theorem f84_ok (hr : ∀ x : (List UInt8 × Unit) × (List UInt8 × Unit) × Unit, itemsWF k84.its x → (f84_tree x.1.1 x.2.1.1).eval = (k84.F x).eval) : k84.Ok Tryz.prog := con_fn [] trivial f84_eq fun x hw _ hy => (hr x hw).trans hy
theorem k84_ok : k84.Ok Tryz.prog := by
  refine f84_ok fun x _ => ?_
  obtain ⟨⟨a, _⟩, ⟨b, _⟩, _⟩ := x
  show (f84_tree a b).eval = some (((hasPrefixV a b, ()), ()), ((), ((), ())))
  unfold f84_tree hasPrefixV
  by_cases h : b.length ≤ a.length
  · have g : decide (((a.length : Nat) : Int) ≥ ((b.length : Nat) : Int)) = true := decide_eq_true (by omega)
    rw [g, decide_eq_true h]
    exact (eval_ite_t rfl).trans ((eval_ite_t (decide_eq_true (by omega))).trans rfl)
  · have g : decide (((a.length : Nat) : Int) ≥ ((b.length : Nat) : Int)) = false := decide_eq_false (by omega)
    rw [g, decide_eq_false h]
    exact (eval_ite_f rfl).trans rfl
def f49_tree (a0 : List UInt8) (a1 : List UInt8) : Out (((List UInt8 × Unit) × (Bool × Unit) × Unit) × (Unit × Unit × Unit)) :=
 .ite (!(hasPrefixV a0 a1))
 (.ret (((a0, ()), (false, ()), ()), ((), (), ())))
 (.ite (decide (0 ≤ ((List.length a1 : Nat) : Int) ∧ ((List.length a1 : Nat) : Int) ≤ ((List.length a0 : Nat) : Int)))
 (.ret ((((List.drop (Int.toNat ((List.length a1 : Nat) : Int)) a0), ()), (true, ()), ()), ((), (), ())))
 .fail)
def cutPrefixV (a b : Str) : Str × Bool := bif hasPrefixV a b then (a.drop b.length, true) else (a, false)
def k49 : Con := { f := 49, lend := true, its := [⟨false, false, [.s]⟩, ⟨false, false, [.s]⟩], lay := [none, none], rs := [⟨false, false, [.s]⟩, ⟨false, false, [.b]⟩], F := fun x => .ret ((((cutPrefixV x.1.1 x.2.1.1).1, ()), ((cutPrefixV x.1.1 x.2.1.1).2, ()), ()), ((), (), ())) }
theorem f49_eq (x : itemsD k49.its) : bo [k84] (fun _ => none) Tryz.f49 k49 [.tmp 4, .tmp 5] x = f49_tree x.1.1 x.2.1.1 := by kernel_rfl
theorem f49_ok (hr : ∀ x : (List UInt8 × Unit) × (List UInt8 × Unit) × Unit, itemsWF k49.its x → (f49_tree x.1.1 x.2.1.1).eval = (k49.F x).eval) : k49.Ok Tryz.prog := con_fn [k84] ⟨k84_ok, trivial⟩ f49_eq fun x hw _ hy => (hr x hw).trans hy
theorem k49_ok : k49.Ok Tryz.prog := by
  refine f49_ok fun x _ => ?_
  obtain ⟨⟨a, _⟩, ⟨b, _⟩, _⟩ := x
  show (f49_tree a b).eval = some ((((cutPrefixV a b).1, ()), (((cutPrefixV a b).2, ()), ())), ((), ((), ())))
  unfold f49_tree cutPrefixV
  cases h : hasPrefixV a b
  · exact (eval_ite_t rfl).trans rfl
  · have : b.length ≤ a.length := of_decide_eq_true (Bool.and_eq_true_iff.1 h).1
    exact (eval_ite_f rfl).trans ((eval_ite_t (decide_eq_true (by omega))).trans rfl)
def f20_tree (a0 : List UInt8) (a1 : List UInt8) : Out (((List UInt8 × Unit) × (Bool × Unit) × Unit) × (Unit × Unit × Unit)) :=
 .ret ((((cutPrefixV a0 a1).1, ()), ((cutPrefixV a0 a1).2, ()), ()), ((), (), ()))
def k20 : Con := { f := 20, lend := true, its := [⟨false, false, [.s]⟩, ⟨false, false, [.s]⟩], lay := [none, none], rs := [⟨false, false, [.s]⟩, ⟨false, false, [.b]⟩], F := fun x => .ret ((((cutPrefixV x.1.1 x.2.1.1).1, ()), ((cutPrefixV x.1.1 x.2.1.1).2, ()), ()), ((), (), ())) }
theorem f20_eq (x : itemsD k20.its) : bo [k49] (fun _ => none) Tryz.f20 k20 [.tmp 4, .tmp 5] x = f20_tree x.1.1 x.2.1.1 := by kernel_rfl
theorem f20_ok (hr : ∀ x : (List UInt8 × Unit) × (List UInt8 × Unit) × Unit, itemsWF k20.its x → (f20_tree x.1.1 x.2.1.1).eval = (k20.F x).eval) : k20.Ok Tryz.prog := con_fn [k49] ⟨k49_ok, trivial⟩ f20_eq fun x hw _ hy => (hr x hw).trans hy
theorem k20_ok : k20.Ok Tryz.prog := f20_ok fun _ _ => rfl
end Go.Proofs.YtcpjdjgipmjhdaaGreat.Dm
