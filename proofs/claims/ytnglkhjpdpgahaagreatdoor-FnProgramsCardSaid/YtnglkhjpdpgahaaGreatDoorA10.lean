/- Functions of the program, and what they compute. -/
import Derived.Test.YtnglkhjpdpgahaaGreatDoorA9
namespace Go.Proofs.YtnglkhjpdpgahaaGreatDoor.Dm
open Go Go.ChangeShapes Go.WideShapes Go.ChangeAt Go.RowKit
def f61_tree (a0 : Int) : Out (((Bool × Unit) × Unit) × (Unit × Unit)) :=
 .ret ((((inV a0 (-1000000 : Int) (1000000 : Int)), ()), ()), ((), ()))
def k61 : Con := { f := 61, lend := true, its := [⟨false, false, [.i .i64]⟩], lay := [none], rs := [⟨false, false, [.b]⟩], F := fun x => .ret ((((wordV x.1.1), ()), ()), ((), ())) }
theorem f61_eq (x : itemsD k61.its) : bo [k42] (fun _ => none) Tryz.f61 k61 [.tmp 2] x = f61_tree x.1.1 := by kernel_rfl
theorem f61_ok (hr : ∀ x : (Int × Unit) × Unit, itemsWF k61.its x → (f61_tree x.1.1).eval = (k61.F x).eval) : k61.Ok Tryz.prog := con_fn [k42] ⟨k42_ok, trivial⟩ f61_eq fun x hw _ hy => (hr x hw).trans hy
theorem k61_ok : k61.Ok Tryz.prog := f61_ok fun _ _ => rfl
def f18_tree (a0 : Int) : Out (((List UInt8 × Unit) × Unit) × (Unit × Unit)) :=
 .ite (decide (a0 < (0 : Int)))
 (.ret ((((varV (IntKind.i64.wrap ((IntKind.i64.wrap ((-2 : Int) * a0)) - (1 : Int)))), ()), ()), ((), ())))
 (.ret ((((varV (IntKind.i64.wrap ((2 : Int) * a0))), ()), ()), ((), ())))
def wordVarV (n : Int) : Str := varV (zigV n)
def k18 : Con := { f := 18, lend := true, its := [⟨false, false, [.i .i64]⟩], lay := [none], rs := [⟨false, false, [.s]⟩], F := fun x => .ret ((((wordVarV x.1.1), ()), ()), ((), ())) }
theorem f18_eq (x : itemsD k18.its) : bo [k17] (fun _ => none) Tryz.f18 k18 [.tmp 2] x = f18_tree x.1.1 := by kernel_rfl
theorem f18_ok (hr : ∀ x : (Int × Unit) × Unit, itemsWF k18.its x → (f18_tree x.1.1).eval = (k18.F x).eval) : k18.Ok Tryz.prog := con_fn [k17] ⟨k17_ok, trivial⟩ f18_eq fun x hw _ hy => (hr x hw).trans hy
theorem k18_ok : k18.Ok Tryz.prog := by
  refine f18_ok fun x _ => ?_
  obtain ⟨⟨n, _⟩, _⟩ := x
  show (f18_tree n).eval = some (((wordVarV n, ()), ()), ((), ()))
  unfold f18_tree wordVarV zigV
  by_cases h : n < 0
  · rw [eval_ite_t (decide_eq_true h), if_pos h]; rfl
  · rw [eval_ite_f (decide_eq_false h), if_neg h]; rfl
end Go.Proofs.YtnglkhjpdpgahaaGreatDoor.Dm
