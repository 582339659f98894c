/- Functions of the program, and what they compute. -/
import Derived.Test.YtnnpnkegpkladaaGreatQ53
namespace Go.Proofs.YtnnpnkegpkladaaGreat.Dm
open Go Go.ChangeShapes Go.WideShapes Go.ChangeAt Go.RowKit
def f92_tree (a0 : Int) (a1 : List Int) : Out ((CpuD × Unit) × (Unit × Unit)) :=
 .get (cloneV a1) fun y1 =>
 .ret (((a0, y1, ()), ()), ((), ()))
def cloneCpuV (pc : Int) (regs : List Int) : Option (Int × List Int) := if regs.length ≤ LIM then some (pc, regs) else none
def k92 : Con := { f := 92, lend := true, its := [⟨false, true, [.i .i64, .ro (.int .i64)]⟩], lay := [none], rs := [⟨false, true, [.i .i64, .own (.int .i64)]⟩], F := fun x => .get (cloneCpuV x.1.1 x.1.2.1) fun y => .ret (((y.1, y.2, ()), ()), ((), ())) }
theorem f92_eq (x : itemsD k92.its) : bo [k84] (fun _ => none) Tryz.f92 k92 [.cell 2 78] x = f92_tree x.1.1 x.1.2.1 := by kernel_rfl
theorem f92_okp (hr : ∀ x : CpuD × Unit, itemsWF k92.its x → ∀ y, (k92.F x).eval = some y → (f92_tree x.1.1 x.1.2.1).eval = some y) : k92.Ok Tryz.prog := con_fn [k84] ⟨k84_ok, trivial⟩ f92_eq hr
theorem k92_ok : k92.Ok Tryz.prog := by
  refine f92_okp fun x hw y hy => ?_
  obtain ⟨⟨a0, a1, _⟩, _⟩ := x
  have l1 : List.length a1 ≤ BIG := hw.1.1.1
  change (Out.get (cloneCpuV a0 a1) fun y => Out.ret (((y.1, y.2, ()), ()), ((), ()))).eval = some y at hy
  show (f92_tree a0 a1).eval = some y
  unfold cloneCpuV at hy
  by_cases hl : List.length a1 ≤ LIM
  case neg => rw [if_neg hl] at hy; exact nomatch hy
  rw [if_pos hl] at hy
  refine Eq.trans ?_ hy
  unfold f92_tree
  have e1 : cloneV a1 = some a1 := lim_some hl
  exact eval_get_some e1
end Go.Proofs.YtnnpnkegpkladaaGreat.Dm
