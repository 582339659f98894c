/- f -/
import Derived.Test.YtnnpnkegpkladaaGreatQ53
namespace Go.Proofs.YtnnpnkegpkladaaGreat.Dm
open Go Go.ChangeShapes Go.WideShapes Go.ChangeAt Go.RowKit
def f202_tree (a0 : Int) (a1 : Int) (a2 : Int) (a3 : Int) (a4 : Int) (a5 : List Int) (a6 : List Int) (a7 : List Int) (a8 : Int) (a9 : Int) : Out ((XM × Unit) × (Unit × Unit)) :=
 .ite (decide (List.length ([] : List Int) + List.length a5 ≤ LIM))
 (.ite (decide (List.length ([] : List Int) + List.length a6 ≤ LIM))
 (.ite (decide (List.length ([] : List Int) + List.length a7 ≤ LIM))
 (.ret (((a0, a1, a2, a3, a4, (([] : List Int) ++ a5), (([] : List Int) ++ a6), (([] : List Int) ++ a7), a8, a9, ()), ()), ((), ())))
 .fail)
 .fail)
 .fail
def copyProcV (pid par st pg pc : Int) (regs mem fds : List Int) (unt code : Int) : Option (Int × Int × Int × Int × Int × List Int × List Int × List Int × Int × Int) :=
 if regs.length ≤ LIM ∧ mem.length ≤ LIM ∧ fds.length ≤ LIM then some (pid, par, st, pg, pc, regs, mem, fds, unt, code) else none
def k202 : Con := { f := 202, lend := true, its := [⟨false, true, [.i .i64, .i .i64, .i .i64, .i .i64, .i .i64, .ro (.int .i64), .ro (.int .i64), .ro (.int .i64), .i .i64, .i .i64]⟩], lay := [none], rs := [⟨false, true, [.i .i64, .i .i64, .i .i64, .i .i64, .i .i64, .own (.int .i64), .own (.int .i64), .own (.int .i64), .i .i64, .i .i64]⟩], F := fun x => .get (copyProcV x.1.1 x.1.2.1 x.1.2.2.1 x.1.2.2.2.1 x.1.2.2.2.2.1 x.1.2.2.2.2.2.1 x.1.2.2.2.2.2.2.1 x.1.2.2.2.2.2.2.2.1 x.1.2.2.2.2.2.2.2.2.1 x.1.2.2.2.2.2.2.2.2.2.1) fun y => .ret (((y.1, y.2.1, y.2.2.1, y.2.2.2.1, y.2.2.2.2.1, y.2.2.2.2.2.1, y.2.2.2.2.2.2.1, y.2.2.2.2.2.2.2.1, y.2.2.2.2.2.2.2.2.1, y.2.2.2.2.2.2.2.2.2, ()), ()), ((), ())) }
theorem f202_eq (x : itemsD k202.its) : bo [] (fun _ => none) Tryz.f202 k202 [.cell 2 81] x = f202_tree x.1.1 x.1.2.1 x.1.2.2.1 x.1.2.2.2.1 x.1.2.2.2.2.1 x.1.2.2.2.2.2.1 x.1.2.2.2.2.2.2.1 x.1.2.2.2.2.2.2.2.1 x.1.2.2.2.2.2.2.2.2.1 x.1.2.2.2.2.2.2.2.2.2.1 := by kernel_rfl
theorem f202_okp (hr : ∀ x : XM × Unit, itemsWF k202.its x → ∀ y, (k202.F x).eval = some y → (f202_tree x.1.1 x.1.2.1 x.1.2.2.1 x.1.2.2.2.1 x.1.2.2.2.2.1 x.1.2.2.2.2.2.1 x.1.2.2.2.2.2.2.1 x.1.2.2.2.2.2.2.2.1 x.1.2.2.2.2.2.2.2.2.1 x.1.2.2.2.2.2.2.2.2.2.1).eval = some y) : k202.Ok Tryz.prog := con_fn [] trivial f202_eq hr
theorem k202_ok : k202.Ok Tryz.prog := by
 refine f202_okp fun x hw y hy => ?_
 obtain ⟨⟨a0, a1, a2, a3, a4, a5, a6, a7, a8, a9, _⟩, _⟩ := x
 have l5 : List.length a5 ≤ BIG := hw.1.1.1
 have l6 : List.length a6 ≤ BIG := hw.1.2.1.1
 have l7 : List.length a7 ≤ BIG := hw.1.2.2.1.1
 change (Out.get (copyProcV a0 a1 a2 a3 a4 a5 a6 a7 a8 a9) fun y => Out.ret (((y.1, y.2.1, y.2.2.1, y.2.2.2.1, y.2.2.2.2.1, y.2.2.2.2.2.1, y.2.2.2.2.2.2.1, y.2.2.2.2.2.2.2.1, y.2.2.2.2.2.2.2.2.1, y.2.2.2.2.2.2.2.2.2, ()), ()), ((), ()))).eval = some y at hy
 show (f202_tree a0 a1 a2 a3 a4 a5 a6 a7 a8 a9).eval = some y
 unfold copyProcV at hy
 by_cases hl : List.length a5 ≤ LIM ∧ List.length a6 ≤ LIM ∧ List.length a7 ≤ LIM
 case neg => rw [if_neg hl] at hy; exact nomatch hy
 rw [if_pos hl] at hy
 refine Eq.trans ?_ hy
 unfold f202_tree
 have e : ∀ (l : List Int), l.length ≤ LIM → decide (List.length ([] : List Int) + List.length l ≤ LIM) = true := fun l h => decide_eq_true (by rw [List.length_nil, Nat.zero_add]; exact h)
 rw [eval_ite_t (e _ hl.1), eval_ite_t (e _ hl.2.1), eval_ite_t (e _ hl.2.2)]
 rfl
def f92_tree (a0 : Int) (a1 : List Int) : Out ((CpuD × Unit) × (Unit × Unit)) :=
 .get (cloneV a1) fun y1 =>
 .ret (((a0, y1, ()), ()), ((), ()))
def cloneCpuV (pc : Int) (regs : List Int) : Option (Int × List Int) := if regs.length ≤ LIM then some (pc, regs) else none
def k92 : Con := { f := 92, lend := true, its := [⟨false, true, [.i .i64, .ro (.int .i64)]⟩], lay := [none], rs := [⟨false, true, [.i .i64, .own (.int .i64)]⟩], F := fun x => .get (cloneCpuV x.1.1 x.1.2.1) fun y => .ret (((y.1, y.2, ()), ()), ((), ())) }
theorem f92_eq (x : itemsD k92.its) : bo [k84] (fun _ => none) Tryz.f92 k92 [.cell 2 78] x = f92_tree x.1.1 x.1.2.1 := by kernel_rfl
theorem f92_okp (hr : ∀ x : CpuD × Unit, itemsWF k92.its x → ∀ y, (k92.F x).eval = some y → (f92_tree x.1.1 x.1.2.1).eval = some y) : k92.Ok Tryz.prog := con_fn [k84] ⟨k84_ok, trivial⟩ f92_eq hr
theorem k92_ok : k92.Ok Tryz.prog := by
 refine f92_okp fun x hw y hy => ?_
 obtain ⟨⟨a0, a1, _⟩, _⟩ := x
 have l1 : List.length a1 ≤ BIG := hw.1.1.1
 change (Out.get (cloneCpuV a0 a1) fun y => Out.ret (((y.1, y.2, ()), ()), ((), ()))).eval = some y at hy
 show (f92_tree a0 a1).eval = some y
 unfold cloneCpuV at hy
 by_cases hl : List.length a1 ≤ LIM
 case neg => rw [if_neg hl] at hy; exact nomatch hy
 rw [if_pos hl] at hy
 refine Eq.trans ?_ hy
 unfold f92_tree
 have e1 : cloneV a1 = some a1 := lim_some hl
 exact eval_get_some e1
end Go.Proofs.YtnnpnkegpkladaaGreat.Dm
