/- Functions of the program, and what they compute. -/
import Derived.Test.YtnnpnkegpkladaaGreatL1
import Derived.Test.YtnnpnkegpkladaaGreatQ6
namespace Go.Proofs.YtnnpnkegpkladaaGreat.Dm
open Go Go.ChangeShapes Go.WideShapes Go.ChangeAt Go.RowKit
def f32_tree (a0 : Int) : Out (((List Int × Unit) × Unit) × (Unit × Unit)) :=
 .ite (decide (0 ≤ a0 ∧ a0 ≤ a0 ∧ a0 ≤ (LIM : Int)))
 (.ret ((((List.replicate (Int.toNat a0) (0 : Int)), ()), ()), ((), ())))
 .fail
def k32_V := fun a0 => (f32_tree a0).eval
def k32 : Con := { f := 32, lend := true, its := [⟨false, false, [.i .i64]⟩], lay := [none], rs := [⟨false, false, [.own tyI]⟩], F := fun x => .get (k32_V x.1.1) fun y => .ret y }
theorem f32_eq (x : itemsD k32.its) : bo [] (fun _ => none) Tryz.f32 k32 [.tmp 2] x = f32_tree x.1.1 := by kernel_rfl
theorem k32_ok : k32.Ok Tryz.prog := con_fn [] trivial f32_eq fun _ _ _ hy => (eval_get_ret _).symm.trans hy
abbrev f205_S0 := (List (List InsD) × Int × Unit) × (List (List InsD) × Unit)
def f205_L0 : f205_S0 → Out (Round f205_S0 ((Unit) × (List (List InsD) × Unit)) Empty)
| ((p0, p1, _), p2, _) =>
 .ite (decide (p1 < ((List.length p0 : Nat) : Int)))
 (.ite (decide (0 ≤ p1))
 (.get (nth p0 (Int.toNat p1)) fun y1 =>
 .ite (decide (List.length ([] : List InsD) + List.length y1 ≤ LIM))
 (.ite (decide (List.length p2 + List.length ([(([] : List InsD) ++ y1)] : List (List InsD)) ≤ LIM))
 (.ret (.again ((p0, (IntKind.i64.wrap (p1 + 1)), ()), ((p2 ++ ([(([] : List InsD) ++ y1)] : List (List InsD))), ()))))
 .fail)
 .fail)
 .fail)
 (.ret (.out ((), (p2, ()))))
def f205_tree (a0 : List (List InsD)) : Out (((List (List InsD) × Unit) × Unit) × (Unit × Unit)) :=
 .get (iter1 f205_L0 FUEL ((a0, 0, ()), (([] : List (List InsD)), ()))) fun y1 =>
 .ret (((y1.2.1, ()), ()), ((), ()))
def k205_V := fun a0 => (f205_tree a0).eval
abbrev f8_S0 := (List (List InsD) × Int × Unit) × ((Int × Int × Unit) × (Int × Int × Unit) × List (List InsD) × List ProcD × List OpenD × List CpuD × List CpuD × List Int × List Int × U7T)
def f8_L0 : f8_S0 → Out (Round f8_S0 ((Unit) × ((Int × Int × Unit) × (Int × Int × Unit) × List (List InsD) × List ProcD × List OpenD × List CpuD × List CpuD × List Int × List Int × U7T)) Empty)
| ((p0, p1, _), (p2, p3, _), (p4, p5, _), p6, p7, p8, p9, p10, p11, p12, p13, p14, p15, p16, p17, p18, p19, _) =>
 .ite (decide (p1 < ((List.length p0 : Nat) : Int)))
 (.ite (decide (0 ≤ p1))
 (.get (nth p0 (Int.toNat p1)) fun y1 =>
 .ite (decide (List.length ([] : List InsD) + List.length y1 ≤ LIM))
 (.ite (decide (List.length p13 + List.length ([(([] : List InsD) ++ y1)] : List (List InsD)) ≤ LIM))
 (.ret (.again ((p0, (IntKind.i64.wrap (p1 + 1)), ()), ((p2, p3, ()), (p4, p5, ()), p6, p7, p8, p9, p10, p11, p12, (p13 ++ ([(([] : List InsD) ++ y1)] : List (List InsD))), p14, p15, p16, p17, p18, p19, ()))))
 .fail)
 .fail)
 .fail)
 (.ret (.out ((), ((p2, p3, ()), (p4, p5, ()), p6, p7, p8, p9, p10, p11, p12, p13, p14, p15, p16, p17, p18, p19, ()))))
def f8_tree (a0 : List (List InsD)) : Out ((UnixD × (Bool × Unit) × Unit) × (Unit × Unit)) :=
 .ite (!(progsOkV a0))
 (.ret (((0, 0, ([] : List (List InsD)), ([] : List ProcD), ([] : List OpenD), ([] : List CpuD), ([] : List CpuD), ([] : List Int), ([] : List Int), ()), (false, ()), ()), ((), ())))
 (.get (iter1 f8_L0 FUEL ((a0, 0, ()), ((0, 0, ()), (2, 0, ()), ([] : List (List InsD)), ([] : List ProcD), ([] : List OpenD), ([] : List CpuD), ([] : List CpuD), ([] : List Int), ([] : List Int), ([] : List (List InsD)), ([] : List ProcD), ([(0, 1, 0, 0, 2, ())] : List OpenD), ([] : List CpuD), ([] : List CpuD), ([(1 : Int)] : List Int), ([] : List Int), ()))) fun (_, _, (y1aa, y1ab, _), _, _, _, _, _, _, _, y1ac, _, y1ad, y1ae, y1af, y1ag, y1ah, _) =>
 .get (k32_V (4 : Int)) fun y2 =>
 .get (k32_V (4 : Int)) fun y3 =>
 .ret (((y1aa, y1ab, y1ac, ([(1, 0, 1, 0, (0, y2.1.1.1, ()), y3.1.1.1, ([0, 0, -1, (-1 : Int)] : List Int), 0, 0, ())] : List ProcD), y1ad, y1ae, y1af, y1ag, y1ah, ()), (true, ()), ()), ((), ())))
abbrev f8_s1 : List (Nat × VSlot) := [(64000000, .var [.i .i64, .i .i64, .srf 64000002, .srf 64000003, .srf 64000004, .srf 64000005, .srf 64000006, .srf 64000007, .srf 64000008]), (64000001, .var [.i .i64, .i .i64, .srf 64000009, .srf 64000010, .srf 64000011, .srf 64000012, .srf 64000013, .srf 64000014, .srf 64000015]), (64000002, .arr (.sl tyN)), (64000003, .arr tyP), (64000004, .arr tyO), (64000005, .arr tyF), (64000006, .arr tyF), (64000007, .arr tyI), (64000008, .arr tyI), (64000009, .arr (.sl tyN)), (64000010, .arr tyP), (64000011, .arr tyO), (64000012, .arr tyF), (64000013, .arr tyF), (64000014, .arr tyI), (64000015, .arr tyI)]
def f8_A : Nat → Option LoopAnn := fun n => annOf [(0, ⟨⟨[.ro (.sl tyN) (some 0), .dead, .vptr 64000000 0, .dead, .vptr 64000001 0, .i .i64] ++ dd 33, f8_s1⟩, ⟨[.dead, .dead, .vptr 64000000 0, .dead, .vptr 64000001 0] ++ dd 34, f8_s1⟩, none, false⟩)] n
def k8_V := fun a0 => (f8_tree a0).eval
def k8 : Con := { f := 8, lend := true, its := [⟨false, false, [.ro (.sl tyN)]⟩], lay := [none], rs := [⟨false, true, [.i .i64, .i .i64, .own (.sl tyN), .own tyP, .own tyO, .own tyF, .own tyF, .own tyI, .own tyI]⟩, ⟨false, false, [.b]⟩], F := fun x => .get (k8_V x.1.1) fun y => .ret y }
theorem f8_eq (x : itemsD k8.its) : bo [k31, k32] f8_A Tryz.f8 k8 [.cell 2 32, .tmp 3] x = f8_tree x.1.1 := by kernel_rfl
theorem k8_ok : k8.Ok Tryz.prog := con_fn [k31, k32] ⟨k31_ok, k32_ok, trivial⟩ f8_eq fun _ _ _ hy => (eval_get_ret _).symm.trans hy
end Go.Proofs.YtnnpnkegpkladaaGreat.Dm
