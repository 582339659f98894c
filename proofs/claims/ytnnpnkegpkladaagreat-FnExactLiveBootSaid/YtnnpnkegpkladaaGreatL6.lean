/- f -/
import Derived.Test.YtnnpnkegpkladaaGreatL1
import Derived.Test.YtnnpnkegpkladaaGreatQ6
namespace Go.Proofs.YtnnpnkegpkladaaGreat.Dm
set_option linter.all false
open Go Go.ChangeShapes Go.WideShapes Go.ChangeAt Go.RowKit
def f32_tree (a0 : Int) : Out (((List Int × Unit) × Unit) × (Unit × Unit)) :=
 .ite (decide (0 ≤ a0 ∧ a0 ≤ a0 ∧ a0 ≤ (LIM : Int)))
 (.ret ((((List.replicate (Int.toNat a0) (0 : Int)), ()), ()), ((), ())))
 .fail
def k32_V := fun a0 => (f32_tree a0).eval
def k32 : Con := { f := 32, lend := true, its := [⟨false, false, [.i .i64]⟩], lay := [none], rs := [⟨false, false, [.own tyI]⟩], F := fun x => .get (k32_V x.1.1) fun y => .ret y }
theorem f32_eq (x : itemsD k32.its) : bo [] (fun _ => none) Tryz.f32 k32 [.tmp 2] x = f32_tree x.1.1 := by kernel_rfl
theorem k32_ok : k32.Ok Tryz.prog := con_fn [] trivial f32_eq fun _ _ _ hy => (eval_get_ret _).symm.trans hy
abbrev f205_S0 := (List (List InsD) × Int × Unit) × (List (List InsD) × Unit)
def f205_L0 : f205_S0 → Out (Round f205_S0 ((Unit) × (List (List InsD) × Unit)) Empty)
| ((p0, p1, _), p2, _) =>
 .ite (decide (p1 < ((List.length p0 : Nat) : Int)))
 (.ite (decide (0 ≤ p1))
 (.get (nth p0 (Int.toNat p1)) fun y1 =>
 .ite (decide (List.length ([] : List InsD) + List.length y1 ≤ LIM))
 (.ite (decide (List.length p2 + List.length ([(([] : List InsD) ++ y1)] : List (List InsD)) ≤ LIM))
 (.ret (.again ((p0, (IntKind.i64.wrap (p1 + 1)), ()), ((p2 ++ ([(([] : List InsD) ++ y1)] : List (List InsD))), ()))))
 .fail)
 .fail)
 .fail)
 (.ret (.out ((), (p2, ()))))
def f205_tree (a0 : List (List InsD)) : Out (((List (List InsD) × Unit) × Unit) × (Unit × Unit)) :=
 .get (iter1 f205_L0 FUEL ((a0, 0, ()), (([] : List (List InsD)), ()))) fun y1 =>
 .ret (((y1.2.1, ()), ()), ((), ()))
abbrev f205_s0 : List (Nat × VSlot) := [(64000000, .arr (.sl tyN))]
def f205_A : Nat → Option LoopAnn := fun n => annOf [(0, ⟨⟨[.ro (.sl tyN) (some 0), .dead, .dead, .srf 64000000, .i .i64] ++ dd 17, f205_s0⟩, ⟨[.dead, .dead, .dead, .srf 64000000] ++ dd 18, f205_s0⟩, none, false⟩)] n
def k205_V := fun a0 => (f205_tree a0).eval
def k205 : Con := { f := 205, lend := true, its := [⟨false, false, [.ro (.sl tyN)]⟩], lay := [none], rs := [⟨false, false, [.own (.sl tyN)]⟩], F := fun x => .get (k205_V x.1.1) fun y => .ret y }
theorem f205_eq (x : itemsD k205.its) : bo [] f205_A Tryz.f205 k205 [.tmp 2] x = f205_tree x.1.1 := by kernel_rfl
theorem k205_ok : k205.Ok Tryz.prog := con_fn [] trivial f205_eq fun _ _ _ hy => (eval_get_ret _).symm.trans hy
abbrev f8_S0 := (List (List InsD) × Int × Unit) × ((Int × Int × Unit) × (Int × Int × Unit) × List (List InsD) × List ProcD × List OpenD × List CpuD × List CpuD × List Int × List Int × U7T)
def f8_L0 : f8_S0 → Out (Round f8_S0 ((Unit) × ((Int × Int × Unit) × (Int × Int × Unit) × List (List InsD) × List ProcD × List OpenD × List CpuD × List CpuD × List Int × List Int × U7T)) Empty)
| ((p0, p1, _), (p2, p3, _), (p4, p5, _), p6, p7, p8, p9, p10, p11, p12, p13, p14, p15, p16, p17, p18, p19, _) =>
 .ite (decide (p1 < ((List.length p0 : Nat) : Int)))
 (.ite (decide (0 ≤ p1))
 (.get (nth p0 (Int.toNat p1)) fun y1 =>
 .ite (decide (List.length ([] : List InsD) + List.length y1 ≤ LIM))
 (.ite (decide (List.length p13 + List.length ([(([] : List InsD) ++ y1)] : List (List InsD)) ≤ LIM))
 (.ret (.again ((p0, (IntKind.i64.wrap (p1 + 1)), ()), ((p2, p3, ()), (p4, p5, ()), p6, p7, p8, p9, p10, p11, p12, (p13 ++ ([(([] : List InsD) ++ y1)] : List (List InsD))), p14, p15, p16, p17, p18, p19, ()))))
 .fail)
 .fail)
 .fail)
 (.ret (.out ((), ((p2, p3, ()), (p4, p5, ()), p6, p7, p8, p9, p10, p11, p12, p13, p14, p15, p16, p17, p18, p19, ()))))
def f8_tree (a0 : List (List InsD)) : Out ((UnixD × (Bool × Unit) × Unit) × (Unit × Unit)) :=
 .ite (!(progsOkV a0))
 (.ret (((0, 0, ([] : List (List InsD)), ([] : List ProcD), ([] : List OpenD), ([] : List CpuD), ([] : List CpuD), ([] : List Int), ([] : List Int), ()), (false, ()), ()), ((), ())))
 (.get (iter1 f8_L0 FUEL ((a0, 0, ()), ((0, 0, ()), (2, 0, ()), ([] : List (List InsD)), ([] : List ProcD), ([] : List OpenD), ([] : List CpuD), ([] : List CpuD), ([] : List Int), ([] : List Int), ([] : List (List InsD)), ([] : List ProcD), ([(0, 1, 0, 0, 2, ())] : List OpenD), ([] : List CpuD), ([] : List CpuD), ([(1 : Int)] : List Int), ([] : List Int), ()))) fun (_, _, (y1aa, y1ab, _), _, _, _, _, _, _, _, y1ac, _, y1ad, y1ae, y1af, y1ag, y1ah, _) =>
 .get (k32_V (4 : Int)) fun y2 =>
 .get (k32_V (4 : Int)) fun y3 =>
 .ret (((y1aa, y1ab, y1ac, ([(1, 0, 1, 0, (0, y2.1.1.1, ()), y3.1.1.1, ([0, 0, -1, (-1 : Int)] : List Int), 0, 0, ())] : List ProcD), y1ad, y1ae, y1af, y1ag, y1ah, ()), (true, ()), ()), ((), ())))
abbrev f8_s1 : List (Nat × VSlot) := [(64000000, .var [.i .i64, .i .i64, .srf 64000002, .srf 64000003, .srf 64000004, .srf 64000005, .srf 64000006, .srf 64000007, .srf 64000008]), (64000001, .var [.i .i64, .i .i64, .srf 64000009, .srf 64000010, .srf 64000011, .srf 64000012, .srf 64000013, .srf 64000014, .srf 64000015]), (64000002, .arr (.sl tyN)), (64000003, .arr tyP), (64000004, .arr tyO), (64000005, .arr tyF), (64000006, .arr tyF), (64000007, .arr tyI), (64000008, .arr tyI), (64000009, .arr (.sl tyN)), (64000010, .arr tyP), (64000011, .arr tyO), (64000012, .arr tyF), (64000013, .arr tyF), (64000014, .arr tyI), (64000015, .arr tyI)]
def f8_A : Nat → Option LoopAnn := fun n => annOf [(0, ⟨⟨[.ro (.sl tyN) (some 0), .dead, .vptr 64000000 0, .dead, .vptr 64000001 0, .i .i64] ++ dd 33, f8_s1⟩, ⟨[.dead, .dead, .vptr 64000000 0, .dead, .vptr 64000001 0] ++ dd 34, f8_s1⟩, none, false⟩)] n
def k8_V := fun a0 => (f8_tree a0).eval
def k8 : Con := { f := 8, lend := true, its := [⟨false, false, [.ro (.sl tyN)]⟩], lay := [none], rs := [⟨false, true, [.i .i64, .i .i64, .own (.sl tyN), .own tyP, .own tyO, .own tyF, .own tyF, .own tyI, .own tyI]⟩, ⟨false, false, [.b]⟩], F := fun x => .get (k8_V x.1.1) fun y => .ret y }
theorem f8_eq (x : itemsD k8.its) : bo [k31, k32] f8_A Tryz.f8 k8 [.cell 2 32, .tmp 3] x = f8_tree x.1.1 := by kernel_rfl
theorem k8_ok : k8.Ok Tryz.prog := con_fn [k31, k32] ⟨k31_ok, k32_ok, trivial⟩ f8_eq fun _ _ _ hy => (eval_get_ret _).symm.trans hy
def f259_tree  : Out ((XB × Unit) × (Unit)) :=
 .get (k32_V (4 : Int)) fun y1 =>
 .ret (((false, 0, 0, 0, 0, 0, 0, 0, y1.1.1.1, ([-1, -1, (-1 : Int)] : List Int), ([-1, -1, -1, (-1 : Int)] : List Int), ()), ()), ())
def k259_V := (f259_tree ).eval
def k259 : Con := { f := 259, lend := true, its := [], lay := [], rs := [⟨false, true, [.b, .i .i64, .i .i64, .i .i64, .i .i64, .i .i64, .i .i64, .i .i64, .own tyI, .own tyI, .own tyI]⟩], F := fun x => .get (k259_V) fun y => .ret y }
theorem f259_eq (x : itemsD k259.its) : bo [k32] (fun _ => none) Tryz.f259 k259 [.cell 0 134] x = f259_tree  := by kernel_rfl
theorem k259_ok : k259.Ok Tryz.prog := con_fn [k32] ⟨k32_ok, trivial⟩ f259_eq fun _ _ _ hy => (eval_get_ret _).symm.trans hy
abbrev f201_S0 := (Int × Unit) × XA
def f201_L0 : f201_S0 → Out (Round f201_S0 ((Unit) × XA) Empty)
| ((p0, _), (p1, p2, p3, p4, p5, _), (p6, p7, p8, p9, p10, _), p11, p12, p13, p14, p15, p16, p17, p18, p19, p20, p21, p22, p23, p24, p25, p26, p27, p28, _) =>
 .ite (decide (p0 < 6))
 (.get k259_V fun (((y1aa, y1ab, y1ac, y1ad, y1ae, y1af, y1ag, y1ah, y1ai, y1aj, y1ak, _), _), _) =>
 .ite (decide (List.length p21 + List.length ([(y1aa, y1ab, y1ac, y1ad, y1ae, y1af, y1ag, y1ah, y1ai, y1aj, y1ak, ())] : List (XB)) ≤ LIM))
 (.ret (.again (((IntKind.i64.wrap (p0 + 1)), ()), ((p1, p2, p3, p4, p5, ()), (p6, p7, p8, p9, p10, ()), p11, p12, p13, p14, p15, p16, p17, p18, p19, p20, (p21 ++ ([(y1aa, y1ab, y1ac, y1ad, y1ae, y1af, y1ag, y1ah, y1ai, y1aj, y1ak, ())] : List (XB))), p22, p23, p24, p25, p26, p27, p28, ()))))
 .fail)
 (.ret (.out ((), ((p1, p2, p3, p4, p5, ()), (p6, p7, p8, p9, p10, ()), p11, p12, p13, p14, p15, p16, p17, p18, p19, p20, p21, p22, p23, p24, p25, p26, p27, p28, ()))))
abbrev f201_S2 := (Int × Unit) × XA
def f201_L2 : f201_S2 → Out (Round f201_S2 ((Unit) × XA) Empty)
| ((p0, _), (p1, p2, p3, p4, p5, _), (p6, p7, p8, p9, p10, _), p11, p12, p13, p14, p15, p16, p17, p18, p19, p20, p21, p22, p23, p24, p25, p26, p27, p28, _) =>
 .ite (decide (p0 < 3))
 (.get (k32_V (4 : Int)) fun y1 =>
 .ite (decide (List.length p25 + List.length ([(false, y1.1.1.1, 0, 0, ())] : List ((Bool × XE))) ≤ LIM))
 (.ret (.again (((IntKind.i64.wrap (p0 + 1)), ()), ((p1, p2, p3, p4, p5, ()), (p6, p7, p8, p9, p10, ()), p11, p12, p13, p14, p15, p16, p17, p18, p19, p20, p21, p22, p23, p24, (p25 ++ ([(false, y1.1.1.1, 0, 0, ())] : List ((Bool × XE)))), p26, p27, p28, ()))))
 .fail)
 (.ret (.out ((), ((p1, p2, p3, p4, p5, ()), (p6, p7, p8, p9, p10, ()), p11, p12, p13, p14, p15, p16, p17, p18, p19, p20, p21, p22, p23, p24, p25, p26, p27, p28, ()))))
def f201_tree (a0 : Int) (a1 : Int) (a2 : List (List InsD)) (a3 : List ProcD) (a4 : List OpenD) (a5 : List CpuD) (a6 : List CpuD) (a7 : List Int) (a8 : List Int) : Out ((XG × Unit) × (Unit × Unit)) :=
 .get (k205_V a2) fun y1 =>
 .get (k32_V (64 : Int)) fun y2 =>
 .ite (decide (0 ≤ (16 : Int) ∧ (16 : Int) ≤ (16 : Int) ∧ (16 : Int) ≤ (LIM : Int)))
 (.ite (decide (0 ≤ (8 : Int) ∧ (8 : Int) ≤ (8 : Int) ∧ (8 : Int) ≤ (LIM : Int)))
 (.ite (decide (0 ≤ (6 : Int) ∧ (6 : Int) ≤ (6 : Int) ∧ (6 : Int) ≤ (LIM : Int)))
 (.get (k32_V (6 : Int)) fun y3 =>
 .ite (decide (List.length ([] : List Int) + List.length a8 ≤ LIM))
 (.get (iter1 f201_L0 FUEL ((0, ()), ((0, 0, false, 0, 0, ()), (a0, a1, false, 0, 0, ()), ([] : List (List InsD)), ([] : List (XB)), ([] : List Int), ([] : List (Bool)), ([] : List (XF)), ([] : List ((Bool × XE))), ([] : List (XK)), ([] : List Int), ([] : List Int), y1.1.1.1, ([] : List (XB)), y2.1.1.1, (List.replicate (Int.toNat (16 : Int)) false), (List.replicate (Int.toNat (8 : Int)) (false, (0, (0, (0, (0, ())))))), ([] : List ((Bool × XE))), (List.replicate (Int.toNat (6 : Int)) (false, (([] : List Int), ()))), y3.1.1.1, (([] : List Int) ++ a8), ()))) fun (_, (y4aa, y4ab, y4ac, y4ad, y4ae, _), (y4af, y4ag, y4ah, y4ai, y4aj, _), y4ak, y4al, y4am, y4an, y4ao, y4ap, y4aq, y4ar, y4as, y4at, y4au, y4av, y4aw, y4ax, y4ay, y4az, y4ba, y4bb, _) =>
 .get (iter1 f201_L2 FUEL ((0, ()), ((y4aa, y4ab, y4ac, y4ad, y4ae, ()), (y4af, y4ag, y4ah, y4ai, y4aj, ()), y4ak, y4al, y4am, y4an, y4ao, y4ap, y4aq, y4ar, y4as, y4at, y4au, y4av, y4aw, y4ax, y4ay, y4az, y4ba, y4bb, ()))) fun (_, _, (y5aa, y5ab, y5ac, y5ad, y5ae, _), _, _, _, _, _, _, _, _, _, y5af, y5ag, y5ah, y5ai, y5aj, y5ak, y5al, y5am, y5an, _) =>
 .ret (((y5aa, y5ab, y5af, y5ag, y5ah, y5ai, y5aj, y5ak, y5al, y5ac, y5am, y5ad, y5ae, y5an, ()), ()), ((), ())))
 .fail)
 .fail)
 .fail)
 .fail
abbrev f201_s2 : List (Nat × VSlot) := [(64000000, .var [.i .i64, .i .i64, .srf 64000002, .srf 64000003, .srf 64000004, .srf 64000005, .srf 64000006, .srf 64000007, .srf 64000008, .b, .srf 64000009, .i .i64, .i .i64, .srf 64000010]), (64000001, .var [.i .i64, .i .i64, .srf 64000011, .srf 64000012, .srf 64000013, .srf 64000014, .srf 64000015, .srf 64000016, .srf 64000017, .b, .srf 64000018, .i .i64, .i .i64, .srf 64000019]), (64000002, .arr (.sl tyN)), (64000003, .arr tyQ), (64000004, .arr tyI), (64000005, .arr .bool), (64000006, .arr tyS), (64000007, .arr tyR), (64000008, .arr tyT), (64000009, .arr tyI), (64000010, .arr tyI), (64000011, .arr (.sl tyN)), (64000012, .arr tyQ), (64000013, .arr tyI), (64000014, .arr .bool), (64000015, .arr tyS), (64000016, .arr tyR), (64000017, .arr tyT), (64000018, .arr tyI), (64000019, .arr tyI)]
def f201_A : Nat → Option LoopAnn := fun n => annOf [(0, ⟨⟨[.dead, .dead, .vptr 64000000 0, .vptr 64000001 0, .i .i64] ++ dd 41, f201_s2⟩, ⟨[.dead, .dead, .vptr 64000000 0, .vptr 64000001 0] ++ dd 42, f201_s2⟩, none, false⟩), (2, ⟨⟨[.dead, .dead, .vptr 64000000 0, .vptr 64000001 0, .dead, .i .i64] ++ dd 40, f201_s2⟩, ⟨[.dead, .dead, .vptr 64000000 0, .vptr 64000001 0] ++ dd 42, f201_s2⟩, none, false⟩)] n
def k201_V := fun a0 a1 a2 a3 a4 a5 a6 a7 a8 => (f201_tree a0 a1 a2 a3 a4 a5 a6 a7 a8).eval
def k201 : Con := { f := 201, lend := true, its := [⟨false, true, [.i .i64, .i .i64, .ro (.sl tyN), .ro tyP, .ro tyO, .ro tyF, .ro tyF, .ro tyI, .ro tyI]⟩], lay := [none], rs := [⟨false, true, [.i .i64, .i .i64, .own (.sl tyN), .own tyQ, .own tyI, .own .bool, .own tyS, .own tyR, .own tyT, .b, .own tyI, .i .i64, .i .i64, .own tyI]⟩], F := fun x => .get (k201_V x.1.1 x.1.2.1 x.1.2.2.1 x.1.2.2.2.1 x.1.2.2.2.2.1 x.1.2.2.2.2.2.1 x.1.2.2.2.2.2.2.1 x.1.2.2.2.2.2.2.2.1 x.1.2.2.2.2.2.2.2.2.1) fun y => .ret y }
theorem f201_eq (x : itemsD k201.its) : bo [k205, k32, k259] f201_A Tryz.f201 k201 [.cell 2 43] x = f201_tree x.1.1 x.1.2.1 x.1.2.2.1 x.1.2.2.2.1 x.1.2.2.2.2.1 x.1.2.2.2.2.2.1 x.1.2.2.2.2.2.2.1 x.1.2.2.2.2.2.2.2.1 x.1.2.2.2.2.2.2.2.2.1 := by kernel_rfl
theorem k201_ok : k201.Ok Tryz.prog := con_fn [k205, k32, k259] ⟨k205_ok, k32_ok, k259_ok, trivial⟩ f201_eq fun _ _ _ hy => (eval_get_ret _).symm.trans hy
abbrev f260_S0 := (Int × Unit) × (List (Bool) × Unit)
def f260_L0 : f260_S0 → Out (Round f260_S0 ((Unit) × (List (Bool) × Unit)) ((Int × Unit) × (List (Bool) × Unit)))
| ((p0, _), p1, _) =>
 .ite (decide (p0 < ((List.length p1 : Nat) : Int)))
 (.ite (decide (0 ≤ p0 ∧ p0 < ((List.length p1 : Nat) : Int)))
 (.get (nth p1 (Int.toNat p0)) fun y1 =>
 .ite (!y1)
 (.ite (decide (0 ≤ p0 ∧ p0 < ((List.length p1 : Nat) : Int)))
 (.get (nth p1 (Int.toNat p0)) fun y2 =>
 .ret (.ret ((p0, ()), ((List.set p1 (Int.toNat p0) true), ()))))
 .fail)
 (.ret (.again (((IntKind.i64.wrap (p0 + 1)), ()), (p1, ())))))
 .fail)
 (.ret (.out ((), (p1, ()))))
def f260_tree (a0 : List Bool) : Out (((List Bool × Unit) × (Int × Unit) × Unit) × (Unit × Unit)) :=
 .get (iter f260_L0 FUEL ((0, ()), (a0, ()))) fun y1 => .alt y1 (fun y2 =>
 .ret (((y2.2.1, ()), (-1, ()), ()), ((), ()))) (fun y3 =>
 .ret (((y3.2.1, ()), (y3.1.1, ()), ()), ((), ())))
def f260_A : Nat → Option LoopAnn := fun n => annOf [(0, ⟨⟨[.srf 64000000, .dead, .dead, .dead, .i .i64] ++ dd 17, [(64000000, .arr .bool)]⟩, ⟨[.srf 64000000] ++ dd 21, [(64000000, .arr .bool)]⟩, some ⟨[.dead, .dead, .srf 64000000, .i .i64] ++ dd 18, [(64000000, .arr .bool)]⟩, false⟩)] n
def k260_V := fun a0 => (f260_tree a0).eval
def k260 : Con := { f := 260, lend := true, its := [⟨false, false, [.own .bool]⟩], lay := [none], rs := [⟨false, false, [.own .bool]⟩, ⟨false, false, [.i .i64]⟩], F := fun x => .get (k260_V x.1.1) fun y => .ret y }
theorem f260_eq (x : itemsD k260.its) : bo [] f260_A Tryz.f260 k260 [.tmp 2, .tmp 3] x = f260_tree x.1.1 := by kernel_rfl
theorem k260_ok : k260.Ok Tryz.prog := con_fn [] trivial f260_eq fun _ _ _ hy => (eval_get_ret _).symm.trans hy
def f293_tree (a0 : Int) : Out (((Bool × Unit) × Unit) × (Unit × Unit)) :=
 .ite ((decide (a0 ≥ (0 : Int))) == true)
 (.ret ((((decide (a0 < 16)), ()), ()), ((), ())))
 (.ret (((false, ()), ()), ((), ())))
def k293_V := fun a0 => (f293_tree a0).eval
def k293 : Con := { f := 293, lend := true, its := [⟨false, false, [.i .i64]⟩], lay := [none], rs := [⟨false, false, [.b]⟩], F := fun x => .get (k293_V x.1.1) fun y => .ret y }
theorem f293_eq (x : itemsD k293.its) : bo [] (fun _ => none) Tryz.f293 k293 [.tmp 2] x = f293_tree x.1.1 := by kernel_rfl
theorem k293_ok : k293.Ok Tryz.prog := con_fn [] trivial f293_eq fun _ _ _ hy => (eval_get_ret _).symm.trans hy
abbrev f261_S0 := (List Int × Int × Unit) × (Unit)
def f261_L0 : f261_S0 → Out (Round f261_S0 ((Int × Unit) × (Unit)) Empty)
| ((p0, p1, _), _) =>
 .ite ((decide (p1 < ((List.length p0 : Nat) : Int))) == true)
 (.ite (decide (0 ≤ p1))
 (.get (nth p0 (Int.toNat p1)) fun y1 =>
 .get (k293_V y1) fun y2 =>
 .ite y2.1.1.1
 (.ret (.again ((p0, (IntKind.i64.wrap (p1 + 1)), ()), ())))
 (.ret (.out ((p1, ()), ()))))
 .fail)
 (.ret (.out ((p1, ()), ())))
def f261_tree (a0 : List Int) : Out (((Int × Unit) × Unit) × (Unit × Unit)) :=
 .get (iter1 f261_L0 FUEL ((a0, 0, ()), ())) fun y1 =>
 .ret (((y1.1.1, ()), ()), ((), ()))
def f261_A : Nat → Option LoopAnn := fun n => annOf [(0, ⟨⟨[.ro tyI (some 0), .dead, .dead, .i .i64] ++ dd 14, []⟩, ⟨[.dead, .dead, .dead, .i .i64] ++ dd 14, []⟩, none, false⟩)] n
def k261_V := fun a0 => (f261_tree a0).eval
def k261 : Con := { f := 261, lend := true, its := [⟨false, false, [.ro tyI]⟩], lay := [none], rs := [⟨false, false, [.i .i64]⟩], F := fun x => .get (k261_V x.1.1) fun y => .ret y }
theorem f261_eq (x : itemsD k261.its) : bo [k293] f261_A Tryz.f261 k261 [.tmp 2] x = f261_tree x.1.1 := by kernel_rfl
theorem k261_ok : k261.Ok Tryz.prog := con_fn [k293] ⟨k293_ok, trivial⟩ f261_eq fun _ _ _ hy => (eval_get_ret _).symm.trans hy
abbrev f203_S0 := XE × XA
def f203_L0 : f203_S0 → Out (Round f203_S0 ((Unit) × XA) Empty)
| ((p0, p1, p2, _), (p3, p4, p5, p6, p7, _), (p8, p9, p10, p11, p12, _), p13, p14, p15, p16, p17, p18, p19, p20, p21, p22, p23, p24, p25, p26, p27, p28, p29, p30, _) =>
 .ite (decide (p2 < 4))
 (.ite (decide (0 ≤ p2))
 (.get (nth p0 (Int.toNat p2)) fun y1 =>
 .ite (decide (0 ≤ (IntKind.i64.wrap ((IntKind.i64.wrap (p1 * (4 : Int))) + p2)) ∧ (IntKind.i64.wrap ((IntKind.i64.wrap (p1 * (4 : Int))) + p2)) < ((List.length p15 : Nat) : Int)))
 (.get (nth p15 (Int.toNat (IntKind.i64.wrap ((IntKind.i64.wrap (p1 * (4 : Int))) + p2)))) fun y2 =>
 .ret (.again ((p0, p1, (IntKind.i64.wrap (p2 + 1)), ()), ((p3, p4, p5, p6, p7, ()), (p8, p9, p10, p11, p12, ()), p13, p14, (List.set p15 (Int.toNat (IntKind.i64.wrap ((IntKind.i64.wrap (p1 * (4 : Int))) + p2))) y1), p16, p17, p18, p19, p20, p21, p22, p23, p24, p25, p26, p27, p28, p29, p30, ()))))
 .fail)
 .fail)
 (.ret (.out ((), ((p3, p4, p5, p6, p7, ()), (p8, p9, p10, p11, p12, ()), p13, p14, p15, p16, p17, p18, p19, p20, p21, p22, p23, p24, p25, p26, p27, p28, p29, p30, ()))))
def f203_tree (a0 : Int) (a1 : Int) (a2 : List (List InsD)) (a3 : List XB) (a4 : List Int) (a5 : List Bool) (a6 : List XF) (a7 : List (Bool × XE)) (a8 : List XK) (a9 : Bool) (a10 : List Int) (a11 : Int) (a12 : Int) (a13 : List Int) (a14 : Int) (a15 : List Int) : Out ((XG × (Bool × Unit) × Unit) × (Unit × XI)) :=
 .ite (decide (List.length ([] : List (Bool)) + List.length a5 ≤ LIM))
 (.get (k260_V (([] : List (Bool)) ++ a5)) fun y1 =>
 .ite (decide (0 ≤ a14 ∧ a14 < ((List.length a3 : Nat) : Int)))
 (.get (nth a3 (Int.toNat a14)) fun (y2aa, y2ab, y2ac, y2ad, y2ae, y2af, y2ag, y2ah, y2ai, y2aj, y2ak) =>
 .get (k261_V y2aj) fun y3 =>
 .ite ((decide (y1.1.2.1.1 < 0)) == false)
 (.ite (decide (y3.1.1.1 ≥ (3 : Int)))
 (.ret (((a0, a1, a2, (List.set a3 (Int.toNat a14) (y2aa, (y2ab, (y2ac, (y2ad, (y2ae, (y2af, (y2ag, (y2ah, (y2ai, (y2aj, y2ak))))))))))), a4, a5, a6, a7, a8, a9, a10, a11, a12, a13, ()), (false, ()), ()), ((), (), (), ())))
 (.ite (decide (0 ≤ a14 ∧ a14 < ((List.length a3 : Nat) : Int)))
 (.get (nth (List.set a3 (Int.toNat a14) (y2aa, (y2ab, (y2ac, (y2ad, (y2ae, (y2af, (y2ag, (y2ah, (y2ai, (y2aj, y2ak))))))))))) (Int.toNat a14)) fun (y4aa, y4ab, y4ac, y4ad, y4ae, y4af, y4ag, y4ah, y4ai, y4aj, y4ak) =>
 .ite (decide (0 ≤ y3.1.1.1 ∧ y3.1.1.1 < ((List.length y4aj : Nat) : Int)))
 (.get (nth y4aj (Int.toNat y3.1.1.1)) fun y5 =>
 .get (iter1 f203_L0 FUEL ((a15, y1.1.2.1.1, 0, ()), ((a0, a1, a9, a11, a12, ()), (0, 0, false, 0, 0, ()), a2, (List.set (List.set a3 (Int.toNat a14) (y2aa, (y2ab, (y2ac, (y2ad, (y2ae, (y2af, (y2ag, (y2ah, (y2ai, (y2aj, y2ak))))))))))) (Int.toNat a14) (y4aa, (y4ab, (y4ac, (y4ad, (y4ae, (y4af, (y4ag, (y4ah, (y4ai, ((List.set y4aj (Int.toNat y3.1.1.1) y1.1.2.1.1), y4ak))))))))))), a4, y1.1.1.1, a6, a7, a8, a10, a13, ([] : List (List InsD)), ([] : List (XB)), ([] : List Int), ([] : List (Bool)), ([] : List (XF)), ([] : List ((Bool × XE))), ([] : List (XK)), ([] : List Int), ([] : List Int), ()))) fun (_, (y6aa, y6ab, y6ac, y6ad, y6ae, _), _, y6af, y6ag, y6ah, y6ai, y6aj, y6ak, y6al, y6am, y6an, _) =>
 .ret (((y6aa, y6ab, y6af, y6ag, y6ah, y6ai, y6aj, y6ak, y6al, y6ac, y6am, y6ad, y6ae, y6an, ()), (true, ()), ()), ((), (), (), ())))
 .fail)
 .fail))
 (.ret (((a0, a1, a2, (List.set a3 (Int.toNat a14) (y2aa, (y2ab, (y2ac, (y2ad, (y2ae, (y2af, (y2ag, (y2ah, (y2ai, (y2aj, y2ak))))))))))), a4, a5, a6, a7, a8, a9, a10, a11, a12, a13, ()), (false, ()), ()), ((), (), (), ()))))
 .fail)
 .fail
def f203_A : Nat → Option LoopAnn := fun n => annOf [(0, ⟨⟨[.dead, .dead, .ro tyI (some 9), .vptr 64000000 0, .dead, .dead, .vptr 64000001 0, .dead, .dead, .i .i64, .dead, .i .i64] ++ dd 49, f201_s2⟩, ⟨[.dead, .dead, .dead, .vptr 64000000 0, .dead, .dead, .vptr 64000001 0] ++ dd 54, f201_s2⟩, none, false⟩)] n
def k203_V := fun a0 a1 a2 a3 a4 a5 a6 a7 a8 a9 a10 a11 a12 a13 a14 a15 => (f203_tree a0 a1 a2 a3 a4 a5 a6 a7 a8 a9 a10 a11 a12 a13 a14 a15).eval
def k203 : Con := { f := 203, lend := true, its := [⟨false, true, [.i .i64, .i .i64, .own (.sl tyN), .own tyQ, .own tyI, .own .bool, .own tyS, .own tyR, .own tyT, .b, .own tyI, .i .i64, .i .i64, .own tyI]⟩, ⟨false, false, [.i .i64]⟩, ⟨false, false, [.ro tyI]⟩], lay := [none, none, none], rs := [⟨false, true, [.i .i64, .i .i64, .own (.sl tyN), .own tyQ, .own tyI, .own .bool, .own tyS, .own tyR, .own tyT, .b, .own tyI, .i .i64, .i .i64, .own tyI]⟩, ⟨false, false, [.b]⟩], F := fun x => .get (k203_V x.1.1 x.1.2.1 x.1.2.2.1 x.1.2.2.2.1 x.1.2.2.2.2.1 x.1.2.2.2.2.2.1 x.1.2.2.2.2.2.2.1 x.1.2.2.2.2.2.2.2.1 x.1.2.2.2.2.2.2.2.2.1 x.1.2.2.2.2.2.2.2.2.2.1 x.1.2.2.2.2.2.2.2.2.2.2.1 x.1.2.2.2.2.2.2.2.2.2.2.2.1 x.1.2.2.2.2.2.2.2.2.2.2.2.2.1 x.1.2.2.2.2.2.2.2.2.2.2.2.2.2.1 x.2.1.1 x.2.2.1.1) fun y => .ret y }
theorem f203_eq (x : itemsD k203.its) : bo [k260, k261] f203_A Tryz.f203 k203 [.cell 6 43, .tmp 7] x = f203_tree x.1.1 x.1.2.1 x.1.2.2.1 x.1.2.2.2.1 x.1.2.2.2.2.1 x.1.2.2.2.2.2.1 x.1.2.2.2.2.2.2.1 x.1.2.2.2.2.2.2.2.1 x.1.2.2.2.2.2.2.2.2.1 x.1.2.2.2.2.2.2.2.2.2.1 x.1.2.2.2.2.2.2.2.2.2.2.1 x.1.2.2.2.2.2.2.2.2.2.2.2.1 x.1.2.2.2.2.2.2.2.2.2.2.2.2.1 x.1.2.2.2.2.2.2.2.2.2.2.2.2.2.1 x.2.1.1 x.2.2.1.1 := by kernel_rfl
theorem k203_ok : k203.Ok Tryz.prog := con_fn [k260, k261] ⟨k260_ok, k261_ok, trivial⟩ f203_eq fun _ _ _ hy => (eval_get_ret _).symm.trans hy
def f204_tree (a0 : Bool) (a1 : List Int) (a2 : Int) (a3 : Int) (a4 : Int) : Out (((Bool × XE) × Unit) × XI) :=
 .ite (((List.length a1 : Nat) : Int) == 0)
 .fail
 (.ite (decide (0 ≤ (Int.tmod (IntKind.i64.wrap (a2 + a3)) ((List.length a1 : Nat) : Int)) ∧ (Int.tmod (IntKind.i64.wrap (a2 + a3)) ((List.length a1 : Nat) : Int)) < ((List.length a1 : Nat) : Int)))
 (.get (nth a1 (Int.toNat (Int.tmod (IntKind.i64.wrap (a2 + a3)) ((List.length a1 : Nat) : Int)))) fun y1 =>
 .ret (((a0, (List.set a1 (Int.toNat (Int.tmod (IntKind.i64.wrap (a2 + a3)) ((List.length a1 : Nat) : Int))) a4), a2, (IntKind.i64.wrap (a3 + 1)), ()), ()), ((), (), ())))
 .fail)
def k204_V := fun a0 a1 a2 a3 a4 => (f204_tree a0 a1 a2 a3 a4).eval
def k204 : Con := { f := 204, lend := true, its := [⟨false, true, [.b, .own tyI, .i .i64, .i .i64]⟩, ⟨false, false, [.i .i64]⟩], lay := [none, none], rs := [⟨false, true, [.b, .own tyI, .i .i64, .i .i64]⟩], F := fun x => .get (k204_V x.1.1 x.1.2.1 x.1.2.2.1 x.1.2.2.2.1 x.2.1.1) fun y => .ret y }
theorem f204_eq (x : itemsD k204.its) : bo [] (fun _ => none) Tryz.f204 k204 [.cell 4 41] x = f204_tree x.1.1 x.1.2.1 x.1.2.2.1 x.1.2.2.2.1 x.2.1.1 := by kernel_rfl
theorem k204_ok : k204.Ok Tryz.prog := con_fn [] trivial f204_eq fun _ _ _ hy => (eval_get_ret _).symm.trans hy
abbrev f102_S2 := (Int × Int × Unit) × (UnixD × XR × XR × (Int × Int × Int × Int × Int × Int × Int × Unit) × XL)
def f102_L2 : f102_S2 → Out (Round f102_S2 ((Int × Unit) × (UnixD × XA)) Empty)
| ((p0, p1, _), (p2, p3, p4, p5, p6, p7, p8, p9, p10, _), (p11, p12, p13, p14, p15, _), (p16, p17, p18, p19, p20, _), (p21, p22, p23, p24, p25, p26, p27, _), p28, p29, p30, p31, p32, p33, p34, p35, p36, p37, p38, p39, p40, p41, p42, p43, p44, p45, p46, _) =>
 .ite (decide (p1 < ((List.length p46 : Nat) : Int)))
 (.ite (decide (0 ≤ p1 ∧ p1 ≤ (IntKind.i64.wrap (p1 + 4)) ∧ (IntKind.i64.wrap (p1 + 4)) ≤ ((List.length p46 : Nat) : Int)))
 (.get (k203_V p16 p17 p37 p38 p39 p40 p41 p42 p43 p18 p44 p19 p20 p45 p0 (List.take (Int.toNat (IntKind.i64.wrap (p1 + 4)) - Int.toNat p1) (List.drop (0 + Int.toNat p1) p46))) fun (((y1aa, y1ab, y1ac, y1ad, y1ae, y1af, y1ag, y1ah, y1ai, y1aj, y1ak, y1al, y1am, y1an, _), _), _) =>
 .ret (.again ((p0, (IntKind.i64.wrap (p1 + 4)), ()), ((p2, p3, p4, p5, p6, p7, p8, p9, p10, ()), (p11, p12, p13, p14, p15, ()), (y1aa, y1ab, y1aj, y1al, y1am, ()), (p21, p22, p23, p24, p25, p26, p27, ()), p28, p29, p30, p31, p32, p33, p34, p35, p36, y1ac, y1ad, y1ae, y1af, y1ag, y1ah, y1ai, y1ak, y1an, p46, ()))))
 .fail)
 (.ret (.out ((p0, ()), ((p2, p3, p4, p5, p6, p7, p8, p9, p10, ()), (p11, p12, p13, p14, p15, ()), (p16, p17, p18, p19, p20, ()), p28, p29, p30, p31, p32, p33, p34, p35, p36, p37, p38, p39, p40, p41, p42, p43, p44, p45, ()))))
abbrev f102_S0 := (Int × Unit) × (UnixD × XA)
def f102_L0 : f102_S0 → Out (Round f102_S0 ((Unit) × (UnixD × XA)) Empty)
| ((p0, _), (p1, p2, p3, p4, p5, p6, p7, p8, p9, _), (p10, p11, p12, p13, p14, _), (p15, p16, p17, p18, p19, _), p20, p21, p22, p23, p24, p25, p26, p27, p28, p29, p30, p31, p32, p33, p34, p35, p36, p37, _) =>
 .ite (decide (p0 < ((List.length p4 : Nat) : Int)))
 (.ite (decide (0 ≤ p0))
 (.get (nth p4 (Int.toNat p0)) fun (y1aa, y1ab, y1ac, y1ad, (y1ae, y1af, _), y1ag, y1ah, y1ai, y1aj, _) =>
 .get (copyProcV y1aa y1ab y1ac y1ad y1ae y1af y1ag y1ah y1ai y1aj) fun (y2aa, y2ab, y2ac, y2ad, y2ae, y2af, y2ag, y2ah, y2ai, y2aj) =>
 .ite (decide (0 ≤ p0 ∧ p0 < ((List.length p30 : Nat) : Int)))
 (.get (nth p30 (Int.toNat p0)) fun y3 =>
 .get (iter1 f102_L2 FUEL ((p0, 0, ()), ((p1, p2, p3, p4, p5, p6, p7, p8, p9, ()), (p10, p11, p12, p13, p14, ()), (p15, p16, p17, p18, p19, ()), (y2aa, y2ab, y2ac, y2ad, y2ae, y2ai, y2aj, ()), p20, p21, p22, p23, p24, p25, p26, p27, p28, p29, (List.set p30 (Int.toNat p0) (true, y2aa, y2ab, y2ac, y2ad, y2ae, y2ai, y2aj, y2af, ([-1, -1, (-1 : Int)] : List Int), y2ah, ())), p31, p32, p33, p34, p35, p36, p37, y2ag, ()))) fun ((y4aa, _), (y4ab, y4ac, y4ad, y4ae, y4af, y4ag, y4ah, y4ai, y4aj, _), (y4ak, y4al, y4am, y4an, y4ao, _), (y4ap, y4aq, y4ar, y4as, y4at, _), y4au, y4av, y4aw, y4ax, y4ay, y4az, y4ba, y4bb, y4bc, y4bd, y4be, y4bf, y4bg, y4bh, y4bi, y4bj, y4bk, y4bl, _) =>
 .ret (.again (((IntKind.i64.wrap (y4aa + 1)), ()), ((y4ab, y4ac, y4ad, y4ae, y4af, y4ag, y4ah, y4ai, y4aj, ()), (y4ak, y4al, y4am, y4an, y4ao, ()), (y4ap, y4aq, y4ar, y4as, y4at, ()), y4au, y4av, y4aw, y4ax, y4ay, y4az, y4ba, y4bb, y4bc, y4bd, y4be, y4bf, y4bg, y4bh, y4bi, y4bj, y4bk, y4bl, ()))))
 .fail)
 .fail)
 (.ret (.out ((), ((p1, p2, p3, p4, p5, p6, p7, p8, p9, ()), (p10, p11, p12, p13, p14, ()), (p15, p16, p17, p18, p19, ()), p20, p21, p22, p23, p24, p25, p26, p27, p28, p29, p30, p31, p32, p33, p34, p35, p36, p37, ()))))
abbrev f102_S4 := (Int × Unit) × (UnixD × XA)
def f102_L4 : f102_S4 → Out (Round f102_S4 ((Unit) × (UnixD × XA)) Empty)
| ((p0, _), (p1, p2, p3, p4, p5, p6, p7, p8, p9, _), (p10, p11, p12, p13, p14, _), (p15, p16, p17, p18, p19, _), p20, p21, p22, p23, p24, p25, p26, p27, p28, p29, p30, p31, p32, p33, p34, p35, p36, p37, _) =>
 .ite (decide (p0 < ((List.length p5 : Nat) : Int)))
 (.ite (decide (0 ≤ p0))
 (.get (nth p5 (Int.toNat p0)) fun y1 =>
 .ite (decide (0 ≤ y1.1 ∧ y1.1 < ((List.length p33 : Nat) : Int)))
 (.get (nth p33 (Int.toNat y1.1)) fun y2 =>
 .ret (.again (((IntKind.i64.wrap (p0 + 1)), ()), ((p1, p2, p3, p4, p5, p6, p7, p8, p9, ()), (p10, p11, p12, p13, p14, ()), (p15, p16, p17, p18, p19, ()), p20, p21, p22, p23, p24, p25, p26, p27, p28, p29, p30, p31, p32, (List.set p33 (Int.toNat y1.1) (true, y1.2.1, y1.2.2.1, y1.2.2.2.1, y1.2.2.2.2.1, ())), p34, p35, p36, p37, ()))))
 .fail)
 .fail)
 (.ret (.out ((), ((p1, p2, p3, p4, p5, p6, p7, p8, p9, ()), (p10, p11, p12, p13, p14, ()), (p15, p16, p17, p18, p19, ()), p20, p21, p22, p23, p24, p25, p26, p27, p28, p29, p30, p31, p32, p33, p34, p35, p36, p37, ()))))
abbrev f102_S8 := (Int × Int × Unit) × (UnixD × XR × XR × (Bool × Int × Int × Unit) × XL)
def f102_L8 : f102_S8 → Out (Round f102_S8 ((Int × Unit) × (UnixD × XR × XR × (Bool × Int × Int × Unit) × XL)) Empty)
| ((p0, p1, _), (p2, p3, p4, p5, p6, p7, p8, p9, p10, _), (p11, p12, p13, p14, p15, _), (p16, p17, p18, p19, p20, _), (p21, p22, p23, _), p24, p25, p26, p27, p28, p29, p30, p31, p32, p33, p34, p35, p36, p37, p38, p39, p40, p41, p42, _) =>
 .ite (decide (0 ≤ p0))
 (.get (nth p7 (Int.toNat p0)) fun y1 =>
 .ite (decide (p1 < ((List.length y1.2.1 : Nat) : Int)))
 (.ite (decide (0 ≤ p0))
 (.get (nth p7 (Int.toNat p0)) fun y2 =>
 .ite (decide (0 ≤ p1))
 (.get (nth y2.2.1 (Int.toNat p1)) fun y3 =>
 .get (k204_V p21 p42 p22 p23 y3) fun y4 =>
 .ret (.again ((p0, (IntKind.i64.wrap (p1 + 1)), ()), ((p2, p3, p4, p5, p6, p7, p8, p9, p10, ()), (p11, p12, p13, p14, p15, ()), (p16, p17, p18, p19, p20, ()), (y4.1.1.1, y4.1.1.2.2.1, y4.1.1.2.2.2.1, ()), p24, p25, p26, p27, p28, p29, p30, p31, p32, p33, p34, p35, p36, p37, p38, p39, p40, p41, y4.1.1.2.1, ()))))
 .fail)
 .fail)
 (.ret (.out ((p0, ()), ((p2, p3, p4, p5, p6, p7, p8, p9, p10, ()), (p11, p12, p13, p14, p15, ()), (p16, p17, p18, p19, p20, ()), (p21, p22, p23, ()), p24, p25, p26, p27, p28, p29, p30, p31, p32, p33, p34, p35, p36, p37, p38, p39, p40, p41, p42, ())))))
 .fail
abbrev f102_S6 := (Int × Unit) × (UnixD × XA)
def f102_L6 : f102_S6 → Out (Round f102_S6 ((Unit) × (UnixD × XA)) Empty)
| ((p0, _), (p1, p2, p3, p4, p5, p6, p7, p8, p9, _), (p10, p11, p12, p13, p14, _), (p15, p16, p17, p18, p19, _), p20, p21, p22, p23, p24, p25, p26, p27, p28, p29, p30, p31, p32, p33, p34, p35, p36, p37, _) =>
 .ite (decide (p0 < ((List.length p6 : Nat) : Int)))
 (.get (k32_V (4 : Int)) fun y1 =>
 .get (iter1 f102_L8 FUEL ((p0, 0, ()), ((p1, p2, p3, p4, p5, p6, p7, p8, p9, ()), (p10, p11, p12, p13, p14, ()), (p15, p16, p17, p18, p19, ()), (true, 0, 0, ()), p20, p21, p22, p23, p24, p25, p26, p27, p28, p29, p30, p31, p32, p33, p34, p35, p36, p37, y1.1.1.1, ()))) fun ((y2aa, _), (y2ab, y2ac, y2ad, y2ae, y2af, y2ag, y2ah, y2ai, y2aj, _), (y2ak, y2al, y2am, y2an, y2ao, _), (y2ap, y2aq, y2ar, y2as, y2at, _), (y2au, y2av, y2aw, _), y2ax, y2ay, y2az, y2ba, y2bb, y2bc, y2bd, y2be, y2bf, y2bg, y2bh, y2bi, y2bj, y2bk, y2bl, y2bm, y2bn, y2bo, y2bp, _) =>
 .ite (decide (0 ≤ y2aa))
 (.get (nth y2ag (Int.toNat y2aa)) fun y3 =>
 .ite (decide (0 ≤ y3.1 ∧ y3.1 < ((List.length y2bl : Nat) : Int)))
 (.get (nth y2bl (Int.toNat y3.1)) fun y4 =>
 .ret (.again (((IntKind.i64.wrap (y2aa + 1)), ()), ((y2ab, y2ac, y2ad, y2ae, y2af, y2ag, y2ah, y2ai, y2aj, ()), (y2ak, y2al, y2am, y2an, y2ao, ()), (y2ap, y2aq, y2ar, y2as, y2at, ()), y2ax, y2ay, y2az, y2ba, y2bb, y2bc, y2bd, y2be, y2bf, y2bg, y2bh, y2bi, y2bj, y2bk, (List.set y2bl (Int.toNat y3.1) (y2au, y2bp, y2av, y2aw, ())), y2bm, y2bn, y2bo, ()))))
 .fail)
 .fail)
 (.ret (.out ((), ((p1, p2, p3, p4, p5, p6, p7, p8, p9, ()), (p10, p11, p12, p13, p14, ()), (p15, p16, p17, p18, p19, ()), p20, p21, p22, p23, p24, p25, p26, p27, p28, p29, p30, p31, p32, p33, p34, p35, p36, p37, ()))))
abbrev f102_S10 := (Int × Unit) × (UnixD × XA)
def f102_L10 : f102_S10 → Out (Round f102_S10 ((Unit) × (UnixD × XA)) Empty)
| ((p0, _), (p1, p2, p3, p4, p5, p6, p7, p8, p9, _), (p10, p11, p12, p13, p14, _), (p15, p16, p17, p18, p19, _), p20, p21, p22, p23, p24, p25, p26, p27, p28, p29, p30, p31, p32, p33, p34, p35, p36, p37, _) =>
 .ite (decide (p0 < ((List.length p7 : Nat) : Int)))
 (.ite (decide (0 ≤ p0))
 (.get (nth p7 (Int.toNat p0)) fun y1 =>
 .ite (decide (0 ≤ p0))
 (.get (nth p7 (Int.toNat p0)) fun y2 =>
 .ite (decide (List.length ([] : List Int) + List.length y2.2.1 ≤ LIM))
 (.ite (decide (0 ≤ y1.1 ∧ y1.1 < ((List.length p35 : Nat) : Int)))
 (.get (nth p35 (Int.toNat y1.1)) fun y3 =>
 .ret (.again (((IntKind.i64.wrap (p0 + 1)), ()), ((p1, p2, p3, p4, p5, p6, p7, p8, p9, ()), (p10, p11, p12, p13, p14, ()), (p15, p16, p17, p18, p19, ()), p20, p21, p22, p23, p24, p25, p26, p27, p28, p29, p30, p31, p32, p33, p34, (List.set p35 (Int.toNat y1.1) (true, (([] : List Int) ++ y2.2.1), ())), p36, p37, ()))))
 .fail)
 .fail)
 .fail)
 .fail)
 (.ret (.out ((), ((p1, p2, p3, p4, p5, p6, p7, p8, p9, ()), (p10, p11, p12, p13, p14, ()), (p15, p16, p17, p18, p19, ()), p20, p21, p22, p23, p24, p25, p26, p27, p28, p29, p30, p31, p32, p33, p34, p35, p36, p37, ()))))
abbrev f102_S12 := (Int × Unit) × (UnixD × XA)
def f102_L12 : f102_S12 → Out (Round f102_S12 ((Unit) × XA) Empty)
| ((p0, _), (p1, p2, p3, p4, p5, p6, p7, p8, p9, _), (p10, p11, p12, p13, p14, _), (p15, p16, p17, p18, p19, _), p20, p21, p22, p23, p24, p25, p26, p27, p28, p29, p30, p31, p32, p33, p34, p35, p36, p37, _) =>
 .ite (decide (p0 < ((List.length p8 : Nat) : Int)))
 (.ite (decide (0 ≤ p0))
 (.get (nth p8 (Int.toNat p0)) fun y1 =>
 .get (k204_V p17 p36 p18 p19 y1) fun y2 =>
 .ret (.again (((IntKind.i64.wrap (p0 + 1)), ()), ((p1, p2, p3, p4, p5, p6, p7, p8, p9, ()), (p10, p11, p12, p13, p14, ()), (p15, p16, y2.1.1.1, y2.1.1.2.2.1, y2.1.1.2.2.2.1, ()), p20, p21, p22, p23, p24, p25, p26, p27, p28, p29, p30, p31, p32, p33, p34, p35, y2.1.1.2.1, p37, ()))))
 .fail)
 (.ret (.out ((), ((p10, p11, p12, p13, p14, ()), (p15, p16, p17, p18, p19, ()), p20, p21, p22, p23, p24, p25, p26, p27, p28, p29, p30, p31, p32, p33, p34, p35, p36, p37, ()))))
def f102_tree (a0 : Int) (a1 : Int) (a2 : List (List InsD)) (a3 : List ProcD) (a4 : List OpenD) (a5 : List CpuD) (a6 : List CpuD) (a7 : List Int) (a8 : List Int) : Out ((XG × Unit) × (Unit × Unit)) :=
 .get (k201_V a0 a1 a2 a3 a4 a5 a6 a7 a8) fun (((y1aa, y1ab, y1ac, y1ad, y1ae, y1af, y1ag, y1ah, y1ai, y1aj, y1ak, y1al, y1am, y1an, _), _), _) =>
 .get (iter1 f102_L0 FUEL ((0, ()), ((a0, a1, a2, a3, a4, a5, a6, a7, a8, ()), (0, 0, false, 0, 0, ()), (y1aa, y1ab, y1aj, y1al, y1am, ()), ([] : List (List InsD)), ([] : List (XB)), ([] : List Int), ([] : List (Bool)), ([] : List (XF)), ([] : List ((Bool × XE))), ([] : List (XK)), ([] : List Int), ([] : List Int), y1ac, y1ad, y1ae, y1af, y1ag, y1ah, y1ai, y1ak, y1an, ()))) fun (_, (y2aa, y2ab, y2ac, y2ad, y2ae, y2af, y2ag, y2ah, y2ai, _), (y2aj, y2ak, y2al, y2am, y2an, _), (y2ao, y2ap, y2aq, y2ar, y2as, _), y2at, y2au, y2av, y2aw, y2ax, y2ay, y2az, y2ba, y2bb, y2bc, y2bd, y2be, y2bf, y2bg, y2bh, y2bi, y2bj, y2bk, _) =>
 .get (iter1 f102_L4 FUEL ((0, ()), ((y2aa, y2ab, y2ac, y2ad, y2ae, y2af, y2ag, y2ah, y2ai, ()), (y2aj, y2ak, y2al, y2am, y2an, ()), (y2ao, y2ap, y2aq, y2ar, y2as, ()), y2at, y2au, y2av, y2aw, y2ax, y2ay, y2az, y2ba, y2bb, y2bc, y2bd, y2be, y2bf, y2bg, y2bh, y2bi, y2bj, y2bk, ()))) fun (_, (y3aa, y3ab, y3ac, y3ad, y3ae, y3af, y3ag, y3ah, y3ai, _), (y3aj, y3ak, y3al, y3am, y3an, _), (y3ao, y3ap, y3aq, y3ar, y3as, _), y3at, y3au, y3av, y3aw, y3ax, y3ay, y3az, y3ba, y3bb, y3bc, y3bd, y3be, y3bf, y3bg, y3bh, y3bi, y3bj, y3bk, _) =>
 .get (iter1 f102_L6 FUEL ((0, ()), ((y3aa, y3ab, y3ac, y3ad, y3ae, y3af, y3ag, y3ah, y3ai, ()), (y3aj, y3ak, y3al, y3am, y3an, ()), (y3ao, y3ap, y3aq, y3ar, y3as, ()), y3at, y3au, y3av, y3aw, y3ax, y3ay, y3az, y3ba, y3bb, y3bc, y3bd, y3be, y3bf, y3bg, y3bh, y3bi, y3bj, y3bk, ()))) fun (_, (y4aa, y4ab, y4ac, y4ad, y4ae, y4af, y4ag, y4ah, y4ai, _), (y4aj, y4ak, y4al, y4am, y4an, _), (y4ao, y4ap, y4aq, y4ar, y4as, _), y4at, y4au, y4av, y4aw, y4ax, y4ay, y4az, y4ba, y4bb, y4bc, y4bd, y4be, y4bf, y4bg, y4bh, y4bi, y4bj, y4bk, _) =>
 .get (iter1 f102_L10 FUEL ((0, ()), ((y4aa, y4ab, y4ac, y4ad, y4ae, y4af, y4ag, y4ah, y4ai, ()), (y4aj, y4ak, y4al, y4am, y4an, ()), (y4ao, y4ap, y4aq, y4ar, y4as, ()), y4at, y4au, y4av, y4aw, y4ax, y4ay, y4az, y4ba, y4bb, y4bc, y4bd, y4be, y4bf, y4bg, y4bh, y4bi, y4bj, y4bk, ()))) fun (_, (y5aa, y5ab, y5ac, y5ad, y5ae, y5af, y5ag, y5ah, y5ai, _), (y5aj, y5ak, y5al, y5am, y5an, _), (y5ao, y5ap, y5aq, y5ar, y5as, _), y5at, y5au, y5av, y5aw, y5ax, y5ay, y5az, y5ba, y5bb, y5bc, y5bd, y5be, y5bf, y5bg, y5bh, y5bi, y5bj, y5bk, _) =>
 .get (iter1 f102_L12 FUEL ((0, ()), ((y5aa, y5ab, y5ac, y5ad, y5ae, y5af, y5ag, y5ah, y5ai, ()), (y5aj, y5ak, y5al, y5am, y5an, ()), (y5ao, y5ap, y5aq, y5ar, y5as, ()), y5at, y5au, y5av, y5aw, y5ax, y5ay, y5az, y5ba, y5bb, y5bc, y5bd, y5be, y5bf, y5bg, y5bh, y5bi, y5bj, y5bk, ()))) fun (_, _, (y6aa, y6ab, y6ac, y6ad, y6ae, _), _, _, _, _, _, _, _, _, _, y6af, y6ag, y6ah, y6ai, y6aj, y6ak, y6al, y6am, y6an, _) =>
 .ret (((y6aa, y6ab, y6af, y6ag, y6ah, y6ai, y6aj, y6ak, y6al, y6ac, y6am, y6ad, y6ae, y6an, ()), ()), ((), ()))
abbrev f102_s3 : List (Nat × VSlot) := [(64000000, .var [.i .i64, .i .i64, .ro (.sl tyN) (some 0), .ro tyP (some 1), .ro tyO (some 2), .ro tyF (some 3), .ro tyF (some 4), .ro tyI (some 5), .ro tyI (some 6)]), (64000001, .var [.i .i64, .i .i64, .srf 64000003, .srf 64000004, .srf 64000005, .srf 64000006, .srf 64000007, .srf 64000008, .srf 64000009, .b, .srf 64000010, .i .i64, .i .i64, .srf 64000011]), (64000002, .var [.i .i64, .i .i64, .srf 64000012, .srf 64000013, .srf 64000014, .srf 64000015, .srf 64000016, .srf 64000017, .srf 64000018, .b, .srf 64000019, .i .i64, .i .i64, .srf 64000020]), (64000003, .arr (.sl tyN)), (64000004, .arr tyQ), (64000005, .arr tyI), (64000006, .arr .bool), (64000007, .arr tyS), (64000008, .arr tyR), (64000009, .arr tyT), (64000010, .arr tyI), (64000011, .arr tyI), (64000012, .arr (.sl tyN)), (64000013, .arr tyQ), (64000014, .arr tyI), (64000015, .arr .bool), (64000016, .arr tyS), (64000017, .arr tyR), (64000018, .arr tyT), (64000019, .arr tyI), (64000020, .arr tyI)]
abbrev f102_s4 : List (Nat × VSlot) := [(64000000, .var [.i .i64, .i .i64, .ro (.sl tyN) (some 0), .ro tyP (some 1), .ro tyO (some 2), .ro tyF (some 3), .ro tyF (some 4), .ro tyI (some 5), .ro tyI (some 6)]), (64000001, .var [.i .i64, .i .i64, .srf 64000004, .srf 64000005, .srf 64000006, .srf 64000007, .srf 64000008, .srf 64000009, .srf 64000010, .b, .srf 64000011, .i .i64, .i .i64, .srf 64000012]), (64000002, .var [.i .i64, .i .i64, .srf 64000013, .srf 64000014, .srf 64000015, .srf 64000016, .srf 64000017, .srf 64000018, .srf 64000019, .b, .srf 64000020, .i .i64, .i .i64, .srf 64000021]), (64000003, .var [.b, .srf 64000022, .i .i64, .i .i64]), (64000004, .arr (.sl tyN)), (64000005, .arr tyQ), (64000006, .arr tyI), (64000007, .arr .bool), (64000008, .arr tyS), (64000009, .arr tyR), (64000010, .arr tyT), (64000011, .arr tyI), (64000012, .arr tyI), (64000013, .arr (.sl tyN)), (64000014, .arr tyQ), (64000015, .arr tyI), (64000016, .arr .bool), (64000017, .arr tyS), (64000018, .arr tyR), (64000019, .arr tyT), (64000020, .arr tyI), (64000021, .arr tyI), (64000022, .arr tyI)]
def f102_A : Nat → Option LoopAnn := fun n => annOf [(0, ⟨⟨[.dead, .vptr 64000000 0, .vptr 64000001 0, .vptr 64000002 0, .i .i64] ++ dd 178, f102_s3⟩, ⟨[.dead, .vptr 64000000 0, .vptr 64000001 0, .vptr 64000002 0] ++ dd 179, f102_s3⟩, none, false⟩), (2, ⟨⟨[.dead, .vptr 64000000 0, .vptr 64000001 0, .vptr 64000002 0, .i .i64, .vptr 64000003 0, .i .i64] ++ dd 176, [(64000000, .var [.i .i64, .i .i64, .ro (.sl tyN) (some 0), .ro tyP (some 1), .ro tyO (some 2), .ro tyF (some 3), .ro tyF (some 4), .ro tyI (some 5), .ro tyI (some 6)]), (64000001, .var [.i .i64, .i .i64, .srf 64000004, .srf 64000005, .srf 64000006, .srf 64000007, .srf 64000008, .srf 64000009, .srf 64000010, .b, .srf 64000011, .i .i64, .i .i64, .srf 64000012]), (64000002, .var [.i .i64, .i .i64, .srf 64000013, .srf 64000014, .srf 64000015, .srf 64000016, .srf 64000017, .srf 64000018, .srf 64000019, .b, .srf 64000020, .i .i64, .i .i64, .srf 64000021]), (64000003, .var [.i .i64, .i .i64, .i .i64, .i .i64, .i .i64, .deadc, .srf 64000022, .deadc, .i .i64, .i .i64]), (64000004, .arr (.sl tyN)), (64000005, .arr tyQ), (64000006, .arr tyI), (64000007, .arr .bool), (64000008, .arr tyS), (64000009, .arr tyR), (64000010, .arr tyT), (64000011, .arr tyI), (64000012, .arr tyI), (64000013, .arr (.sl tyN)), (64000014, .arr tyQ), (64000015, .arr tyI), (64000016, .arr .bool), (64000017, .arr tyS), (64000018, .arr tyR), (64000019, .arr tyT), (64000020, .arr tyI), (64000021, .arr tyI), (64000022, .arr tyI)]⟩, ⟨[.dead, .vptr 64000000 0, .vptr 64000001 0, .vptr 64000002 0, .i .i64] ++ dd 178, f102_s3⟩, none, false⟩), (4, ⟨⟨[.dead, .vptr 64000000 0, .vptr 64000001 0, .vptr 64000002 0, .dead, .dead, .dead, .i .i64] ++ dd 175, f102_s3⟩, ⟨[.dead, .vptr 64000000 0, .vptr 64000001 0, .vptr 64000002 0] ++ dd 179, f102_s3⟩, none, false⟩), (6, ⟨⟨[.dead, .vptr 64000000 0, .vptr 64000001 0, .vptr 64000002 0] ++ dd 5 ++ [.i .i64] ++ dd 173, f102_s3⟩, ⟨[.dead, .vptr 64000000 0, .vptr 64000001 0, .vptr 64000002 0] ++ dd 179, f102_s3⟩, none, false⟩), (8, ⟨⟨[.dead, .vptr 64000000 0, .vptr 64000001 0, .vptr 64000002 0] ++ dd 5 ++ [.i .i64, .vptr 64000003 0, .i .i64] ++ dd 171, f102_s4⟩, ⟨[.dead, .vptr 64000000 0, .vptr 64000001 0, .vptr 64000002 0] ++ dd 5 ++ [.i .i64, .vptr 64000003 0] ++ dd 172, f102_s4⟩, none, false⟩), (10, ⟨⟨[.dead, .vptr 64000000 0, .vptr 64000001 0, .vptr 64000002 0] ++ dd 8 ++ [.i .i64] ++ dd 170, f102_s3⟩, ⟨[.dead, .vptr 64000000 0, .vptr 64000001 0, .vptr 64000002 0] ++ dd 179, f102_s3⟩, none, false⟩), (12, ⟨⟨[.dead, .vptr 64000000 0, .vptr 64000001 0, .vptr 64000002 0] ++ dd 9 ++ [.i .i64] ++ dd 169, f102_s3⟩, ⟨[.dead, .dead, .vptr 64000000 0, .vptr 64000001 0] ++ dd 179, f201_s2⟩, none, false⟩)] n
def k102_V := fun a0 a1 a2 a3 a4 a5 a6 a7 a8 => (f102_tree a0 a1 a2 a3 a4 a5 a6 a7 a8).eval
def k102 : Con := { f := 102, lend := true, its := [⟨false, true, [.i .i64, .i .i64, .ro (.sl tyN), .ro tyP, .ro tyO, .ro tyF, .ro tyF, .ro tyI, .ro tyI]⟩], lay := [none], rs := [⟨false, true, [.i .i64, .i .i64, .own (.sl tyN), .own tyQ, .own tyI, .own .bool, .own tyS, .own tyR, .own tyT, .b, .own tyI, .i .i64, .i .i64, .own tyI]⟩], F := fun x => .get (k102_V x.1.1 x.1.2.1 x.1.2.2.1 x.1.2.2.2.1 x.1.2.2.2.2.1 x.1.2.2.2.2.2.1 x.1.2.2.2.2.2.2.1 x.1.2.2.2.2.2.2.2.1 x.1.2.2.2.2.2.2.2.2.1) fun y => .ret y }
theorem f102_eq (x : itemsD k102.its) : bo [k201, k202, k203, k32, k204] f102_A Tryz.f102 k102 [.cell 2 43] x = f102_tree x.1.1 x.1.2.1 x.1.2.2.1 x.1.2.2.2.1 x.1.2.2.2.2.1 x.1.2.2.2.2.2.1 x.1.2.2.2.2.2.2.1 x.1.2.2.2.2.2.2.2.1 x.1.2.2.2.2.2.2.2.2.1 := by kernel_rfl
theorem k102_ok : k102.Ok Tryz.prog := con_fn [k201, k202, k203, k32, k204] ⟨k201_ok, k202_ok, k203_ok, k32_ok, k204_ok, trivial⟩ f102_eq fun _ _ _ hy => (eval_get_ret _).symm.trans hy
def f314_tree (a0 : Int) : Out (((Int × Unit) × Unit) × (Unit × Unit)) :=
 .ite (decide ((IntKind.u64.wrap a0) < 0))
 .fail
 (.ret ((((IntKind.i64.wrap ((1 : Int) * 2 ^ (min (Int.toNat (IntKind.u64.wrap a0)) (IntKind.bits IntKind.i64)))), ()), ()), ((), ())))
def k314_V := fun a0 => (f314_tree a0).eval
def k314 : Con := { f := 314, lend := true, its := [⟨false, false, [.i .i64]⟩], lay := [none], rs := [⟨false, false, [.i .i64]⟩], F := fun x => .get (k314_V x.1.1) fun y => .ret y }
theorem f314_eq (x : itemsD k314.its) : bo [] (fun _ => none) Tryz.f314 k314 [.tmp 2] x = f314_tree x.1.1 := by kernel_rfl
theorem k314_ok : k314.Ok Tryz.prog := con_fn [] trivial f314_eq fun _ _ _ hy => (eval_get_ret _).symm.trans hy
abbrev f294_S4 := (Int × Int × Int × Int × Int × Int × Bool × Int × Int × Int × Bool × Int × Bool × Bool × Bool × Unit) × ((List (List Int) × Unit) × List (Bool) × Unit)
def f294_L4 : f294_S4 → Out (Round f294_S4 ((Int × Int × Int × Int × Int × Bool × Int × Int × Int × Bool × Int × Bool × Bool × Bool × Unit) × ((List (List Int) × Unit) × List (Bool) × Unit)) ((Bool × Unit) × (Unit)))
| ((p0, p1, p2, p3, p4, p5, p6, p7, p8, p9, p10, p11, p12, p13, p14, _), (p15, _), p16, _) =>
 .ite (decide (p4 < (IntKind.i64.wrap (p3 + p1))))
 (.ite (decide (0 ≤ p4 ∧ p4 < ((List.length p16 : Nat) : Int)))
 (.get (nth p16 (Int.toNat p4)) fun y1 =>
 .ite y1
 (.ret (.ret ((false, ()), ())))
 (.ite (decide (0 ≤ p4 ∧ p4 < ((List.length p16 : Nat) : Int)))
 (.get (nth p16 (Int.toNat p4)) fun y2 =>
 .ret (.again ((p0, p1, p2, p3, (IntKind.i64.wrap (p4 + 1)), p5, p6, p7, p8, p9, p10, p11, p12, p13, p14, ()), ((p15, ()), (List.set p16 (Int.toNat p4) true), ()))))
 .fail))
 .fail)
 (.ret (.out ((p0, p1, p2, p3, p5, p6, p7, p8, p9, p10, p11, p12, p13, p14, ()), ((p15, ()), p16, ()))))
abbrev f294_S2 := (Int × Int × Int × Unit) × ((List (List Int) × Unit) × List (Bool) × Unit)
def f294_L2 : f294_S2 → Out (Round f294_S2 ((Int × Unit) × ((List (List Int) × Unit) × List (Bool) × Unit)) ((Bool × Unit) × (Unit)))
| ((p0, p1, p2, _), (p3, _), p4, _) =>
 .ite (decide (0 ≤ p0))
 (.get (nth p3 (Int.toNat p0)) fun y1 =>
 .ite (decide (p2 < ((List.length y1 : Nat) : Int)))
 (.ite (decide (0 ≤ p0))
 (.get (nth p3 (Int.toNat p0)) fun y2 =>
 .ite (decide (0 ≤ p2))
 (.get (nth y2 (Int.toNat p2)) fun y3 =>
 .ite ((decide (y3 < 0)) == false)
 (.ite ((decide (y3 ≥ (16 : Int))) == false)
 (.ite (p1 == 0)
 .fail
 (.ite ((((Int.tmod y3 p1) != 0)) == false)
 (.ite ((decide (p2 > 0)) == true)
 (.ite (decide (0 ≤ p0))
 (.get (nth p3 (Int.toNat p0)) fun y4 =>
 .ite (decide (0 ≤ (IntKind.i64.wrap (p2 - (1 : Int)))))
 (.get (nth y4 (Int.toNat (IntKind.i64.wrap (p2 - (1 : Int))))) fun y5 =>
 .ite (decide (y5 ≥ y3))
 (.ret (.ret ((false, ()), ())))
 (.get (iter f294_L4 FUEL ((p0, p1, p2, y3, y3, y3, (decide (y3 ≥ (16 : Int))), y3, p1, (Int.tmod y3 p1), (((Int.tmod y3 p1) != 0)), p2, (decide (p2 > 0)), true, (decide (y5 ≥ y3)), ()), ((p3, ()), p4, ()))) fun y6 => .alt y6 (fun y7 =>
 .ite ((decide (y7.1.1 < 4)) == true)
 (.ite ((IntKind.i64.wrap ((2 : Int) * y7.1.2.1)) == 0)
 .fail
 (.ite ((((Int.tmod y7.1.2.2.2.1 (IntKind.i64.wrap ((2 : Int) * y7.1.2.1))) == 0)) == true)
 (.ite (decide (0 ≤ y7.1.1))
 (.get (nth y7.2.1.1 (Int.toNat y7.1.1)) fun y9 =>
 .ite (hasV y9 (IntKind.i64.wrap (y7.1.2.2.2.1 + y7.1.2.1)))
 (.ret (.ret ((false, ()), ())))
 (.ret (.again ((y7.1.1, y7.1.2.1, (IntKind.i64.wrap (y7.1.2.2.1 + 1)), ()), ((y7.2.1.1, ()), y7.2.2.1, ())))))
 .fail)
 (.ret (.again ((y7.1.1, y7.1.2.1, (IntKind.i64.wrap (y7.1.2.2.1 + 1)), ()), ((y7.2.1.1, ()), y7.2.2.1, ()))))))
 (.ret (.again ((y7.1.1, y7.1.2.1, (IntKind.i64.wrap (y7.1.2.2.1 + 1)), ()), ((y7.2.1.1, ()), y7.2.2.1, ()))))) (fun y8 =>
 .ret (.ret ((y8.1.1, ()), ())))))
 .fail)
 .fail)
 (.get (iter f294_L4 FUEL ((p0, p1, p2, y3, y3, y3, (decide (y3 ≥ (16 : Int))), y3, p1, (Int.tmod y3 p1), (((Int.tmod y3 p1) != 0)), p2, (decide (p2 > 0)), false, false, ()), ((p3, ()), p4, ()))) fun y10 => .alt y10 (fun y11 =>
 .ite ((decide (y11.1.1 < 4)) == true)
 (.ite ((IntKind.i64.wrap ((2 : Int) * y11.1.2.1)) == 0)
 .fail
 (.ite ((((Int.tmod y11.1.2.2.2.1 (IntKind.i64.wrap ((2 : Int) * y11.1.2.1))) == 0)) == true)
 (.ite (decide (0 ≤ y11.1.1))
 (.get (nth y11.2.1.1 (Int.toNat y11.1.1)) fun y13 =>
 .ite (hasV y13 (IntKind.i64.wrap (y11.1.2.2.2.1 + y11.1.2.1)))
 (.ret (.ret ((false, ()), ())))
 (.ret (.again ((y11.1.1, y11.1.2.1, (IntKind.i64.wrap (y11.1.2.2.1 + 1)), ()), ((y11.2.1.1, ()), y11.2.2.1, ())))))
 .fail)
 (.ret (.again ((y11.1.1, y11.1.2.1, (IntKind.i64.wrap (y11.1.2.2.1 + 1)), ()), ((y11.2.1.1, ()), y11.2.2.1, ()))))))
 (.ret (.again ((y11.1.1, y11.1.2.1, (IntKind.i64.wrap (y11.1.2.2.1 + 1)), ()), ((y11.2.1.1, ()), y11.2.2.1, ()))))) (fun y12 =>
 .ret (.ret ((y12.1.1, ()), ())))))
 (.ret (.ret ((false, ()), ())))))
 (.ret (.ret ((false, ()), ()))))
 (.ret (.ret ((false, ()), ()))))
 .fail)
 .fail)
 (.ret (.out ((p0, ()), ((p3, ()), p4, ())))))
 .fail
abbrev f294_S0 := (Int × Unit) × ((List (List Int) × Unit) × List (Bool) × Unit)
def f294_L0 : f294_S0 → Out (Round f294_S0 ((Unit) × (Unit)) ((Bool × Unit) × (Unit)))
| ((p0, _), (p1, _), p2, _) =>
 .ite (decide (p0 < 5))
 (.get (k314_V p0) fun y1 =>
 .get (iter f294_L2 FUEL ((p0, y1.1.1.1, 0, ()), ((p1, ()), p2, ()))) fun y2 => .alt y2 (fun y3 =>
 .ret (.again (((IntKind.i64.wrap (y3.1.1 + 1)), ()), ((y3.2.1.1, ()), y3.2.2.1, ())))) (fun y4 =>
 .ret (.ret ((y4.1.1, ()), ()))))
 (.ret (.out ((), ())))
def f294_tree (a0 : List (List Int)) : Out (((Bool × Unit) × Unit) × (Unit × Unit)) :=
 .ite ((((List.length a0 : Nat) : Int) != 5))
 (.ret (((false, ()), ()), ((), ())))
 (.ite (decide (0 ≤ (16 : Int) ∧ (16 : Int) ≤ (16 : Int) ∧ (16 : Int) ≤ (LIM : Int)))
 (.get (iter f294_L0 FUEL ((0, ()), ((a0, ()), (List.replicate (Int.toNat (16 : Int)) false), ()))) fun y1 => .alt y1 (fun y2 =>
 .ret (((true, ()), ()), ((), ()))) (fun y3 =>
 .ret (((y3.1.1, ()), ()), ((), ()))))
 .fail)
abbrev f294_s5 : List (Nat × VSlot) := [(64000000, .var [.ro (.sl tyI) (some 0)]), (64000001, .arr .bool)]
def f294_A : Nat → Option LoopAnn := fun n => annOf [(0, ⟨⟨[.dead, .vptr 64000000 0, .dead, .srf 64000001, .i .i64] ++ dd 97, f294_s5⟩, ⟨dd 102, []⟩, some ⟨[.dead, .dead, .b] ++ dd 99, []⟩, false⟩), (2, ⟨⟨[.dead, .vptr 64000000 0, .dead, .srf 64000001, .i .i64, .i .i64, .i .i64] ++ dd 95, f294_s5⟩, ⟨[.dead, .vptr 64000000 0, .dead, .srf 64000001, .i .i64] ++ dd 97, f294_s5⟩, some ⟨[.dead, .dead, .b] ++ dd 99, []⟩, false⟩), (4, ⟨⟨[.dead, .vptr 64000000 0, .dead, .srf 64000001, .i .i64, .i .i64, .i .i64, .i .i64, .i .i64] ++ dd 32 ++ [.i .i64, .b, .dead, .dead, .i .i64, .i .i64, .i .i64, .b, .dead, .dead, .i .i64, .b, .b] ++ dd 11 ++ [.b] ++ dd 36, f294_s5⟩, ⟨[.dead, .vptr 64000000 0, .dead, .srf 64000001, .i .i64, .i .i64, .i .i64, .i .i64] ++ dd 33 ++ [.i .i64, .b, .dead, .dead, .i .i64, .i .i64, .i .i64, .b, .dead, .dead, .i .i64, .b, .b] ++ dd 11 ++ [.b] ++ dd 36, f294_s5⟩, some ⟨[.dead, .dead, .b] ++ dd 99, []⟩, false⟩)] n
def k294_V := fun a0 => (f294_tree a0).eval
def k294 : Con := { f := 294, lend := true, its := [⟨false, true, [.ro (.sl tyI)]⟩], lay := [none], rs := [⟨false, false, [.b]⟩], F := fun x => .get (k294_V x.1.1) fun y => .ret y }
theorem f294_eq (x : itemsD k294.its) : bo [k314, k75] f294_A Tryz.f294 k294 [.tmp 2] x = f294_tree x.1.1 := by kernel_rfl
theorem k294_ok : k294.Ok Tryz.prog := con_fn [k314, k75] ⟨k314_ok, k75_ok, trivial⟩ f294_eq fun _ _ _ hy => (eval_get_ret _).symm.trans hy
def f206_tree  : Out (((List (List Int) × Unit) × Unit) × (Unit)) :=
 .ret (((([([] : List Int), ([] : List Int), ([] : List Int), ([] : List Int), ([(0 : Int)] : List Int)] : List (List Int)), ()), ()), ())
def k206_V := (f206_tree ).eval
def k206 : Con := { f := 206, lend := true, its := [], lay := [], rs := [⟨false, true, [.own (.sl tyI)]⟩], F := fun x => .get (k206_V) fun y => .ret y }
theorem f206_eq (x : itemsD k206.its) : bo [] (fun _ => none) Tryz.f206 k206 [.cell 0 47] x = f206_tree  := by kernel_rfl
theorem k206_ok : k206.Ok Tryz.prog := con_fn [] trivial f206_eq fun _ _ _ hy => (eval_get_ret _).symm.trans hy
abbrev f296_S0 := (Int × Unit) × ((List (List Int) × Unit) × XQ)
def f296_L0 : f296_S0 → Out (Round f296_S0 ((Unit) × XQ) Empty)
| ((p0, _), (p1, _), _, _, p2, p3, _) =>
 .ite (decide (p0 < ((List.length p1 : Nat) : Int)))
 (.ite (decide (0 ≤ p0))
 (.get (nth p1 (Int.toNat p0)) fun y1 =>
 .ite (decide (List.length ([] : List Int) + List.length y1 ≤ LIM))
 (.ite (decide (List.length p3 + List.length ([(([] : List Int) ++ y1)] : List (List Int)) ≤ LIM))
 (.ret (.again (((IntKind.i64.wrap (p0 + 1)), ()), ((p1, ()), (), (), p2, (p3 ++ ([(([] : List Int) ++ y1)] : List (List Int))), ()))))
 .fail)
 .fail)
 .fail)
 (.ret (.out ((), ((), (), p2, p3, ()))))
def f296_tree (a0 : List (List Int)) : Out (((List (List Int) × Unit) × Unit) × (Unit × Unit)) :=
 .get (iter1 f296_L0 FUEL ((0, ()), ((a0, ()), (), (), ([] : List (List Int)), ([] : List (List Int)), ()))) fun y1 =>
 .ret (((y1.2.2.2.2.1, ()), ()), ((), ()))
abbrev f296_s6 : List (Nat × VSlot) := [(64000000, .var [.srf 64000002]), (64000001, .var [.srf 64000003]), (64000002, .arr (.sl tyI)), (64000003, .arr (.sl tyI))]
def f296_A : Nat → Option LoopAnn := fun n => annOf [(0, ⟨⟨[.dead, .vptr 64000000 0, .vptr 64000001 0, .vptr 64000002 0, .i .i64] ++ dd 21, [(64000000, .var [.ro (.sl tyI) (some 0)]), (64000001, .var [.srf 64000003]), (64000002, .var [.srf 64000004]), (64000003, .arr (.sl tyI)), (64000004, .arr (.sl tyI))]⟩, ⟨[.dead, .dead, .vptr 64000000 0, .vptr 64000001 0] ++ dd 22, f296_s6⟩, none, false⟩)] n
def k296_V := fun a0 => (f296_tree a0).eval
def k296 : Con := { f := 296, lend := true, its := [⟨false, true, [.ro (.sl tyI)]⟩], lay := [none], rs := [⟨false, true, [.own (.sl tyI)]⟩], F := fun x => .get (k296_V x.1.1) fun y => .ret y }
theorem f296_eq (x : itemsD k296.its) : bo [] f296_A Tryz.f296 k296 [.cell 2 47] x = f296_tree x.1.1 := by kernel_rfl
theorem k296_ok : k296.Ok Tryz.prog := con_fn [] trivial f296_eq fun _ _ _ hy => (eval_get_ret _).symm.trans hy
abbrev f315_S0 := (List Int × Int × Bool × Int × Unit) × (List Int × Unit)
def f315_L0 : f315_S0 → Out (Round f315_S0 ((Int × Bool × Unit) × (List Int × Unit)) Empty)
| ((p0, p1, p2, p3, _), p4, _) =>
 .ite (decide (p3 < ((List.length p0 : Nat) : Int)))
 (.ite ((!p2) == true)
 (.ite (decide (0 ≤ p3))
 (.get (nth p0 (Int.toNat p3)) fun y1 =>
 .ite (decide (p1 < y1))
 (.ite (decide (List.length p4 + List.length ([p1] : List Int) ≤ LIM))
 (.ite (decide (0 ≤ p3))
 (.get (nth p0 (Int.toNat p3)) fun y2 =>
 .ite (decide (List.length (p4 ++ ([p1] : List Int)) + List.length ([y2] : List Int) ≤ LIM))
 (.ret (.again ((p0, p1, true, (IntKind.i64.wrap (p3 + 1)), ()), (((p4 ++ ([p1] : List Int)) ++ ([y2] : List Int)), ()))))
 .fail)
 .fail)
 .fail)
 (.ite (decide (0 ≤ p3))
 (.get (nth p0 (Int.toNat p3)) fun y3 =>
 .ite (decide (List.length p4 + List.length ([y3] : List Int) ≤ LIM))
 (.ret (.again ((p0, p1, p2, (IntKind.i64.wrap (p3 + 1)), ()), ((p4 ++ ([y3] : List Int)), ()))))
 .fail)
 .fail))
 .fail)
 (.ite (decide (0 ≤ p3))
 (.get (nth p0 (Int.toNat p3)) fun y4 =>
 .ite (decide (List.length p4 + List.length ([y4] : List Int) ≤ LIM))
 (.ret (.again ((p0, p1, p2, (IntKind.i64.wrap (p3 + 1)), ()), ((p4 ++ ([y4] : List Int)), ()))))
 .fail)
 .fail))
 (.ret (.out ((p1, p2, ()), (p4, ()))))
def f315_tree (a0 : List Int) (a1 : Int) : Out (((List Int × Unit) × Unit) × XI) :=
 .get (iter1 f315_L0 FUEL ((a0, a1, false, 0, ()), (([] : List Int), ()))) fun y1 =>
 .ite (!y1.1.2.1)
 (.ite (decide (List.length y1.2.1 + List.length ([y1.1.1] : List Int) ≤ LIM))
 (.ret ((((y1.2.1 ++ ([y1.1.1] : List Int)), ()), ()), ((), (), ())))
 .fail)
 (.ret (((y1.2.1, ()), ()), ((), (), ())))
abbrev f315_s7 : List (Nat × VSlot) := [(64000000, .arr tyI)]
def f315_A : Nat → Option LoopAnn := fun n => annOf [(0, ⟨⟨[.ro tyI (some 0), .i .i64, .dead, .dead, .dead, .srf 64000000, .b, .i .i64] ++ dd 35, f315_s7⟩, ⟨[.dead, .i .i64, .dead, .dead, .dead, .srf 64000000, .b] ++ dd 36, f315_s7⟩, none, false⟩)] n
def k315_V := fun a0 a1 => (f315_tree a0 a1).eval
def k315 : Con := { f := 315, lend := true, its := [⟨false, false, [.ro tyI]⟩, ⟨false, false, [.i .i64]⟩], lay := [none, none], rs := [⟨false, false, [.own tyI]⟩], F := fun x => .get (k315_V x.1.1 x.2.1.1) fun y => .ret y }
theorem f315_eq (x : itemsD k315.its) : bo [] f315_A Tryz.f315 k315 [.tmp 4] x = f315_tree x.1.1 x.2.1.1 := by kernel_rfl
theorem k315_ok : k315.Ok Tryz.prog := con_fn [] trivial f315_eq fun _ _ _ hy => (eval_get_ret _).symm.trans hy
abbrev f295_S0 := (Int × Unit) × XQ
def f295_L0 : f295_S0 → Out (Round f295_S0 ((Int × Unit) × XQ) Empty)
| ((p0, _), _, _, p1, p2, _) =>
 .ite ((decide (p0 < 5)) == true)
 (.ite (decide (0 ≤ p0 ∧ p0 < ((List.length p1 : Nat) : Int)))
 (.get (nth p1 (Int.toNat p0)) fun y1 =>
 .ite ((((List.length y1 : Nat) : Int) == 0))
 (.ret (.again (((IntKind.i64.wrap (p0 + 1)), ()), ((), (), (List.set p1 (Int.toNat p0) y1), p2, ()))))
 (.ret (.out ((p0, ()), ((), (), (List.set p1 (Int.toNat p0) y1), p2, ())))))
 .fail)
 (.ret (.out ((p0, ()), ((), (), p1, p2, ()))))
abbrev f295_S2 := (Int × Int × Unit) × XQ
def f295_L2 : f295_S2 → Out (Round f295_S2 ((Int × Unit) × XQ) Empty)
| ((p0, p1, _), _, _, p2, p3, _) =>
 .ite (decide (p0 > 0))
 (.ite (decide (0 ≤ (IntKind.i64.wrap (p0 - (1 : Int))) ∧ (IntKind.i64.wrap (p0 - (1 : Int))) < ((List.length p2 : Nat) : Int)))
 (.get (nth p2 (Int.toNat (IntKind.i64.wrap (p0 - (1 : Int))))) fun y1 =>
 .get (k314_V (IntKind.i64.wrap (p0 - (1 : Int)))) fun y2 =>
 .get (k315_V y1 (IntKind.i64.wrap (p1 + y2.1.1.1))) fun y3 =>
 .ite (decide (0 ≤ (IntKind.i64.wrap (p0 - (1 : Int))) ∧ (IntKind.i64.wrap (p0 - (1 : Int))) < ((List.length p2 : Nat) : Int)))
 (.get (nth (List.set p2 (Int.toNat (IntKind.i64.wrap (p0 - (1 : Int)))) y1) (Int.toNat (IntKind.i64.wrap (p0 - (1 : Int))))) fun y4 =>
 .ret (.again (((IntKind.i64.wrap (p0 - (1 : Int))), p1, ()), ((), (), (List.set (List.set p2 (Int.toNat (IntKind.i64.wrap (p0 - (1 : Int)))) y1) (Int.toNat (IntKind.i64.wrap (p0 - (1 : Int)))) y3.1.1.1), p3, ()))))
 .fail)
 .fail)
 (.ret (.out ((p1, ()), ((), (), p2, p3, ()))))
def f295_tree (a0 : List (List Int)) : Out (((List (List Int) × Unit) × (Int × Unit) × Unit) × (Unit × Unit)) :=
 .get (iter1 f295_L0 FUEL ((0, ()), ((), (), a0, ([] : List (List Int)), ()))) fun ((y1aa, _), _, _, y1ab, y1ac, _) =>
 .ite ((y1aa == 5))
 (.ret (((y1ab, ()), (-1, ()), ()), ((), ())))
 (.ite (decide (0 ≤ y1aa ∧ y1aa < ((List.length y1ab : Nat) : Int)))
 (.get (nth y1ab (Int.toNat y1aa)) fun y2 =>
 .ite (decide (0 ≤ (0 : Int) ∧ (0 : Int) < ((List.length y2 : Nat) : Int)))
 (.get (nth y2 (Int.toNat (0 : Int))) fun y3 =>
 .ite (decide (0 ≤ y1aa ∧ y1aa < ((List.length y1ab : Nat) : Int)))
 (.get (nth (List.set y1ab (Int.toNat y1aa) y2) (Int.toNat y1aa)) fun y4 =>
 .ite (decide (0 ≤ (1 : Int) ∧ (1 : Int) ≤ ((List.length y4 : Nat) : Int) ∧ ((List.length y4 : Nat) : Int) ≤ ((List.length y4 : Nat) : Int)))
 (.ite (decide (List.length ([] : List Int) + List.length (List.take (Int.toNat ((List.length y4 : Nat) : Int) - Int.toNat (1 : Int)) (List.drop (0 + Int.toNat (1 : Int)) y4)) ≤ LIM))
 (.ite (decide (0 ≤ y1aa ∧ y1aa < ((List.length (List.set y1ab (Int.toNat y1aa) y2) : Nat) : Int)))
 (.get (nth (List.set (List.set y1ab (Int.toNat y1aa) y2) (Int.toNat y1aa) y4) (Int.toNat y1aa)) fun y5 =>
 .get (iter1 f295_L2 FUEL ((y1aa, y3, ()), ((), (), (List.set (List.set (List.set y1ab (Int.toNat y1aa) y2) (Int.toNat y1aa) y4) (Int.toNat y1aa) (([] : List Int) ++ (List.take (Int.toNat ((List.length y4 : Nat) : Int) - Int.toNat (1 : Int)) (List.drop (0 + Int.toNat (1 : Int)) y4)))), y1ac, ()))) fun y6 =>
 .ret (((y6.2.2.2.1, ()), (y6.1.1, ()), ()), ((), ())))
 .fail)
 .fail)
 .fail)
 .fail)
 .fail)
 .fail)
def f295_A : Nat → Option LoopAnn := fun n => annOf [(0, ⟨⟨[.dead, .vptr 64000000 0, .vptr 64000001 0, .dead, .i .i64] ++ dd 56, f296_s6⟩, ⟨[.dead, .vptr 64000000 0, .vptr 64000001 0, .dead, .i .i64] ++ dd 56, f296_s6⟩, none, false⟩), (2, ⟨⟨[.dead, .vptr 64000000 0, .vptr 64000001 0, .dead, .i .i64, .i .i64] ++ dd 55, f296_s6⟩, ⟨[.dead, .vptr 64000000 0, .vptr 64000001 0, .dead, .dead, .i .i64] ++ dd 55, f296_s6⟩, none, false⟩)] n
def k295_V := fun a0 => (f295_tree a0).eval
def k295 : Con := { f := 295, lend := true, its := [⟨false, true, [.own (.sl tyI)]⟩], lay := [none], rs := [⟨false, true, [.own (.sl tyI)]⟩, ⟨false, false, [.i .i64]⟩], F := fun x => .get (k295_V x.1.1) fun y => .ret y }
theorem f295_eq (x : itemsD k295.its) : bo [k314, k315] f295_A Tryz.f295 k295 [.cell 2 47, .tmp 3] x = f295_tree x.1.1 := by kernel_rfl
theorem k295_ok : k295.Ok Tryz.prog := con_fn [k314, k315] ⟨k314_ok, k315_ok, trivial⟩ f295_eq fun _ _ _ hy => (eval_get_ret _).symm.trans hy
def f262_tree (a0 : List (List Int)) : Out (((List (List Int) × Unit) × (Int × Unit) × Unit) × (Unit × Unit)) :=
 .get (k294_V a0) fun y1 =>
 .ite (!y1.1.1.1)
 (.ret (((([] : List (List Int)), ()), (-1, ()), ()), ((), ())))
 (.get (k296_V a0) fun y2 =>
 .get (k295_V y2.1.1.1) fun y3 =>
 .ret (((y3.1.1.1, ()), (y3.1.2.1.1, ()), ()), ((), ())))
def k262_V := fun a0 => (f262_tree a0).eval
def k262 : Con := { f := 262, lend := true, its := [⟨false, true, [.ro (.sl tyI)]⟩], lay := [none], rs := [⟨false, true, [.own (.sl tyI)]⟩, ⟨false, false, [.i .i64]⟩], F := fun x => .get (k262_V x.1.1) fun y => .ret y }
theorem f262_eq (x : itemsD k262.its) : bo [k294, k296, k295] (fun _ => none) Tryz.f262 k262 [.cell 2 47, .tmp 3] x = f262_tree x.1.1 := by kernel_rfl
theorem k262_ok : k262.Ok Tryz.prog := con_fn [k294, k296, k295] ⟨k294_ok, k296_ok, k295_ok, trivial⟩ f262_eq fun _ _ _ hy => (eval_get_ret _).symm.trans hy
def f208_tree (a0 : List (List Int)) (a1 : Int) : Out (((List (List Int) × Unit) × Unit) × XI) :=
 .ite (decide (List.length ([] : List (List Int)) + List.length a0 ≤ LIM))
 (.ite ((decide (((List.length a0 : Nat) : Int) > 0)) == true)
 .fail
 (.ite (decide (List.length (([] : List (List Int)) ++ a0) + List.length ([([a1] : List Int)] : List (List Int)) ≤ LIM))
 (.ret (((((([] : List (List Int)) ++ a0) ++ ([([a1] : List Int)] : List (List Int))), ()), ()), ((), (), ())))
 .fail))
 .fail
def k208_V := fun a0 a1 => (f208_tree a0 a1).eval
def k208 : Con := { f := 208, lend := true, its := [⟨false, false, [.own (.sl tyI)]⟩, ⟨false, false, [.i .i64]⟩], lay := [none, none], rs := [⟨false, false, [.own (.sl tyI)]⟩], F := fun x => .get (k208_V x.1.1 x.2.1.1) fun y => .ret y }
theorem f208_eq (x : itemsD k208.its) : bo [] (fun _ => none) Tryz.f208 k208 [.tmp 4] x = f208_tree x.1.1 x.2.1.1 := by kernel_rfl
theorem k208_ok : k208.Ok Tryz.prog := con_fn [] trivial f208_eq fun _ _ _ hy => (eval_get_ret _).symm.trans hy
abbrev f207_S0 := XE × XC
def f207_L0 : f207_S0 → Out (Round f207_S0 ((Unit) × XC) Empty)
| ((p0, p1, p2, _), (p3, p4, _), (p5, p6, _), p7, p8, p9, p10, p11, p12, p13, p14, p15, p16, p17, p18, p19, p20, p21, p22, p23, p24, _) =>
 .ite (decide (p2 < 4))
 (.ite (decide (0 ≤ p2))
 (.get (nth p0 (Int.toNat p2)) fun y1 =>
 .ite (decide (0 ≤ (IntKind.i64.wrap ((IntKind.i64.wrap (p1 * (4 : Int))) + p2)) ∧ (IntKind.i64.wrap ((IntKind.i64.wrap (p1 * (4 : Int))) + p2)) < ((List.length p9 : Nat) : Int)))
 (.get (nth p9 (Int.toNat (IntKind.i64.wrap ((IntKind.i64.wrap (p1 * (4 : Int))) + p2)))) fun y2 =>
 .ret (.again ((p0, p1, (IntKind.i64.wrap (p2 + 1)), ()), ((p3, p4, ()), (p5, p6, ()), p7, p8, (List.set p9 (Int.toNat (IntKind.i64.wrap ((IntKind.i64.wrap (p1 * (4 : Int))) + p2))) y1), p10, p11, p12, p13, p14, p15, p16, p17, p18, p19, p20, p21, p22, p23, p24, ()))))
 .fail)
 .fail)
 (.ret (.out ((), ((p3, p4, ()), (p5, p6, ()), p7, p8, p9, p10, p11, p12, p13, p14, p15, p16, p17, p18, p19, p20, p21, p22, p23, p24, ()))))
def f207_tree (a0 : Int) (a1 : Int) (a2 : List (List InsD)) (a3 : List ProcD) (a4 : List Int) (a5 : List (List Int)) (a6 : List OpenD) (a7 : List XH) (a8 : List CpuD) (a9 : List Int) (a10 : List Int) (a11 : Int) (a12 : List Int) : Out (((Int × Int × XJ) × (Bool × Unit) × Unit) × (Unit × XI)) :=
 .get (k262_V a5) fun y1 =>
 .ite (decide (y1.1.2.1.1 < 0))
 (.ret (((a0, a1, a2, a3, a4, a5, a6, a7, a8, a9, a10, ()), (false, ()), ()), ((), (), (), ())))
 (.ite (decide (0 ≤ a11 ∧ a11 < ((List.length a3 : Nat) : Int)))
 (.get (nth a3 (Int.toNat a11)) fun (y2aa, y2ab, y2ac, y2ad, y2ae, y2af, y2ag) =>
 .ite (decide (List.length ([y1.1.2.1.1] : List Int) + List.length y2af ≤ LIM))
 (.ite (decide (0 ≤ a11 ∧ a11 < ((List.length a3 : Nat) : Int)))
 (.get (nth (List.set a3 (Int.toNat a11) (y2aa, (y2ab, (y2ac, (y2ad, (y2ae, (y2af, y2ag))))))) (Int.toNat a11)) fun y3 =>
 .get (iter1 f207_L0 FUEL ((a12, y1.1.2.1.1, 0, ()), ((a0, a1, ()), (0, 0, ()), a2, (List.set (List.set a3 (Int.toNat a11) (y2aa, (y2ab, (y2ac, (y2ad, (y2ae, (y2af, y2ag))))))) (Int.toNat a11) (y3.1, (y3.2.1, (y3.2.2.1, (y3.2.2.2.1, (y3.2.2.2.2.1, ((([y1.1.2.1.1] : List Int) ++ y2af), y3.2.2.2.2.2.2))))))), a4, y1.1.1.1, a6, a7, a8, a9, a10, ([] : List (List InsD)), ([] : List ProcD), ([] : List Int), ([] : List (List Int)), ([] : List OpenD), ([] : List (XH)), ([] : List CpuD), ([] : List Int), ([] : List Int), ()))) fun (_, (y4aa, y4ab, _), _, y4ac, y4ad, y4ae, y4af, y4ag, y4ah, y4ai, y4aj, y4ak, _) =>
 .ret (((y4aa, y4ab, y4ac, y4ad, y4ae, y4af, y4ag, y4ah, y4ai, y4aj, y4ak, ()), (true, ()), ()), ((), (), (), ())))
 .fail)
 .fail)
 .fail)
abbrev f207_s8 : List (Nat × VSlot) := [(64000000, .var [.i .i64, .i .i64, .srf 64000002, .srf 64000003, .srf 64000004, .srf 64000005, .srf 64000006, .srf 64000007, .srf 64000008, .srf 64000009, .srf 64000010]), (64000001, .var [.i .i64, .i .i64, .srf 64000011, .srf 64000012, .srf 64000013, .srf 64000014, .srf 64000015, .srf 64000016, .srf 64000017, .srf 64000018, .srf 64000019]), (64000002, .arr (.sl tyN)), (64000003, .arr tyP), (64000004, .arr tyI), (64000005, .arr (.sl tyI)), (64000006, .arr tyO), (64000007, .arr tyU), (64000008, .arr tyF), (64000009, .arr tyI), (64000010, .arr tyI), (64000011, .arr (.sl tyN)), (64000012, .arr tyP), (64000013, .arr tyI), (64000014, .arr (.sl tyI)), (64000015, .arr tyO), (64000016, .arr tyU), (64000017, .arr tyF), (64000018, .arr tyI), (64000019, .arr tyI)]
def f207_A : Nat → Option LoopAnn := fun n => annOf [(0, ⟨⟨[.dead, .dead, .ro tyI (some 9), .vptr 64000000 0, .dead, .dead, .vptr 64000001 0, .dead, .dead, .i .i64, .i .i64] ++ dd 41, f207_s8⟩, ⟨[.dead, .dead, .dead, .vptr 64000000 0, .dead, .dead, .vptr 64000001 0] ++ dd 45, f207_s8⟩, none, false⟩)] n
def k207_V := fun a0 a1 a2 a3 a4 a5 a6 a7 a8 a9 a10 a11 a12 => (f207_tree a0 a1 a2 a3 a4 a5 a6 a7 a8 a9 a10 a11 a12).eval
def k207 : Con := { f := 207, lend := true, its := [⟨false, true, [.i .i64, .i .i64, .own (.sl tyN), .own tyP, .own tyI, .own (.sl tyI), .own tyO, .own tyU, .own tyF, .own tyI, .own tyI]⟩, ⟨false, false, [.i .i64]⟩, ⟨false, false, [.ro tyI]⟩], lay := [none, none, none], rs := [⟨false, true, [.i .i64, .i .i64, .own (.sl tyN), .own tyP, .own tyI, .own (.sl tyI), .own tyO, .own tyU, .own tyF, .own tyI, .own tyI]⟩, ⟨false, false, [.b]⟩], F := fun x => .get (k207_V x.1.1 x.1.2.1 x.1.2.2.1 x.1.2.2.2.1 x.1.2.2.2.2.1 x.1.2.2.2.2.2.1 x.1.2.2.2.2.2.2.1 x.1.2.2.2.2.2.2.2.1 x.1.2.2.2.2.2.2.2.2.1 x.1.2.2.2.2.2.2.2.2.2.1 x.1.2.2.2.2.2.2.2.2.2.2.1 x.2.1.1 x.2.2.1.1) fun y => .ret y }
theorem f207_eq (x : itemsD k207.its) : bo [k262] f207_A Tryz.f207 k207 [.cell 6 50, .tmp 7] x = f207_tree x.1.1 x.1.2.1 x.1.2.2.1 x.1.2.2.2.1 x.1.2.2.2.2.1 x.1.2.2.2.2.2.1 x.1.2.2.2.2.2.2.1 x.1.2.2.2.2.2.2.2.1 x.1.2.2.2.2.2.2.2.2.1 x.1.2.2.2.2.2.2.2.2.2.1 x.1.2.2.2.2.2.2.2.2.2.2.1 x.2.1.1 x.2.2.1.1 := by kernel_rfl
theorem k207_ok : k207.Ok Tryz.prog := con_fn [k262] ⟨k262_ok, trivial⟩ f207_eq fun _ _ _ hy => (eval_get_ret _).symm.trans hy
abbrev f103_S2 := (Int × Int × Unit) × XT
def f103_L2 : f103_S2 → Out (Round f103_S2 ((Int × Unit) × (UnixD × XC)) Empty)
| ((p0, p1, _), (p2, p3, p4, p5, p6, p7, p8, p9, p10, _), (p11, p12, _), (p13, p14, _), (p15, p16, p17, p18, p19, p20, p21, _), p22, p23, p24, p25, p26, p27, p28, p29, p30, p31, p32, p33, p34, p35, p36, p37, p38, p39, p40, _) =>
 .ite (decide (p1 < ((List.length p40 : Nat) : Int)))
 (.ite (decide (0 ≤ p1 ∧ p1 ≤ (IntKind.i64.wrap (p1 + 4)) ∧ (IntKind.i64.wrap (p1 + 4)) ≤ ((List.length p40 : Nat) : Int)))
 (.get (k207_V p13 p14 p31 p32 p33 p34 p35 p36 p37 p38 p39 (0 : Int) (List.take (Int.toNat (IntKind.i64.wrap (p1 + 4)) - Int.toNat p1) (List.drop (0 + Int.toNat p1) p40))) fun (((y1aa, y1ab, y1ac, y1ad, y1ae, y1af, y1ag, y1ah, y1ai, y1aj, y1ak, _), _), _) =>
 .ret (.again ((p0, (IntKind.i64.wrap (p1 + 4)), ()), ((p2, p3, p4, p5, p6, p7, p8, p9, p10, ()), (p11, p12, ()), (y1aa, y1ab, ()), (p15, p16, p17, p18, p19, p20, p21, ()), p22, p23, p24, p25, p26, p27, p28, p29, p30, y1ac, y1ad, y1ae, y1af, y1ag, y1ah, y1ai, y1aj, y1ak, p40, ()))))
 .fail)
 (.ret (.out ((p0, ()), ((p2, p3, p4, p5, p6, p7, p8, p9, p10, ()), (p11, p12, ()), (p13, p14, ()), p22, p23, p24, p25, p26, p27, p28, p29, p30, p31, p32, p33, p34, p35, p36, p37, p38, p39, ()))))
abbrev f103_S0 := (Int × Unit) × (UnixD × XC)
def f103_L0 : f103_S0 → Out (Round f103_S0 ((Unit) × (UnixD × XC)) Empty)
| ((p0, _), (p1, p2, p3, p4, p5, p6, p7, p8, p9, _), (p10, p11, _), (p12, p13, _), p14, p15, p16, p17, p18, p19, p20, p21, p22, p23, p24, p25, p26, p27, p28, p29, p30, p31, _) =>
 .ite (decide (p0 < ((List.length p4 : Nat) : Int)))
 (.ite (decide (0 ≤ p0))
 (.get (nth p4 (Int.toNat p0)) fun (y1aa, y1ab, y1ac, y1ad, (y1ae, y1af, _), y1ag, y1ah, y1ai, y1aj, _) =>
 .get (copyProcV y1aa y1ab y1ac y1ad y1ae y1af y1ag y1ah y1ai y1aj) fun (y2aa, y2ab, y2ac, y2ad, y2ae, y2af, y2ag, y2ah, y2ai, y2aj) =>
 .ite (decide (List.length ([(y2aa, y2ab, y2ac, y2ad, (y2ae, y2af, ()), ([] : List Int), y2ah, y2ai, y2aj, ())] : List ProcD) + List.length p24 ≤ LIM))
 (.get (iter1 f103_L2 FUEL ((p0, 0, ()), ((p1, p2, p3, p4, p5, p6, p7, p8, p9, ()), (p10, p11, ()), (p12, p13, ()), (y2aa, y2ab, y2ac, y2ad, y2ae, y2ai, y2aj, ()), p14, p15, p16, p17, p18, p19, p20, p21, p22, p23, (([(y2aa, y2ab, y2ac, y2ad, (y2ae, y2af, ()), ([] : List Int), y2ah, y2ai, y2aj, ())] : List ProcD) ++ p24), p25, p26, p27, p28, p29, p30, p31, y2ag, ()))) fun ((y3aa, _), (y3ab, y3ac, y3ad, y3ae, y3af, y3ag, y3ah, y3ai, y3aj, _), (y3ak, y3al, _), (y3am, y3an, _), y3ao, y3ap, y3aq, y3ar, y3as, y3at, y3au, y3av, y3aw, y3ax, y3ay, y3az, y3ba, y3bb, y3bc, y3bd, y3be, y3bf, _) =>
 .ret (.again (((IntKind.i64.wrap (y3aa + 1)), ()), ((y3ab, y3ac, y3ad, y3ae, y3af, y3ag, y3ah, y3ai, y3aj, ()), (y3ak, y3al, ()), (y3am, y3an, ()), y3ao, y3ap, y3aq, y3ar, y3as, y3at, y3au, y3av, y3aw, y3ax, y3ay, y3az, y3ba, y3bb, y3bc, y3bd, y3be, y3bf, ()))))
 .fail)
 .fail)
 (.ret (.out ((), ((p1, p2, p3, p4, p5, p6, p7, p8, p9, ()), (p10, p11, ()), (p12, p13, ()), p14, p15, p16, p17, p18, p19, p20, p21, p22, p23, p24, p25, p26, p27, p28, p29, p30, p31, ()))))
abbrev f103_S4 := (Int × Unit) × (UnixD × XC)
def f103_L4 : f103_S4 → Out (Round f103_S4 ((Unit) × (UnixD × XC)) Empty)
| ((p0, _), (p1, p2, p3, p4, p5, p6, p7, p8, p9, _), (p10, p11, _), (p12, p13, _), p14, p15, p16, p17, p18, p19, p20, p21, p22, p23, p24, p25, p26, p27, p28, p29, p30, p31, _) =>
 .ite (decide (p0 < ((List.length p5 : Nat) : Int)))
 (.ite (decide (0 ≤ p0))
 (.get (nth p5 (Int.toNat p0)) fun y1 =>
 .ite (decide (List.length ([(y1.1, y1.2.1, y1.2.2.1, y1.2.2.2.1, y1.2.2.2.2.1, ())] : List OpenD) + List.length p27 ≤ LIM))
 (.ret (.again (((IntKind.i64.wrap (p0 + 1)), ()), ((p1, p2, p3, p4, p5, p6, p7, p8, p9, ()), (p10, p11, ()), (p12, p13, ()), p14, p15, p16, p17, p18, p19, p20, p21, p22, p23, p24, p25, p26, (([(y1.1, y1.2.1, y1.2.2.1, y1.2.2.2.1, y1.2.2.2.2.1, ())] : List OpenD) ++ p27), p28, p29, p30, p31, ()))))
 .fail)
 .fail)
 (.ret (.out ((), ((p1, p2, p3, p4, p5, p6, p7, p8, p9, ()), (p10, p11, ()), (p12, p13, ()), p14, p15, p16, p17, p18, p19, p20, p21, p22, p23, p24, p25, p26, p27, p28, p29, p30, p31, ()))))
abbrev f103_S8 := (Int × Int × Unit) × XP
def f103_L8 : f103_S8 → Out (Round f103_S8 ((Int × Unit) × XP) Empty)
| ((p0, p1, _), (p2, p3, p4, p5, p6, p7, p8, p9, p10, _), (p11, p12, _), (p13, p14, _), (p15, _), p16, p17, p18, p19, p20, p21, p22, p23, p24, p25, p26, p27, p28, p29, p30, p31, p32, p33, p34, _) =>
 .ite (decide (0 ≤ p0))
 (.get (nth p7 (Int.toNat p0)) fun y1 =>
 .ite (decide (p1 < ((List.length y1.2.1 : Nat) : Int)))
 (.ite (decide (0 ≤ p0))
 (.get (nth p7 (Int.toNat p0)) fun y2 =>
 .ite (decide (0 ≤ p1))
 (.get (nth y2.2.1 (Int.toNat p1)) fun y3 =>
 .get (k208_V p34 y3) fun y4 =>
 .ret (.again ((p0, (IntKind.i64.wrap (p1 + 1)), ()), ((p2, p3, p4, p5, p6, p7, p8, p9, p10, ()), (p11, p12, ()), (p13, p14, ()), (p15, ()), p16, p17, p18, p19, p20, p21, p22, p23, p24, p25, p26, p27, p28, p29, p30, p31, p32, p33, y4.1.1.1, ()))))
 .fail)
 .fail)
 (.ret (.out ((p0, ()), ((p2, p3, p4, p5, p6, p7, p8, p9, p10, ()), (p11, p12, ()), (p13, p14, ()), (p15, ()), p16, p17, p18, p19, p20, p21, p22, p23, p24, p25, p26, p27, p28, p29, p30, p31, p32, p33, p34, ())))))
 .fail
abbrev f103_S6 := (Int × Unit) × (UnixD × XC)
def f103_L6 : f103_S6 → Out (Round f103_S6 ((Unit) × (UnixD × XC)) Empty)
| ((p0, _), (p1, p2, p3, p4, p5, p6, p7, p8, p9, _), (p10, p11, _), (p12, p13, _), p14, p15, p16, p17, p18, p19, p20, p21, p22, p23, p24, p25, p26, p27, p28, p29, p30, p31, _) =>
 .ite (decide (p0 < ((List.length p6 : Nat) : Int)))
 (.ite (decide (0 ≤ p0))
 (.get (nth p6 (Int.toNat p0)) fun y1 =>
 .get (iter1 f103_L8 FUEL ((p0, 0, ()), ((p1, p2, p3, p4, p5, p6, p7, p8, p9, ()), (p10, p11, ()), (p12, p13, ()), (y1.1, ()), p14, p15, p16, p17, p18, p19, p20, p21, p22, p23, p24, p25, p26, p27, p28, p29, p30, p31, ([] : List (List Int)), ()))) fun ((y2aa, _), (y2ab, y2ac, y2ad, y2ae, y2af, y2ag, y2ah, y2ai, y2aj, _), (y2ak, y2al, _), (y2am, y2an, _), (y2ao, _), y2ap, y2aq, y2ar, y2as, y2at, y2au, y2av, y2aw, y2ax, y2ay, y2az, y2ba, y2bb, y2bc, y2bd, y2be, y2bf, y2bg, y2bh, _) =>
 .ite (decide (List.length ([(y2ao, y2bh, ())] : List (XH)) + List.length y2bd ≤ LIM))
 (.ret (.again (((IntKind.i64.wrap (y2aa + 1)), ()), ((y2ab, y2ac, y2ad, y2ae, y2af, y2ag, y2ah, y2ai, y2aj, ()), (y2ak, y2al, ()), (y2am, y2an, ()), y2ap, y2aq, y2ar, y2as, y2at, y2au, y2av, y2aw, y2ax, y2ay, y2az, y2ba, y2bb, y2bc, (([(y2ao, y2bh, ())] : List (XH)) ++ y2bd), y2be, y2bf, y2bg, ()))))
 .fail)
 .fail)
 (.ret (.out ((), ((p1, p2, p3, p4, p5, p6, p7, p8, p9, ()), (p10, p11, ()), (p12, p13, ()), p14, p15, p16, p17, p18, p19, p20, p21, p22, p23, p24, p25, p26, p27, p28, p29, p30, p31, ()))))
abbrev f103_S10 := (Int × Unit) × (UnixD × XC)
def f103_L10 : f103_S10 → Out (Round f103_S10 ((Unit) × XC) Empty)
| ((p0, _), (p1, p2, p3, p4, p5, p6, p7, p8, p9, _), (p10, p11, _), (p12, p13, _), p14, p15, p16, p17, p18, p19, p20, p21, p22, p23, p24, p25, p26, p27, p28, p29, p30, p31, _) =>
 .ite (decide (p0 < ((List.length p7 : Nat) : Int)))
 (.ite (decide (0 ≤ p0))
 (.get (nth p7 (Int.toNat p0)) fun y1 =>
 .ite (decide (0 ≤ p0))
 (.get (nth p7 (Int.toNat p0)) fun y2 =>
 .ite (decide (List.length ([] : List Int) + List.length y2.2.1 ≤ LIM))
 (.ite (decide (List.length ([(y1.1, (([] : List Int) ++ y2.2.1), ())] : List CpuD) + List.length p29 ≤ LIM))
 (.ret (.again (((IntKind.i64.wrap (p0 + 1)), ()), ((p1, p2, p3, p4, p5, p6, p7, p8, p9, ()), (p10, p11, ()), (p12, p13, ()), p14, p15, p16, p17, p18, p19, p20, p21, p22, p23, p24, p25, p26, p27, p28, (([(y1.1, (([] : List Int) ++ y2.2.1), ())] : List CpuD) ++ p29), p30, p31, ()))))
 .fail)
 .fail)
 .fail)
 .fail)
 (.ret (.out ((), ((p10, p11, ()), (p12, p13, ()), p14, p15, p16, p17, p18, p19, p20, p21, p22, p23, p24, p25, p26, p27, p28, p29, p30, p31, ()))))
def f103_tree (a0 : Int) (a1 : Int) (a2 : List (List InsD)) (a3 : List ProcD) (a4 : List OpenD) (a5 : List CpuD) (a6 : List CpuD) (a7 : List Int) (a8 : List Int) : Out (((Int × Int × XJ) × Unit) × (Unit × Unit)) :=
 .get (k205_V a2) fun y1 =>
 .get (k32_V (64 : Int)) fun y2 =>
 .get k206_V fun y3 =>
 .ite (decide (List.length ([] : List Int) + List.length a7 ≤ LIM))
 (.ite (decide (List.length ([] : List Int) + List.length a8 ≤ LIM))
 (.get (iter1 f103_L0 FUEL ((0, ()), ((a0, a1, a2, a3, a4, a5, a6, a7, a8, ()), (0, 0, ()), (a0, a1, ()), ([] : List (List InsD)), ([] : List ProcD), ([] : List Int), ([] : List (List Int)), ([] : List OpenD), ([] : List (XH)), ([] : List CpuD), ([] : List Int), ([] : List Int), y1.1.1.1, ([] : List ProcD), y2.1.1.1, y3.1.1.1, ([] : List OpenD), ([] : List (XH)), ([] : List CpuD), (([] : List Int) ++ a7), (([] : List Int) ++ a8), ()))) fun (_, (y4aa, y4ab, y4ac, y4ad, y4ae, y4af, y4ag, y4ah, y4ai, _), (y4aj, y4ak, _), (y4al, y4am, _), y4an, y4ao, y4ap, y4aq, y4ar, y4as, y4at, y4au, y4av, y4aw, y4ax, y4ay, y4az, y4ba, y4bb, y4bc, y4bd, y4be, _) =>
 .get (iter1 f103_L4 FUEL ((0, ()), ((y4aa, y4ab, y4ac, y4ad, y4ae, y4af, y4ag, y4ah, y4ai, ()), (y4aj, y4ak, ()), (y4al, y4am, ()), y4an, y4ao, y4ap, y4aq, y4ar, y4as, y4at, y4au, y4av, y4aw, y4ax, y4ay, y4az, y4ba, y4bb, y4bc, y4bd, y4be, ()))) fun (_, (y5aa, y5ab, y5ac, y5ad, y5ae, y5af, y5ag, y5ah, y5ai, _), (y5aj, y5ak, _), (y5al, y5am, _), y5an, y5ao, y5ap, y5aq, y5ar, y5as, y5at, y5au, y5av, y5aw, y5ax, y5ay, y5az, y5ba, y5bb, y5bc, y5bd, y5be, _) =>
 .get (iter1 f103_L6 FUEL ((0, ()), ((y5aa, y5ab, y5ac, y5ad, y5ae, y5af, y5ag, y5ah, y5ai, ()), (y5aj, y5ak, ()), (y5al, y5am, ()), y5an, y5ao, y5ap, y5aq, y5ar, y5as, y5at, y5au, y5av, y5aw, y5ax, y5ay, y5az, y5ba, y5bb, y5bc, y5bd, y5be, ()))) fun (_, (y6aa, y6ab, y6ac, y6ad, y6ae, y6af, y6ag, y6ah, y6ai, _), (y6aj, y6ak, _), (y6al, y6am, _), y6an, y6ao, y6ap, y6aq, y6ar, y6as, y6at, y6au, y6av, y6aw, y6ax, y6ay, y6az, y6ba, y6bb, y6bc, y6bd, y6be, _) =>
 .get (iter1 f103_L10 FUEL ((0, ()), ((y6aa, y6ab, y6ac, y6ad, y6ae, y6af, y6ag, y6ah, y6ai, ()), (y6aj, y6ak, ()), (y6al, y6am, ()), y6an, y6ao, y6ap, y6aq, y6ar, y6as, y6at, y6au, y6av, y6aw, y6ax, y6ay, y6az, y6ba, y6bb, y6bc, y6bd, y6be, ()))) fun (_, _, (y7aa, y7ab, _), _, _, _, _, _, _, _, _, _, y7ac, y7ad, y7ae, y7af, y7ag, y7ah, y7ai, y7aj, y7ak, _) =>
 .ret (((y7aa, y7ab, y7ac, y7ad, y7ae, y7af, y7ag, y7ah, y7ai, y7aj, y7ak, ()), ()), ((), ())))
 .fail)
 .fail
abbrev f103_s9 : List (Nat × VSlot) := [(64000000, .var [.i .i64, .i .i64, .ro (.sl tyN) (some 0), .ro tyP (some 1), .ro tyO (some 2), .ro tyF (some 3), .ro tyF (some 4), .ro tyI (some 5), .ro tyI (some 6)]), (64000001, .var [.i .i64, .i .i64, .srf 64000003, .srf 64000004, .srf 64000005, .srf 64000006, .srf 64000007, .srf 64000008, .srf 64000009, .srf 64000010, .srf 64000011]), (64000002, .var [.i .i64, .i .i64, .srf 64000012, .srf 64000013, .srf 64000014, .srf 64000015, .srf 64000016, .srf 64000017, .srf 64000018, .srf 64000019, .srf 64000020]), (64000003, .arr (.sl tyN)), (64000004, .arr tyP), (64000005, .arr tyI), (64000006, .arr (.sl tyI)), (64000007, .arr tyO), (64000008, .arr tyU), (64000009, .arr tyF), (64000010, .arr tyI), (64000011, .arr tyI), (64000012, .arr (.sl tyN)), (64000013, .arr tyP), (64000014, .arr tyI), (64000015, .arr (.sl tyI)), (64000016, .arr tyO), (64000017, .arr tyU), (64000018, .arr tyF), (64000019, .arr tyI), (64000020, .arr tyI)]
abbrev f103_s10 : List (Nat × VSlot) := [(64000000, .var [.i .i64, .i .i64, .ro (.sl tyN) (some 0), .ro tyP (some 1), .ro tyO (some 2), .ro tyF (some 3), .ro tyF (some 4), .ro tyI (some 5), .ro tyI (some 6)]), (64000001, .var [.i .i64, .i .i64, .srf 64000004, .srf 64000005, .srf 64000006, .srf 64000007, .srf 64000008, .srf 64000009, .srf 64000010, .srf 64000011, .srf 64000012]), (64000002, .var [.i .i64, .i .i64, .srf 64000013, .srf 64000014, .srf 64000015, .srf 64000016, .srf 64000017, .srf 64000018, .srf 64000019, .srf 64000020, .srf 64000021]), (64000003, .var [.i .i64, .srf 64000022]), (64000004, .arr (.sl tyN)), (64000005, .arr tyP), (64000006, .arr tyI), (64000007, .arr (.sl tyI)), (64000008, .arr tyO), (64000009, .arr tyU), (64000010, .arr tyF), (64000011, .arr tyI), (64000012, .arr tyI), (64000013, .arr (.sl tyN)), (64000014, .arr tyP), (64000015, .arr tyI), (64000016, .arr (.sl tyI)), (64000017, .arr tyO), (64000018, .arr tyU), (64000019, .arr tyF), (64000020, .arr tyI), (64000021, .arr tyI), (64000022, .arr (.sl tyI))]
def f103_A : Nat → Option LoopAnn := fun n => annOf [(0, ⟨⟨[.dead, .vptr 64000000 0, .vptr 64000001 0, .vptr 64000002 0, .i .i64] ++ dd 168, f103_s9⟩, ⟨[.dead, .vptr 64000000 0, .vptr 64000001 0, .vptr 64000002 0] ++ dd 169, f103_s9⟩, none, false⟩), (2, ⟨⟨[.dead, .vptr 64000000 0, .vptr 64000001 0, .vptr 64000002 0, .i .i64, .vptr 64000003 0, .i .i64] ++ dd 166, [(64000000, .var [.i .i64, .i .i64, .ro (.sl tyN) (some 0), .ro tyP (some 1), .ro tyO (some 2), .ro tyF (some 3), .ro tyF (some 4), .ro tyI (some 5), .ro tyI (some 6)]), (64000001, .var [.i .i64, .i .i64, .srf 64000004, .srf 64000005, .srf 64000006, .srf 64000007, .srf 64000008, .srf 64000009, .srf 64000010, .srf 64000011, .srf 64000012]), (64000002, .var [.i .i64, .i .i64, .srf 64000013, .srf 64000014, .srf 64000015, .srf 64000016, .srf 64000017, .srf 64000018, .srf 64000019, .srf 64000020, .srf 64000021]), (64000003, .var [.i .i64, .i .i64, .i .i64, .i .i64, .i .i64, .deadc, .srf 64000022, .deadc, .i .i64, .i .i64]), (64000004, .arr (.sl tyN)), (64000005, .arr tyP), (64000006, .arr tyI), (64000007, .arr (.sl tyI)), (64000008, .arr tyO), (64000009, .arr tyU), (64000010, .arr tyF), (64000011, .arr tyI), (64000012, .arr tyI), (64000013, .arr (.sl tyN)), (64000014, .arr tyP), (64000015, .arr tyI), (64000016, .arr (.sl tyI)), (64000017, .arr tyO), (64000018, .arr tyU), (64000019, .arr tyF), (64000020, .arr tyI), (64000021, .arr tyI), (64000022, .arr tyI)]⟩, ⟨[.dead, .vptr 64000000 0, .vptr 64000001 0, .vptr 64000002 0, .i .i64] ++ dd 168, f103_s9⟩, none, false⟩), (4, ⟨⟨[.dead, .vptr 64000000 0, .vptr 64000001 0, .vptr 64000002 0, .dead, .dead, .dead, .i .i64] ++ dd 165, f103_s9⟩, ⟨[.dead, .vptr 64000000 0, .vptr 64000001 0, .vptr 64000002 0] ++ dd 169, f103_s9⟩, none, false⟩), (6, ⟨⟨[.dead, .vptr 64000000 0, .vptr 64000001 0, .vptr 64000002 0] ++ dd 4 ++ [.i .i64] ++ dd 164, f103_s9⟩, ⟨[.dead, .vptr 64000000 0, .vptr 64000001 0, .vptr 64000002 0] ++ dd 169, f103_s9⟩, none, false⟩), (8, ⟨⟨[.dead, .vptr 64000000 0, .vptr 64000001 0, .vptr 64000002 0] ++ dd 4 ++ [.i .i64, .vptr 64000003 0, .i .i64] ++ dd 162, f103_s10⟩, ⟨[.dead, .vptr 64000000 0, .vptr 64000001 0, .vptr 64000002 0] ++ dd 4 ++ [.i .i64, .vptr 64000003 0] ++ dd 163, f103_s10⟩, none, false⟩), (10, ⟨⟨[.dead, .vptr 64000000 0, .vptr 64000001 0, .vptr 64000002 0] ++ dd 7 ++ [.i .i64] ++ dd 161, f103_s9⟩, ⟨[.dead, .dead, .vptr 64000000 0, .vptr 64000001 0] ++ dd 169, f207_s8⟩, none, false⟩)] n
def k103_V := fun a0 a1 a2 a3 a4 a5 a6 a7 a8 => (f103_tree a0 a1 a2 a3 a4 a5 a6 a7 a8).eval
def k103 : Con := { f := 103, lend := true, its := [⟨false, true, [.i .i64, .i .i64, .ro (.sl tyN), .ro tyP, .ro tyO, .ro tyF, .ro tyF, .ro tyI, .ro tyI]⟩], lay := [none], rs := [⟨false, true, [.i .i64, .i .i64, .own (.sl tyN), .own tyP, .own tyI, .own (.sl tyI), .own tyO, .own tyU, .own tyF, .own tyI, .own tyI]⟩], F := fun x => .get (k103_V x.1.1 x.1.2.1 x.1.2.2.1 x.1.2.2.2.1 x.1.2.2.2.2.1 x.1.2.2.2.2.2.1 x.1.2.2.2.2.2.2.1 x.1.2.2.2.2.2.2.2.1 x.1.2.2.2.2.2.2.2.2.1) fun y => .ret y }
theorem f103_eq (x : itemsD k103.its) : bo [k205, k32, k206, k202, k207, k208] f103_A Tryz.f103 k103 [.cell 2 50] x = f103_tree x.1.1 x.1.2.1 x.1.2.2.1 x.1.2.2.2.1 x.1.2.2.2.2.1 x.1.2.2.2.2.2.1 x.1.2.2.2.2.2.2.1 x.1.2.2.2.2.2.2.2.1 x.1.2.2.2.2.2.2.2.2.1 := by kernel_rfl
theorem k103_ok : k103.Ok Tryz.prog := con_fn [k205, k32, k206, k202, k207, k208] ⟨k205_ok, k32_ok, k206_ok, k202_ok, k207_ok, k208_ok, trivial⟩ f103_eq fun _ _ _ hy => (eval_get_ret _).symm.trans hy
def f44_tree (a0 : Int) (a1 : Int) (a2 : List (List InsD)) (a3 : List ProcD) (a4 : List OpenD) (a5 : List CpuD) (a6 : List CpuD) (a7 : List Int) (a8 : List Int) (a9 : Int) : Out ((XD × Unit) × XI) :=
 .ite ((a9 == 1))
 (.get (k102_V a0 a1 a2 a3 a4 a5 a6 a7 a8) fun (((y1aa, y1ab, y1ac, y1ad, y1ae, y1af, y1ag, y1ah, y1ai, y1aj, y1ak, y1al, y1am, y1an, _), _), _) =>
 .ret (((a9, y1aa, y1ab, y1ac, y1ad, y1ae, y1af, y1ag, y1ah, y1ai, y1aj, y1ak, y1al, y1am, y1an, 0, 0, ([] : List (List InsD)), ([] : List ProcD), ([] : List Int), ([] : List (List Int)), ([] : List OpenD), ([] : List (XH)), ([] : List CpuD), ([] : List Int), ([] : List Int), ()), ()), ((), (), ())))
 (.get (k103_V a0 a1 a2 a3 a4 a5 a6 a7 a8) fun (((y2aa, y2ab, y2ac, y2ad, y2ae, y2af, y2ag, y2ah, y2ai, y2aj, y2ak, _), _), _) =>
 .ret (((a9, 0, 0, ([] : List (List InsD)), ([] : List (XB)), ([] : List Int), ([] : List (Bool)), ([] : List (XF)), ([] : List ((Bool × XE))), ([] : List (XK)), false, ([] : List Int), 0, 0, ([] : List Int), y2aa, y2ab, y2ac, y2ad, y2ae, y2af, y2ag, y2ah, y2ai, y2aj, y2ak, ()), ()), ((), (), ())))
def k44_V := fun a0 a1 a2 a3 a4 a5 a6 a7 a8 a9 => (f44_tree a0 a1 a2 a3 a4 a5 a6 a7 a8 a9).eval
def k44 : Con := { f := 44, lend := true, its := [⟨false, true, [.i .i64, .i .i64, .ro (.sl tyN), .ro tyP, .ro tyO, .ro tyF, .ro tyF, .ro tyI, .ro tyI]⟩, ⟨false, false, [.i .i64]⟩], lay := [none, none], rs := [⟨false, true, [.i .i64, .i .i64, .i .i64, .own (.sl tyN), .own tyQ, .own tyI, .own .bool, .own tyS, .own tyR, .own tyT, .b, .own tyI, .i .i64, .i .i64, .own tyI, .i .i64, .i .i64, .own (.sl tyN), .own tyP, .own tyI, .own (.sl tyI), .own tyO, .own tyU, .own tyF, .own tyI, .own tyI]⟩], F := fun x => .get (k44_V x.1.1 x.1.2.1 x.1.2.2.1 x.1.2.2.2.1 x.1.2.2.2.2.1 x.1.2.2.2.2.2.1 x.1.2.2.2.2.2.2.1 x.1.2.2.2.2.2.2.2.1 x.1.2.2.2.2.2.2.2.2.1 x.2.1.1) fun y => .ret y }
theorem f44_eq (x : itemsD k44.its) : bo [k102, k103] (fun _ => none) Tryz.f44 k44 [.cell 4 52] x = f44_tree x.1.1 x.1.2.1 x.1.2.2.1 x.1.2.2.2.1 x.1.2.2.2.2.1 x.1.2.2.2.2.2.1 x.1.2.2.2.2.2.2.1 x.1.2.2.2.2.2.2.2.1 x.1.2.2.2.2.2.2.2.2.1 x.2.1.1 := by kernel_rfl
theorem k44_ok : k44.Ok Tryz.prog := con_fn [k102, k103] ⟨k102_ok, k103_ok, trivial⟩ f44_eq fun _ _ _ hy => (eval_get_ret _).symm.trans hy
def f14_tree (a0 : List (List InsD)) (a1 : Int) : Out ((XD × (Bool × Unit) × Unit) × XI) :=
 .get (k8_V a0) fun (((y1aa, y1ab, y1ac, y1ad, y1ae, y1af, y1ag, y1ah, y1ai, _), (y1aj, _), _), _) =>
 .ite ((!y1aj) == false)
 (.ite (((a1 != 1)) == true)
 (.ite ((a1 != 2))
 (.ret (((0, 0, 0, ([] : List (List InsD)), ([] : List (XB)), ([] : List Int), ([] : List (Bool)), ([] : List (XF)), ([] : List ((Bool × XE))), ([] : List (XK)), false, ([] : List Int), 0, 0, ([] : List Int), 0, 0, ([] : List (List InsD)), ([] : List ProcD), ([] : List Int), ([] : List (List Int)), ([] : List OpenD), ([] : List (XH)), ([] : List CpuD), ([] : List Int), ([] : List Int), ()), (false, ()), ()), ((), (), ())))
 (.get (k44_V y1aa y1ab y1ac y1ad y1ae y1af y1ag y1ah y1ai a1) fun (((y2aa, y2ab, y2ac, y2ad, y2ae, y2af, y2ag, y2ah, y2ai, y2aj, y2ak, y2al, y2am, y2an, y2ao, y2ap, y2aq, y2ar, y2as, y2at, y2au, y2av, y2aw, y2ax, y2ay, y2az, _), _), _) =>
 .ret (((y2aa, y2ab, y2ac, y2ad, y2ae, y2af, y2ag, y2ah, y2ai, y2aj, y2ak, y2al, y2am, y2an, y2ao, y2ap, y2aq, y2ar, y2as, y2at, y2au, y2av, y2aw, y2ax, y2ay, y2az, ()), (true, ()), ()), ((), (), ()))))
 (.get (k44_V y1aa y1ab y1ac y1ad y1ae y1af y1ag y1ah y1ai a1) fun (((y3aa, y3ab, y3ac, y3ad, y3ae, y3af, y3ag, y3ah, y3ai, y3aj, y3ak, y3al, y3am, y3an, y3ao, y3ap, y3aq, y3ar, y3as, y3at, y3au, y3av, y3aw, y3ax, y3ay, y3az, _), _), _) =>
 .ret (((y3aa, y3ab, y3ac, y3ad, y3ae, y3af, y3ag, y3ah, y3ai, y3aj, y3ak, y3al, y3am, y3an, y3ao, y3ap, y3aq, y3ar, y3as, y3at, y3au, y3av, y3aw, y3ax, y3ay, y3az, ()), (true, ()), ()), ((), (), ()))))
 (.ret (((0, 0, 0, ([] : List (List InsD)), ([] : List (XB)), ([] : List Int), ([] : List (Bool)), ([] : List (XF)), ([] : List ((Bool × XE))), ([] : List (XK)), false, ([] : List Int), 0, 0, ([] : List Int), 0, 0, ([] : List (List InsD)), ([] : List ProcD), ([] : List Int), ([] : List (List Int)), ([] : List OpenD), ([] : List (XH)), ([] : List CpuD), ([] : List Int), ([] : List Int), ()), (false, ()), ()), ((), (), ())))
def k14_V := fun a0 a1 => (f14_tree a0 a1).eval
def k14 : Con := { f := 14, lend := true, its := [⟨false, false, [.ro (.sl tyN)]⟩, ⟨false, false, [.i .i64]⟩], lay := [none, none], rs := [⟨false, true, [.i .i64, .i .i64, .i .i64, .own (.sl tyN), .own tyQ, .own tyI, .own .bool, .own tyS, .own tyR, .own tyT, .b, .own tyI, .i .i64, .i .i64, .own tyI, .i .i64, .i .i64, .own (.sl tyN), .own tyP, .own tyI, .own (.sl tyI), .own tyO, .own tyU, .own tyF, .own tyI, .own tyI]⟩, ⟨false, false, [.b]⟩], F := fun x => .get (k14_V x.1.1 x.2.1.1) fun y => .ret y }
theorem f14_eq (x : itemsD k14.its) : bo [k8, k44] (fun _ => none) Tryz.f14 k14 [.cell 4 52, .tmp 5] x = f14_tree x.1.1 x.2.1.1 := by kernel_rfl
theorem k14_ok : k14.Ok Tryz.prog := con_fn [k8, k44] ⟨k8_ok, k44_ok, trivial⟩ f14_eq fun _ _ _ hy => (eval_get_ret _).symm.trans hy
end Go.Proofs.YtnnpnkegpkladaaGreat.Dm
