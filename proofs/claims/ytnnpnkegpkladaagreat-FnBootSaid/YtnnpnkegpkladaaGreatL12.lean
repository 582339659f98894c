/- Functions of the program, and what they compute. -/
import Derived.Test.YtnnpnkegpkladaaGreatL11
import Derived.Test.YtnnpnkegpkladaaGreatA7
namespace Go.Proofs.YtnnpnkegpkladaaGreat.Dm
open Go Go.ChangeShapes Go.WideShapes Go.ChangeAt Go.RowKit
def tabZ : List (Nat × Ty) := [(2, (.int .i64)), (3, (.int .i64)), (4, .bool), (5, (.int .u8)), (6, (.int .u8)), (7, (.st (.cons (.int .i64) (.cons (.int .i64) (.cons .bool (.cons (.int .u8) .nil)))))), (8, (.st (.cons (.int .i64) (.cons (.int .i64) (.cons .bool (.cons (.int .u8) .nil)))))), (9, .str), (10, .str), (11, .str), (12, (.int .u64)), (13, (.st (.cons .str (.cons (.int .u64) .nil)))), (14, (.st (.cons .str (.cons (.int .u64) .nil)))), (21, (.int .i32)), (22, (.sl (.int .u8))), (24, (.sl (.fz tyN))), (26, (.sl tyP)), (27, (.sl tyO)), (28, (.sl tyF)), (29, (.sl tyF)), (30, (.sl (.int .i64))), (31, (.st (.cons (.int .i64) (.cons (.int .i64) (.cons (.sl (.sl tyN)) (.cons (.sl tyP) (.cons (.sl tyO) (.cons (.sl tyF) (.cons (.sl tyF) (.cons (.sl (.int .i64)) (.cons (.sl (.int .i64)) .nil))))))))))), (32, (.st (.cons (.int .i64) (.cons (.int .i64) (.cons (.sl (.sl tyN)) (.cons (.sl tyP) (.cons (.sl tyO) (.cons (.sl tyF) (.cons (.sl tyF) (.cons (.sl (.int .i64)) (.cons (.sl (.int .i64)) .nil))))))))))), (35, (.sl tyQ)), (36, (.sl .bool)), (37, (.sl tyS)), (38, (.sl tyR)), (39, (.sl tyT)), (40, tyR), (41, tyR), (42, (.st (.cons (.int .i64) (.cons (.int .i64) (.cons (.sl (.sl tyN)) (.cons (.sl tyQ) (.cons (.sl (.int .i64)) (.cons (.sl .bool) (.cons (.sl tyS) (.cons (.sl tyR) (.cons (.sl tyT) (.cons tyR (.cons (.sl (.int .i64)) .nil))))))))))))), (43, (.st (.cons (.int .i64) (.cons (.int .i64) (.cons (.sl (.sl tyN)) (.cons (.sl tyQ) (.cons (.sl (.int .i64)) (.cons (.sl .bool) (.cons (.sl tyS) (.cons (.sl tyR) (.cons (.sl tyT) (.cons tyR (.cons (.sl (.int .i64)) .nil))))))))))))), (44, (.sl tyP)), (45, (.sl (.sl (.int .i64)))), (46, (.st (.cons (.sl (.sl (.int .i64))) .nil))), (47, (.st (.cons (.sl (.sl (.int .i64))) .nil))), (48, (.sl tyU)), (49, (.st (.cons (.int .i64) (.cons (.int .i64) (.cons (.sl (.sl tyN)) (.cons (.sl tyP) (.cons (.sl (.int .i64)) (.cons (.st (.cons (.sl (.sl (.int .i64))) .nil)) (.cons (.sl tyO) (.cons (.sl tyU) (.cons (.sl tyF) (.cons (.sl (.int .i64)) (.cons (.sl (.int .i64)) .nil))))))))))))), (50, (.st (.cons (.int .i64) (.cons (.int .i64) (.cons (.sl (.sl tyN)) (.cons (.sl tyP) (.cons (.sl (.int .i64)) (.cons (.st (.cons (.sl (.sl (.int .i64))) .nil)) (.cons (.sl tyO) (.cons (.sl tyU) (.cons (.sl tyF) (.cons (.sl (.int .i64)) (.cons (.sl (.int .i64)) .nil))))))))))))), (51, (.st (.cons (.int .i64) (.cons (.st (.cons (.int .i64) (.cons (.int .i64) (.cons (.sl (.sl tyN)) (.cons (.sl tyQ) (.cons (.sl (.int .i64)) (.cons (.sl .bool) (.cons (.sl tyS) (.cons (.sl tyR) (.cons (.sl tyT) (.cons tyR (.cons (.sl (.int .i64)) .nil)))))))))))) (.cons (.st (.cons (.int .i64) (.cons (.int .i64) (.cons (.sl (.sl tyN)) (.cons (.sl tyP) (.cons (.sl (.int .i64)) (.cons (.st (.cons (.sl (.sl (.int .i64))) .nil)) (.cons (.sl tyO) (.cons (.sl tyU) (.cons (.sl tyF) (.cons (.sl (.int .i64)) (.cons (.sl (.int .i64)) .nil)))))))))))) .nil))))), (52, (.st (.cons (.int .i64) (.cons (.st (.cons (.int .i64) (.cons (.int .i64) (.cons (.sl (.sl tyN)) (.cons (.sl tyQ) (.cons (.sl (.int .i64)) (.cons (.sl .bool) (.cons (.sl tyS) (.cons (.sl tyR) (.cons (.sl tyT) (.cons tyR (.cons (.sl (.int .i64)) .nil)))))))))))) (.cons (.st (.cons (.int .i64) (.cons (.int .i64) (.cons (.sl (.sl tyN)) (.cons (.sl tyP) (.cons (.sl (.int .i64)) (.cons (.st (.cons (.sl (.sl (.int .i64))) .nil)) (.cons (.sl tyO) (.cons (.sl tyU) (.cons (.sl tyF) (.cons (.sl (.int .i64)) (.cons (.sl (.int .i64)) .nil)))))))))))) .nil))))), (58, (.sl (.fz tyN))), (70, tyN), (71, tyN), (73, (.sl tyN)), (77, tyF), (78, tyF), (80, tyP), (81, tyP), (83, tyO), (84, tyO), (93, tyF), (94, tyF), (99, (.sl tyN)), (107, (.st (.cons (.sl (.int .u8)) (.cons (.int .i64) (.cons (.int .i64) .nil))))), (108, (.st (.cons (.sl (.int .u8)) (.cons (.int .i64) (.cons (.int .i64) .nil))))), (127, tyF), (128, tyF), (133, tyQ), (134, tyQ), (138, tyS), (139, tyS), (140, tyT), (141, tyT), (144, tyP), (145, tyP), (147, tyU), (148, tyU), (160, tyN), (184, (.int .u64)), (240, (.int .u32)), (243, (.int .u64)), (297, (.int .i64)), (306, (.int .u64)), (322, (.int .u8)), (323, (.int .u8)), (326, (.int .i32)), (327, (.int .i32))]
theorem tabZ_ok : tabB Tryz.prog tabZ = true := by kernel_rfl
def f56_tree (a0 : List Int) (a1 : Int) (a2 : Int) : Out ((InsD × Unit) × ((Int × Int × Unit) × Unit)) :=
 .get (k23_V a0 a1 a2 (4 : Int)) fun (((y1aa, _), _), (y1ab, y1ac, _), _) =>
 .get (k23_V a0 y1ab y1ac (4 : Int)) fun y2 =>
 .get (k23_V a0 y2.2.1.1 y2.2.1.2.1 (12 : Int)) fun (((y3aa, _), _), (y3ab, y3ac, _), _) =>
 .ite ((y3aa == (0 : Int)))
 (.get (k58_V a0 y3ab y3ac ([(0 : Int), (1 : Int), (2 : Int), (3 : Int), (4 : Int), (7 : Int), (-1 : Int), (9 : Int)] : List Int)) fun y4 =>
 .ret ((((1 : Int), y1aa, y4.1.1.1, (0 : Int), ()), ()), ((y4.2.1.1, y4.2.1.2.1, ()), ())))
 (.ite ((y3aa == (1 : Int)))
 (.get (k58_V a0 y3ab y3ac ([(0 : Int), (1 : Int), (2 : Int), (3 : Int), (4 : Int), (7 : Int), (-1 : Int), (9 : Int)] : List Int)) fun y5 =>
 .ret ((((1 : Int), y1aa, y5.1.1.1, (0 : Int), ()), ()), ((y5.2.1.1, y5.2.1.2.1, ()), ())))
 (.ite ((y3aa == (2 : Int)))
 (.get (k58_V a0 y3ab y3ac ([(0 : Int), (1 : Int), (2 : Int), (3 : Int), (4 : Int), (7 : Int), (-1 : Int), (9 : Int)] : List Int)) fun y6 =>
 .ret ((((1 : Int), y1aa, y6.1.1.1, (0 : Int), ()), ()), ((y6.2.1.1, y6.2.1.2.1, ()), ())))
 (.ite ((y3aa == (3 : Int)))
 (.get (k23_V a0 y3ab y3ac (4 : Int)) fun y7 =>
 .ret ((((2 : Int), y1aa, y2.1.1.1, y7.1.1.1, ()), ()), ((y7.2.1.1, y7.2.1.2.1, ()), ())))
 (.ite ((y3aa == (4 : Int)))
 (.get (k23_V a0 y3ab y3ac (4 : Int)) fun y8 =>
 .ret ((((3 : Int), y1aa, y2.1.1.1, y8.1.1.1, ()), ()), ((y8.2.1.1, y8.2.1.2.1, ()), ())))
 (.ite ((y3aa == (5 : Int)))
 (.ret ((((4 : Int), y1aa, y2.1.1.1, (0 : Int), ()), ()), ((y3ab, y3ac, ()), ())))
 (.ite ((y3aa == (6 : Int)))
 (.ret ((((5 : Int), y1aa, y2.1.1.1, (0 : Int), ()), ()), ((y3ab, y3ac, ()), ())))
 (.ite ((y3aa == (7 : Int)))
 (.get (k23_V a0 y3ab y3ac (12 : Int)) fun y9 =>
 .ret ((((6 : Int), y9.1.1.1, (0 : Int), (0 : Int), ()), ()), ((y9.2.1.1, y9.2.1.2.1, ()), ())))
 (.ite ((y3aa == (8 : Int)))
 (.get (k23_V a0 y3ab y3ac (12 : Int)) fun y10 =>
 .ret ((((7 : Int), y1aa, y10.1.1.1, (0 : Int), ()), ()), ((y10.2.1.1, y10.2.1.2.1, ()), ())))
 (.get (k23_V a0 y3ab y3ac (17 : Int)) fun y11 =>
 .ret ((((8 : Int), (IntKind.i64.wrap ((1 : Int) + y11.1.1.1)), (0 : Int), (0 : Int), ()), ()), ((y11.2.1.1, y11.2.1.2.1, ()), ())))))))))))
def k56_V := fun a0 a1 a2 => (f56_tree a0 a1 a2).eval
def k56 : Con := { f := 56, lend := true, its := [⟨true, false, [.ro (.int .u8), .i .i64, .i .i64]⟩], lay := [none], rs := [⟨false, true, [.i .i64, .i .i64, .i .i64, .i .i64]⟩], F := fun x => .get (k56_V x.1.1 x.1.2.1 x.1.2.2.1) fun y => .ret y }
theorem f56_eq (x : itemsD k56.its) : bo [k23, k58] (fun _ => none) Tryz.f56 k56 [.cell 2 71] x = f56_tree x.1.1 x.1.2.1 x.1.2.2.1 := by kernel_rfl
theorem k56_ok : k56.Ok Tryz.prog := con_fn [k23, k58] ⟨k23_ok, k58_ok, trivial⟩ f56_eq fun _ _ _ hy => (eval_get_ret _).symm.trans hy
def f24_tree (a0 : List Int) (a1 : Int) (a2 : Int) : Out ((InsD × Unit) × ((Int × Int × Unit) × Unit)) :=
 .get (k56_V a0 a1 a2) fun (((y1aa, y1ab, y1ac, y1ad, _), _), (y1ae, y1af, _), _) =>
 .get (k57_V a0 y1ae y1af (10 : Int)) fun y2 =>
 .ite y2.1.1.1
 (.get (k23_V a0 y2.2.1.1 y2.2.1.2.1 (4 : Int)) fun (((y3aa, _), _), (y3ab, y3ac, _), _) =>
 .ite ((y3aa == (0 : Int)))
 (.get (k58_V a0 y3ab y3ac ([(-1 : Int), (0 : Int), (9 : Int)] : List Int)) fun y4 =>
 .ret (((y4.1.1.1, y1ab, y1ac, y1ad, ()), ()), ((y4.2.1.1, y4.2.1.2.1, ()), ())))
 (.ite ((y3aa == (1 : Int)))
 (.get (k58_V a0 y3ab y3ac ([(-1 : Int), (4 : Int), (20 : Int), (21 : Int), (40 : Int), (41 : Int)] : List Int)) fun y5 =>
 .ret (((y1aa, y5.1.1.1, y1ac, y1ad, ()), ()), ((y5.2.1.1, y5.2.1.2.1, ()), ())))
 (.ite ((y3aa == (2 : Int)))
 (.get (k58_V a0 y3ab y3ac ([(-1 : Int), (4 : Int), (40 : Int), (41 : Int), (1000000 : Int), (-1000000 : Int), (1000001 : Int)] : List Int)) fun y6 =>
 .ret (((y1aa, y1ab, y6.1.1.1, y1ad, ()), ()), ((y6.2.1.1, y6.2.1.2.1, ()), ())))
 (.get (k58_V a0 y3ab y3ac ([(-1 : Int), (3 : Int), (4 : Int)] : List Int)) fun y7 =>
 .ret (((y1aa, y1ab, y1ac, y7.1.1.1, ()), ()), ((y7.2.1.1, y7.2.1.2.1, ()), ()))))))
 (.ret (((y1aa, y1ab, y1ac, y1ad, ()), ()), ((y2.2.1.1, y2.2.1.2.1, ()), ())))
def k24_V := fun a0 a1 a2 => (f24_tree a0 a1 a2).eval
def k24 : Con := { f := 24, lend := true, its := [⟨true, false, [.ro (.int .u8), .i .i64, .i .i64]⟩], lay := [none], rs := [⟨false, true, [.i .i64, .i .i64, .i .i64, .i .i64]⟩], F := fun x => .get (k24_V x.1.1 x.1.2.1 x.1.2.2.1) fun y => .ret y }
theorem f24_eq (x : itemsD k24.its) : bo [k56, k57, k23, k58] (fun _ => none) Tryz.f24 k24 [.cell 2 71] x = f24_tree x.1.1 x.1.2.1 x.1.2.2.1 := by kernel_rfl
theorem k24_ok : k24.Ok Tryz.prog := con_fn [k56, k57, k23, k58] ⟨k56_ok, k57_ok, k23_ok, k58_ok, trivial⟩ f24_eq fun _ _ _ hy => (eval_get_ret _).symm.trans hy
abbrev f54_S0 := (Int × Unit) × (XE × List InsD × Unit)
def f54_L0 : f54_S0 → Out (Round f54_S0 ((Unit) × (List InsD × XE × Unit)) Empty)
| ((p0, _), (p1, p2, p3, _), p4, _) =>
 .ite (decide (p0 > (0 : Int)))
 (.get (k56_V p1 p2 p3) fun (((y1aa, y1ab, y1ac, y1ad, _), _), (y1ae, y1af, _), _) =>
 .ite (decide (List.length p4 + List.length ([(y1aa, y1ab, y1ac, y1ad, ())] : List InsD) ≤ LIM))
 (.ret (.again (((IntKind.i64.wrap (p0 - (1 : Int))), ()), ((p1, y1ae, y1af, ()), (p4 ++ ([(y1aa, y1ab, y1ac, y1ad, ())] : List InsD)), ()))))
 .fail)
 (.ret (.out ((), (p4, (p1, p2, p3, ()), ()))))
def f54_tree (a0 : List Int) (a1 : Int) (a2 : Int) (a3 : Int) : Out (((List InsD × Unit) × Unit) × ((Int × Int × Unit) × Unit × Unit)) :=
 .get (k23_V a0 a1 a2 (IntKind.i64.wrap (a3 + (1 : Int)))) fun y1 =>
 .get (iter1 f54_L0 FUEL ((y1.1.1.1, ()), ((a0, y1.2.1.1, y1.2.1.2.1, ()), ([] : List InsD), ()))) fun y2 =>
 .ret (((y2.2.1, ()), ()), ((y2.2.2.1.2.1, y2.2.2.1.2.2.1, ()), (), ()))
def f54_A : Nat → Option LoopAnn := fun n => annOf [(0, ⟨⟨[.vptr 0 0] ++ dd 4 ++ [.srf 64000000, .i .i64] ++ dd 15, [(0, .var [.ro (.int .u8) (some 1), .i .i64, .i .i64]), (64000000, .arr tyN)]⟩, ⟨[.vptr 0 0] ++ dd 4 ++ [.srf 64000000] ++ dd 16, [(64000000, .arr tyN), (0, .var [.ro (.int .u8) (some 1), .i .i64, .i .i64])]⟩, none, false⟩)] n
def k54_V := fun a0 a1 a2 a3 => (f54_tree a0 a1 a2 a3).eval
def k54 : Con := { f := 54, lend := true, its := [⟨true, false, [.ro (.int .u8), .i .i64, .i .i64]⟩, ⟨false, false, [.i .i64]⟩], lay := [none, none], rs := [⟨false, false, [.own tyN]⟩], F := fun x => .get (k54_V x.1.1 x.1.2.1 x.1.2.2.1 x.2.1.1) fun y => .ret y }
theorem f54_eq (x : itemsD k54.its) : bo [k23, k56] f54_A Tryz.f54 k54 [.tmp 4] x = f54_tree x.1.1 x.1.2.1 x.1.2.2.1 x.2.1.1 := by kernel_rfl
theorem k54_ok : k54.Ok Tryz.prog := con_fn [k23, k56] ⟨k23_ok, k56_ok, trivial⟩ f54_eq fun _ _ _ hy => (eval_get_ret _).symm.trans hy
abbrev f22_S0 := (List InsD × List InsD × List InsD × Int × Unit) × (XE × List (List InsD) × Unit)
def f22_L0 : f22_S0 → Out (Round f22_S0 ((Unit) × (List (List InsD) × XE × Unit)) Empty)
| ((p0, p1, p2, p3, _), (p4, p5, p6, _), p7, _) =>
 .ite (decide (p3 > (0 : Int)))
 (.get (k23_V p4 p5 p6 (5 : Int)) fun (((y1aa, _), _), (y1ab, y1ac, _), _) =>
 .ite ((y1aa == (0 : Int)))
 (.ite (decide (List.length p7 + List.length ([p0] : List (List InsD)) ≤ LIM))
 (.ret (.again ((p0, p1, p2, (IntKind.i64.wrap (p3 - (1 : Int))), ()), ((p4, y1ab, y1ac, ()), (p7 ++ ([p0] : List (List InsD))), ()))))
 .fail)
 (.ite ((y1aa == (1 : Int)))
 (.ite (decide (List.length p7 + List.length ([p1] : List (List InsD)) ≤ LIM))
 (.ret (.again ((p0, p1, p2, (IntKind.i64.wrap (p3 - (1 : Int))), ()), ((p4, y1ab, y1ac, ()), (p7 ++ ([p1] : List (List InsD))), ()))))
 .fail)
 (.ite ((y1aa == (2 : Int)))
 (.ite (decide (List.length p7 + List.length ([p2] : List (List InsD)) ≤ LIM))
 (.ret (.again ((p0, p1, p2, (IntKind.i64.wrap (p3 - (1 : Int))), ()), ((p4, y1ab, y1ac, ()), (p7 ++ ([p2] : List (List InsD))), ()))))
 .fail)
 (.get (k54_V p4 y1ab y1ac (16 : Int)) fun y2 =>
 .ite (decide (List.length p7 + List.length ([y2.1.1.1] : List (List InsD)) ≤ LIM))
 (.ret (.again ((p0, p1, p2, (IntKind.i64.wrap (p3 - (1 : Int))), ()), ((p4, y2.2.1.1, y2.2.1.2.1, ()), (p7 ++ ([y2.1.1.1] : List (List InsD))), ()))))
 .fail))))
 (.ret (.out ((), (p7, (p4, p5, p6, ()), ()))))
def f22_tree (a0 : List Int) (a1 : Int) (a2 : Int) : Out (((List (List InsD) × Unit) × Unit) × ((Int × Int × Unit) × Unit)) :=
 .get (k23_V a0 a1 a2 (3 : Int)) fun y1 =>
 .get (k23_V a0 y1.2.1.1 y1.2.1.2.1 (3 : Int)) fun y2 =>
 .get (iter1 f22_L0 FUEL ((([((8 : Int), (2 : Int), (0 : Int), (0 : Int), ()), ((7 : Int), (0 : Int), (5 : Int), (0 : Int), ()), ((8 : Int), (3 : Int), (0 : Int), (0 : Int), ()), ((8 : Int), (17 : Int), (0 : Int), (0 : Int), ()), ((6 : Int), (2 : Int), (0 : Int), (0 : Int), ()), ((1 : Int), (0 : Int), (1 : Int), (0 : Int), ()), ((1 : Int), (1 : Int), (7 : Int), (0 : Int), ()), ((8 : Int), (9 : Int), (0 : Int), (0 : Int), ()), ((1 : Int), (0 : Int), (3 : Int), (0 : Int), ()), ((8 : Int), (1 : Int), (0 : Int), (0 : Int), ())] : List InsD), ([((8 : Int), (10 : Int), (0 : Int), (0 : Int), ()), ((1 : Int), (2 : Int), (0 : Int), (0 : Int), ()), ((2 : Int), (3 : Int), (0 : Int), (2 : Int), ()), ((8 : Int), (2 : Int), (0 : Int), (0 : Int), ()), ((7 : Int), (0 : Int), (9 : Int), (0 : Int), ()), ((1 : Int), (0 : Int), (3 : Int), (0 : Int), ()), ((1 : Int), (1 : Int), (8 : Int), (0 : Int), ()), ((8 : Int), (9 : Int), (0 : Int), (0 : Int), ()), ((6 : Int), (5 : Int), (0 : Int), (0 : Int), ()), ((1 : Int), (0 : Int), (2 : Int), (0 : Int), ()), ((8 : Int), (8 : Int), (0 : Int), (0 : Int), ()), ((1 : Int), (0 : Int), (1 : Int), (0 : Int), ()), ((8 : Int), (9 : Int), (0 : Int), (0 : Int), ()), ((6 : Int), (9 : Int), (0 : Int), (0 : Int), ())] : List InsD), ([((1 : Int), (0 : Int), y1.1.1.1, (0 : Int), ()), ((1 : Int), (1 : Int), (1 : Int), (0 : Int), ()), ((8 : Int), (6 : Int), (0 : Int), (0 : Int), ()), ((2 : Int), (3 : Int), (0 : Int), (2 : Int), ()), ((1 : Int), (1 : Int), (5 : Int), (0 : Int), ()), ((8 : Int), (9 : Int), (0 : Int), (0 : Int), ()), ((8 : Int), (11 : Int), (0 : Int), (0 : Int), ()), ((8 : Int), (5 : Int), (0 : Int), (0 : Int), ()), ((1 : Int), (0 : Int), (2 : Int), (0 : Int), ()), ((8 : Int), (12 : Int), (0 : Int), (0 : Int), ()), ((8 : Int), (15 : Int), (0 : Int), (0 : Int), ()), ((1 : Int), (0 : Int), (1 : Int), (0 : Int), ()), ((8 : Int), (16 : Int), (0 : Int), (0 : Int), ())] : List InsD), (IntKind.i64.wrap ((1 : Int) + y2.1.1.1)), ()), ((a0, y2.2.1.1, y2.2.1.2.1, ()), ([] : List (List InsD)), ()))) fun y3 =>
 .ret (((y3.2.1, ()), ()), ((y3.2.2.1.2.1, y3.2.2.1.2.2.1, ()), ()))
def f22_A : Nat → Option LoopAnn := fun n => annOf [(0, ⟨⟨[.vptr 0 0, .dead, .dead, .ro tyN none, .ro tyN none, .ro tyN none, .srf 64000000, .i .i64] ++ dd 76, [(0, .var [.ro (.int .u8) (some 1), .i .i64, .i .i64]), (64000000, .arr (.fz tyN))]⟩, ⟨[.vptr 0 0] ++ dd 5 ++ [.srf 64000000] ++ dd 77, [(64000000, .arr (.fz tyN)), (0, .var [.ro (.int .u8) (some 1), .i .i64, .i .i64])]⟩, none, false⟩)] n
def k22_V := fun a0 a1 a2 => (f22_tree a0 a1 a2).eval
def k22 : Con := { f := 22, lend := false, its := [⟨true, false, [.ro (.int .u8), .i .i64, .i .i64]⟩], lay := [none], rs := [⟨false, false, [.own (.fz tyN)]⟩], F := fun x => .get (k22_V x.1.1 x.1.2.1 x.1.2.2.1) fun y => .ret y }
theorem f22_eq (x : itemsD k22.its) : boZ tabZ [267, 527, 784, 2307] [k23, k54] f22_A Tryz.f22 k22 [.tmp 2] x = f22_tree x.1.1 x.1.2.1 x.1.2.2.1 := by kernel_rfl
theorem k22_ok : k22.Ok Tryz.prog := con_fnZ tabZ_ok [k23, k54] ⟨k23_ok, k54_ok, trivial⟩ f22_eq fun _ _ _ hy => (eval_get_ret _).symm.trans hy
def f6_tree (a0 : List Int) : Out (((List (List InsD) × Unit) × Unit) × (Unit × Unit)) :=
 .get (k21_V a0) fun y1 =>
 .get (k22_V y1.1.1.1 y1.1.1.2.1 y1.1.1.2.2.1) fun (((y2aa, _), _), (y2ab, y2ac, _), _) =>
 .get (k23_V y1.1.1.1 y2ab y2ac (8 : Int)) fun y3 =>
 .ite ((y3.1.1.1 == (0 : Int)))
 (.ret (((([] : List (List InsD)), ()), ()), ((), ())))
 (.ite ((y3.1.1.1 == (1 : Int)))
 (.get (k24_V y1.1.1.1 y3.2.1.1 y3.2.1.2.1) fun (((y4aa, y4ab, y4ac, y4ad, _), _), _) =>
 .ite (decide (List.length y2aa + List.length ([([(y4aa, y4ab, y4ac, y4ad, ())] : List InsD)] : List (List InsD)) ≤ LIM))
 (.ret ((((y2aa ++ ([([(y4aa, y4ab, y4ac, y4ad, ())] : List InsD)] : List (List InsD))), ()), ()), ((), ())))
 .fail)
 (.ite ((y3.1.1.1 == (2 : Int)))
 (.ite (decide (0 ≤ (0 : Int) ∧ (0 : Int) < ((List.length y2aa : Nat) : Int)))
 (.get (nth y2aa (Int.toNat (0 : Int))) fun y5 =>
 .ite (decide (0 ≤ (0 : Int) ∧ (0 : Int) < ((List.length y2aa : Nat) : Int)))
 (.get (nth y2aa (Int.toNat (0 : Int))) fun y6 =>
 .ite (decide (0 ≤ (0 : Int) ∧ (0 : Int) < ((List.length y2aa : Nat) : Int)))
 (.get (nth y2aa (Int.toNat (0 : Int))) fun y7 =>
 .ite (decide (List.length y2aa + List.length ([y5, y6, y7] : List (List InsD)) ≤ LIM))
 (.ret ((((y2aa ++ ([y5, y6, y7] : List (List InsD))), ()), ()), ((), ())))
 .fail)
 .fail)
 .fail)
 .fail)
 (.ret (((y2aa, ()), ()), ((), ())))))
def k6_V := fun a0 => (f6_tree a0).eval
def k6 : Con := { f := 6, lend := false, its := [⟨false, false, [.ro (.int .u8)]⟩], lay := [none], rs := [⟨false, false, [.ro (.sl tyN)]⟩], F := fun x => .get (k6_V x.1.1) fun y => .ret y }
theorem f6_eq (x : itemsD k6.its) : boZ tabZ [1796] [k21, k22, k23, k24] (fun _ => none) Tryz.f6 k6 [.tmp 2] x = f6_tree x.1.1 := by kernel_rfl
theorem k6_ok : k6.Ok Tryz.prog := con_fnZ tabZ_ok [k21, k22, k23, k24] ⟨k21_ok, k22_ok, k23_ok, k24_ok, trivial⟩ f6_eq fun _ _ _ hy => (eval_get_ret _).symm.trans hy
end Go.Proofs.YtnnpnkegpkladaaGreat.Dm
