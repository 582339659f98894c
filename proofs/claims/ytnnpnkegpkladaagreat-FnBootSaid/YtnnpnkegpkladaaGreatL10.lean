/- Functions of the program, and what they compute. -/
import Derived.Test.YtnnpnkegpkladaaGreatL1
import Derived.Test.YtnnpnkegpkladaaGreatQ6
import Derived.Test.YtnnpnkegpkladaaGreatL5
namespace Go.Proofs.YtnnpnkegpkladaaGreat.Dm
open Go Go.ChangeShapes Go.WideShapes Go.ChangeAt Go.RowKit
def f174_tree (a0 : Bool) (a1 : List Int) (a2 : Int) (a3 : Int) (a4 : Int) : Out (((Bool × Unit) × Unit) × XI) :=
 .ite (((((List.length a1 : Nat) : Int) == a4)) == true)
 (.ite ((inV a2 (0 : Int) (IntKind.i64.wrap (a4 - (1 : Int)))) == true)
 (.ret ((((inV a3 (0 : Int) a4), ()), ()), ((), (), ())))
 (.ret (((false, ()), ()), ((), (), ()))))
 (.ret (((false, ()), ()), ((), (), ())))
def k174_V := fun a0 a1 a2 a3 a4 => (f174_tree a0 a1 a2 a3 a4).eval
def k174 : Con := { f := 174, lend := true, its := [⟨false, true, [.b, .ro tyI, .i .i64, .i .i64]⟩, ⟨false, false, [.i .i64]⟩], lay := [none, none], rs := [⟨false, false, [.b]⟩], F := fun x => .get (k174_V x.1.1 x.1.2.1 x.1.2.2.1 x.1.2.2.2.1 x.2.1.1) fun y => .ret y }
theorem f174_eq (x : itemsD k174.its) : bo [k25] (fun _ => none) Tryz.f174 k174 [.tmp 4] x = f174_tree x.1.1 x.1.2.1 x.1.2.2.1 x.1.2.2.2.1 x.2.1.1 := by kernel_rfl
theorem k174_ok : k174.Ok Tryz.prog := con_fn [k25] ⟨k25_ok, trivial⟩ f174_eq fun _ _ _ hy => (eval_get_ret _).symm.trans hy
def f241_tree (a0 : Int) (a1 : Int) : Out (((Bool × Unit) × Unit) × (Unit × (Int × Unit) × Unit)) :=
 .ret (((((a0 != a1)), ()), ()), ((), (a1, ()), ()))
def k241_V := fun a0 a1 => (f241_tree a0 a1).eval
def k241 : Con := { f := 241, lend := true, its := [⟨false, false, [.i .i64]⟩, ⟨true, false, [.i .i64]⟩], lay := [none, none], rs := [⟨false, false, [.b]⟩], F := fun x => .get (k241_V x.1.1 x.2.1.1) fun y => .ret y }
theorem f241_eq (x : itemsD k241.its) : bo [] (fun _ => none) Tryz.f241 k241 [.tmp 3] x = f241_tree x.1.1 x.2.1.1 := by kernel_rfl
theorem k241_ok : k241.Ok Tryz.prog := con_fn [] trivial f241_eq fun _ _ _ hy => (eval_get_ret _).symm.trans hy
abbrev f185u_S0 := XE × ((Int × Unit) × Unit)
def f185u_L0 : f185u_S0 → Out (Round f185u_S0 ((Unit) × ((Int × Unit) × Unit)) ((Int × Unit) × ((Int × Unit) × Unit)))
| ((p0, p1, p2, _), (p3, _), _) =>
 .ite (decide (p2 < p1))
 (.ite (decide (0 ≤ p2))
 (.get (nth p0 (Int.toNat p2)) fun y1 =>
 .get (k241_V y1 p3) fun y2 =>
 .ite y2.1.1.1
 (.ret (.ret ((p2, ()), ((y2.2.2.1.1, ()), ()))))
 (.ret (.again ((p0, p1, (IntKind.i64.wrap (p2 + 1)), ()), ((y2.2.2.1.1, ()), ())))))
 .fail)
 (.ret (.out ((), ((p3, ()), ()))))
def f185u_tree (a0 : List Int) (a1 : Int) : Out (((Int × Unit) × Unit) × (Unit × (Int × Unit) × Unit)) :=
 .get (iter f185u_L0 FUEL ((a0, ((List.length a0 : Nat) : Int), 0, ()), ((a1, ()), ()))) fun y1 => .alt y1 (fun y2 =>
 .ret (((-1, ()), ()), ((), (y2.2.1.1, ()), ()))) (fun y3 =>
 .ret (((y3.1.1, ()), ()), ((), (y3.2.1.1, ()), ())))
def f185u_A : Nat → Option LoopAnn := fun n => annOf [(0, ⟨⟨[.ro tyI (some 0), .fn 241 [1]] ++ dd 5 ++ [.i .i64, .i .i64] ++ dd 10, [(1, .var [.i .i64])]⟩, ⟨[.dead, .fn 241 [1]] ++ dd 17, [(1, .var [.i .i64])]⟩, some ⟨[.dead, .fn 241 [1], .dead, .dead, .i .i64] ++ dd 14, [(1, .var [.i .i64])]⟩, false⟩)] n
def k185u_V := fun a0 a1 => (f185u_tree a0 a1).eval
def k185u : Con := { f := 185, lend := true, its := [⟨false, false, [.ro tyI]⟩, ⟨true, false, [.i .i64]⟩], lay := [none, some (241, 1)], rs := [⟨false, false, [.i .i64]⟩], F := fun x => .get (k185u_V x.1.1 x.2.1.1) fun y => .ret y }
theorem f185u_eq (x : itemsD k185u.its) : bo [k241] f185u_A Tryz.f185 k185u [.tmp 4] x = f185u_tree x.1.1 x.2.1.1 := by kernel_rfl
theorem k185u_ok : k185u.Ok Tryz.prog := con_fn [k241] ⟨k241_ok, trivial⟩ f185u_eq fun _ _ _ hy => (eval_get_ret _).symm.trans hy
def f191u_tree (a0 : List Int) (a1 : Int) : Out (((Bool × Unit) × Unit) × (Unit × (Int × Unit) × Unit)) :=
 .get (k185u_V a0 a1) fun y1 =>
 .ret ((((decide (y1.1.1.1 ≥ (0 : Int))), ()), ()), ((), (y1.2.2.1.1, ()), ()))
def k191u_V := fun a0 a1 => (f191u_tree a0 a1).eval
def k191u : Con := { f := 191, lend := true, its := [⟨false, false, [.ro tyI]⟩, ⟨true, false, [.i .i64]⟩], lay := [none, some (241, 1)], rs := [⟨false, false, [.b]⟩], F := fun x => .get (k191u_V x.1.1 x.2.1.1) fun y => .ret y }
theorem f191u_eq (x : itemsD k191u.its) : bo [k185u] (fun _ => none) Tryz.f191 k191u [.tmp 4] x = f191u_tree x.1.1 x.2.1.1 := by kernel_rfl
theorem k191u_ok : k191u.Ok Tryz.prog := con_fn [k185u] ⟨k185u_ok, trivial⟩ f191u_eq fun _ _ _ hy => (eval_get_ret _).symm.trans hy
def f166_tree (a0 : List Int) (a1 : Int) : Out (((Bool × Unit) × Unit) × XI) :=
 .get (k191u_V a0 a1) fun y1 =>
 .ret ((((!y1.1.1.1), ()), ()), ((), (), ()))
def k166_V := fun a0 a1 => (f166_tree a0 a1).eval
def k166 : Con := { f := 166, lend := true, its := [⟨false, false, [.ro tyI]⟩, ⟨false, false, [.i .i64]⟩], lay := [none, none], rs := [⟨false, false, [.b]⟩], F := fun x => .get (k166_V x.1.1 x.2.1.1) fun y => .ret y }
theorem f166_eq (x : itemsD k166.its) : bo [k191u] (fun _ => none) Tryz.f166 k166 [.tmp 4] x = f166_tree x.1.1 x.2.1.1 := by kernel_rfl
theorem k166_ok : k166.Ok Tryz.prog := con_fn [k191u] ⟨k191u_ok, trivial⟩ f166_eq fun _ _ _ hy => (eval_get_ret _).symm.trans hy
def f177_tree (a0 : Bool) (a1 : Int) (a2 : Int) (a3 : Int) (a4 : Int) (a5 : Int) (a6 : Int) (a7 : Int) (a8 : List Int) (a9 : List Int) (a10 : List Int) : Out (((Bool × Unit) × Unit) × (Unit × Unit)) :=
 .ite (((((List.length a8 : Nat) : Int) != 4)) == false)
 (.ite (((((List.length a9 : Nat) : Int) != 3)) == false)
 (.ite ((((List.length a10 : Nat) : Int) != 4))
 (.ret (((false, ()), ()), ((), ())))
 (.ite a0
 (.ret (((true, ()), ()), ((), ())))
 (.ite (((a1 == 0)) == true)
 (.ite (((a2 == 0)) == true)
 (.ite (((a3 == 0)) == true)
 (.ite (((a4 == 0)) == true)
 (.ite (((a5 == 0)) == true)
 (.ite (((a6 == 0)) == true)
 (.ite (((a7 == 0)) == true)
 (.get (k166_V a8 (0 : Int)) fun y1 =>
 .ite (y1.1.1.1 == true)
 (.get (k166_V a9 (-1 : Int)) fun y2 =>
 .ite (y2.1.1.1 == true)
 (.get (k166_V a10 (-1 : Int)) fun y3 =>
 .ret (((y3.1.1.1, ()), ()), ((), ())))
 (.ret (((false, ()), ()), ((), ()))))
 (.ret (((false, ()), ()), ((), ()))))
 (.ret (((false, ()), ()), ((), ()))))
 (.ret (((false, ()), ()), ((), ()))))
 (.ret (((false, ()), ()), ((), ()))))
 (.ret (((false, ()), ()), ((), ()))))
 (.ret (((false, ()), ()), ((), ()))))
 (.ret (((false, ()), ()), ((), ()))))
 (.ret (((false, ()), ()), ((), ()))))))
 (.ret (((false, ()), ()), ((), ()))))
 (.ret (((false, ()), ()), ((), ())))
def k177_V := fun a0 a1 a2 a3 a4 a5 a6 a7 a8 a9 a10 => (f177_tree a0 a1 a2 a3 a4 a5 a6 a7 a8 a9 a10).eval
def k177 : Con := { f := 177, lend := true, its := [⟨false, true, [.b, .i .i64, .i .i64, .i .i64, .i .i64, .i .i64, .i .i64, .i .i64, .ro tyI, .ro tyI, .ro tyI]⟩], lay := [none], rs := [⟨false, false, [.b]⟩], F := fun x => .get (k177_V x.1.1 x.1.2.1 x.1.2.2.1 x.1.2.2.2.1 x.1.2.2.2.2.1 x.1.2.2.2.2.2.1 x.1.2.2.2.2.2.2.1 x.1.2.2.2.2.2.2.2.1 x.1.2.2.2.2.2.2.2.2.1 x.1.2.2.2.2.2.2.2.2.2.1 x.1.2.2.2.2.2.2.2.2.2.2.1) fun y => .ret y }
theorem f177_eq (x : itemsD k177.its) : bo [k166] (fun _ => none) Tryz.f177 k177 [.tmp 2] x = f177_tree x.1.1 x.1.2.1 x.1.2.2.1 x.1.2.2.2.1 x.1.2.2.2.2.1 x.1.2.2.2.2.2.1 x.1.2.2.2.2.2.2.1 x.1.2.2.2.2.2.2.2.1 x.1.2.2.2.2.2.2.2.2.1 x.1.2.2.2.2.2.2.2.2.2.1 x.1.2.2.2.2.2.2.2.2.2.2.1 := by kernel_rfl
theorem k177_ok : k177.Ok Tryz.prog := con_fn [k166] ⟨k166_ok, trivial⟩ f177_eq fun _ _ _ hy => (eval_get_ret _).symm.trans hy
def f176_tree (a0 : Bool) (a1 : Int) (a2 : Int) (a3 : Int) (a4 : Int) (a5 : Int) (a6 : Int) (a7 : Int) (a8 : List Int) (a9 : List Int) (a10 : List Int) : Out (((Bool × Unit) × Unit) × (Unit × Unit)) :=
 .get (k177_V a0 a1 a2 a3 a4 a5 a6 a7 a8 a9 a10) fun y1 =>
 .ret ((((!y1.1.1.1), ()), ()), ((), ()))
def k176_V := fun a0 a1 a2 a3 a4 a5 a6 a7 a8 a9 a10 => (f176_tree a0 a1 a2 a3 a4 a5 a6 a7 a8 a9 a10).eval
def k176 : Con := { f := 176, lend := true, its := [⟨false, true, [.b, .i .i64, .i .i64, .i .i64, .i .i64, .i .i64, .i .i64, .i .i64, .ro tyI, .ro tyI, .ro tyI]⟩], lay := [none], rs := [⟨false, false, [.b]⟩], F := fun x => .get (k176_V x.1.1 x.1.2.1 x.1.2.2.1 x.1.2.2.2.1 x.1.2.2.2.2.1 x.1.2.2.2.2.2.1 x.1.2.2.2.2.2.2.1 x.1.2.2.2.2.2.2.2.1 x.1.2.2.2.2.2.2.2.2.1 x.1.2.2.2.2.2.2.2.2.2.1 x.1.2.2.2.2.2.2.2.2.2.2.1) fun y => .ret y }
theorem f176_eq (x : itemsD k176.its) : bo [k177] (fun _ => none) Tryz.f176 k176 [.tmp 2] x = f176_tree x.1.1 x.1.2.1 x.1.2.2.1 x.1.2.2.2.1 x.1.2.2.2.2.1 x.1.2.2.2.2.2.1 x.1.2.2.2.2.2.2.1 x.1.2.2.2.2.2.2.2.1 x.1.2.2.2.2.2.2.2.2.1 x.1.2.2.2.2.2.2.2.2.2.1 x.1.2.2.2.2.2.2.2.2.2.2.1 := by kernel_rfl
theorem k176_ok : k176.Ok Tryz.prog := con_fn [k177] ⟨k177_ok, trivial⟩ f176_eq fun _ _ _ hy => (eval_get_ret _).symm.trans hy
abbrev f245u_S0 := (List (XB) × Int × Int × Unit) × (Unit)
def f245u_L0 : f245u_S0 → Out (Round f245u_S0 ((Unit) × (Unit)) ((Int × Unit) × (Unit)))
| ((p0, p1, p2, _), _) =>
 .ite (decide (p2 < p1))
 (.ite (decide (0 ≤ p2))
 (.get (nth p0 (Int.toNat p2)) fun (y1aa, y1ab, y1ac, y1ad, y1ae, y1af, y1ag, y1ah, y1ai, y1aj, y1ak, _) =>
 .get (k176_V y1aa y1ab y1ac y1ad y1ae y1af y1ag y1ah y1ai y1aj y1ak) fun y2 =>
 .ite y2.1.1.1
 (.ret (.ret ((p2, ()), ())))
 (.ret (.again ((p0, p1, (IntKind.i64.wrap (p2 + 1)), ()), ()))))
 .fail)
 (.ret (.out ((), ())))
def f245u_tree (a0 : List XB) : Out (((Int × Unit) × Unit) × (Unit × Unit)) :=
 .get (iter f245u_L0 FUEL ((a0, ((List.length a0 : Nat) : Int), 0, ()), ())) fun y1 => .alt y1 (fun y2 =>
 .ret (((-1, ()), ()), ((), ()))) (fun y3 =>
 .ret (((y3.1.1, ()), ()), ((), ())))
def f245u_A : Nat → Option LoopAnn := fun n => annOf [(0, ⟨⟨[.ro tyQ (some 0), .fn 176 []] ++ dd 5 ++ [.i .i64, .i .i64] ++ dd 10, []⟩, ⟨dd 19, []⟩, some ⟨dd 4 ++ [.i .i64] ++ dd 14, []⟩, false⟩)] n
def k245u_V := fun a0 => (f245u_tree a0).eval
def k245u : Con := { f := 245, lend := true, its := [⟨false, false, [.ro tyQ]⟩], lay := [none, some (176, 0)], rs := [⟨false, false, [.i .i64]⟩], F := fun x => .get (k245u_V x.1.1) fun y => .ret y }
theorem f245u_eq (x : itemsD k245u.its) : bo [k176] f245u_A Tryz.f245 k245u [.tmp 4] x = f245u_tree x.1.1 := by kernel_rfl
theorem k245u_ok : k245u.Ok Tryz.prog := con_fn [k176] ⟨k176_ok, trivial⟩ f245u_eq fun _ _ _ hy => (eval_get_ret _).symm.trans hy
def f175u_tree (a0 : List XB) : Out (((Bool × Unit) × Unit) × (Unit × Unit)) :=
 .get (k245u_V a0) fun y1 =>
 .ret ((((decide (y1.1.1.1 ≥ (0 : Int))), ()), ()), ((), ()))
def k175u_V := fun a0 => (f175u_tree a0).eval
def k175u : Con := { f := 175, lend := true, its := [⟨false, false, [.ro tyQ]⟩], lay := [none, some (176, 0)], rs := [⟨false, false, [.b]⟩], F := fun x => .get (k175u_V x.1.1) fun y => .ret y }
theorem f175u_eq (x : itemsD k175u.its) : bo [k245u] (fun _ => none) Tryz.f175 k175u [.tmp 4] x = f175u_tree x.1.1 := by kernel_rfl
theorem k175u_ok : k175u.Ok Tryz.prog := con_fn [k245u] ⟨k245u_ok, trivial⟩ f175u_eq fun _ _ _ hy => (eval_get_ret _).symm.trans hy
def f179_tree (a0 : Bool) (a1 : Int) (a2 : Int) (a3 : Int) (a4 : Int) : Out (((Bool × Unit) × Unit) × (Unit × Unit)) :=
 .ite ((!a0) == true)
 (.ret ((((!((a0 == false) && ((a1 == 0) && ((a2 == 0) && ((a3 == 0) && ((a4 == 0) && true)))))), ()), ()), ((), ())))
 (.ret (((false, ()), ()), ((), ())))
def k179_V := fun a0 a1 a2 a3 a4 => (f179_tree a0 a1 a2 a3 a4).eval
def k179 : Con := { f := 179, lend := true, its := [⟨false, true, [.b, .i .i64, .i .i64, .i .i64, .i .i64]⟩], lay := [none], rs := [⟨false, false, [.b]⟩], F := fun x => .get (k179_V x.1.1 x.1.2.1 x.1.2.2.1 x.1.2.2.2.1 x.1.2.2.2.2.1) fun y => .ret y }
theorem f179_eq (x : itemsD k179.its) : bo [] (fun _ => none) Tryz.f179 k179 [.tmp 2] x = f179_tree x.1.1 x.1.2.1 x.1.2.2.1 x.1.2.2.2.1 x.1.2.2.2.2.1 := by kernel_rfl
theorem k179_ok : k179.Ok Tryz.prog := con_fn [] trivial f179_eq fun _ _ _ hy => (eval_get_ret _).symm.trans hy
abbrev f246u_S0 := (List (XF) × Int × Int × Unit) × (Unit)
def f246u_L0 : f246u_S0 → Out (Round f246u_S0 ((Unit) × (Unit)) ((Int × Unit) × (Unit)))
| ((p0, p1, p2, _), _) =>
 .ite (decide (p2 < p1))
 (.ite (decide (0 ≤ p2))
 (.get (nth p0 (Int.toNat p2)) fun y1 =>
 .get (k179_V y1.1 y1.2.1 y1.2.2.1 y1.2.2.2.1 y1.2.2.2.2.1) fun y2 =>
 .ite y2.1.1.1
 (.ret (.ret ((p2, ()), ())))
 (.ret (.again ((p0, p1, (IntKind.i64.wrap (p2 + 1)), ()), ()))))
 .fail)
 (.ret (.out ((), ())))
def f246u_tree (a0 : List XF) : Out (((Int × Unit) × Unit) × (Unit × Unit)) :=
 .get (iter f246u_L0 FUEL ((a0, ((List.length a0 : Nat) : Int), 0, ()), ())) fun y1 => .alt y1 (fun y2 =>
 .ret (((-1, ()), ()), ((), ()))) (fun y3 =>
 .ret (((y3.1.1, ()), ()), ((), ())))
def f246u_A : Nat → Option LoopAnn := fun n => annOf [(0, ⟨⟨[.ro tyS (some 0), .fn 179 []] ++ dd 5 ++ [.i .i64, .i .i64] ++ dd 10, []⟩, ⟨dd 19, []⟩, some ⟨dd 4 ++ [.i .i64] ++ dd 14, []⟩, false⟩)] n
def k246u_V := fun a0 => (f246u_tree a0).eval
def k246u : Con := { f := 246, lend := true, its := [⟨false, false, [.ro tyS]⟩], lay := [none, some (179, 0)], rs := [⟨false, false, [.i .i64]⟩], F := fun x => .get (k246u_V x.1.1) fun y => .ret y }
theorem f246u_eq (x : itemsD k246u.its) : bo [k179] f246u_A Tryz.f246 k246u [.tmp 4] x = f246u_tree x.1.1 := by kernel_rfl
theorem k246u_ok : k246u.Ok Tryz.prog := con_fn [k179] ⟨k179_ok, trivial⟩ f246u_eq fun _ _ _ hy => (eval_get_ret _).symm.trans hy
def f178u_tree (a0 : List XF) : Out (((Bool × Unit) × Unit) × (Unit × Unit)) :=
 .get (k246u_V a0) fun y1 =>
 .ret ((((decide (y1.1.1.1 ≥ (0 : Int))), ()), ()), ((), ()))
def k178u_V := fun a0 => (f178u_tree a0).eval
def k178u : Con := { f := 178, lend := true, its := [⟨false, false, [.ro tyS]⟩], lay := [none, some (179, 0)], rs := [⟨false, false, [.b]⟩], F := fun x => .get (k178u_V x.1.1) fun y => .ret y }
theorem f178u_eq (x : itemsD k178u.its) : bo [k246u] (fun _ => none) Tryz.f178 k178u [.tmp 4] x = f178u_tree x.1.1 := by kernel_rfl
theorem k178u_ok : k178u.Ok Tryz.prog := con_fn [k246u] ⟨k246u_ok, trivial⟩ f178u_eq fun _ _ _ hy => (eval_get_ret _).symm.trans hy
def f181_tree (a0 : Bool) (a1 : List Int) (a2 : Int) (a3 : Int) : Out (((Bool × Unit) × Unit) × (Unit × Unit)) :=
 .get (k174_V a0 a1 a2 a3 (4 : Int)) fun y1 =>
 .ite ((!y1.1.1.1) == false)
 (.ite ((!a0) == true)
 (.ite (((a2 != 0)) == false)
 (.ret (((((a3 != 0)), ()), ()), ((), ())))
 (.ret (((true, ()), ()), ((), ()))))
 (.ret (((false, ()), ()), ((), ()))))
 (.ret (((true, ()), ()), ((), ())))
def k181_V := fun a0 a1 a2 a3 => (f181_tree a0 a1 a2 a3).eval
def k181 : Con := { f := 181, lend := true, its := [⟨false, true, [.b, .ro tyI, .i .i64, .i .i64]⟩], lay := [none], rs := [⟨false, false, [.b]⟩], F := fun x => .get (k181_V x.1.1 x.1.2.1 x.1.2.2.1 x.1.2.2.2.1) fun y => .ret y }
theorem f181_eq (x : itemsD k181.its) : bo [k174] (fun _ => none) Tryz.f181 k181 [.tmp 2] x = f181_tree x.1.1 x.1.2.1 x.1.2.2.1 x.1.2.2.2.1 := by kernel_rfl
theorem k181_ok : k181.Ok Tryz.prog := con_fn [k174] ⟨k174_ok, trivial⟩ f181_eq fun _ _ _ hy => (eval_get_ret _).symm.trans hy
abbrev f247u_S0 := (List ((Bool × XE)) × Int × Int × Unit) × (Unit)
def f247u_L0 : f247u_S0 → Out (Round f247u_S0 ((Unit) × (Unit)) ((Int × Unit) × (Unit)))
| ((p0, p1, p2, _), _) =>
 .ite (decide (p2 < p1))
 (.ite (decide (0 ≤ p2))
 (.get (nth p0 (Int.toNat p2)) fun y1 =>
 .get (k181_V y1.1 y1.2.1 y1.2.2.1 y1.2.2.2.1) fun y2 =>
 .ite y2.1.1.1
 (.ret (.ret ((p2, ()), ())))
 (.ret (.again ((p0, p1, (IntKind.i64.wrap (p2 + 1)), ()), ()))))
 .fail)
 (.ret (.out ((), ())))
def f247u_tree (a0 : List (Bool × XE)) : Out (((Int × Unit) × Unit) × (Unit × Unit)) :=
 .get (iter f247u_L0 FUEL ((a0, ((List.length a0 : Nat) : Int), 0, ()), ())) fun y1 => .alt y1 (fun y2 =>
 .ret (((-1, ()), ()), ((), ()))) (fun y3 =>
 .ret (((y3.1.1, ()), ()), ((), ())))
def f247u_A : Nat → Option LoopAnn := fun n => annOf [(0, ⟨⟨[.ro tyR (some 0), .fn 181 []] ++ dd 5 ++ [.i .i64, .i .i64] ++ dd 10, []⟩, ⟨dd 19, []⟩, some ⟨dd 4 ++ [.i .i64] ++ dd 14, []⟩, false⟩)] n
def k247u_V := fun a0 => (f247u_tree a0).eval
def k247u : Con := { f := 247, lend := true, its := [⟨false, false, [.ro tyR]⟩], lay := [none, some (181, 0)], rs := [⟨false, false, [.i .i64]⟩], F := fun x => .get (k247u_V x.1.1) fun y => .ret y }
theorem f247u_eq (x : itemsD k247u.its) : bo [k181] f247u_A Tryz.f247 k247u [.tmp 4] x = f247u_tree x.1.1 := by kernel_rfl
theorem k247u_ok : k247u.Ok Tryz.prog := con_fn [k181] ⟨k181_ok, trivial⟩ f247u_eq fun _ _ _ hy => (eval_get_ret _).symm.trans hy
def f180u_tree (a0 : List (Bool × XE)) : Out (((Bool × Unit) × Unit) × (Unit × Unit)) :=
 .get (k247u_V a0) fun y1 =>
 .ret ((((decide (y1.1.1.1 ≥ (0 : Int))), ()), ()), ((), ()))
def k180u_V := fun a0 => (f180u_tree a0).eval
def k180u : Con := { f := 180, lend := true, its := [⟨false, false, [.ro tyR]⟩], lay := [none, some (181, 0)], rs := [⟨false, false, [.b]⟩], F := fun x => .get (k180u_V x.1.1) fun y => .ret y }
theorem f180u_eq (x : itemsD k180u.its) : bo [k247u] (fun _ => none) Tryz.f180 k180u [.tmp 4] x = f180u_tree x.1.1 := by kernel_rfl
theorem k180u_ok : k180u.Ok Tryz.prog := con_fn [k247u] ⟨k247u_ok, trivial⟩ f180u_eq fun _ _ _ hy => (eval_get_ret _).symm.trans hy
def f183_tree (a0 : Bool) (a1 : List Int) : Out (((Bool × Unit) × Unit) × (Unit × Unit)) :=
 .ite ((!a0) == true)
 (.ret (((((((List.length a1 : Nat) : Int) != 0)), ()), ()), ((), ())))
 (.ret (((false, ()), ()), ((), ())))
def k183_V := fun a0 a1 => (f183_tree a0 a1).eval
def k183 : Con := { f := 183, lend := true, its := [⟨false, true, [.b, .ro tyI]⟩], lay := [none], rs := [⟨false, false, [.b]⟩], F := fun x => .get (k183_V x.1.1 x.1.2.1) fun y => .ret y }
theorem f183_eq (x : itemsD k183.its) : bo [] (fun _ => none) Tryz.f183 k183 [.tmp 2] x = f183_tree x.1.1 x.1.2.1 := by kernel_rfl
theorem k183_ok : k183.Ok Tryz.prog := con_fn [] trivial f183_eq fun _ _ _ hy => (eval_get_ret _).symm.trans hy
abbrev f248u_S0 := (List (XK) × Int × Int × Unit) × (Unit)
def f248u_L0 : f248u_S0 → Out (Round f248u_S0 ((Unit) × (Unit)) ((Int × Unit) × (Unit)))
| ((p0, p1, p2, _), _) =>
 .ite (decide (p2 < p1))
 (.ite (decide (0 ≤ p2))
 (.get (nth p0 (Int.toNat p2)) fun y1 =>
 .get (k183_V y1.1 y1.2.1) fun y2 =>
 .ite y2.1.1.1
 (.ret (.ret ((p2, ()), ())))
 (.ret (.again ((p0, p1, (IntKind.i64.wrap (p2 + 1)), ()), ()))))
 .fail)
 (.ret (.out ((), ())))
def f248u_tree (a0 : List XK) : Out (((Int × Unit) × Unit) × (Unit × Unit)) :=
 .get (iter f248u_L0 FUEL ((a0, ((List.length a0 : Nat) : Int), 0, ()), ())) fun y1 => .alt y1 (fun y2 =>
 .ret (((-1, ()), ()), ((), ()))) (fun y3 =>
 .ret (((y3.1.1, ()), ()), ((), ())))
def f248u_A : Nat → Option LoopAnn := fun n => annOf [(0, ⟨⟨[.ro tyT (some 0), .fn 183 []] ++ dd 5 ++ [.i .i64, .i .i64] ++ dd 10, []⟩, ⟨dd 19, []⟩, some ⟨dd 4 ++ [.i .i64] ++ dd 14, []⟩, false⟩)] n
def k248u_V := fun a0 => (f248u_tree a0).eval
def k248u : Con := { f := 248, lend := true, its := [⟨false, false, [.ro tyT]⟩], lay := [none, some (183, 0)], rs := [⟨false, false, [.i .i64]⟩], F := fun x => .get (k248u_V x.1.1) fun y => .ret y }
theorem f248u_eq (x : itemsD k248u.its) : bo [k183] f248u_A Tryz.f248 k248u [.tmp 4] x = f248u_tree x.1.1 := by kernel_rfl
theorem k248u_ok : k248u.Ok Tryz.prog := con_fn [k183] ⟨k183_ok, trivial⟩ f248u_eq fun _ _ _ hy => (eval_get_ret _).symm.trans hy
def f182u_tree (a0 : List XK) : Out (((Bool × Unit) × Unit) × (Unit × Unit)) :=
 .get (k248u_V a0) fun y1 =>
 .ret ((((decide (y1.1.1.1 ≥ (0 : Int))), ()), ()), ((), ()))
def k182u_V := fun a0 => (f182u_tree a0).eval
def k182u : Con := { f := 182, lend := true, its := [⟨false, false, [.ro tyT]⟩], lay := [none, some (183, 0)], rs := [⟨false, false, [.b]⟩], F := fun x => .get (k182u_V x.1.1) fun y => .ret y }
theorem f182u_eq (x : itemsD k182u.its) : bo [k248u] (fun _ => none) Tryz.f182 k182u [.tmp 4] x = f182u_tree x.1.1 := by kernel_rfl
theorem k182u_ok : k182u.Ok Tryz.prog := con_fn [k248u] ⟨k248u_ok, trivial⟩ f182u_eq fun _ _ _ hy => (eval_get_ret _).symm.trans hy
def f82_tree (a0 : Int) (a1 : Int) (a2 : List (List InsD)) (a3 : List XB) (a4 : List Int) (a5 : List Bool) (a6 : List XF) (a7 : List (Bool × XE)) (a8 : List XK) (a9 : Bool) (a10 : List Int) (a11 : Int) (a12 : Int) (a13 : List Int) : Out (((Bool × Unit) × Unit) × (Unit × Unit)) :=
 .ite (((((List.length a3 : Nat) : Int) != 6)) == false)
 (.ite (((((List.length a4 : Nat) : Int) != 64)) == false)
 (.get (k173_V a5) fun y1 =>
 .ite ((!y1.1.1.1) == false)
 (.ite (((((List.length a6 : Nat) : Int) != 8)) == false)
 (.ite (((((List.length a7 : Nat) : Int) != 3)) == false)
 (.ite (((((List.length a8 : Nat) : Int) != 6)) == false)
 (.get (k174_V a9 a10 a11 a12 (6 : Int)) fun y2 =>
 .ite (!y2.1.1.1)
 (.ret (((false, ()), ()), ((), ())))
 (.get (k175u_V a3) fun y3 =>
 .ite y3.1.1.1
 (.ret (((false, ()), ()), ((), ())))
 (.get (k178u_V a6) fun y4 =>
 .ite y4.1.1.1
 (.ret (((false, ()), ()), ((), ())))
 (.get (k180u_V a7) fun y5 =>
 .ite y5.1.1.1
 (.ret (((false, ()), ()), ((), ())))
 (.get (k182u_V a8) fun y6 =>
 .ret ((((!y6.1.1.1), ()), ()), ((), ())))))))
 (.ret (((false, ()), ()), ((), ()))))
 (.ret (((false, ()), ()), ((), ()))))
 (.ret (((false, ()), ()), ((), ()))))
 (.ret (((false, ()), ()), ((), ()))))
 (.ret (((false, ()), ()), ((), ()))))
 (.ret (((false, ()), ()), ((), ())))
def k82_V := fun a0 a1 a2 a3 a4 a5 a6 a7 a8 a9 a10 a11 a12 a13 => (f82_tree a0 a1 a2 a3 a4 a5 a6 a7 a8 a9 a10 a11 a12 a13).eval
def k82 : Con := { f := 82, lend := true, its := [⟨false, true, [.i .i64, .i .i64, .ro (.sl tyN), .ro tyQ, .ro tyI, .ro .bool, .ro tyS, .ro tyR, .ro tyT, .b, .ro tyI, .i .i64, .i .i64, .ro tyI]⟩], lay := [none], rs := [⟨false, false, [.b]⟩], F := fun x => .get (k82_V x.1.1 x.1.2.1 x.1.2.2.1 x.1.2.2.2.1 x.1.2.2.2.2.1 x.1.2.2.2.2.2.1 x.1.2.2.2.2.2.2.1 x.1.2.2.2.2.2.2.2.1 x.1.2.2.2.2.2.2.2.2.1 x.1.2.2.2.2.2.2.2.2.2.1 x.1.2.2.2.2.2.2.2.2.2.2.1 x.1.2.2.2.2.2.2.2.2.2.2.2.1 x.1.2.2.2.2.2.2.2.2.2.2.2.2.1 x.1.2.2.2.2.2.2.2.2.2.2.2.2.2.1) fun y => .ret y }
theorem f82_eq (x : itemsD k82.its) : bo [k173, k174, k175u, k178u, k180u, k182u] (fun _ => none) Tryz.f82 k82 [.tmp 2] x = f82_tree x.1.1 x.1.2.1 x.1.2.2.1 x.1.2.2.2.1 x.1.2.2.2.2.1 x.1.2.2.2.2.2.1 x.1.2.2.2.2.2.2.1 x.1.2.2.2.2.2.2.2.1 x.1.2.2.2.2.2.2.2.2.1 x.1.2.2.2.2.2.2.2.2.2.1 x.1.2.2.2.2.2.2.2.2.2.2.1 x.1.2.2.2.2.2.2.2.2.2.2.2.1 x.1.2.2.2.2.2.2.2.2.2.2.2.2.1 x.1.2.2.2.2.2.2.2.2.2.2.2.2.2.1 := by kernel_rfl
theorem k82_ok : k82.Ok Tryz.prog := con_fn [k173, k174, k175u, k178u, k180u, k182u] ⟨k173_ok, k174_ok, k175u_ok, k178u_ok, k180u_ok, k182u_ok, trivial⟩ f82_eq fun _ _ _ hy => (eval_get_ret _).symm.trans hy
abbrev f83_S0 := (Int × Int × Unit) × ((Bool × XE) × List Int × Unit)
def f83_L0 : f83_S0 → Out (Round f83_S0 ((Unit) × (List Int × Unit)) Empty)
| ((p0, p1, _), (p2, p3, p4, p5, _), p6, _) =>
 .ite (decide (p1 < p0))
 (.ite (((List.length p3 : Nat) : Int) == 0)
 .fail
 (.ite (decide (0 ≤ (Int.tmod (IntKind.i64.wrap (p4 + p1)) ((List.length p3 : Nat) : Int))))
 (.get (nth p3 (Int.toNat (Int.tmod (IntKind.i64.wrap (p4 + p1)) ((List.length p3 : Nat) : Int)))) fun y1 =>
 .ite (decide (List.length p6 + List.length ([y1] : List Int) ≤ LIM))
 (.ret (.again ((p0, (IntKind.i64.wrap (p1 + 1)), ()), ((p2, p3, p4, p5, ()), (p6 ++ ([y1] : List Int)), ()))))
 .fail)
 .fail))
 (.ret (.out ((), (p6, ()))))
def f83_tree (a0 : Bool) (a1 : List Int) (a2 : Int) (a3 : Int) : Out (((List Int × Unit) × Unit) × (Unit × Unit)) :=
 .get (iter1 f83_L0 FUEL ((a3, 0, ()), ((a0, a1, a2, a3, ()), ([] : List Int), ()))) fun y1 =>
 .ret (((y1.2.1, ()), ()), ((), ()))
abbrev f83_s0 : List (Nat × VSlot) := [(64000000, .arr tyI)]
def f83_A : Nat → Option LoopAnn := fun n => annOf [(0, ⟨⟨[.dead, .vptr 64000000 0, .dead, .srf 64000001, .dead, .dead, .i .i64, .i .i64] ++ dd 19, [(64000000, .var [.b, .ro tyI (some 0), .i .i64, .i .i64]), (64000001, .arr tyI)]⟩, ⟨[.dead, .dead, .dead, .srf 64000000] ++ dd 23, f83_s0⟩, none, false⟩)] n
def k83_V := fun a0 a1 a2 a3 => (f83_tree a0 a1 a2 a3).eval
def k83 : Con := { f := 83, lend := true, its := [⟨false, true, [.b, .ro tyI, .i .i64, .i .i64]⟩], lay := [none], rs := [⟨false, false, [.own tyI]⟩], F := fun x => .get (k83_V x.1.1 x.1.2.1 x.1.2.2.1 x.1.2.2.2.1) fun y => .ret y }
theorem f83_eq (x : itemsD k83.its) : bo [] f83_A Tryz.f83 k83 [.tmp 2] x = f83_tree x.1.1 x.1.2.1 x.1.2.2.1 x.1.2.2.2.1 := by kernel_rfl
theorem k83_ok : k83.Ok Tryz.prog := con_fn [] trivial f83_eq fun _ _ _ hy => (eval_get_ret _).symm.trans hy
abbrev f85_S0 := (List Int × XE) × (List Int × Unit)
def f85_L0 : f85_S0 → Out (Round f85_S0 ((Unit) × (List Int × Unit)) Empty)
| ((p0, p1, p2, p3, _), p4, _) =>
 .ite (decide (p3 < p2))
 (.ite (decide (0 ≤ p3))
 (.get (nth p1 (Int.toNat p3)) fun y1 =>
 .ite (decide (0 ≤ (frameAt y1).1 ∧ (frameAt y1).1 ≤ (frameAt y1).2 ∧ (frameAt y1).2 ≤ ((List.length p0 : Nat) : Int)))
 (.ite (decide (List.length p4 + List.length (List.take (Int.toNat (frameAt y1).2 - Int.toNat (frameAt y1).1) (List.drop (Int.toNat (frameAt y1).1) p0)) ≤ LIM))
 (.ret (.again ((p0, p1, p2, (IntKind.i64.wrap (p3 + 1)), ()), ((p4 ++ (List.take (Int.toNat (frameAt y1).2 - Int.toNat (frameAt y1).1) (List.drop (Int.toNat (frameAt y1).1) p0))), ()))))
 .fail)
 .fail)
 .fail)
 (.ret (.out ((), (p4, ()))))
def f85_tree (a0 : List Int) (a1 : List Int) : Out (((List Int × Unit) × Unit) × XI) :=
 .get (iter1 f85_L0 FUEL ((a0, a1, ((List.length a1 : Nat) : Int), 0, ()), (([] : List Int), ()))) fun y1 =>
 .ret (((y1.2.1, ()), ()), ((), (), ()))
def f85_A : Nat → Option LoopAnn := fun n => annOf [(0, ⟨⟨[.ro tyI (some 0)] ++ dd 4 ++ [.srf 64000000, .dead, .dead, .ro tyI (some 1), .i .i64, .i .i64] ++ dd 10, f83_s0⟩, ⟨dd 5 ++ [.srf 64000000] ++ dd 15, f83_s0⟩, none, false⟩)] n
def k85_V := fun a0 a1 => (f85_tree a0 a1).eval
def k85 : Con := { f := 85, lend := true, its := [⟨false, false, [.ro tyI]⟩, ⟨false, false, [.ro tyI]⟩], lay := [none, none], rs := [⟨false, false, [.own tyI]⟩], F := fun x => .get (k85_V x.1.1 x.2.1.1) fun y => .ret y }
theorem f85_eq (x : itemsD k85.its) : bo [k184] f85_A Tryz.f85 k85 [.tmp 4] x = f85_tree x.1.1 x.2.1.1 := by kernel_rfl
theorem k85_ok : k85.Ok Tryz.prog := con_fn [k184] ⟨k184_ok, trivial⟩ f85_eq fun _ _ _ hy => (eval_get_ret _).symm.trans hy
def f186_tree (a0 : Int) : Out (((Bool × Unit) × Unit) × (Unit × Unit)) :=
 .get (k187_V a0) fun y1 =>
 .ret ((((!y1.1.1.1), ()), ()), ((), ()))
def k186_V := fun a0 => (f186_tree a0).eval
def k186 : Con := { f := 186, lend := true, its := [⟨false, false, [.i .i64]⟩], lay := [none], rs := [⟨false, false, [.b]⟩], F := fun x => .get (k186_V x.1.1) fun y => .ret y }
theorem f186_eq (x : itemsD k186.its) : bo [k187] (fun _ => none) Tryz.f186 k186 [.tmp 2] x = f186_tree x.1.1 := by kernel_rfl
theorem k186_ok : k186.Ok Tryz.prog := con_fn [k187] ⟨k187_ok, trivial⟩ f186_eq fun _ _ _ hy => (eval_get_ret _).symm.trans hy
abbrev f185v_S0 := XE × (Unit)
def f185v_L0 : f185v_S0 → Out (Round f185v_S0 ((Unit) × (Unit)) ((Int × Unit) × (Unit)))
| ((p0, p1, p2, _), _) =>
 .ite (decide (p2 < p1))
 (.ite (decide (0 ≤ p2))
 (.get (nth p0 (Int.toNat p2)) fun y1 =>
 .get (k186_V y1) fun y2 =>
 .ite y2.1.1.1
 (.ret (.ret ((p2, ()), ())))
 (.ret (.again ((p0, p1, (IntKind.i64.wrap (p2 + 1)), ()), ()))))
 .fail)
 (.ret (.out ((), ())))
def f185v_tree (a0 : List Int) : Out (((Int × Unit) × Unit) × (Unit × Unit)) :=
 .get (iter f185v_L0 FUEL ((a0, ((List.length a0 : Nat) : Int), 0, ()), ())) fun y1 => .alt y1 (fun y2 =>
 .ret (((-1, ()), ()), ((), ()))) (fun y3 =>
 .ret (((y3.1.1, ()), ()), ((), ())))
def f185v_A : Nat → Option LoopAnn := fun n => annOf [(0, ⟨⟨[.ro tyI (some 0), .fn 186 []] ++ dd 5 ++ [.i .i64, .i .i64] ++ dd 10, []⟩, ⟨dd 19, []⟩, some ⟨dd 4 ++ [.i .i64] ++ dd 14, []⟩, false⟩)] n
def k185v_V := fun a0 => (f185v_tree a0).eval
def k185v : Con := { f := 185, lend := true, its := [⟨false, false, [.ro tyI]⟩], lay := [none, some (186, 0)], rs := [⟨false, false, [.i .i64]⟩], F := fun x => .get (k185v_V x.1.1) fun y => .ret y }
theorem f185v_eq (x : itemsD k185v.its) : bo [k186] f185v_A Tryz.f185 k185v [.tmp 4] x = f185v_tree x.1.1 := by kernel_rfl
theorem k185v_ok : k185v.Ok Tryz.prog := con_fn [k186] ⟨k186_ok, trivial⟩ f185v_eq fun _ _ _ hy => (eval_get_ret _).symm.trans hy
def f86_tree (a0 : List Int) : Out (((List Int × Unit) × Unit) × (Unit × Unit)) :=
 .get (k185v_V a0) fun y1 =>
 .ite (decide (y1.1.1.1 < 0))
 (.ite (decide (0 ≤ (0 : Int) ∧ (0 : Int) ≤ ((List.length a0 : Nat) : Int) ∧ ((List.length a0 : Nat) : Int) ≤ ((List.length a0 : Nat) : Int)))
 (.get (cloneV (List.drop (Int.toNat (0 : Int)) (List.take (Int.toNat ((List.length a0 : Nat) : Int)) a0))) fun y2 =>
 .ret (((y2, ()), ()), ((), ())))
 .fail)
 (.ite (decide (0 ≤ (0 : Int) ∧ (0 : Int) ≤ y1.1.1.1 ∧ y1.1.1.1 ≤ ((List.length a0 : Nat) : Int)))
 (.get (cloneV (List.drop (Int.toNat (0 : Int)) (List.take (Int.toNat y1.1.1.1) a0))) fun y3 =>
 .ret (((y3, ()), ()), ((), ())))
 .fail)
def k86_V := fun a0 => (f86_tree a0).eval
def k86 : Con := { f := 86, lend := true, its := [⟨false, false, [.ro tyI]⟩], lay := [none], rs := [⟨false, false, [.own tyI]⟩], F := fun x => .get (k86_V x.1.1) fun y => .ret y }
theorem f86_eq (x : itemsD k86.its) : bo [k185v, k84] (fun _ => none) Tryz.f86 k86 [.tmp 2] x = f86_tree x.1.1 := by kernel_rfl
theorem k86_ok : k86.Ok Tryz.prog := con_fn [k185v, k84] ⟨k185v_ok, k84_ok, trivial⟩ f86_eq fun _ _ _ hy => (eval_get_ret _).symm.trans hy
def f97_tree (a0 : Int) (a1 : Int) : Out (((Int × Unit) × Unit) × XI) :=
 .ite (decide (a0 < a1))
 (.ret (((-1, ()), ()), ((), (), ())))
 (.ite (decide (a0 > a1))
 (.ret (((1, ()), ()), ((), (), ())))
 (.ret (((0, ()), ()), ((), (), ()))))
def k97_V := fun a0 a1 => (f97_tree a0 a1).eval
def k97 : Con := { f := 97, lend := true, its := [⟨false, false, [.i .i64]⟩, ⟨false, false, [.i .i64]⟩], lay := [none, none], rs := [⟨false, false, [.i .i64]⟩], F := fun x => .get (k97_V x.1.1 x.2.1.1) fun y => .ret y }
theorem f97_eq (x : itemsD k97.its) : bo [] (fun _ => none) Tryz.f97 k97 [.tmp 4] x = f97_tree x.1.1 x.2.1.1 := by kernel_rfl
theorem k97_ok : k97.Ok Tryz.prog := con_fn [] trivial f97_eq fun _ _ _ hy => (eval_get_ret _).symm.trans hy
abbrev f249u_S2 := InsD × (List ProcD × Unit)
def f249u_L2 : f249u_S2 → Out (Round f249u_S2 ((Int × Int × Int × Unit) × (List ProcD × Unit)) Empty)
| ((p0, p1, p2, p3, _), p4, _) =>
 .ite ((decide (p3 > p0)) == true)
 (.ite (decide (0 ≤ p3 ∧ p3 < ((List.length p4 : Nat) : Int)))
 (.get (nth p4 (Int.toNat p3)) fun y1 =>
 .ite (decide (0 ≤ (IntKind.i64.wrap (p3 - (1 : Int))) ∧ (IntKind.i64.wrap (p3 - (1 : Int))) < ((List.length p4 : Nat) : Int)))
 (.get (nth p4 (Int.toNat (IntKind.i64.wrap (p3 - (1 : Int))))) fun y2 =>
 .fail)
 .fail)
 .fail)
 (.ret (.out ((p0, p1, p2, ()), (p4, ()))))
abbrev f249u_S0 := (Int × Int × Int × Unit) × (List ProcD × Unit)
def f249u_L0 : f249u_S0 → Out (Round f249u_S0 ((Unit) × (List ProcD × Unit)) Empty)
| ((p0, p1, p2, _), p3, _) =>
 .ite (decide (p2 < p1))
 (.get (iter1 f249u_L2 FUEL ((p0, p1, p2, p2, ()), (p3, ()))) fun y1 =>
 .ret (.again ((y1.1.1, y1.1.2.1, (IntKind.i64.wrap (y1.1.2.2.1 + 1)), ()), (y1.2.1, ()))))
 (.ret (.out ((), (p3, ()))))
def f249u_tree (a0 : List ProcD) (a1 : Int) (a2 : Int) : Out ((Unit) × ((List ProcD × Unit) × XI)) :=
 .get (iter1 f249u_L0 FUEL ((a1, a2, (IntKind.i64.wrap (a1 + 1)), ()), (a0, ()))) fun y1 =>
 .ret ((), ((y1.2.1, ()), (), (), ()))
def f249u_A : Nat → Option LoopAnn := fun n => annOf [(0, ⟨⟨[.srf 0, .i .i64, .i .i64, .fn 88 []] ++ dd 4 ++ [.i .i64] ++ dd 44, [(0, .arr tyP)]⟩, ⟨[.srf 0] ++ dd 52, [(0, .arr tyP)]⟩, none, false⟩), (2, ⟨⟨[.srf 0, .i .i64, .i .i64, .fn 88 []] ++ dd 4 ++ [.i .i64, .i .i64] ++ dd 43, [(0, .arr tyP)]⟩, ⟨[.srf 0, .i .i64, .i .i64, .fn 88 []] ++ dd 4 ++ [.i .i64] ++ dd 44, [(0, .arr tyP)]⟩, none, false⟩)] n
def k249u_V := fun a0 a1 a2 => (f249u_tree a0 a1 a2).eval
def k249u : Con := { f := 249, lend := true, its := [⟨false, false, [.mut tyP]⟩, ⟨false, false, [.i .i64]⟩, ⟨false, false, [.i .i64]⟩], lay := [none, none, none, some (88, 0)], rs := [], F := fun x => .get (k249u_V x.1.1 x.2.1.1 x.2.2.1.1) fun y => .ret y }
theorem f249u_eq (x : itemsD k249u.its) : bo [] f249u_A Tryz.f249 k249u [] x = f249u_tree x.1.1 x.2.1.1 x.2.2.1.1 := by kernel_rfl
theorem k249u_ok : k249u.Ok Tryz.prog := con_fn [] trivial f249u_eq fun _ _ _ hy => (eval_get_ret _).symm.trans hy
abbrev f188u_S0 := InsD × (List ProcD × Unit)
def f188u_L0 : f188u_S0 → Out (Round f188u_S0 ((Int × Int × Int × Unit) × (List ProcD × Unit)) Empty)
| ((p0, p1, p2, p3, _), p4, _) =>
 .ite (decide (p3 ≤ p0))
 (.get (k249u_V p4 p2 p3) fun y1 =>
 .ret (.again ((p0, p1, p3, (IntKind.i64.wrap (p3 + p1)), ()), (y1.2.1.1, ()))))
 (.ret (.out ((p0, p1, p2, ()), (p4, ()))))
abbrev f188u_S4 := InsD × (List ProcD × Unit)
def f188u_L4 : f188u_S4 → Out (Round f188u_S4 ((Int × Int × Int × Unit) × (List ProcD × Unit)) Empty)
| ((p0, p1, p2, p3, _), p4, _) =>
 .ite (decide (p3 ≤ p0))
 .fail
 (.ret (.out ((p0, p1, p2, ()), (p4, ()))))
abbrev f188u_S2 := (Int × Int × Unit) × (List ProcD × Unit)
def f188u_L2 : f188u_S2 → Out (Round f188u_S2 ((Unit) × (List ProcD × Unit)) Empty)
| ((p0, p1, _), p2, _) =>
 .ite (decide (p1 < p0))
 (.get (iter1 f188u_L4 FUEL ((p0, p1, 0, (IntKind.i64.wrap ((2 : Int) * p1)), ()), (p2, ()))) fun y1 =>
 .ite (decide ((IntKind.i64.wrap (y1.1.2.2.1 + y1.1.2.1)) < y1.1.1))
 .fail
 (.ret (.again ((y1.1.1, (IntKind.i64.wrap (y1.1.2.1 * (2 : Int))), ()), (y1.2.1, ())))))
 (.ret (.out ((), (p2, ()))))
def f188u_tree (a0 : List ProcD) (a1 : Int) : Out ((Unit) × ((List ProcD × Unit) × Unit × Unit)) :=
 .get (iter1 f188u_L0 FUEL ((a1, 20, 0, 20, ()), (a0, ()))) fun y1 =>
 .get (k249u_V y1.2.1 y1.1.2.2.1 y1.1.1) fun y2 =>
 .get (iter1 f188u_L2 FUEL ((y1.1.1, y1.1.2.1, ()), (y2.2.1.1, ()))) fun y3 =>
 .ret ((), ((y3.2.1, ()), (), ()))
def f188u_A : Nat → Option LoopAnn := fun n => annOf [(0, ⟨⟨[.srf 0, .i .i64, .fn 88 [], .dead, .dead, .dead, .i .i64, .i .i64, .i .i64] ++ dd 54, [(0, .arr tyP)]⟩, ⟨[.srf 0, .i .i64, .fn 88 [], .dead, .dead, .dead, .i .i64, .i .i64] ++ dd 55, [(0, .arr tyP)]⟩, none, false⟩), (2, ⟨⟨[.srf 0, .i .i64, .fn 88 [], .dead, .dead, .dead, .i .i64] ++ dd 56, [(0, .arr tyP)]⟩, ⟨[.srf 0] ++ dd 62, [(0, .arr tyP)]⟩, none, false⟩), (4, ⟨⟨[.srf 0, .i .i64, .fn 88 [], .dead, .dead, .dead, .i .i64, .i .i64, .i .i64] ++ dd 54, [(0, .arr tyP)]⟩, ⟨[.srf 0, .i .i64, .fn 88 [], .dead, .dead, .dead, .i .i64, .i .i64] ++ dd 55, [(0, .arr tyP)]⟩, none, false⟩)] n
def k188u_V := fun a0 a1 => (f188u_tree a0 a1).eval
def k188u : Con := { f := 188, lend := true, its := [⟨false, false, [.mut tyP]⟩, ⟨false, false, [.i .i64]⟩], lay := [none, none, some (88, 0)], rs := [], F := fun x => .get (k188u_V x.1.1 x.2.1.1) fun y => .ret y }
theorem f188u_eq (x : itemsD k188u.its) : bo [k249u] f188u_A Tryz.f188 k188u [] x = f188u_tree x.1.1 x.2.1.1 := by kernel_rfl
theorem k188u_ok : k188u.Ok Tryz.prog := con_fn [k249u] ⟨k249u_ok, trivial⟩ f188u_eq fun _ _ _ hy => (eval_get_ret _).symm.trans hy
def f87u_tree (a0 : List ProcD) : Out ((Unit) × ((List ProcD × Unit) × Unit)) :=
 .get (k188u_V a0 ((List.length a0 : Nat) : Int)) fun y1 =>
 .ret ((), ((y1.2.1.1, ()), ()))
def k87u_V := fun a0 => (f87u_tree a0).eval
def k87u : Con := { f := 87, lend := true, its := [⟨false, false, [.mut tyP]⟩], lay := [none, some (88, 0)], rs := [], F := fun x => .get (k87u_V x.1.1) fun y => .ret y }
theorem f87u_eq (x : itemsD k87u.its) : bo [k188u] (fun _ => none) Tryz.f87 k87u [] x = f87u_tree x.1.1 := by kernel_rfl
theorem k87u_ok : k87u.Ok Tryz.prog := con_fn [k188u] ⟨k188u_ok, trivial⟩ f87u_eq fun _ _ _ hy => (eval_get_ret _).symm.trans hy
abbrev f41_S0 := (List (XB) × Int × Int × Unit) × ((Int × Int × List (List InsD) × List (XB) × List Int × List (Bool) × List (XF) × List ((Bool × XE)) × List (XK) × Bool × List Int × Int × Int × List Int × Unit) × (Int × Int × Unit) × (Int × Int × Unit) × List (List InsD) × List ProcD × List OpenD × List CpuD × List CpuD × List Int × List Int × U7T)
def f41_L0 : f41_S0 → Out (Round f41_S0 ((Unit) × ((Int × Int × List (List InsD) × List (XB) × List Int × List (Bool) × List (XF) × List ((Bool × XE)) × List (XK) × Bool × List Int × Int × Int × List Int × Unit) × (Int × Int × Unit) × (Int × Int × Unit) × List (List InsD) × List ProcD × List OpenD × List CpuD × List CpuD × List Int × List Int × U7T)) Empty)
| ((p0, p1, p2, _), (p3, p4, p5, p6, p7, p8, p9, p10, p11, p12, p13, p14, p15, p16, _), (p17, p18, _), (p19, p20, _), p21, p22, p23, p24, p25, p26, p27, p28, p29, p30, p31, p32, p33, p34, _) =>
 .ite (decide (p2 < p1))
 (.ite (decide (0 ≤ p2))
 (.get (nth p0 (Int.toNat p2)) fun (y1aa, y1ab, y1ac, y1ad, y1ae, y1af, y1ag, y1ah, y1ai, y1aj, y1ak, _) =>
 .ite y1aa
 (.get (cloneV y1ai) fun y2 =>
 .get (k86_V y1aj) fun y3 =>
 .get (k85_V p7 y3.1.1.1) fun y4 =>
 .get (cloneV y1ak) fun y5 =>
 .ite (decide (List.length p29 + List.length ([(y1ab, y1ac, y1ad, y1ae, (y1af, y2, ()), y4.1.1.1, y5, y1ag, y1ah, ())] : List ProcD) ≤ LIM))
 (.ret (.again ((p0, p1, (IntKind.i64.wrap (p2 + 1)), ()), ((p3, p4, p5, p6, p7, p8, p9, p10, p11, p12, p13, p14, p15, p16, ()), (p17, p18, ()), (p19, p20, ()), p21, p22, p23, p24, p25, p26, p27, p28, (p29 ++ ([(y1ab, y1ac, y1ad, y1ae, (y1af, y2, ()), y4.1.1.1, y5, y1ag, y1ah, ())] : List ProcD)), p30, p31, p32, p33, p34, ()))))
 .fail)
 (.ret (.again ((p0, p1, (IntKind.i64.wrap (p2 + 1)), ()), ((p3, p4, p5, p6, p7, p8, p9, p10, p11, p12, p13, p14, p15, p16, ()), (p17, p18, ()), (p19, p20, ()), p21, p22, p23, p24, p25, p26, p27, p28, p29, p30, p31, p32, p33, p34, ())))))
 .fail)
 (.ret (.out ((), ((p3, p4, p5, p6, p7, p8, p9, p10, p11, p12, p13, p14, p15, p16, ()), (p17, p18, ()), (p19, p20, ()), p21, p22, p23, p24, p25, p26, p27, p28, p29, p30, p31, p32, p33, p34, ()))))
abbrev f41_S2 := (List (XF) × Int × Int × Unit) × ((Int × Int × List (List InsD) × List (XB) × List Int × List (Bool) × List (XF) × List ((Bool × XE)) × List (XK) × Bool × List Int × Int × Int × List Int × Unit) × (Int × Int × Unit) × (Int × Int × Unit) × List (List InsD) × List ProcD × List OpenD × List CpuD × List CpuD × List Int × List Int × U7T)
def f41_L2 : f41_S2 → Out (Round f41_S2 ((Unit) × ((Int × Int × List (List InsD) × List (XB) × List Int × List (Bool) × List (XF) × List ((Bool × XE)) × List (XK) × Bool × List Int × Int × Int × List Int × Unit) × (Int × Int × Unit) × (Int × Int × Unit) × List (List InsD) × List ProcD × List OpenD × List CpuD × List CpuD × List Int × List Int × U7T)) Empty)
| ((p0, p1, p2, _), (p3, p4, p5, p6, p7, p8, p9, p10, p11, p12, p13, p14, p15, p16, _), (p17, p18, _), (p19, p20, _), p21, p22, p23, p24, p25, p26, p27, p28, p29, p30, p31, p32, p33, p34, _) =>
 .ite (decide (p2 < p1))
 (.ite (decide (0 ≤ p2))
 (.get (nth p0 (Int.toNat p2)) fun y1 =>
 .ite y1.1
 (.ite (decide (List.length p30 + List.length ([(p2, y1.2.1, y1.2.2.1, y1.2.2.2.1, y1.2.2.2.2.1, ())] : List OpenD) ≤ LIM))
 (.ret (.again ((p0, p1, (IntKind.i64.wrap (p2 + 1)), ()), ((p3, p4, p5, p6, p7, p8, p9, p10, p11, p12, p13, p14, p15, p16, ()), (p17, p18, ()), (p19, p20, ()), p21, p22, p23, p24, p25, p26, p27, p28, p29, (p30 ++ ([(p2, y1.2.1, y1.2.2.1, y1.2.2.2.1, y1.2.2.2.2.1, ())] : List OpenD)), p31, p32, p33, p34, ()))))
 .fail)
 (.ret (.again ((p0, p1, (IntKind.i64.wrap (p2 + 1)), ()), ((p3, p4, p5, p6, p7, p8, p9, p10, p11, p12, p13, p14, p15, p16, ()), (p17, p18, ()), (p19, p20, ()), p21, p22, p23, p24, p25, p26, p27, p28, p29, p30, p31, p32, p33, p34, ())))))
 .fail)
 (.ret (.out ((), ((p3, p4, p5, p6, p7, p8, p9, p10, p11, p12, p13, p14, p15, p16, ()), (p17, p18, ()), (p19, p20, ()), p21, p22, p23, p24, p25, p26, p27, p28, p29, p30, p31, p32, p33, p34, ()))))
abbrev f41_S4 := (List ((Bool × XE)) × Int × Int × Unit) × ((Int × Int × List (List InsD) × List (XB) × List Int × List (Bool) × List (XF) × List ((Bool × XE)) × List (XK) × Bool × List Int × Int × Int × List Int × Unit) × (Int × Int × Unit) × (Int × Int × Unit) × List (List InsD) × List ProcD × List OpenD × List CpuD × List CpuD × List Int × List Int × U7T)
def f41_L4 : f41_S4 → Out (Round f41_S4 ((Unit) × ((Int × Int × List (List InsD) × List (XB) × List Int × List (Bool) × List (XF) × List ((Bool × XE)) × List (XK) × Bool × List Int × Int × Int × List Int × Unit) × (Int × Int × Unit) × (Int × Int × Unit) × List (List InsD) × List ProcD × List OpenD × List CpuD × List CpuD × List Int × List Int × U7T)) Empty)
| ((p0, p1, p2, _), (p3, p4, p5, p6, p7, p8, p9, p10, p11, p12, p13, p14, p15, p16, _), (p17, p18, _), (p19, p20, _), p21, p22, p23, p24, p25, p26, p27, p28, p29, p30, p31, p32, p33, p34, _) =>
 .ite (decide (p2 < p1))
 (.ite (decide (0 ≤ p2))
 (.get (nth p0 (Int.toNat p2)) fun y1 =>
 .ite y1.1
 (.get (k83_V y1.1 y1.2.1 y1.2.2.1 y1.2.2.2.1) fun y2 =>
 .ite (decide (List.length p31 + List.length ([(p2, y2.1.1.1, ())] : List CpuD) ≤ LIM))
 (.ret (.again ((p0, p1, (IntKind.i64.wrap (p2 + 1)), ()), ((p3, p4, p5, p6, p7, p8, p9, p10, p11, p12, p13, p14, p15, p16, ()), (p17, p18, ()), (p19, p20, ()), p21, p22, p23, p24, p25, p26, p27, p28, p29, p30, (p31 ++ ([(p2, y2.1.1.1, ())] : List CpuD)), p32, p33, p34, ()))))
 .fail)
 (.ret (.again ((p0, p1, (IntKind.i64.wrap (p2 + 1)), ()), ((p3, p4, p5, p6, p7, p8, p9, p10, p11, p12, p13, p14, p15, p16, ()), (p17, p18, ()), (p19, p20, ()), p21, p22, p23, p24, p25, p26, p27, p28, p29, p30, p31, p32, p33, p34, ())))))
 .fail)
 (.ret (.out ((), ((p3, p4, p5, p6, p7, p8, p9, p10, p11, p12, p13, p14, p15, p16, ()), (p17, p18, ()), (p19, p20, ()), p21, p22, p23, p24, p25, p26, p27, p28, p29, p30, p31, p32, p33, p34, ()))))
abbrev f41_S6 := (List (XK) × Int × Int × Unit) × ((Int × Int × Unit) × (Int × Int × Unit) × List (List InsD) × List ProcD × List OpenD × List CpuD × List CpuD × List Int × List Int × U7T)
def f41_L6 : f41_S6 → Out (Round f41_S6 ((Unit) × ((Int × Int × Unit) × (Int × Int × Unit) × List (List InsD) × List ProcD × List OpenD × List CpuD × List CpuD × List Int × List Int × U7T)) Empty)
| ((p0, p1, p2, _), (p3, p4, _), (p5, p6, _), p7, p8, p9, p10, p11, p12, p13, p14, p15, p16, p17, p18, p19, p20, _) =>
 .ite (decide (p2 < p1))
 (.ite (decide (0 ≤ p2))
 (.get (nth p0 (Int.toNat p2)) fun y1 =>
 .ite y1.1
 (.get (cloneV y1.2.1) fun y2 =>
 .ite (decide (List.length p18 + List.length ([(p2, y2, ())] : List CpuD) ≤ LIM))
 (.ret (.again ((p0, p1, (IntKind.i64.wrap (p2 + 1)), ()), ((p3, p4, ()), (p5, p6, ()), p7, p8, p9, p10, p11, p12, p13, p14, p15, p16, p17, (p18 ++ ([(p2, y2, ())] : List CpuD)), p19, p20, ()))))
 .fail)
 (.ret (.again ((p0, p1, (IntKind.i64.wrap (p2 + 1)), ()), ((p3, p4, ()), (p5, p6, ()), p7, p8, p9, p10, p11, p12, p13, p14, p15, p16, p17, p18, p19, p20, ())))))
 .fail)
 (.ret (.out ((), ((p3, p4, ()), (p5, p6, ()), p7, p8, p9, p10, p11, p12, p13, p14, p15, p16, p17, p18, p19, p20, ()))))
def f41_tree (a0 : Int) (a1 : Int) (a2 : List (List InsD)) (a3 : List XB) (a4 : List Int) (a5 : List Bool) (a6 : List XF) (a7 : List (Bool × XE)) (a8 : List XK) (a9 : Bool) (a10 : List Int) (a11 : Int) (a12 : Int) (a13 : List Int) : Out ((UnixD × Unit) × (Unit × Unit)) :=
 .get (k82_V a0 a1 a2 a3 a4 a5 a6 a7 a8 a9 a10 a11 a12 a13) fun y1 =>
 .ite (!y1.1.1.1)
 (.ret (((0, 0, ([] : List (List InsD)), ([] : List ProcD), ([] : List OpenD), ([] : List CpuD), ([] : List CpuD), ([] : List Int), ([] : List Int), ()), ()), ((), ())))
 (.get (k30_V a2) fun y2 =>
 .get (k83_V a9 a10 a11 a12) fun y3 =>
 .get (cloneV a13) fun y4 =>
 .get (iter1 f41_L0 FUEL ((a3, ((List.length a3 : Nat) : Int), 0, ()), ((a0, a1, a2, a3, a4, a5, a6, a7, a8, a9, a10, a11, a12, a13, ()), (0, 0, ()), (a0, a1, ()), ([] : List (List InsD)), ([] : List ProcD), ([] : List OpenD), ([] : List CpuD), ([] : List CpuD), ([] : List Int), ([] : List Int), y2.1.1.1, ([] : List ProcD), ([] : List OpenD), ([] : List CpuD), ([] : List CpuD), y3.1.1.1, y4, ()))) fun (_, (y5aa, y5ab, y5ac, y5ad, y5ae, y5af, y5ag, y5ah, y5ai, y5aj, y5ak, y5al, y5am, y5an, _), (y5ao, y5ap, _), (y5aq, y5ar, _), y5as, y5at, y5au, y5av, y5aw, y5ax, y5ay, y5az, y5ba, y5bb, y5bc, y5bd, y5be, y5bf, _) =>
 .get (k87u_V y5ba) fun y6 =>
 .get (iter1 f41_L2 FUEL ((y5ag, ((List.length y5ag : Nat) : Int), 0, ()), ((y5aa, y5ab, y5ac, y5ad, y5ae, y5af, y5ag, y5ah, y5ai, y5aj, y5ak, y5al, y5am, y5an, ()), (y5ao, y5ap, ()), (y5aq, y5ar, ()), y5as, y5at, y5au, y5av, y5aw, y5ax, y5ay, y5az, y6.2.1.1, y5bb, y5bc, y5bd, y5be, y5bf, ()))) fun (_, (y7aa, y7ab, y7ac, y7ad, y7ae, y7af, y7ag, y7ah, y7ai, y7aj, y7ak, y7al, y7am, y7an, _), (y7ao, y7ap, _), (y7aq, y7ar, _), y7as, y7at, y7au, y7av, y7aw, y7ax, y7ay, y7az, y7ba, y7bb, y7bc, y7bd, y7be, y7bf, _) =>
 .get (iter1 f41_L4 FUEL ((y7ah, ((List.length y7ah : Nat) : Int), 0, ()), ((y7aa, y7ab, y7ac, y7ad, y7ae, y7af, y7ag, y7ah, y7ai, y7aj, y7ak, y7al, y7am, y7an, ()), (y7ao, y7ap, ()), (y7aq, y7ar, ()), y7as, y7at, y7au, y7av, y7aw, y7ax, y7ay, y7az, y7ba, y7bb, y7bc, y7bd, y7be, y7bf, ()))) fun (_, (_, _, _, _, _, _, _, _, y8aa, _), (y8ab, y8ac, _), (y8ad, y8ae, _), y8af, y8ag, y8ah, y8ai, y8aj, y8ak, y8al, y8am, y8an, y8ao, y8ap, y8aq, y8ar, y8as, _) =>
 .get (iter1 f41_L6 FUEL ((y8aa, ((List.length y8aa : Nat) : Int), 0, ()), ((y8ab, y8ac, ()), (y8ad, y8ae, ()), y8af, y8ag, y8ah, y8ai, y8aj, y8ak, y8al, y8am, y8an, y8ao, y8ap, y8aq, y8ar, y8as, ()))) fun (_, _, (y9aa, y9ab, _), _, _, _, _, _, _, _, y9ac, y9ad, y9ae, y9af, y9ag, y9ah, y9ai, _) =>
 .ret (((y9aa, y9ab, y9ac, y9ad, y9ae, y9af, y9ag, y9ah, y9ai, ()), ()), ((), ())))
abbrev f41_s1 : List (Nat × VSlot) := [(64000000, .var [.i .i64, .i .i64, .ro (.sl tyN) (some 0), .ro tyQ (some 1), .ro tyI (some 2), .ro .bool (some 3), .ro tyS (some 4), .ro tyR (some 5), .ro tyT (some 6), .b, .ro tyI (some 7), .i .i64, .i .i64, .ro tyI (some 8)]), (64000001, .var [.i .i64, .i .i64, .srf 64000003, .srf 64000004, .srf 64000005, .srf 64000006, .srf 64000007, .srf 64000008, .srf 64000009]), (64000002, .var [.i .i64, .i .i64, .srf 64000010, .srf 64000011, .srf 64000012, .srf 64000013, .srf 64000014, .srf 64000015, .srf 64000016]), (64000003, .arr (.sl tyN)), (64000004, .arr tyP), (64000005, .arr tyO), (64000006, .arr tyF), (64000007, .arr tyF), (64000008, .arr tyI), (64000009, .arr tyI), (64000010, .arr (.sl tyN)), (64000011, .arr tyP), (64000012, .arr tyO), (64000013, .arr tyF), (64000014, .arr tyF), (64000015, .arr tyI), (64000016, .arr tyI)]
abbrev f41_s2 : List (Nat × VSlot) := [(64000000, .var [.i .i64, .i .i64, .srf 64000002, .srf 64000003, .srf 64000004, .srf 64000005, .srf 64000006, .srf 64000007, .srf 64000008]), (64000001, .var [.i .i64, .i .i64, .srf 64000009, .srf 64000010, .srf 64000011, .srf 64000012, .srf 64000013, .srf 64000014, .srf 64000015]), (64000002, .arr (.sl tyN)), (64000003, .arr tyP), (64000004, .arr tyO), (64000005, .arr tyF), (64000006, .arr tyF), (64000007, .arr tyI), (64000008, .arr tyI), (64000009, .arr (.sl tyN)), (64000010, .arr tyP), (64000011, .arr tyO), (64000012, .arr tyF), (64000013, .arr tyF), (64000014, .arr tyI), (64000015, .arr tyI)]
def f41_A : Nat → Option LoopAnn := fun n => annOf [(0, ⟨⟨[.dead, .vptr 64000000 0, .vptr 64000001 0, .vptr 64000002 0] ++ dd 27 ++ [.ro tyQ (some 1), .i .i64, .i .i64] ++ dd 110, f41_s1⟩, ⟨[.dead, .vptr 64000000 0, .vptr 64000001 0, .vptr 64000002 0] ++ dd 140, f41_s1⟩, none, false⟩), (2, ⟨⟨[.dead, .vptr 64000000 0, .vptr 64000001 0, .vptr 64000002 0] ++ dd 73 ++ [.ro tyS (some 4), .i .i64, .i .i64] ++ dd 64, f41_s1⟩, ⟨[.dead, .vptr 64000000 0, .vptr 64000001 0, .vptr 64000002 0] ++ dd 140, f41_s1⟩, none, false⟩), (4, ⟨⟨[.dead, .vptr 64000000 0, .vptr 64000001 0, .vptr 64000002 0] ++ dd 99 ++ [.ro tyR (some 5), .i .i64, .i .i64] ++ dd 38, f41_s1⟩, ⟨[.dead, .vptr 64000000 0, .vptr 64000001 0, .vptr 64000002 0] ++ dd 140, f41_s1⟩, none, false⟩), (6, ⟨⟨[.dead, .dead, .vptr 64000000 0, .vptr 64000001 0] ++ dd 119 ++ [.ro tyT (some 6), .i .i64, .i .i64] ++ dd 18, f41_s2⟩, ⟨[.dead, .dead, .vptr 64000000 0, .vptr 64000001 0] ++ dd 140, f41_s2⟩, none, false⟩)] n
def k41_V := fun a0 a1 a2 a3 a4 a5 a6 a7 a8 a9 a10 a11 a12 a13 => (f41_tree a0 a1 a2 a3 a4 a5 a6 a7 a8 a9 a10 a11 a12 a13).eval
def k41 : Con := { f := 41, lend := true, its := [⟨false, true, [.i .i64, .i .i64, .ro (.sl tyN), .ro tyQ, .ro tyI, .ro .bool, .ro tyS, .ro tyR, .ro tyT, .b, .ro tyI, .i .i64, .i .i64, .ro tyI]⟩], lay := [none], rs := [⟨false, true, [.i .i64, .i .i64, .own (.sl tyN), .own tyP, .own tyO, .own tyF, .own tyF, .own tyI, .own tyI]⟩], F := fun x => .get (k41_V x.1.1 x.1.2.1 x.1.2.2.1 x.1.2.2.2.1 x.1.2.2.2.2.1 x.1.2.2.2.2.2.1 x.1.2.2.2.2.2.2.1 x.1.2.2.2.2.2.2.2.1 x.1.2.2.2.2.2.2.2.2.1 x.1.2.2.2.2.2.2.2.2.2.1 x.1.2.2.2.2.2.2.2.2.2.2.1 x.1.2.2.2.2.2.2.2.2.2.2.2.1 x.1.2.2.2.2.2.2.2.2.2.2.2.2.1 x.1.2.2.2.2.2.2.2.2.2.2.2.2.2.1) fun y => .ret y }
theorem f41_eq (x : itemsD k41.its) : bo [k82, k30, k83, k84, k86, k85, k87u] f41_A Tryz.f41 k41 [.cell 2 32] x = f41_tree x.1.1 x.1.2.1 x.1.2.2.1 x.1.2.2.2.1 x.1.2.2.2.2.1 x.1.2.2.2.2.2.1 x.1.2.2.2.2.2.2.1 x.1.2.2.2.2.2.2.2.1 x.1.2.2.2.2.2.2.2.2.1 x.1.2.2.2.2.2.2.2.2.2.1 x.1.2.2.2.2.2.2.2.2.2.2.1 x.1.2.2.2.2.2.2.2.2.2.2.2.1 x.1.2.2.2.2.2.2.2.2.2.2.2.2.1 x.1.2.2.2.2.2.2.2.2.2.2.2.2.2.1 := by kernel_rfl
theorem k41_ok : k41.Ok Tryz.prog := con_fn [k82, k30, k83, k84, k86, k85, k87u] ⟨k82_ok, k30_ok, k83_ok, k84_ok, k86_ok, k85_ok, k87u_ok, trivial⟩ f41_eq fun _ _ _ hy => (eval_get_ret _).symm.trans hy
abbrev f167_S0 := (List (Bool) × List (Bool) × Int × Int × Unit) × (Unit)
def f167_L0 : f167_S0 → Out (Round f167_S0 ((Unit) × (Unit)) ((Bool × Unit) × (Unit)))
| ((p0, p1, p2, p3, _), _) =>
 .ite (decide (p3 < p2))
 (.ite (decide (0 ≤ p3))
 (.get (nth p0 (Int.toNat p3)) fun y1 =>
 .ite (decide (0 ≤ p3))
 (.get (nth p1 (Int.toNat p3)) fun y2 =>
 .ite (!(y1 == y2))
 (.ret (.ret ((false, ()), ())))
 (.ret (.again ((p0, p1, p2, (IntKind.i64.wrap (p3 + 1)), ()), ()))))
 .fail)
 .fail)
 (.ret (.out ((), ())))
def f167_tree (a0 : List Bool) (a1 : List Bool) : Out (((Bool × Unit) × Unit) × XI) :=
 .ite ((((List.length a0 : Nat) : Int) != ((List.length a1 : Nat) : Int)))
 (.ret (((false, ()), ()), ((), (), ())))
 (.get (iter f167_L0 FUEL ((a0, a1, ((List.length a0 : Nat) : Int), 0, ()), ())) fun y1 => .alt y1 (fun y2 =>
 .ret (((true, ()), ()), ((), (), ()))) (fun y3 =>
 .ret (((y3.1.1, ()), ()), ((), (), ()))))
def f167_A : Nat → Option LoopAnn := fun n => annOf [(0, ⟨⟨[.ro .bool (some 0), .ro .bool (some 1)] ++ dd 10 ++ [.i .i64, .i .i64] ++ dd 12, []⟩, ⟨dd 26, []⟩, some ⟨dd 4 ++ [.b] ++ dd 21, []⟩, false⟩)] n
def k167_V := fun a0 a1 => (f167_tree a0 a1).eval
def k167 : Con := { f := 167, lend := true, its := [⟨false, false, [.ro .bool]⟩, ⟨false, false, [.ro .bool]⟩], lay := [none, none], rs := [⟨false, false, [.b]⟩], F := fun x => .get (k167_V x.1.1 x.2.1.1) fun y => .ret y }
theorem f167_eq (x : itemsD k167.its) : bo [] f167_A Tryz.f167 k167 [.tmp 4] x = f167_tree x.1.1 x.2.1.1 := by kernel_rfl
theorem k167_ok : k167.Ok Tryz.prog := con_fn [] trivial f167_eq fun _ _ _ hy => (eval_get_ret _).symm.trans hy
abbrev f78_S2 := (List (XB) × Int × Int × Int × Int × Unit) × ((Int × Int × List (List InsD) × List (XB) × List Int × List (Bool) × List (XF) × List ((Bool × XE)) × List (XK) × Bool × List Int × Int × Int × List Int × Unit) × List (Bool) × List Int × Unit)
def f78_L2 : f78_S2 → Out (Round f78_S2 ((List (XB) × Int × Int × Unit) × ((Int × Int × List (List InsD) × List (XB) × List Int × List (Bool) × List (XF) × List ((Bool × XE)) × List (XK) × Bool × List Int × Int × Int × List Int × Unit) × List (Bool) × Unit)) ((Bool × Unit) × (Unit)))
| ((p0, p1, p2, p3, p4, _), (p5, p6, p7, p8, p9, p10, p11, p12, p13, p14, p15, p16, p17, p18, _), p19, p20, _) =>
 .ite (decide (p4 < p3))
 (.ite (decide (0 ≤ p4 ∧ p4 < ((List.length p20 : Nat) : Int)))
 (.get (nth p20 (Int.toNat p4)) fun y1 =>
 .ite (decide (0 ≤ y1 ∧ y1 < ((List.length p19 : Nat) : Int)))
 (.get (nth p19 (Int.toNat y1)) fun y2 =>
 .ite y2
 (.ret (.ret ((false, ()), ())))
 (.ite (decide (0 ≤ y1 ∧ y1 < ((List.length p19 : Nat) : Int)))
 (.get (nth p19 (Int.toNat y1)) fun y3 =>
 .ret (.again ((p0, p1, p2, p3, (IntKind.i64.wrap (p4 + 1)), ()), ((p5, p6, p7, p8, p9, p10, p11, p12, p13, p14, p15, p16, p17, p18, ()), (List.set p19 (Int.toNat y1) true), p20, ()))))
 .fail))
 .fail)
 .fail)
 (.ret (.out ((p0, p1, p2, ()), ((p5, p6, p7, p8, p9, p10, p11, p12, p13, p14, p15, p16, p17, p18, ()), p19, ()))))
abbrev f78_S0 := (List (XB) × Int × Int × Unit) × ((Int × Int × List (List InsD) × List (XB) × List Int × List (Bool) × List (XF) × List ((Bool × XE)) × List (XK) × Bool × List Int × Int × Int × List Int × Unit) × List (Bool) × Unit)
def f78_L0 : f78_S0 → Out (Round f78_S0 ((Unit) × ((Int × Int × List (List InsD) × List (XB) × List Int × List (Bool) × List (XF) × List ((Bool × XE)) × List (XK) × Bool × List Int × Int × Int × List Int × Unit) × List (Bool) × Unit)) ((Bool × Unit) × (Unit)))
| ((p0, p1, p2, _), (p3, p4, p5, p6, p7, p8, p9, p10, p11, p12, p13, p14, p15, p16, _), p17, _) =>
 .ite (decide (p2 < p1))
 (.ite (decide (0 ≤ p2))
 (.get (nth p0 (Int.toNat p2)) fun y1 =>
 .get (k86_V y1.2.2.2.2.2.2.2.2.2.1) fun y2 =>
 .ite (decide (0 ≤ ((List.length y2.1.1.1 : Nat) : Int) ∧ ((List.length y2.1.1.1 : Nat) : Int) ≤ ((List.length y1.2.2.2.2.2.2.2.2.2.1 : Nat) : Int)))
 (.get (k166_V (List.drop (Int.toNat ((List.length y2.1.1.1 : Nat) : Int)) y1.2.2.2.2.2.2.2.2.2.1) (-1 : Int)) fun y3 =>
 .ite (!y3.1.1.1)
 (.ret (.ret ((false, ()), ())))
 (.get (iter f78_L2 FUEL ((p0, p1, p2, ((List.length y2.1.1.1 : Nat) : Int), 0, ()), ((p3, p4, p5, p6, p7, p8, p9, p10, p11, p12, p13, p14, p15, p16, ()), p17, y2.1.1.1, ()))) fun y4 => .alt y4 (fun y5 =>
 .ret (.again ((y5.1.1, y5.1.2.1, (IntKind.i64.wrap (y5.1.2.2.1 + 1)), ()), ((y5.2.1.1, y5.2.1.2.1, y5.2.1.2.2.1, y5.2.1.2.2.2.1, y5.2.1.2.2.2.2.1, y5.2.1.2.2.2.2.2.1, y5.2.1.2.2.2.2.2.2.1, y5.2.1.2.2.2.2.2.2.2.1, y5.2.1.2.2.2.2.2.2.2.2.1, y5.2.1.2.2.2.2.2.2.2.2.2.1, y5.2.1.2.2.2.2.2.2.2.2.2.2.1, y5.2.1.2.2.2.2.2.2.2.2.2.2.2.1, y5.2.1.2.2.2.2.2.2.2.2.2.2.2.2.1, y5.2.1.2.2.2.2.2.2.2.2.2.2.2.2.2.1, ()), y5.2.2.1, ())))) (fun y6 =>
 .ret (.ret ((y6.1.1, ()), ())))))
 .fail)
 .fail)
 (.ret (.out ((), ((p3, p4, p5, p6, p7, p8, p9, p10, p11, p12, p13, p14, p15, p16, ()), p17, ()))))
def f78_tree (a0 : Int) (a1 : Int) (a2 : List (List InsD)) (a3 : List XB) (a4 : List Int) (a5 : List Bool) (a6 : List XF) (a7 : List (Bool × XE)) (a8 : List XK) (a9 : Bool) (a10 : List Int) (a11 : Int) (a12 : Int) (a13 : List Int) : Out (((Bool × Unit) × Unit) × (Unit × Unit)) :=
 .get (k82_V a0 a1 a2 a3 a4 a5 a6 a7 a8 a9 a10 a11 a12 a13) fun y1 =>
 .ite ((!y1.1.1.1) == false)
 (.get (k41_V a0 a1 a2 a3 a4 a5 a6 a7 a8 a9 a10 a11 a12 a13) fun (((y2aa, y2ab, y2ac, y2ad, y2ae, y2af, y2ag, y2ah, y2ai, _), _), _) =>
 .get (unixOkP y2aa y2ab y2ac y2ad y2ae y2af y2ag y2ah y2ai) fun y3 =>
 .ite (!y3)
 (.ret (((false, ()), ()), ((), ())))
 (.ite (decide (0 ≤ (16 : Int) ∧ (16 : Int) ≤ (16 : Int) ∧ (16 : Int) ≤ (LIM : Int)))
 (.get (iter f78_L0 FUEL ((a3, ((List.length a3 : Nat) : Int), 0, ()), ((a0, a1, a2, a3, a4, a5, a6, a7, a8, a9, a10, a11, a12, a13, ()), (List.replicate (Int.toNat (16 : Int)) false), ()))) fun y4 => .alt y4 (fun y5 =>
 .get (k167_V y5.2.2.1 y5.2.1.2.2.2.2.2.1) fun y7 =>
 .ret (((y7.1.1.1, ()), ()), ((), ()))) (fun y6 =>
 .ret (((y6.1.1, ()), ()), ((), ()))))
 .fail))
 (.ret (((false, ()), ()), ((), ())))
abbrev f78_s3 : List (Nat × VSlot) := [(64000000, .var [.i .i64, .i .i64, .ro (.sl tyN) (some 0), .ro tyQ (some 1), .ro tyI (some 2), .ro .bool (some 3), .ro tyS (some 4), .ro tyR (some 5), .ro tyT (some 6), .b, .ro tyI (some 7), .i .i64, .i .i64, .ro tyI (some 8)]), (64000001, .arr .bool)]
def f78_A : Nat → Option LoopAnn := fun n => annOf [(0, ⟨⟨[.dead, .vptr 64000000 0, .dead, .srf 64000001] ++ dd 16 ++ [.ro tyQ (some 1), .i .i64, .i .i64] ++ dd 32, f78_s3⟩, ⟨[.dead, .vptr 64000000 0, .dead, .srf 64000001] ++ dd 51, f78_s3⟩, some ⟨[.dead, .dead, .b] ++ dd 52, []⟩, false⟩), (2, ⟨⟨[.dead, .vptr 64000000 0, .dead, .srf 64000001] ++ dd 16 ++ [.ro tyQ (some 1), .i .i64, .i .i64] ++ dd 13 ++ [.srf 64000002, .i .i64, .i .i64] ++ dd 16, [(64000000, .var [.i .i64, .i .i64, .ro (.sl tyN) (some 0), .ro tyQ (some 1), .ro tyI (some 2), .ro .bool (some 3), .ro tyS (some 4), .ro tyR (some 5), .ro tyT (some 6), .b, .ro tyI (some 7), .i .i64, .i .i64, .ro tyI (some 8)]), (64000001, .arr .bool), (64000002, .arr tyI)]⟩, ⟨[.dead, .vptr 64000000 0, .dead, .srf 64000001] ++ dd 16 ++ [.ro tyQ (some 1), .i .i64, .i .i64] ++ dd 32, f78_s3⟩, some ⟨[.dead, .dead, .b] ++ dd 52, []⟩, false⟩)] n
def k78_V := fun a0 a1 a2 a3 a4 a5 a6 a7 a8 a9 a10 a11 a12 a13 => (f78_tree a0 a1 a2 a3 a4 a5 a6 a7 a8 a9 a10 a11 a12 a13).eval
def k78 : Con := { f := 78, lend := true, its := [⟨false, true, [.i .i64, .i .i64, .ro (.sl tyN), .ro tyQ, .ro tyI, .ro .bool, .ro tyS, .ro tyR, .ro tyT, .b, .ro tyI, .i .i64, .i .i64, .ro tyI]⟩], lay := [none], rs := [⟨false, false, [.b]⟩], F := fun x => .get (k78_V x.1.1 x.1.2.1 x.1.2.2.1 x.1.2.2.2.1 x.1.2.2.2.2.1 x.1.2.2.2.2.2.1 x.1.2.2.2.2.2.2.1 x.1.2.2.2.2.2.2.2.1 x.1.2.2.2.2.2.2.2.2.1 x.1.2.2.2.2.2.2.2.2.2.1 x.1.2.2.2.2.2.2.2.2.2.2.1 x.1.2.2.2.2.2.2.2.2.2.2.2.1 x.1.2.2.2.2.2.2.2.2.2.2.2.2.1 x.1.2.2.2.2.2.2.2.2.2.2.2.2.2.1) fun y => .ret y }
theorem f78_eq (x : itemsD k78.its) : bo [k82, k41, k149, k86, k166, k167] f78_A Tryz.f78 k78 [.tmp 2] x = f78_tree x.1.1 x.1.2.1 x.1.2.2.1 x.1.2.2.2.1 x.1.2.2.2.2.1 x.1.2.2.2.2.2.1 x.1.2.2.2.2.2.2.1 x.1.2.2.2.2.2.2.2.1 x.1.2.2.2.2.2.2.2.2.1 x.1.2.2.2.2.2.2.2.2.2.1 x.1.2.2.2.2.2.2.2.2.2.2.1 x.1.2.2.2.2.2.2.2.2.2.2.2.1 x.1.2.2.2.2.2.2.2.2.2.2.2.2.1 x.1.2.2.2.2.2.2.2.2.2.2.2.2.2.1 := by kernel_rfl
theorem k78_ok : k78.Ok Tryz.prog := con_fn [k82, k41, k149, k86, k166, k167] ⟨k82_ok, k41_ok, k149_ok, k86_ok, k166_ok, k167_ok, trivial⟩ f78_eq fun _ _ _ hy => (eval_get_ret _).symm.trans hy
def f79_tree (a0 : Int) (a1 : Int) (a2 : List (List InsD)) (a3 : List ProcD) (a4 : List Int) (a5 : List (List Int)) (a6 : List OpenD) (a7 : List XH) (a8 : List CpuD) (a9 : List Int) (a10 : List Int) : Out (((Bool × Unit) × Unit) × (Unit × Unit)) :=
 .ite (((a0 == 0)) == true)
 (.ite (((a1 == 0)) == true)
 (.ite (((((List.length a2 : Nat) : Int) == 0)) == true)
 (.ite (((((List.length a3 : Nat) : Int) == 0)) == true)
 (.ite (((((List.length a4 : Nat) : Int) == 0)) == true)
 (.ite (((((List.length a5 : Nat) : Int) == 0)) == true)
 (.ite (((((List.length a6 : Nat) : Int) == 0)) == true)
 (.ite (((((List.length a7 : Nat) : Int) == 0)) == true)
 (.ite (((((List.length a8 : Nat) : Int) == 0)) == true)
 (.ite (((((List.length a9 : Nat) : Int) == 0)) == true)
 (.ret (((((((List.length a10 : Nat) : Int) == 0)), ()), ()), ((), ())))
 (.ret (((false, ()), ()), ((), ()))))
 (.ret (((false, ()), ()), ((), ()))))
 (.ret (((false, ()), ()), ((), ()))))
 (.ret (((false, ()), ()), ((), ()))))
 (.ret (((false, ()), ()), ((), ()))))
 (.ret (((false, ()), ()), ((), ()))))
 (.ret (((false, ()), ()), ((), ()))))
 (.ret (((false, ()), ()), ((), ()))))
 (.ret (((false, ()), ()), ((), ()))))
 (.ret (((false, ()), ()), ((), ())))
def k79_V := fun a0 a1 a2 a3 a4 a5 a6 a7 a8 a9 a10 => (f79_tree a0 a1 a2 a3 a4 a5 a6 a7 a8 a9 a10).eval
def k79 : Con := { f := 79, lend := true, its := [⟨false, true, [.i .i64, .i .i64, .ro (.sl tyN), .ro tyP, .ro tyI, .ro (.sl tyI), .ro tyO, .ro tyU, .ro tyF, .ro tyI, .ro tyI]⟩], lay := [none], rs := [⟨false, false, [.b]⟩], F := fun x => .get (k79_V x.1.1 x.1.2.1 x.1.2.2.1 x.1.2.2.2.1 x.1.2.2.2.2.1 x.1.2.2.2.2.2.1 x.1.2.2.2.2.2.2.1 x.1.2.2.2.2.2.2.2.1 x.1.2.2.2.2.2.2.2.2.1 x.1.2.2.2.2.2.2.2.2.2.1 x.1.2.2.2.2.2.2.2.2.2.2.1) fun y => .ret y }
theorem f79_eq (x : itemsD k79.its) : bo [] (fun _ => none) Tryz.f79 k79 [.tmp 2] x = f79_tree x.1.1 x.1.2.1 x.1.2.2.1 x.1.2.2.2.1 x.1.2.2.2.2.1 x.1.2.2.2.2.2.1 x.1.2.2.2.2.2.2.1 x.1.2.2.2.2.2.2.2.1 x.1.2.2.2.2.2.2.2.2.1 x.1.2.2.2.2.2.2.2.2.2.1 x.1.2.2.2.2.2.2.2.2.2.2.1 := by kernel_rfl
theorem k79_ok : k79.Ok Tryz.prog := con_fn [] trivial f79_eq fun _ _ _ hy => (eval_get_ret _).symm.trans hy
def f81_tree (a0 : Int) (a1 : Int) (a2 : List (List InsD)) (a3 : List XB) (a4 : List Int) (a5 : List Bool) (a6 : List XF) (a7 : List (Bool × XE)) (a8 : List XK) (a9 : Bool) (a10 : List Int) (a11 : Int) (a12 : Int) (a13 : List Int) : Out (((Bool × Unit) × Unit) × (Unit × Unit)) :=
 .ite (((a0 == 0)) == true)
 (.ite (((a1 == 0)) == true)
 (.ite (((((List.length a2 : Nat) : Int) == 0)) == true)
 (.ite (((((List.length a3 : Nat) : Int) == 0)) == true)
 (.ite (((((List.length a4 : Nat) : Int) == 0)) == true)
 (.ite (((((List.length a5 : Nat) : Int) == 0)) == true)
 (.ite (((((List.length a6 : Nat) : Int) == 0)) == true)
 (.ite (((((List.length a7 : Nat) : Int) == 0)) == true)
 (.ite (((((List.length a8 : Nat) : Int) == 0)) == true)
 (.ite ((!a9) == true)
 (.ite (((((List.length a10 : Nat) : Int) == 0)) == true)
 (.ite (((a11 == 0)) == true)
 (.ite (((a12 == 0)) == true)
 (.ret (((((((List.length a13 : Nat) : Int) == 0)), ()), ()), ((), ())))
 (.ret (((false, ()), ()), ((), ()))))
 (.ret (((false, ()), ()), ((), ()))))
 (.ret (((false, ()), ()), ((), ()))))
 (.ret (((false, ()), ()), ((), ()))))
 (.ret (((false, ()), ()), ((), ()))))
 (.ret (((false, ()), ()), ((), ()))))
 (.ret (((false, ()), ()), ((), ()))))
 (.ret (((false, ()), ()), ((), ()))))
 (.ret (((false, ()), ()), ((), ()))))
 (.ret (((false, ()), ()), ((), ()))))
 (.ret (((false, ()), ()), ((), ()))))
 (.ret (((false, ()), ()), ((), ()))))
 (.ret (((false, ()), ()), ((), ())))
def k81_V := fun a0 a1 a2 a3 a4 a5 a6 a7 a8 a9 a10 a11 a12 a13 => (f81_tree a0 a1 a2 a3 a4 a5 a6 a7 a8 a9 a10 a11 a12 a13).eval
def k81 : Con := { f := 81, lend := true, its := [⟨false, true, [.i .i64, .i .i64, .ro (.sl tyN), .ro tyQ, .ro tyI, .ro .bool, .ro tyS, .ro tyR, .ro tyT, .b, .ro tyI, .i .i64, .i .i64, .ro tyI]⟩], lay := [none], rs := [⟨false, false, [.b]⟩], F := fun x => .get (k81_V x.1.1 x.1.2.1 x.1.2.2.1 x.1.2.2.2.1 x.1.2.2.2.2.1 x.1.2.2.2.2.2.1 x.1.2.2.2.2.2.2.1 x.1.2.2.2.2.2.2.2.1 x.1.2.2.2.2.2.2.2.2.1 x.1.2.2.2.2.2.2.2.2.2.1 x.1.2.2.2.2.2.2.2.2.2.2.1 x.1.2.2.2.2.2.2.2.2.2.2.2.1 x.1.2.2.2.2.2.2.2.2.2.2.2.2.1 x.1.2.2.2.2.2.2.2.2.2.2.2.2.2.1) fun y => .ret y }
theorem f81_eq (x : itemsD k81.its) : bo [] (fun _ => none) Tryz.f81 k81 [.tmp 2] x = f81_tree x.1.1 x.1.2.1 x.1.2.2.1 x.1.2.2.2.1 x.1.2.2.2.2.1 x.1.2.2.2.2.2.1 x.1.2.2.2.2.2.2.1 x.1.2.2.2.2.2.2.2.1 x.1.2.2.2.2.2.2.2.2.1 x.1.2.2.2.2.2.2.2.2.2.1 x.1.2.2.2.2.2.2.2.2.2.2.1 x.1.2.2.2.2.2.2.2.2.2.2.2.1 x.1.2.2.2.2.2.2.2.2.2.2.2.2.1 x.1.2.2.2.2.2.2.2.2.2.2.2.2.2.1 := by kernel_rfl
theorem k81_ok : k81.Ok Tryz.prog := con_fn [] trivial f81_eq fun _ _ _ hy => (eval_get_ret _).symm.trans hy
def f192_tree (a0 : Int) : Out (((Bool × Unit) × Unit) × (Unit × Unit)) :=
 .get (k187_V a0) fun y1 =>
 .ret ((((!y1.1.1.1), ()), ()), ((), ()))
def k192_V := fun a0 => (f192_tree a0).eval
def k192 : Con := { f := 192, lend := true, its := [⟨false, false, [.i .i64]⟩], lay := [none], rs := [⟨false, false, [.b]⟩], F := fun x => .get (k192_V x.1.1) fun y => .ret y }
theorem f192_eq (x : itemsD k192.its) : bo [k187] (fun _ => none) Tryz.f192 k192 [.tmp 2] x = f192_tree x.1.1 := by kernel_rfl
theorem k192_ok : k192.Ok Tryz.prog := con_fn [k187] ⟨k187_ok, trivial⟩ f192_eq fun _ _ _ hy => (eval_get_ret _).symm.trans hy
abbrev f185x_S0 := XE × (Unit)
def f185x_L0 : f185x_S0 → Out (Round f185x_S0 ((Unit) × (Unit)) ((Int × Unit) × (Unit)))
| ((p0, p1, p2, _), _) =>
 .ite (decide (p2 < p1))
 (.ite (decide (0 ≤ p2))
 (.get (nth p0 (Int.toNat p2)) fun y1 =>
 .get (k192_V y1) fun y2 =>
 .ite y2.1.1.1
 (.ret (.ret ((p2, ()), ())))
 (.ret (.again ((p0, p1, (IntKind.i64.wrap (p2 + 1)), ()), ()))))
 .fail)
 (.ret (.out ((), ())))
def f185x_tree (a0 : List Int) : Out (((Int × Unit) × Unit) × (Unit × Unit)) :=
 .get (iter f185x_L0 FUEL ((a0, ((List.length a0 : Nat) : Int), 0, ()), ())) fun y1 => .alt y1 (fun y2 =>
 .ret (((-1, ()), ()), ((), ()))) (fun y3 =>
 .ret (((y3.1.1, ()), ()), ((), ())))
def f185x_A : Nat → Option LoopAnn := fun n => annOf [(0, ⟨⟨[.ro tyI (some 0), .fn 192 []] ++ dd 5 ++ [.i .i64, .i .i64] ++ dd 10, []⟩, ⟨dd 19, []⟩, some ⟨dd 4 ++ [.i .i64] ++ dd 14, []⟩, false⟩)] n
def k185x_V := fun a0 => (f185x_tree a0).eval
def k185x : Con := { f := 185, lend := true, its := [⟨false, false, [.ro tyI]⟩], lay := [none, some (192, 0)], rs := [⟨false, false, [.i .i64]⟩], F := fun x => .get (k185x_V x.1.1) fun y => .ret y }
theorem f185x_eq (x : itemsD k185x.its) : bo [k192] f185x_A Tryz.f185 k185x [.tmp 4] x = f185x_tree x.1.1 := by kernel_rfl
theorem k185x_ok : k185x.Ok Tryz.prog := con_fn [k192] ⟨k192_ok, trivial⟩ f185x_eq fun _ _ _ hy => (eval_get_ret _).symm.trans hy
def f191x_tree (a0 : List Int) : Out (((Bool × Unit) × Unit) × (Unit × Unit)) :=
 .get (k185x_V a0) fun y1 =>
 .ret ((((decide (y1.1.1.1 ≥ (0 : Int))), ()), ()), ((), ()))
def k191x_V := fun a0 => (f191x_tree a0).eval
def k191x : Con := { f := 191, lend := true, its := [⟨false, false, [.ro tyI]⟩], lay := [none, some (192, 0)], rs := [⟨false, false, [.b]⟩], F := fun x => .get (k191x_V x.1.1) fun y => .ret y }
theorem f191x_eq (x : itemsD k191x.its) : bo [k185x] (fun _ => none) Tryz.f191 k191x [.tmp 4] x = f191x_tree x.1.1 := by kernel_rfl
theorem k191x_ok : k191x.Ok Tryz.prog := con_fn [k185x] ⟨k185x_ok, trivial⟩ f191x_eq fun _ _ _ hy => (eval_get_ret _).symm.trans hy
def f190_tree (a0 : Int) (a1 : Int) (a2 : Int) (a3 : Int) (a4 : Int) (a5 : List Int) (a6 : List Int) (a7 : List Int) (a8 : Int) (a9 : Int) : Out (((Bool × Unit) × Unit) × (Unit × Unit)) :=
 .get (k191x_V a6) fun y1 =>
 .ret (((y1.1.1.1, ()), ()), ((), ()))
def k190_V := fun a0 a1 a2 a3 a4 a5 a6 a7 a8 a9 => (f190_tree a0 a1 a2 a3 a4 a5 a6 a7 a8 a9).eval
def k190 : Con := { f := 190, lend := true, its := [⟨false, true, [.i .i64, .i .i64, .i .i64, .i .i64, .i .i64, .ro tyI, .ro tyI, .ro tyI, .i .i64, .i .i64]⟩], lay := [none], rs := [⟨false, false, [.b]⟩], F := fun x => .get (k190_V x.1.1 x.1.2.1 x.1.2.2.1 x.1.2.2.2.1 x.1.2.2.2.2.1 x.1.2.2.2.2.2.1 x.1.2.2.2.2.2.2.1 x.1.2.2.2.2.2.2.2.1 x.1.2.2.2.2.2.2.2.2.1 x.1.2.2.2.2.2.2.2.2.2.1) fun y => .ret y }
theorem f190_eq (x : itemsD k190.its) : bo [k191x] (fun _ => none) Tryz.f190 k190 [.tmp 2] x = f190_tree x.1.1 x.1.2.1 x.1.2.2.1 x.1.2.2.2.1 x.1.2.2.2.2.1 x.1.2.2.2.2.2.1 x.1.2.2.2.2.2.2.1 x.1.2.2.2.2.2.2.2.1 x.1.2.2.2.2.2.2.2.2.1 x.1.2.2.2.2.2.2.2.2.2.1 := by kernel_rfl
theorem k190_ok : k190.Ok Tryz.prog := con_fn [k191x] ⟨k191x_ok, trivial⟩ f190_eq fun _ _ _ hy => (eval_get_ret _).symm.trans hy
abbrev f251u_S0 := XS × (Unit)
def f251u_L0 : f251u_S0 → Out (Round f251u_S0 ((Unit) × (Unit)) ((Int × Unit) × (Unit)))
| ((p0, p1, p2, _), _) =>
 .ite (decide (p2 < p1))
 (.ite (decide (0 ≤ p2))
 (.get (nth p0 (Int.toNat p2)) fun (y1aa, y1ab, y1ac, y1ad, (y1ae, y1af, _), y1ag, y1ah, y1ai, y1aj, _) =>
 .get (k190_V y1aa y1ab y1ac y1ad y1ae y1af y1ag y1ah y1ai y1aj) fun y2 =>
 .ite y2.1.1.1
 (.ret (.ret ((p2, ()), ())))
 (.ret (.again ((p0, p1, (IntKind.i64.wrap (p2 + 1)), ()), ()))))
 .fail)
 (.ret (.out ((), ())))
def f251u_tree (a0 : List ProcD) : Out (((Int × Unit) × Unit) × (Unit × Unit)) :=
 .get (iter f251u_L0 FUEL ((a0, ((List.length a0 : Nat) : Int), 0, ()), ())) fun y1 => .alt y1 (fun y2 =>
 .ret (((-1, ()), ()), ((), ()))) (fun y3 =>
 .ret (((y3.1.1, ()), ()), ((), ())))
def f251u_A : Nat → Option LoopAnn := fun n => annOf [(0, ⟨⟨[.ro tyP (some 0), .fn 190 []] ++ dd 5 ++ [.i .i64, .i .i64] ++ dd 10, []⟩, ⟨dd 19, []⟩, some ⟨dd 4 ++ [.i .i64] ++ dd 14, []⟩, false⟩)] n
def k251u_V := fun a0 => (f251u_tree a0).eval
def k251u : Con := { f := 251, lend := true, its := [⟨false, false, [.ro tyP]⟩], lay := [none, some (190, 0)], rs := [⟨false, false, [.i .i64]⟩], F := fun x => .get (k251u_V x.1.1) fun y => .ret y }
theorem f251u_eq (x : itemsD k251u.its) : bo [k190] f251u_A Tryz.f251 k251u [.tmp 4] x = f251u_tree x.1.1 := by kernel_rfl
theorem k251u_ok : k251u.Ok Tryz.prog := con_fn [k190] ⟨k190_ok, trivial⟩ f251u_eq fun _ _ _ hy => (eval_get_ret _).symm.trans hy
def f189u_tree (a0 : List ProcD) : Out (((Bool × Unit) × Unit) × (Unit × Unit)) :=
 .get (k251u_V a0) fun y1 =>
 .ret ((((decide (y1.1.1.1 ≥ (0 : Int))), ()), ()), ((), ()))
def k189u_V := fun a0 => (f189u_tree a0).eval
def k189u : Con := { f := 189, lend := true, its := [⟨false, false, [.ro tyP]⟩], lay := [none, some (190, 0)], rs := [⟨false, false, [.b]⟩], F := fun x => .get (k189u_V x.1.1) fun y => .ret y }
theorem f189u_eq (x : itemsD k189u.its) : bo [k251u] (fun _ => none) Tryz.f189 k189u [.tmp 4] x = f189u_tree x.1.1 := by kernel_rfl
theorem k189u_ok : k189u.Ok Tryz.prog := con_fn [k251u] ⟨k251u_ok, trivial⟩ f189u_eq fun _ _ _ hy => (eval_get_ret _).symm.trans hy
def f195_tree (a0 : List Int) : Out (((Bool × Unit) × Unit) × (Unit × Unit)) :=
 .ret (((((((List.length a0 : Nat) : Int) == 0)), ()), ()), ((), ()))
def k195_V := fun a0 => (f195_tree a0).eval
def k195 : Con := { f := 195, lend := true, its := [⟨false, false, [.ro tyI]⟩], lay := [none], rs := [⟨false, false, [.b]⟩], F := fun x => .get (k195_V x.1.1) fun y => .ret y }
theorem f195_eq (x : itemsD k195.its) : bo [] (fun _ => none) Tryz.f195 k195 [.tmp 2] x = f195_tree x.1.1 := by kernel_rfl
theorem k195_ok : k195.Ok Tryz.prog := con_fn [] trivial f195_eq fun _ _ _ hy => (eval_get_ret _).symm.trans hy
abbrev f252x_S0 := (List (List Int) × Int × Int × Unit) × (Unit)
def f252x_L0 : f252x_S0 → Out (Round f252x_S0 ((Unit) × (Unit)) ((Int × Unit) × (Unit)))
| ((p0, p1, p2, _), _) =>
 .ite (decide (p2 < p1))
 (.ite (decide (0 ≤ p2))
 (.get (nth p0 (Int.toNat p2)) fun y1 =>
 .get (k195_V y1) fun y2 =>
 .ite y2.1.1.1
 (.ret (.ret ((p2, ()), ())))
 (.ret (.again ((p0, p1, (IntKind.i64.wrap (p2 + 1)), ()), ()))))
 .fail)
 (.ret (.out ((), ())))
def f252x_tree (a0 : List (List Int)) : Out (((Int × Unit) × Unit) × (Unit × Unit)) :=
 .get (iter f252x_L0 FUEL ((a0, ((List.length a0 : Nat) : Int), 0, ()), ())) fun y1 => .alt y1 (fun y2 =>
 .ret (((-1, ()), ()), ((), ()))) (fun y3 =>
 .ret (((y3.1.1, ()), ()), ((), ())))
def f252x_A : Nat → Option LoopAnn := fun n => annOf [(0, ⟨⟨[.ro (.sl tyI) (some 0), .fn 195 []] ++ dd 5 ++ [.i .i64, .i .i64] ++ dd 10, []⟩, ⟨dd 19, []⟩, some ⟨dd 4 ++ [.i .i64] ++ dd 14, []⟩, false⟩)] n
def k252x_V := fun a0 => (f252x_tree a0).eval
def k252x : Con := { f := 252, lend := true, its := [⟨false, false, [.ro (.sl tyI)]⟩], lay := [none, some (195, 0)], rs := [⟨false, false, [.i .i64]⟩], F := fun x => .get (k252x_V x.1.1) fun y => .ret y }
theorem f252x_eq (x : itemsD k252x.its) : bo [k195] f252x_A Tryz.f252 k252x [.tmp 4] x = f252x_tree x.1.1 := by kernel_rfl
theorem k252x_ok : k252x.Ok Tryz.prog := con_fn [k195] ⟨k195_ok, trivial⟩ f252x_eq fun _ _ _ hy => (eval_get_ret _).symm.trans hy
def f194x_tree (a0 : List (List Int)) : Out (((Bool × Unit) × Unit) × (Unit × Unit)) :=
 .get (k252x_V a0) fun y1 =>
 .ret ((((decide (y1.1.1.1 ≥ (0 : Int))), ()), ()), ((), ()))
def k194x_V := fun a0 => (f194x_tree a0).eval
def k194x : Con := { f := 194, lend := true, its := [⟨false, false, [.ro (.sl tyI)]⟩], lay := [none, some (195, 0)], rs := [⟨false, false, [.b]⟩], F := fun x => .get (k194x_V x.1.1) fun y => .ret y }
theorem f194x_eq (x : itemsD k194x.its) : bo [k252x] (fun _ => none) Tryz.f194 k194x [.tmp 4] x = f194x_tree x.1.1 := by kernel_rfl
theorem k194x_ok : k194x.Ok Tryz.prog := con_fn [k252x] ⟨k252x_ok, trivial⟩ f194x_eq fun _ _ _ hy => (eval_get_ret _).symm.trans hy
def f193_tree (a0 : Int) (a1 : List (List Int)) : Out (((Bool × Unit) × Unit) × (Unit × Unit)) :=
 .get (k194x_V a1) fun y1 =>
 .ret (((y1.1.1.1, ()), ()), ((), ()))
def k193_V := fun a0 a1 => (f193_tree a0 a1).eval
def k193 : Con := { f := 193, lend := true, its := [⟨false, true, [.i .i64, .ro (.sl tyI)]⟩], lay := [none], rs := [⟨false, false, [.b]⟩], F := fun x => .get (k193_V x.1.1 x.1.2.1) fun y => .ret y }
theorem f193_eq (x : itemsD k193.its) : bo [k194x] (fun _ => none) Tryz.f193 k193 [.tmp 2] x = f193_tree x.1.1 x.1.2.1 := by kernel_rfl
theorem k193_ok : k193.Ok Tryz.prog := con_fn [k194x] ⟨k194x_ok, trivial⟩ f193_eq fun _ _ _ hy => (eval_get_ret _).symm.trans hy
abbrev f244u_S0 := (List (XH) × Int × Int × Unit) × (Unit)
def f244u_L0 : f244u_S0 → Out (Round f244u_S0 ((Unit) × (Unit)) ((Int × Unit) × (Unit)))
| ((p0, p1, p2, _), _) =>
 .ite (decide (p2 < p1))
 (.ite (decide (0 ≤ p2))
 (.get (nth p0 (Int.toNat p2)) fun y1 =>
 .get (k193_V y1.1 y1.2.1) fun y2 =>
 .ite y2.1.1.1
 (.ret (.ret ((p2, ()), ())))
 (.ret (.again ((p0, p1, (IntKind.i64.wrap (p2 + 1)), ()), ()))))
 .fail)
 (.ret (.out ((), ())))
def f244u_tree (a0 : List XH) : Out (((Int × Unit) × Unit) × (Unit × Unit)) :=
 .get (iter f244u_L0 FUEL ((a0, ((List.length a0 : Nat) : Int), 0, ()), ())) fun y1 => .alt y1 (fun y2 =>
 .ret (((-1, ()), ()), ((), ()))) (fun y3 =>
 .ret (((y3.1.1, ()), ()), ((), ())))
def f244u_A : Nat → Option LoopAnn := fun n => annOf [(0, ⟨⟨[.ro tyU (some 0), .fn 193 []] ++ dd 5 ++ [.i .i64, .i .i64] ++ dd 10, []⟩, ⟨dd 19, []⟩, some ⟨dd 4 ++ [.i .i64] ++ dd 14, []⟩, false⟩)] n
def k244u_V := fun a0 => (f244u_tree a0).eval
def k244u : Con := { f := 244, lend := true, its := [⟨false, false, [.ro tyU]⟩], lay := [none, some (193, 0)], rs := [⟨false, false, [.i .i64]⟩], F := fun x => .get (k244u_V x.1.1) fun y => .ret y }
theorem f244u_eq (x : itemsD k244u.its) : bo [k193] f244u_A Tryz.f244 k244u [.tmp 4] x = f244u_tree x.1.1 := by kernel_rfl
theorem k244u_ok : k244u.Ok Tryz.prog := con_fn [k193] ⟨k193_ok, trivial⟩ f244u_eq fun _ _ _ hy => (eval_get_ret _).symm.trans hy
def f170u_tree (a0 : List XH) : Out (((Bool × Unit) × Unit) × (Unit × Unit)) :=
 .get (k244u_V a0) fun y1 =>
 .ret ((((decide (y1.1.1.1 ≥ (0 : Int))), ()), ()), ((), ()))
def k170u_V := fun a0 => (f170u_tree a0).eval
def k170u : Con := { f := 170, lend := true, its := [⟨false, false, [.ro tyU]⟩], lay := [none, some (193, 0)], rs := [⟨false, false, [.b]⟩], F := fun x => .get (k170u_V x.1.1) fun y => .ret y }
theorem f170u_eq (x : itemsD k170u.its) : bo [k244u] (fun _ => none) Tryz.f170 k170u [.tmp 4] x = f170u_tree x.1.1 := by kernel_rfl
theorem k170u_ok : k170u.Ok Tryz.prog := con_fn [k244u] ⟨k244u_ok, trivial⟩ f170u_eq fun _ _ _ hy => (eval_get_ret _).symm.trans hy
def f89_tree (a0 : Int) (a1 : Int) (a2 : List (List InsD)) (a3 : List ProcD) (a4 : List Int) (a5 : List (List Int)) (a6 : List OpenD) (a7 : List XH) (a8 : List CpuD) (a9 : List Int) (a10 : List Int) : Out (((Bool × Unit) × Unit) × (Unit × Unit)) :=
 .ite ((((List.length a4 : Nat) : Int) != 64))
 (.ret (((false, ()), ()), ((), ())))
 (.get (k189u_V a3) fun y1 =>
 .ite y1.1.1.1
 (.ret (((false, ()), ()), ((), ())))
 (.get (k170u_V a7) fun y2 =>
 .ret ((((!y2.1.1.1), ()), ()), ((), ()))))
def k89_V := fun a0 a1 a2 a3 a4 a5 a6 a7 a8 a9 a10 => (f89_tree a0 a1 a2 a3 a4 a5 a6 a7 a8 a9 a10).eval
def k89 : Con := { f := 89, lend := true, its := [⟨false, true, [.i .i64, .i .i64, .ro (.sl tyN), .ro tyP, .ro tyI, .ro (.sl tyI), .ro tyO, .ro tyU, .ro tyF, .ro tyI, .ro tyI]⟩], lay := [none], rs := [⟨false, false, [.b]⟩], F := fun x => .get (k89_V x.1.1 x.1.2.1 x.1.2.2.1 x.1.2.2.2.1 x.1.2.2.2.2.1 x.1.2.2.2.2.2.1 x.1.2.2.2.2.2.2.1 x.1.2.2.2.2.2.2.2.1 x.1.2.2.2.2.2.2.2.2.1 x.1.2.2.2.2.2.2.2.2.2.1 x.1.2.2.2.2.2.2.2.2.2.2.1) fun y => .ret y }
theorem f89_eq (x : itemsD k89.its) : bo [k189u, k170u] (fun _ => none) Tryz.f89 k89 [.tmp 2] x = f89_tree x.1.1 x.1.2.1 x.1.2.2.1 x.1.2.2.2.1 x.1.2.2.2.2.1 x.1.2.2.2.2.2.1 x.1.2.2.2.2.2.2.1 x.1.2.2.2.2.2.2.2.1 x.1.2.2.2.2.2.2.2.2.1 x.1.2.2.2.2.2.2.2.2.2.1 x.1.2.2.2.2.2.2.2.2.2.2.1 := by kernel_rfl
theorem k89_ok : k89.Ok Tryz.prog := con_fn [k189u, k170u] ⟨k189u_ok, k170u_ok, trivial⟩ f89_eq fun _ _ _ hy => (eval_get_ret _).symm.trans hy
abbrev f196_S0 := (Int × Int × Unit) × (List Int × Unit)
def f196_L0 : f196_S0 → Out (Round f196_S0 ((Unit) × (List Int × Unit)) Empty)
| ((p0, p1, _), p2, _) =>
 .ite (decide (p0 < p1))
 (.ite (decide (0 ≤ p1 ∧ p1 < ((List.length p2 : Nat) : Int)))
 (.get (nth p2 (Int.toNat p1)) fun y1 =>
 .ite (decide (0 ≤ p0 ∧ p0 < ((List.length p2 : Nat) : Int)))
 (.get (nth p2 (Int.toNat p0)) fun y2 =>
 .ite (decide (0 ≤ p0 ∧ p0 < ((List.length p2 : Nat) : Int)))
 (.get (nth p2 (Int.toNat p0)) fun y3 =>
 .ite (decide (0 ≤ p1 ∧ p1 < ((List.length (List.set p2 (Int.toNat p0) y1) : Nat) : Int)))
 (.get (nth (List.set p2 (Int.toNat p0) y1) (Int.toNat p1)) fun y4 =>
 .ret (.again (((IntKind.i64.wrap (p0 + 1)), (IntKind.i64.wrap (p1 - (1 : Int))), ()), ((List.set (List.set p2 (Int.toNat p0) y1) (Int.toNat p1) y2), ()))))
 .fail)
 .fail)
 .fail)
 .fail)
 (.ret (.out ((), (p2, ()))))
def f196_tree (a0 : List Int) : Out ((Unit) × ((List Int × Unit) × Unit)) :=
 .get (iter1 f196_L0 FUEL ((0, (IntKind.i64.wrap (((List.length a0 : Nat) : Int) - (1 : Int))), ()), (a0, ()))) fun y1 =>
 .ret ((), ((y1.2.1, ()), ()))
def f196_A : Nat → Option LoopAnn := fun n => annOf [(0, ⟨⟨[.srf 0, .dead, .i .i64, .i .i64] ++ dd 24, [(0, .arr tyI)]⟩, ⟨[.srf 0] ++ dd 27, [(0, .arr tyI)]⟩, none, false⟩)] n
def k196_V := fun a0 => (f196_tree a0).eval
def k196 : Con := { f := 196, lend := true, its := [⟨false, false, [.mut tyI]⟩], lay := [none], rs := [], F := fun x => .get (k196_V x.1.1) fun y => .ret y }
theorem f196_eq (x : itemsD k196.its) : bo [] f196_A Tryz.f196 k196 [] x = f196_tree x.1.1 := by kernel_rfl
theorem k196_ok : k196.Ok Tryz.prog := con_fn [] trivial f196_eq fun _ _ _ hy => (eval_get_ret _).symm.trans hy
def f93_tree (a0 : List Int) : Out (((List Int × Unit) × Unit) × (Unit × Unit)) :=
 .get (cloneV a0) fun y1 =>
 .get (k196_V y1) fun y2 =>
 .ret (((y2.2.1.1, ()), ()), ((), ()))
def k93_V := fun a0 => (f93_tree a0).eval
def k93 : Con := { f := 93, lend := true, its := [⟨false, false, [.ro tyI]⟩], lay := [none], rs := [⟨false, false, [.own tyI]⟩], F := fun x => .get (k93_V x.1.1) fun y => .ret y }
theorem f93_eq (x : itemsD k93.its) : bo [k84, k196] (fun _ => none) Tryz.f93 k93 [.tmp 2] x = f93_tree x.1.1 := by kernel_rfl
theorem k93_ok : k93.Ok Tryz.prog := con_fn [k84, k196] ⟨k84_ok, k196_ok, trivial⟩ f93_eq fun _ _ _ hy => (eval_get_ret _).symm.trans hy
def f96_tree (a0 : Int) (a1 : Int) (a2 : Int) (a3 : Int) (a4 : Int) (a5 : Int) (a6 : Int) (a7 : Int) (a8 : Int) (a9 : Int) : Out (((Int × Unit) × Unit) × XI) :=
 .get (k97_V a0 a5) fun y1 =>
 .ret (((y1.1.1.1, ()), ()), ((), (), ()))
def k96_V := fun a0 a1 a2 a3 a4 a5 a6 a7 a8 a9 => (f96_tree a0 a1 a2 a3 a4 a5 a6 a7 a8 a9).eval
def k96 : Con := { f := 96, lend := true, its := [⟨false, true, [.i .i64, .i .i64, .i .i64, .i .i64, .i .i64]⟩, ⟨false, true, [.i .i64, .i .i64, .i .i64, .i .i64, .i .i64]⟩], lay := [none, none], rs := [⟨false, false, [.i .i64]⟩], F := fun x => .get (k96_V x.1.1 x.1.2.1 x.1.2.2.1 x.1.2.2.2.1 x.1.2.2.2.2.1 x.2.1.1 x.2.1.2.1 x.2.1.2.2.1 x.2.1.2.2.2.1 x.2.1.2.2.2.2.1) fun y => .ret y }
theorem f96_eq (x : itemsD k96.its) : bo [k97] (fun _ => none) Tryz.f96 k96 [.tmp 4] x = f96_tree x.1.1 x.1.2.1 x.1.2.2.1 x.1.2.2.2.1 x.1.2.2.2.2.1 x.2.1.1 x.2.1.2.1 x.2.1.2.2.1 x.2.1.2.2.2.1 x.2.1.2.2.2.2.1 := by kernel_rfl
theorem k96_ok : k96.Ok Tryz.prog := con_fn [k97] ⟨k97_ok, trivial⟩ f96_eq fun _ _ _ hy => (eval_get_ret _).symm.trans hy
abbrev f253u_S2 := InsD × (List OpenD × Unit)
def f253u_L2 : f253u_S2 → Out (Round f253u_S2 ((Int × Int × Int × Unit) × (List OpenD × Unit)) Empty)
| ((p0, p1, p2, p3, _), p4, _) =>
 .ite ((decide (p3 > p0)) == true)
 (.ite (decide (0 ≤ p3 ∧ p3 < ((List.length p4 : Nat) : Int)))
 (.get (nth p4 (Int.toNat p3)) fun y1 =>
 .ite (decide (0 ≤ (IntKind.i64.wrap (p3 - (1 : Int))) ∧ (IntKind.i64.wrap (p3 - (1 : Int))) < ((List.length p4 : Nat) : Int)))
 (.get (nth p4 (Int.toNat (IntKind.i64.wrap (p3 - (1 : Int))))) fun y2 =>
 .get (k96_V y1.1 y1.2.1 y1.2.2.1 y1.2.2.2.1 y1.2.2.2.2.1 y2.1 y2.2.1 y2.2.2.1 y2.2.2.2.1 y2.2.2.2.2.1) fun y3 =>
 .ite (decide (y3.1.1.1 < 0))
 (.ite (decide (0 ≤ (IntKind.i64.wrap (p3 - (1 : Int))) ∧ (IntKind.i64.wrap (p3 - (1 : Int))) < ((List.length p4 : Nat) : Int)))
 (.get (nth p4 (Int.toNat (IntKind.i64.wrap (p3 - (1 : Int))))) fun (y4aa, y4ab, y4ac, y4ad, y4ae, _) =>
 .ite (decide (0 ≤ p3 ∧ p3 < ((List.length p4 : Nat) : Int)))
 (.get (nth p4 (Int.toNat p3)) fun y5 =>
 .ite (decide (0 ≤ p3 ∧ p3 < ((List.length p4 : Nat) : Int)))
 (.get (nth p4 (Int.toNat p3)) fun y6 =>
 .ite (decide (0 ≤ (IntKind.i64.wrap (p3 - (1 : Int))) ∧ (IntKind.i64.wrap (p3 - (1 : Int))) < ((List.length (List.set p4 (Int.toNat p3) (y4aa, y4ab, y4ac, y4ad, y4ae, ())) : Nat) : Int)))
 (.get (nth (List.set p4 (Int.toNat p3) (y4aa, y4ab, y4ac, y4ad, y4ae, ())) (Int.toNat (IntKind.i64.wrap (p3 - (1 : Int))))) fun y7 =>
 .ret (.again ((p0, p1, p2, (IntKind.i64.wrap (p3 - (1 : Int))), ()), ((List.set (List.set p4 (Int.toNat p3) (y4aa, y4ab, y4ac, y4ad, y4ae, ())) (Int.toNat (IntKind.i64.wrap (p3 - (1 : Int)))) (y5.1, y5.2.1, y5.2.2.1, y5.2.2.2.1, y5.2.2.2.2.1, ())), ()))))
 .fail)
 .fail)
 .fail)
 .fail)
 (.ret (.out ((p0, p1, p2, ()), (p4, ())))))
 .fail)
 .fail)
 (.ret (.out ((p0, p1, p2, ()), (p4, ()))))
abbrev f253u_S0 := (Int × Int × Int × Unit) × (List OpenD × Unit)
def f253u_L0 : f253u_S0 → Out (Round f253u_S0 ((Unit) × (List OpenD × Unit)) Empty)
| ((p0, p1, p2, _), p3, _) =>
 .ite (decide (p2 < p1))
 (.get (iter1 f253u_L2 FUEL ((p0, p1, p2, p2, ()), (p3, ()))) fun y1 =>
 .ret (.again ((y1.1.1, y1.1.2.1, (IntKind.i64.wrap (y1.1.2.2.1 + 1)), ()), (y1.2.1, ()))))
 (.ret (.out ((), (p3, ()))))
def f253u_tree (a0 : List OpenD) (a1 : Int) (a2 : Int) : Out ((Unit) × ((List OpenD × Unit) × XI)) :=
 .get (iter1 f253u_L0 FUEL ((a1, a2, (IntKind.i64.wrap (a1 + 1)), ()), (a0, ()))) fun y1 =>
 .ret ((), ((y1.2.1, ()), (), (), ()))
def f253u_A : Nat → Option LoopAnn := fun n => annOf [(0, ⟨⟨[.srf 0, .i .i64, .i .i64, .fn 96 []] ++ dd 4 ++ [.i .i64] ++ dd 44, [(0, .arr tyO)]⟩, ⟨[.srf 0] ++ dd 52, [(0, .arr tyO)]⟩, none, false⟩), (2, ⟨⟨[.srf 0, .i .i64, .i .i64, .fn 96 []] ++ dd 4 ++ [.i .i64, .i .i64] ++ dd 43, [(0, .arr tyO)]⟩, ⟨[.srf 0, .i .i64, .i .i64, .fn 96 []] ++ dd 4 ++ [.i .i64] ++ dd 44, [(0, .arr tyO)]⟩, none, false⟩)] n
def k253u_V := fun a0 a1 a2 => (f253u_tree a0 a1 a2).eval
def k253u : Con := { f := 253, lend := true, its := [⟨false, false, [.mut tyO]⟩, ⟨false, false, [.i .i64]⟩, ⟨false, false, [.i .i64]⟩], lay := [none, none, none, some (96, 0)], rs := [], F := fun x => .get (k253u_V x.1.1 x.2.1.1 x.2.2.1.1) fun y => .ret y }
theorem f253u_eq (x : itemsD k253u.its) : bo [k96] f253u_A Tryz.f253 k253u [] x = f253u_tree x.1.1 x.2.1.1 x.2.2.1.1 := by kernel_rfl
theorem k253u_ok : k253u.Ok Tryz.prog := con_fn [k96] ⟨k96_ok, trivial⟩ f253u_eq fun _ _ _ hy => (eval_get_ret _).symm.trans hy
abbrev f198u_S0 := InsD × (List OpenD × Unit)
def f198u_L0 : f198u_S0 → Out (Round f198u_S0 ((Int × Int × Int × Unit) × (List OpenD × Unit)) Empty)
| ((p0, p1, p2, p3, _), p4, _) =>
 .ite (decide (p3 ≤ p0))
 (.get (k253u_V p4 p2 p3) fun y1 =>
 .ret (.again ((p0, p1, p3, (IntKind.i64.wrap (p3 + p1)), ()), (y1.2.1.1, ()))))
 (.ret (.out ((p0, p1, p2, ()), (p4, ()))))
abbrev f198u_S4 := InsD × (List OpenD × Unit)
def f198u_L4 : f198u_S4 → Out (Round f198u_S4 ((Int × Int × Int × Unit) × (List OpenD × Unit)) Empty)
| ((p0, p1, p2, p3, _), p4, _) =>
 .ite (decide (p3 ≤ p0))
 .fail
 (.ret (.out ((p0, p1, p2, ()), (p4, ()))))
abbrev f198u_S2 := (Int × Int × Unit) × (List OpenD × Unit)
def f198u_L2 : f198u_S2 → Out (Round f198u_S2 ((Unit) × (List OpenD × Unit)) Empty)
| ((p0, p1, _), p2, _) =>
 .ite (decide (p1 < p0))
 (.get (iter1 f198u_L4 FUEL ((p0, p1, 0, (IntKind.i64.wrap ((2 : Int) * p1)), ()), (p2, ()))) fun y1 =>
 .ite (decide ((IntKind.i64.wrap (y1.1.2.2.1 + y1.1.2.1)) < y1.1.1))
 .fail
 (.ret (.again ((y1.1.1, (IntKind.i64.wrap (y1.1.2.1 * (2 : Int))), ()), (y1.2.1, ())))))
 (.ret (.out ((), (p2, ()))))
def f198u_tree (a0 : List OpenD) (a1 : Int) : Out ((Unit) × ((List OpenD × Unit) × Unit × Unit)) :=
 .get (iter1 f198u_L0 FUEL ((a1, 20, 0, 20, ()), (a0, ()))) fun y1 =>
 .get (k253u_V y1.2.1 y1.1.2.2.1 y1.1.1) fun y2 =>
 .get (iter1 f198u_L2 FUEL ((y1.1.1, y1.1.2.1, ()), (y2.2.1.1, ()))) fun y3 =>
 .ret ((), ((y3.2.1, ()), (), ()))
def f198u_A : Nat → Option LoopAnn := fun n => annOf [(0, ⟨⟨[.srf 0, .i .i64, .fn 96 [], .dead, .dead, .dead, .i .i64, .i .i64, .i .i64] ++ dd 54, [(0, .arr tyO)]⟩, ⟨[.srf 0, .i .i64, .fn 96 [], .dead, .dead, .dead, .i .i64, .i .i64] ++ dd 55, [(0, .arr tyO)]⟩, none, false⟩), (2, ⟨⟨[.srf 0, .i .i64, .fn 96 [], .dead, .dead, .dead, .i .i64] ++ dd 56, [(0, .arr tyO)]⟩, ⟨[.srf 0] ++ dd 62, [(0, .arr tyO)]⟩, none, false⟩), (4, ⟨⟨[.srf 0, .i .i64, .fn 96 [], .dead, .dead, .dead, .i .i64, .i .i64, .i .i64] ++ dd 54, [(0, .arr tyO)]⟩, ⟨[.srf 0, .i .i64, .fn 96 [], .dead, .dead, .dead, .i .i64, .i .i64] ++ dd 55, [(0, .arr tyO)]⟩, none, false⟩)] n
def k198u_V := fun a0 a1 => (f198u_tree a0 a1).eval
def k198u : Con := { f := 198, lend := true, its := [⟨false, false, [.mut tyO]⟩, ⟨false, false, [.i .i64]⟩], lay := [none, none, some (96, 0)], rs := [], F := fun x => .get (k198u_V x.1.1 x.2.1.1) fun y => .ret y }
theorem f198u_eq (x : itemsD k198u.its) : bo [k253u] f198u_A Tryz.f198 k198u [] x = f198u_tree x.1.1 x.2.1.1 := by kernel_rfl
theorem k198u_ok : k198u.Ok Tryz.prog := con_fn [k253u] ⟨k253u_ok, trivial⟩ f198u_eq fun _ _ _ hy => (eval_get_ret _).symm.trans hy
def f95u_tree (a0 : List OpenD) : Out ((Unit) × ((List OpenD × Unit) × Unit)) :=
 .get (k198u_V a0 ((List.length a0 : Nat) : Int)) fun y1 =>
 .ret ((), ((y1.2.1.1, ()), ()))
def k95u_V := fun a0 => (f95u_tree a0).eval
def k95u : Con := { f := 95, lend := true, its := [⟨false, false, [.mut tyO]⟩], lay := [none, some (96, 0)], rs := [], F := fun x => .get (k95u_V x.1.1) fun y => .ret y }
theorem f95u_eq (x : itemsD k95u.its) : bo [k198u] (fun _ => none) Tryz.f95 k95u [] x = f95u_tree x.1.1 := by kernel_rfl
theorem k95u_ok : k95u.Ok Tryz.prog := con_fn [k198u] ⟨k198u_ok, trivial⟩ f95u_eq fun _ _ _ hy => (eval_get_ret _).symm.trans hy
abbrev f255u_S2 := InsD × (List CpuD × Unit)
def f255u_L2 : f255u_S2 → Out (Round f255u_S2 ((Int × Int × Int × Unit) × (List CpuD × Unit)) Empty)
| ((p0, p1, p2, p3, _), p4, _) =>
 .ite ((decide (p3 > p0)) == true)
 (.ite (decide (0 ≤ p3 ∧ p3 < ((List.length p4 : Nat) : Int)))
 (.get (nth p4 (Int.toNat p3)) fun y1 =>
 .ite (decide (0 ≤ (IntKind.i64.wrap (p3 - (1 : Int))) ∧ (IntKind.i64.wrap (p3 - (1 : Int))) < ((List.length p4 : Nat) : Int)))
 (.get (nth p4 (Int.toNat (IntKind.i64.wrap (p3 - (1 : Int))))) fun y2 =>
 .fail)
 .fail)
 .fail)
 (.ret (.out ((p0, p1, p2, ()), (p4, ()))))
abbrev f255u_S0 := (Int × Int × Int × Unit) × (List CpuD × Unit)
def f255u_L0 : f255u_S0 → Out (Round f255u_S0 ((Unit) × (List CpuD × Unit)) Empty)
| ((p0, p1, p2, _), p3, _) =>
 .ite (decide (p2 < p1))
 (.get (iter1 f255u_L2 FUEL ((p0, p1, p2, p2, ()), (p3, ()))) fun y1 =>
 .ret (.again ((y1.1.1, y1.1.2.1, (IntKind.i64.wrap (y1.1.2.2.1 + 1)), ()), (y1.2.1, ()))))
 (.ret (.out ((), (p3, ()))))
def f255u_tree (a0 : List CpuD) (a1 : Int) (a2 : Int) : Out ((Unit) × ((List CpuD × Unit) × XI)) :=
 .get (iter1 f255u_L0 FUEL ((a1, a2, (IntKind.i64.wrap (a1 + 1)), ()), (a0, ()))) fun y1 =>
 .ret ((), ((y1.2.1, ()), (), (), ()))
def f255u_A : Nat → Option LoopAnn := fun n => annOf [(0, ⟨⟨[.srf 0, .i .i64, .i .i64, .fn 99 []] ++ dd 4 ++ [.i .i64] ++ dd 44, [(0, .arr tyF)]⟩, ⟨[.srf 0] ++ dd 52, [(0, .arr tyF)]⟩, none, false⟩), (2, ⟨⟨[.srf 0, .i .i64, .i .i64, .fn 99 []] ++ dd 4 ++ [.i .i64, .i .i64] ++ dd 43, [(0, .arr tyF)]⟩, ⟨[.srf 0, .i .i64, .i .i64, .fn 99 []] ++ dd 4 ++ [.i .i64] ++ dd 44, [(0, .arr tyF)]⟩, none, false⟩)] n
def k255u_V := fun a0 a1 a2 => (f255u_tree a0 a1 a2).eval
def k255u : Con := { f := 255, lend := true, its := [⟨false, false, [.mut tyF]⟩, ⟨false, false, [.i .i64]⟩, ⟨false, false, [.i .i64]⟩], lay := [none, none, none, some (99, 0)], rs := [], F := fun x => .get (k255u_V x.1.1 x.2.1.1 x.2.2.1.1) fun y => .ret y }
theorem f255u_eq (x : itemsD k255u.its) : bo [] f255u_A Tryz.f255 k255u [] x = f255u_tree x.1.1 x.2.1.1 x.2.2.1.1 := by kernel_rfl
theorem k255u_ok : k255u.Ok Tryz.prog := con_fn [] trivial f255u_eq fun _ _ _ hy => (eval_get_ret _).symm.trans hy
abbrev f199u_S0 := InsD × (List CpuD × Unit)
def f199u_L0 : f199u_S0 → Out (Round f199u_S0 ((Int × Int × Int × Unit) × (List CpuD × Unit)) Empty)
| ((p0, p1, p2, p3, _), p4, _) =>
 .ite (decide (p3 ≤ p0))
 (.get (k255u_V p4 p2 p3) fun y1 =>
 .ret (.again ((p0, p1, p3, (IntKind.i64.wrap (p3 + p1)), ()), (y1.2.1.1, ()))))
 (.ret (.out ((p0, p1, p2, ()), (p4, ()))))
abbrev f199u_S4 := InsD × (List CpuD × Unit)
def f199u_L4 : f199u_S4 → Out (Round f199u_S4 ((Int × Int × Int × Unit) × (List CpuD × Unit)) Empty)
| ((p0, p1, p2, p3, _), p4, _) =>
 .ite (decide (p3 ≤ p0))
 .fail
 (.ret (.out ((p0, p1, p2, ()), (p4, ()))))
abbrev f199u_S2 := (Int × Int × Unit) × (List CpuD × Unit)
def f199u_L2 : f199u_S2 → Out (Round f199u_S2 ((Unit) × (List CpuD × Unit)) Empty)
| ((p0, p1, _), p2, _) =>
 .ite (decide (p1 < p0))
 (.get (iter1 f199u_L4 FUEL ((p0, p1, 0, (IntKind.i64.wrap ((2 : Int) * p1)), ()), (p2, ()))) fun y1 =>
 .ite (decide ((IntKind.i64.wrap (y1.1.2.2.1 + y1.1.2.1)) < y1.1.1))
 .fail
 (.ret (.again ((y1.1.1, (IntKind.i64.wrap (y1.1.2.1 * (2 : Int))), ()), (y1.2.1, ())))))
 (.ret (.out ((), (p2, ()))))
def f199u_tree (a0 : List CpuD) (a1 : Int) : Out ((Unit) × ((List CpuD × Unit) × Unit × Unit)) :=
 .get (iter1 f199u_L0 FUEL ((a1, 20, 0, 20, ()), (a0, ()))) fun y1 =>
 .get (k255u_V y1.2.1 y1.1.2.2.1 y1.1.1) fun y2 =>
 .get (iter1 f199u_L2 FUEL ((y1.1.1, y1.1.2.1, ()), (y2.2.1.1, ()))) fun y3 =>
 .ret ((), ((y3.2.1, ()), (), ()))
def f199u_A : Nat → Option LoopAnn := fun n => annOf [(0, ⟨⟨[.srf 0, .i .i64, .fn 99 [], .dead, .dead, .dead, .i .i64, .i .i64, .i .i64] ++ dd 54, [(0, .arr tyF)]⟩, ⟨[.srf 0, .i .i64, .fn 99 [], .dead, .dead, .dead, .i .i64, .i .i64] ++ dd 55, [(0, .arr tyF)]⟩, none, false⟩), (2, ⟨⟨[.srf 0, .i .i64, .fn 99 [], .dead, .dead, .dead, .i .i64] ++ dd 56, [(0, .arr tyF)]⟩, ⟨[.srf 0] ++ dd 62, [(0, .arr tyF)]⟩, none, false⟩), (4, ⟨⟨[.srf 0, .i .i64, .fn 99 [], .dead, .dead, .dead, .i .i64, .i .i64, .i .i64] ++ dd 54, [(0, .arr tyF)]⟩, ⟨[.srf 0, .i .i64, .fn 99 [], .dead, .dead, .dead, .i .i64, .i .i64] ++ dd 55, [(0, .arr tyF)]⟩, none, false⟩)] n
def k199u_V := fun a0 a1 => (f199u_tree a0 a1).eval
def k199u : Con := { f := 199, lend := true, its := [⟨false, false, [.mut tyF]⟩, ⟨false, false, [.i .i64]⟩], lay := [none, none, some (99, 0)], rs := [], F := fun x => .get (k199u_V x.1.1 x.2.1.1) fun y => .ret y }
theorem f199u_eq (x : itemsD k199u.its) : bo [k255u] f199u_A Tryz.f199 k199u [] x = f199u_tree x.1.1 x.2.1.1 := by kernel_rfl
theorem k199u_ok : k199u.Ok Tryz.prog := con_fn [k255u] ⟨k255u_ok, trivial⟩ f199u_eq fun _ _ _ hy => (eval_get_ret _).symm.trans hy
def f98u_tree (a0 : List CpuD) : Out ((Unit) × ((List CpuD × Unit) × Unit)) :=
 .get (k199u_V a0 ((List.length a0 : Nat) : Int)) fun y1 =>
 .ret ((), ((y1.2.1.1, ()), ()))
def k98u_V := fun a0 => (f98u_tree a0).eval
def k98u : Con := { f := 98, lend := true, its := [⟨false, false, [.mut tyF]⟩], lay := [none, some (99, 0)], rs := [], F := fun x => .get (k98u_V x.1.1) fun y => .ret y }
theorem f98u_eq (x : itemsD k98u.its) : bo [k199u] (fun _ => none) Tryz.f98 k98u [] x = f98u_tree x.1.1 := by kernel_rfl
theorem k98u_ok : k98u.Ok Tryz.prog := con_fn [k199u] ⟨k199u_ok, trivial⟩ f98u_eq fun _ _ _ hy => (eval_get_ret _).symm.trans hy
abbrev f257u_S2 := InsD × (List CpuD × Unit)
def f257u_L2 : f257u_S2 → Out (Round f257u_S2 ((Int × Int × Int × Unit) × (List CpuD × Unit)) Empty)
| ((p0, p1, p2, p3, _), p4, _) =>
 .ite ((decide (p3 > p0)) == true)
 (.ite (decide (0 ≤ p3 ∧ p3 < ((List.length p4 : Nat) : Int)))
 (.get (nth p4 (Int.toNat p3)) fun y1 =>
 .ite (decide (0 ≤ (IntKind.i64.wrap (p3 - (1 : Int))) ∧ (IntKind.i64.wrap (p3 - (1 : Int))) < ((List.length p4 : Nat) : Int)))
 (.get (nth p4 (Int.toNat (IntKind.i64.wrap (p3 - (1 : Int))))) fun y2 =>
 .fail)
 .fail)
 .fail)
 (.ret (.out ((p0, p1, p2, ()), (p4, ()))))
abbrev f257u_S0 := (Int × Int × Int × Unit) × (List CpuD × Unit)
def f257u_L0 : f257u_S0 → Out (Round f257u_S0 ((Unit) × (List CpuD × Unit)) Empty)
| ((p0, p1, p2, _), p3, _) =>
 .ite (decide (p2 < p1))
 (.get (iter1 f257u_L2 FUEL ((p0, p1, p2, p2, ()), (p3, ()))) fun y1 =>
 .ret (.again ((y1.1.1, y1.1.2.1, (IntKind.i64.wrap (y1.1.2.2.1 + 1)), ()), (y1.2.1, ()))))
 (.ret (.out ((), (p3, ()))))
def f257u_tree (a0 : List CpuD) (a1 : Int) (a2 : Int) : Out ((Unit) × ((List CpuD × Unit) × XI)) :=
 .get (iter1 f257u_L0 FUEL ((a1, a2, (IntKind.i64.wrap (a1 + 1)), ()), (a0, ()))) fun y1 =>
 .ret ((), ((y1.2.1, ()), (), (), ()))
def f257u_A : Nat → Option LoopAnn := fun n => annOf [(0, ⟨⟨[.srf 0, .i .i64, .i .i64, .fn 101 []] ++ dd 4 ++ [.i .i64] ++ dd 44, [(0, .arr tyF)]⟩, ⟨[.srf 0] ++ dd 52, [(0, .arr tyF)]⟩, none, false⟩), (2, ⟨⟨[.srf 0, .i .i64, .i .i64, .fn 101 []] ++ dd 4 ++ [.i .i64, .i .i64] ++ dd 43, [(0, .arr tyF)]⟩, ⟨[.srf 0, .i .i64, .i .i64, .fn 101 []] ++ dd 4 ++ [.i .i64] ++ dd 44, [(0, .arr tyF)]⟩, none, false⟩)] n
def k257u_V := fun a0 a1 a2 => (f257u_tree a0 a1 a2).eval
def k257u : Con := { f := 257, lend := true, its := [⟨false, false, [.mut tyF]⟩, ⟨false, false, [.i .i64]⟩, ⟨false, false, [.i .i64]⟩], lay := [none, none, none, some (101, 0)], rs := [], F := fun x => .get (k257u_V x.1.1 x.2.1.1 x.2.2.1.1) fun y => .ret y }
theorem f257u_eq (x : itemsD k257u.its) : bo [] f257u_A Tryz.f257 k257u [] x = f257u_tree x.1.1 x.2.1.1 x.2.2.1.1 := by kernel_rfl
theorem k257u_ok : k257u.Ok Tryz.prog := con_fn [] trivial f257u_eq fun _ _ _ hy => (eval_get_ret _).symm.trans hy
abbrev f200u_S0 := InsD × (List CpuD × Unit)
def f200u_L0 : f200u_S0 → Out (Round f200u_S0 ((Int × Int × Int × Unit) × (List CpuD × Unit)) Empty)
| ((p0, p1, p2, p3, _), p4, _) =>
 .ite (decide (p3 ≤ p0))
 (.get (k257u_V p4 p2 p3) fun y1 =>
 .ret (.again ((p0, p1, p3, (IntKind.i64.wrap (p3 + p1)), ()), (y1.2.1.1, ()))))
 (.ret (.out ((p0, p1, p2, ()), (p4, ()))))
abbrev f200u_S4 := InsD × (List CpuD × Unit)
def f200u_L4 : f200u_S4 → Out (Round f200u_S4 ((Int × Int × Int × Unit) × (List CpuD × Unit)) Empty)
| ((p0, p1, p2, p3, _), p4, _) =>
 .ite (decide (p3 ≤ p0))
 .fail
 (.ret (.out ((p0, p1, p2, ()), (p4, ()))))
abbrev f200u_S2 := (Int × Int × Unit) × (List CpuD × Unit)
def f200u_L2 : f200u_S2 → Out (Round f200u_S2 ((Unit) × (List CpuD × Unit)) Empty)
| ((p0, p1, _), p2, _) =>
 .ite (decide (p1 < p0))
 (.get (iter1 f200u_L4 FUEL ((p0, p1, 0, (IntKind.i64.wrap ((2 : Int) * p1)), ()), (p2, ()))) fun y1 =>
 .ite (decide ((IntKind.i64.wrap (y1.1.2.2.1 + y1.1.2.1)) < y1.1.1))
 .fail
 (.ret (.again ((y1.1.1, (IntKind.i64.wrap (y1.1.2.1 * (2 : Int))), ()), (y1.2.1, ())))))
 (.ret (.out ((), (p2, ()))))
def f200u_tree (a0 : List CpuD) (a1 : Int) : Out ((Unit) × ((List CpuD × Unit) × Unit × Unit)) :=
 .get (iter1 f200u_L0 FUEL ((a1, 20, 0, 20, ()), (a0, ()))) fun y1 =>
 .get (k257u_V y1.2.1 y1.1.2.2.1 y1.1.1) fun y2 =>
 .get (iter1 f200u_L2 FUEL ((y1.1.1, y1.1.2.1, ()), (y2.2.1.1, ()))) fun y3 =>
 .ret ((), ((y3.2.1, ()), (), ()))
def f200u_A : Nat → Option LoopAnn := fun n => annOf [(0, ⟨⟨[.srf 0, .i .i64, .fn 101 [], .dead, .dead, .dead, .i .i64, .i .i64, .i .i64] ++ dd 54, [(0, .arr tyF)]⟩, ⟨[.srf 0, .i .i64, .fn 101 [], .dead, .dead, .dead, .i .i64, .i .i64] ++ dd 55, [(0, .arr tyF)]⟩, none, false⟩), (2, ⟨⟨[.srf 0, .i .i64, .fn 101 [], .dead, .dead, .dead, .i .i64] ++ dd 56, [(0, .arr tyF)]⟩, ⟨[.srf 0] ++ dd 62, [(0, .arr tyF)]⟩, none, false⟩), (4, ⟨⟨[.srf 0, .i .i64, .fn 101 [], .dead, .dead, .dead, .i .i64, .i .i64, .i .i64] ++ dd 54, [(0, .arr tyF)]⟩, ⟨[.srf 0, .i .i64, .fn 101 [], .dead, .dead, .dead, .i .i64, .i .i64] ++ dd 55, [(0, .arr tyF)]⟩, none, false⟩)] n
def k200u_V := fun a0 a1 => (f200u_tree a0 a1).eval
def k200u : Con := { f := 200, lend := true, its := [⟨false, false, [.mut tyF]⟩, ⟨false, false, [.i .i64]⟩], lay := [none, none, some (101, 0)], rs := [], F := fun x => .get (k200u_V x.1.1 x.2.1.1) fun y => .ret y }
theorem f200u_eq (x : itemsD k200u.its) : bo [k257u] f200u_A Tryz.f200 k200u [] x = f200u_tree x.1.1 x.2.1.1 := by kernel_rfl
theorem k200u_ok : k200u.Ok Tryz.prog := con_fn [k257u] ⟨k257u_ok, trivial⟩ f200u_eq fun _ _ _ hy => (eval_get_ret _).symm.trans hy
def f100u_tree (a0 : List CpuD) : Out ((Unit) × ((List CpuD × Unit) × Unit)) :=
 .get (k200u_V a0 ((List.length a0 : Nat) : Int)) fun y1 =>
 .ret ((), ((y1.2.1.1, ()), ()))
def k100u_V := fun a0 => (f100u_tree a0).eval
def k100u : Con := { f := 100, lend := true, its := [⟨false, false, [.mut tyF]⟩], lay := [none, some (101, 0)], rs := [], F := fun x => .get (k100u_V x.1.1) fun y => .ret y }
theorem f100u_eq (x : itemsD k100u.its) : bo [k200u] (fun _ => none) Tryz.f100 k100u [] x = f100u_tree x.1.1 := by kernel_rfl
theorem k100u_ok : k100u.Ok Tryz.prog := con_fn [k200u] ⟨k200u_ok, trivial⟩ f100u_eq fun _ _ _ hy => (eval_get_ret _).symm.trans hy
abbrev f42_S0 := XS × ((Int × Int × List (List InsD) × List ProcD × List Int × List (List Int) × List OpenD × List (XH) × List CpuD × List Int × List Int × Unit) × (Int × Int × Unit) × (Int × Int × Unit) × List (List InsD) × List ProcD × List OpenD × List CpuD × List CpuD × List Int × List Int × U7T)
def f42_L0 : f42_S0 → Out (Round f42_S0 ((Unit) × ((Int × Int × List (List InsD) × List ProcD × List Int × List (List Int) × List OpenD × List (XH) × List CpuD × List Int × List Int × Unit) × (Int × Int × Unit) × (Int × Int × Unit) × List (List InsD) × List ProcD × List OpenD × List CpuD × List CpuD × List Int × List Int × U7T)) Empty)
| ((p0, p1, p2, _), (p3, p4, p5, p6, p7, p8, p9, p10, p11, p12, p13, _), (p14, p15, _), (p16, p17, _), p18, p19, p20, p21, p22, p23, p24, p25, p26, p27, p28, p29, p30, p31, _) =>
 .ite (decide (p2 < p1))
 (.ite (decide (0 ≤ p2))
 (.get (nth p0 (Int.toNat p2)) fun (y1aa, y1ab, y1ac, y1ad, (y1ae, y1af, _), y1ag, y1ah, y1ai, y1aj, _) =>
 .get (cloneCpuV y1ae y1af) fun y2 =>
 .get (k93_V y1ag) fun y3 =>
 .get (k85_V p7 y3.1.1.1) fun y4 =>
 .get (cloneV y1ah) fun y5 =>
 .ite (decide (List.length p26 + List.length ([(y1aa, y1ab, y1ac, y1ad, (y2.1, y2.2, ()), y4.1.1.1, y5, y1ai, y1aj, ())] : List ProcD) ≤ LIM))
 (.ret (.again ((p0, p1, (IntKind.i64.wrap (p2 + 1)), ()), ((p3, p4, p5, p6, p7, p8, p9, p10, p11, p12, p13, ()), (p14, p15, ()), (p16, p17, ()), p18, p19, p20, p21, p22, p23, p24, p25, (p26 ++ ([(y1aa, y1ab, y1ac, y1ad, (y2.1, y2.2, ()), y4.1.1.1, y5, y1ai, y1aj, ())] : List ProcD)), p27, p28, p29, p30, p31, ()))))
 .fail)
 .fail)
 (.ret (.out ((), ((p3, p4, p5, p6, p7, p8, p9, p10, p11, p12, p13, ()), (p14, p15, ()), (p16, p17, ()), p18, p19, p20, p21, p22, p23, p24, p25, p26, p27, p28, p29, p30, p31, ()))))
abbrev f42_S2 := (List (XH) × Int × Int × Unit) × ((Int × Int × Unit) × (Int × Int × Unit) × List (List InsD) × List ProcD × List OpenD × List CpuD × List CpuD × List Int × List Int × U7T)
def f42_L2 : f42_S2 → Out (Round f42_S2 ((Unit) × ((Int × Int × Unit) × (Int × Int × Unit) × List (List InsD) × List ProcD × List OpenD × List CpuD × List CpuD × List Int × List Int × U7T)) Empty)
| ((p0, p1, p2, _), (p3, p4, _), (p5, p6, _), p7, p8, p9, p10, p11, p12, p13, p14, p15, p16, p17, p18, p19, p20, _) =>
 .ite (decide (p2 < p1))
 (.ite (decide (0 ≤ p2))
 (.get (nth p0 (Int.toNat p2)) fun y1 =>
 .fail)
 .fail)
 (.ret (.out ((), ((p3, p4, ()), (p5, p6, ()), p7, p8, p9, p10, p11, p12, p13, p14, p15, p16, p17, p18, p19, p20, ()))))
def f42_tree (a0 : Int) (a1 : Int) (a2 : List (List InsD)) (a3 : List ProcD) (a4 : List Int) (a5 : List (List Int)) (a6 : List OpenD) (a7 : List XH) (a8 : List CpuD) (a9 : List Int) (a10 : List Int) : Out ((UnixD × Unit) × (Unit × Unit)) :=
 .get (k89_V a0 a1 a2 a3 a4 a5 a6 a7 a8 a9 a10) fun y1 =>
 .ite (!y1.1.1.1)
 (.ret (((0, 0, ([] : List (List InsD)), ([] : List ProcD), ([] : List OpenD), ([] : List CpuD), ([] : List CpuD), ([] : List Int), ([] : List Int), ()), ()), ((), ())))
 (.get (k30_V a2) fun y2 =>
 .get (cloneV a6) fun y3 =>
 .get (k91_V a8) fun y4 =>
 .get (cloneV a9) fun y5 =>
 .get (cloneV a10) fun y6 =>
 .get (iter1 f42_L0 FUEL ((a3, ((List.length a3 : Nat) : Int), 0, ()), ((a0, a1, a2, a3, a4, a5, a6, a7, a8, a9, a10, ()), (0, 0, ()), (a0, a1, ()), ([] : List (List InsD)), ([] : List ProcD), ([] : List OpenD), ([] : List CpuD), ([] : List CpuD), ([] : List Int), ([] : List Int), y2.1.1.1, ([] : List ProcD), y3, ([] : List CpuD), y4.1.1.1, y5, y6, ()))) fun (_, (_, _, _, _, _, _, _, y7aa, _), (y7ab, y7ac, _), (y7ad, y7ae, _), y7af, y7ag, y7ah, y7ai, y7aj, y7ak, y7al, y7am, y7an, y7ao, y7ap, y7aq, y7ar, y7as, _) =>
 .get (iter1 f42_L2 FUEL ((y7aa, ((List.length y7aa : Nat) : Int), 0, ()), ((y7ab, y7ac, ()), (y7ad, y7ae, ()), y7af, y7ag, y7ah, y7ai, y7aj, y7ak, y7al, y7am, y7an, y7ao, y7ap, y7aq, y7ar, y7as, ()))) fun (_, _, (y8aa, y8ab, _), _, _, _, _, _, _, _, y8ac, y8ad, y8ae, y8af, y8ag, y8ah, y8ai, _) =>
 .get (k87u_V y8ad) fun y9 =>
 .get (k95u_V y8ae) fun y10 =>
 .get (k98u_V y8af) fun y11 =>
 .get (k100u_V y8ag) fun y12 =>
 .ret (((y8aa, y8ab, y8ac, y9.2.1.1, y10.2.1.1, y11.2.1.1, y12.2.1.1, y8ah, y8ai, ()), ()), ((), ())))
abbrev f42_s4 : List (Nat × VSlot) := [(64000000, .var [.i .i64, .i .i64, .ro (.sl tyN) (some 0), .ro tyP (some 1), .ro tyI (some 2), .ro (.sl tyI) (some 3), .ro tyO (some 4), .ro tyU (some 5), .ro tyF (some 6), .ro tyI (some 7), .ro tyI (some 8)]), (64000001, .var [.i .i64, .i .i64, .srf 64000003, .srf 64000004, .srf 64000005, .srf 64000006, .srf 64000007, .srf 64000008, .srf 64000009]), (64000002, .var [.i .i64, .i .i64, .srf 64000010, .srf 64000011, .srf 64000012, .srf 64000013, .srf 64000014, .srf 64000015, .srf 64000016]), (64000003, .arr (.sl tyN)), (64000004, .arr tyP), (64000005, .arr tyO), (64000006, .arr tyF), (64000007, .arr tyF), (64000008, .arr tyI), (64000009, .arr tyI), (64000010, .arr (.sl tyN)), (64000011, .arr tyP), (64000012, .arr tyO), (64000013, .arr tyF), (64000014, .arr tyF), (64000015, .arr tyI), (64000016, .arr tyI)]
def f42_A : Nat → Option LoopAnn := fun n => annOf [(0, ⟨⟨[.dead, .vptr 64000000 0, .vptr 64000001 0, .vptr 64000002 0] ++ dd 29 ++ [.ro tyP (some 1), .i .i64, .i .i64] ++ dd 66, f42_s4⟩, ⟨[.dead, .vptr 64000000 0, .vptr 64000001 0, .vptr 64000002 0] ++ dd 98, f42_s4⟩, none, false⟩), (2, ⟨⟨[.dead, .dead, .vptr 64000000 0, .vptr 64000001 0] ++ dd 67 ++ [.ro tyU (some 5), .i .i64, .i .i64] ++ dd 28, f41_s2⟩, ⟨[.dead, .dead, .vptr 64000000 0, .vptr 64000001 0] ++ dd 98, f41_s2⟩, none, false⟩)] n
def k42_V := fun a0 a1 a2 a3 a4 a5 a6 a7 a8 a9 a10 => (f42_tree a0 a1 a2 a3 a4 a5 a6 a7 a8 a9 a10).eval
def k42 : Con := { f := 42, lend := true, its := [⟨false, true, [.i .i64, .i .i64, .ro (.sl tyN), .ro tyP, .ro tyI, .ro (.sl tyI), .ro tyO, .ro tyU, .ro tyF, .ro tyI, .ro tyI]⟩], lay := [none], rs := [⟨false, true, [.i .i64, .i .i64, .own (.sl tyN), .own tyP, .own tyO, .own tyF, .own tyF, .own tyI, .own tyI]⟩], F := fun x => .get (k42_V x.1.1 x.1.2.1 x.1.2.2.1 x.1.2.2.2.1 x.1.2.2.2.2.1 x.1.2.2.2.2.2.1 x.1.2.2.2.2.2.2.1 x.1.2.2.2.2.2.2.2.1 x.1.2.2.2.2.2.2.2.2.1 x.1.2.2.2.2.2.2.2.2.2.1 x.1.2.2.2.2.2.2.2.2.2.2.1) fun y => .ret y }
theorem f42_eq (x : itemsD k42.its) : bo [k89, k30, k90, k91, k84, k92, k93, k85, k87u, k95u, k98u, k100u] f42_A Tryz.f42 k42 [.cell 2 32] x = f42_tree x.1.1 x.1.2.1 x.1.2.2.1 x.1.2.2.2.1 x.1.2.2.2.2.1 x.1.2.2.2.2.2.1 x.1.2.2.2.2.2.2.1 x.1.2.2.2.2.2.2.2.1 x.1.2.2.2.2.2.2.2.2.1 x.1.2.2.2.2.2.2.2.2.2.1 x.1.2.2.2.2.2.2.2.2.2.2.1 := by kernel_rfl
theorem k42_ok : k42.Ok Tryz.prog := con_fn [k89, k30, k90, k91, k84, k92, k93, k85, k87u, k95u, k98u, k100u] ⟨k89_ok, k30_ok, k90_ok, k91_ok, k84_ok, k92_ok, k93_ok, k85_ok, k87u_ok, k95u_ok, k98u_ok, k100u_ok, trivial⟩ f42_eq fun _ _ _ hy => (eval_get_ret _).symm.trans hy
abbrev f169_S0 := (Int × List (List Int) × Int × Int × Unit) × (Unit)
def f169_L0 : f169_S0 → Out (Round f169_S0 ((Unit) × (Unit)) ((Bool × Unit) × (Unit)))
| ((p0, p1, p2, p3, _), _) =>
 .ite (decide (p3 < p2))
 (.ite (decide (0 ≤ p3))
 (.get (nth p1 (Int.toNat p3)) fun y1 =>
 .ite (decide (p3 < 0))
 .fail
 (.ite (decide (p3 < 0))
 .fail
 (.ite (hasV y1 (IntKind.i64.wrap ((Int.fdiv p0 (2 ^ (min (Int.toNat p3) (IntKind.bits IntKind.i64)))) * 2 ^ (min (Int.toNat p3) (IntKind.bits IntKind.i64)))))
 (.ret (.ret ((true, ()), ())))
 (.ret (.again ((p0, p1, p2, (IntKind.i64.wrap (p3 + 1)), ()), ()))))))
 .fail)
 (.ret (.out ((), ())))
def f169_tree (a0 : List (List Int)) (a1 : Int) : Out (((Bool × Unit) × Unit) × XI) :=
 .get (iter f169_L0 FUEL ((a1, a0, ((List.length a0 : Nat) : Int), 0, ()), ())) fun y1 => .alt y1 (fun y2 =>
 .ret (((false, ()), ()), ((), (), ()))) (fun y3 =>
 .ret (((y3.1.1, ()), ()), ((), (), ())))
def f169_A : Nat → Option LoopAnn := fun n => annOf [(0, ⟨⟨[.dead, .i .i64] ++ dd 6 ++ [.ro (.sl tyI) (some 0), .i .i64, .i .i64] ++ dd 12, []⟩, ⟨dd 23, []⟩, some ⟨dd 4 ++ [.b] ++ dd 18, []⟩, false⟩)] n
def k169_V := fun a0 a1 => (f169_tree a0 a1).eval
def k169 : Con := { f := 169, lend := true, its := [⟨false, true, [.ro (.sl tyI)]⟩, ⟨false, false, [.i .i64]⟩], lay := [none, none], rs := [⟨false, false, [.b]⟩], F := fun x => .get (k169_V x.1.1 x.2.1.1) fun y => .ret y }
theorem f169_eq (x : itemsD k169.its) : bo [k242] f169_A Tryz.f169 k169 [.tmp 4] x = f169_tree x.1.1 x.2.1.1 := by kernel_rfl
theorem k169_ok : k169.Ok Tryz.prog := con_fn [k242] ⟨k242_ok, trivial⟩ f169_eq fun _ _ _ hy => (eval_get_ret _).symm.trans hy
abbrev f172_S0 := (List (List Int) × List (List Int) × Int × Int × Unit) × (Unit)
def f172_L0 : f172_S0 → Out (Round f172_S0 ((Unit) × (Unit)) ((Bool × Unit) × (Unit)))
| ((p0, p1, p2, p3, _), _) =>
 .ite (decide (p3 < p2))
 (.ite (decide (0 ≤ p3))
 (.get (nth p1 (Int.toNat p3)) fun y1 =>
 .ite ((!(inV ((List.length y1 : Nat) : Int) (1 : Int) (2 : Int))) == false)
 (.ite (((((List.length y1 : Nat) : Int) == 1)) == true)
 (.ite ((decide (p3 > 0)) == true)
 (.ite (decide (p3 < (IntKind.i64.wrap (((List.length p0 : Nat) : Int) - (1 : Int)))))
 (.ret (.ret ((false, ()), ())))
 (.ret (.again ((p0, p1, p2, (IntKind.i64.wrap (p3 + 1)), ()), ()))))
 (.ret (.again ((p0, p1, p2, (IntKind.i64.wrap (p3 + 1)), ()), ()))))
 (.ret (.again ((p0, p1, p2, (IntKind.i64.wrap (p3 + 1)), ()), ()))))
 (.ret (.ret ((false, ()), ()))))
 .fail)
 (.ret (.out ((), ())))
def f172_tree (a0 : List (List Int)) : Out (((Bool × Unit) × Unit) × (Unit × Unit)) :=
 .get (iter f172_L0 FUEL ((a0, a0, ((List.length a0 : Nat) : Int), 0, ()), ())) fun y1 => .alt y1 (fun y2 =>
 .ret (((true, ()), ()), ((), ()))) (fun y3 =>
 .ret (((y3.1.1, ()), ()), ((), ())))
def f172_A : Nat → Option LoopAnn := fun n => annOf [(0, ⟨⟨[.ro (.sl tyI) (some 0)] ++ dd 4 ++ [.ro (.sl tyI) (some 0), .i .i64, .i .i64] ++ dd 25, []⟩, ⟨dd 33, []⟩, some ⟨[.dead, .dead, .b] ++ dd 30, []⟩, false⟩)] n
def k172_V := fun a0 => (f172_tree a0).eval
def k172 : Con := { f := 172, lend := true, its := [⟨false, false, [.ro (.sl tyI)]⟩], lay := [none], rs := [⟨false, false, [.b]⟩], F := fun x => .get (k172_V x.1.1) fun y => .ret y }
theorem f172_eq (x : itemsD k172.its) : bo [k25] f172_A Tryz.f172 k172 [.tmp 2] x = f172_tree x.1.1 := by kernel_rfl
theorem k172_ok : k172.Ok Tryz.prog := con_fn [k25] ⟨k25_ok, trivial⟩ f172_eq fun _ _ _ hy => (eval_get_ret _).symm.trans hy
def f171_tree (a0 : Int) (a1 : List (List Int)) : Out (((Bool × Unit) × Unit) × (Unit × Unit)) :=
 .get (k172_V a1) fun y1 =>
 .ret ((((!y1.1.1.1), ()), ()), ((), ()))
def k171_V := fun a0 a1 => (f171_tree a0 a1).eval
def k171 : Con := { f := 171, lend := true, its := [⟨false, true, [.i .i64, .ro (.sl tyI)]⟩], lay := [none], rs := [⟨false, false, [.b]⟩], F := fun x => .get (k171_V x.1.1 x.1.2.1) fun y => .ret y }
theorem f171_eq (x : itemsD k171.its) : bo [k172] (fun _ => none) Tryz.f171 k171 [.tmp 2] x = f171_tree x.1.1 x.1.2.1 := by kernel_rfl
theorem k171_ok : k171.Ok Tryz.prog := con_fn [k172] ⟨k172_ok, trivial⟩ f171_eq fun _ _ _ hy => (eval_get_ret _).symm.trans hy
abbrev f244y_S0 := (List (XH) × Int × Int × Unit) × (Unit)
def f244y_L0 : f244y_S0 → Out (Round f244y_S0 ((Unit) × (Unit)) ((Int × Unit) × (Unit)))
| ((p0, p1, p2, _), _) =>
 .ite (decide (p2 < p1))
 (.ite (decide (0 ≤ p2))
 (.get (nth p0 (Int.toNat p2)) fun y1 =>
 .get (k171_V y1.1 y1.2.1) fun y2 =>
 .ite y2.1.1.1
 (.ret (.ret ((p2, ()), ())))
 (.ret (.again ((p0, p1, (IntKind.i64.wrap (p2 + 1)), ()), ()))))
 .fail)
 (.ret (.out ((), ())))
def f244y_tree (a0 : List XH) : Out (((Int × Unit) × Unit) × (Unit × Unit)) :=
 .get (iter f244y_L0 FUEL ((a0, ((List.length a0 : Nat) : Int), 0, ()), ())) fun y1 => .alt y1 (fun y2 =>
 .ret (((-1, ()), ()), ((), ()))) (fun y3 =>
 .ret (((y3.1.1, ()), ()), ((), ())))
def f244y_A : Nat → Option LoopAnn := fun n => annOf [(0, ⟨⟨[.ro tyU (some 0), .fn 171 []] ++ dd 5 ++ [.i .i64, .i .i64] ++ dd 10, []⟩, ⟨dd 19, []⟩, some ⟨dd 4 ++ [.i .i64] ++ dd 14, []⟩, false⟩)] n
def k244y_V := fun a0 => (f244y_tree a0).eval
def k244y : Con := { f := 244, lend := true, its := [⟨false, false, [.ro tyU]⟩], lay := [none, some (171, 0)], rs := [⟨false, false, [.i .i64]⟩], F := fun x => .get (k244y_V x.1.1) fun y => .ret y }
theorem f244y_eq (x : itemsD k244y.its) : bo [k171] f244y_A Tryz.f244 k244y [.tmp 4] x = f244y_tree x.1.1 := by kernel_rfl
theorem k244y_ok : k244y.Ok Tryz.prog := con_fn [k171] ⟨k171_ok, trivial⟩ f244y_eq fun _ _ _ hy => (eval_get_ret _).symm.trans hy
def f170y_tree (a0 : List XH) : Out (((Bool × Unit) × Unit) × (Unit × Unit)) :=
 .get (k244y_V a0) fun y1 =>
 .ret ((((decide (y1.1.1.1 ≥ (0 : Int))), ()), ()), ((), ()))
def k170y_V := fun a0 => (f170y_tree a0).eval
def k170y : Con := { f := 170, lend := true, its := [⟨false, false, [.ro tyU]⟩], lay := [none, some (171, 0)], rs := [⟨false, false, [.b]⟩], F := fun x => .get (k170y_V x.1.1) fun y => .ret y }
theorem f170y_eq (x : itemsD k170y.its) : bo [k244y] (fun _ => none) Tryz.f170 k170y [.tmp 4] x = f170y_tree x.1.1 := by kernel_rfl
theorem k170y_ok : k170y.Ok Tryz.prog := con_fn [k244y] ⟨k244y_ok, trivial⟩ f170y_eq fun _ _ _ hy => (eval_get_ret _).symm.trans hy
abbrev f80_S2 := (List ProcD × Int × Int × XE) × ((Int × Int × List (List InsD) × List ProcD × List Int × List (List Int) × List OpenD × List (XH) × List CpuD × List Int × List Int × Unit) × List (Bool) × Unit)
def f80_L2 : f80_S2 → Out (Round f80_S2 (XS × ((Int × Int × List (List InsD) × List ProcD × List Int × List (List Int) × List OpenD × List (XH) × List CpuD × List Int × List Int × Unit) × List (Bool) × Unit)) ((Bool × Unit) × (Unit)))
| ((p0, p1, p2, p3, p4, p5, _), (p6, p7, p8, p9, p10, p11, p12, p13, p14, p15, p16, _), p17, _) =>
 .ite (decide (p5 < p4))
 (.ite (decide (0 ≤ p5))
 (.get (nth p3 (Int.toNat p5)) fun y1 =>
 .ite (decide (0 ≤ y1 ∧ y1 < ((List.length p17 : Nat) : Int)))
 (.get (nth p17 (Int.toNat y1)) fun y2 =>
 .ite y2
 (.ret (.ret ((false, ()), ())))
 (.ite (decide (0 ≤ y1 ∧ y1 < ((List.length p17 : Nat) : Int)))
 (.get (nth p17 (Int.toNat y1)) fun y3 =>
 .ret (.again ((p0, p1, p2, p3, p4, (IntKind.i64.wrap (p5 + 1)), ()), ((p6, p7, p8, p9, p10, p11, p12, p13, p14, p15, p16, ()), (List.set p17 (Int.toNat y1) true), ()))))
 .fail))
 .fail)
 .fail)
 (.ret (.out ((p0, p1, p2, ()), ((p6, p7, p8, p9, p10, p11, p12, p13, p14, p15, p16, ()), p17, ()))))
abbrev f80_S0 := XS × ((Int × Int × List (List InsD) × List ProcD × List Int × List (List Int) × List OpenD × List (XH) × List CpuD × List Int × List Int × Unit) × List (Bool) × Unit)
def f80_L0 : f80_S0 → Out (Round f80_S0 ((Unit) × ((Int × Int × List (List InsD) × List ProcD × List Int × List (List Int) × List OpenD × List (XH) × List CpuD × List Int × List Int × Unit) × List (Bool) × Unit)) ((Bool × Unit) × (Unit)))
| ((p0, p1, p2, _), (p3, p4, p5, p6, p7, p8, p9, p10, p11, p12, p13, _), p14, _) =>
 .ite (decide (p2 < p1))
 (.ite (decide (0 ≤ p2))
 (.get (nth p0 (Int.toNat p2)) fun y1 =>
 .ite ((decide (p2 > 0)) == true)
 (.ite (decide (0 ≤ (IntKind.i64.wrap (p2 - (1 : Int)))))
 (.get (nth p6 (Int.toNat (IntKind.i64.wrap (p2 - (1 : Int))))) fun y2 =>
 .ite (decide (y2.1 ≤ y1.1))
 (.ret (.ret ((false, ()), ())))
 (.get (iter f80_L2 FUEL ((p0, p1, p2, y1.2.2.2.2.2.1, ((List.length y1.2.2.2.2.2.1 : Nat) : Int), 0, ()), ((p3, p4, p5, p6, p7, p8, p9, p10, p11, p12, p13, ()), p14, ()))) fun y3 => .alt y3 (fun y4 =>
 .ret (.again ((y4.1.1, y4.1.2.1, (IntKind.i64.wrap (y4.1.2.2.1 + 1)), ()), ((y4.2.1.1, y4.2.1.2.1, y4.2.1.2.2.1, y4.2.1.2.2.2.1, y4.2.1.2.2.2.2.1, y4.2.1.2.2.2.2.2.1, y4.2.1.2.2.2.2.2.2.1, y4.2.1.2.2.2.2.2.2.2.1, y4.2.1.2.2.2.2.2.2.2.2.1, y4.2.1.2.2.2.2.2.2.2.2.2.1, y4.2.1.2.2.2.2.2.2.2.2.2.2.1, ()), y4.2.2.1, ())))) (fun y5 =>
 .ret (.ret ((y5.1.1, ()), ())))))
 .fail)
 (.get (iter f80_L2 FUEL ((p0, p1, p2, y1.2.2.2.2.2.1, ((List.length y1.2.2.2.2.2.1 : Nat) : Int), 0, ()), ((p3, p4, p5, p6, p7, p8, p9, p10, p11, p12, p13, ()), p14, ()))) fun y6 => .alt y6 (fun y7 =>
 .ret (.again ((y7.1.1, y7.1.2.1, (IntKind.i64.wrap (y7.1.2.2.1 + 1)), ()), ((y7.2.1.1, y7.2.1.2.1, y7.2.1.2.2.1, y7.2.1.2.2.2.1, y7.2.1.2.2.2.2.1, y7.2.1.2.2.2.2.2.1, y7.2.1.2.2.2.2.2.2.1, y7.2.1.2.2.2.2.2.2.2.1, y7.2.1.2.2.2.2.2.2.2.2.1, y7.2.1.2.2.2.2.2.2.2.2.2.1, y7.2.1.2.2.2.2.2.2.2.2.2.2.1, ()), y7.2.2.1, ())))) (fun y8 =>
 .ret (.ret ((y8.1.1, ()), ())))))
 .fail)
 (.ret (.out ((), ((p3, p4, p5, p6, p7, p8, p9, p10, p11, p12, p13, ()), p14, ()))))
abbrev f80_S4 := (Int × Int × Unit) × ((Int × Int × List (List InsD) × List ProcD × List Int × List (List Int) × List OpenD × List (XH) × List CpuD × List Int × List Int × Unit) × List (Bool) × Unit)
def f80_L4 : f80_S4 → Out (Round f80_S4 ((Unit) × ((Int × Int × List (List InsD) × List ProcD × List Int × List (List Int) × List OpenD × List (XH) × List CpuD × List Int × List Int × Unit) × Unit)) ((Bool × Unit) × (Unit)))
| ((p0, p1, _), (p2, p3, p4, p5, p6, p7, p8, p9, p10, p11, p12, _), p13, _) =>
 .ite (decide (p1 < p0))
 (.ite (decide (0 ≤ p1 ∧ p1 < ((List.length p13 : Nat) : Int)))
 (.get (nth p13 (Int.toNat p1)) fun y1 =>
 .get (k169_V p7 p1) fun y2 =>
 .ite (y1 == y2.1.1.1)
 (.ret (.ret ((false, ()), ())))
 (.ret (.again ((p0, (IntKind.i64.wrap (p1 + 1)), ()), ((p2, p3, p4, p5, p6, p7, p8, p9, p10, p11, p12, ()), p13, ())))))
 .fail)
 (.ret (.out ((), ((p2, p3, p4, p5, p6, p7, p8, p9, p10, p11, p12, ()), ()))))
def f80_tree (a0 : Int) (a1 : Int) (a2 : List (List InsD)) (a3 : List ProcD) (a4 : List Int) (a5 : List (List Int)) (a6 : List OpenD) (a7 : List XH) (a8 : List CpuD) (a9 : List Int) (a10 : List Int) : Out (((Bool × Unit) × Unit) × (Unit × Unit)) :=
 .get (k89_V a0 a1 a2 a3 a4 a5 a6 a7 a8 a9 a10) fun y1 =>
 .ite ((!y1.1.1.1) == false)
 (.get (k42_V a0 a1 a2 a3 a4 a5 a6 a7 a8 a9 a10) fun (((y2aa, y2ab, y2ac, y2ad, y2ae, y2af, y2ag, y2ah, y2ai, _), _), _) =>
 .get (unixOkP y2aa y2ab y2ac y2ad y2ae y2af y2ag y2ah y2ai) fun y3 =>
 .ite ((!y3) == false)
 (.get (k168_V a5) fun y4 =>
 .ite (!y4.1.1.1)
 (.ret (((false, ()), ()), ((), ())))
 (.ite (decide (0 ≤ (16 : Int) ∧ (16 : Int) ≤ (16 : Int) ∧ (16 : Int) ≤ (LIM : Int)))
 (.get (iter f80_L0 FUEL ((a3, ((List.length a3 : Nat) : Int), 0, ()), ((a0, a1, a2, a3, a4, a5, a6, a7, a8, a9, a10, ()), (List.replicate (Int.toNat (16 : Int)) false), ()))) fun y5 => .alt y5 (fun y6 =>
 .get (iter f80_L4 FUEL ((((List.length y6.2.2.1 : Nat) : Int), 0, ()), ((y6.2.1.1, y6.2.1.2.1, y6.2.1.2.2.1, y6.2.1.2.2.2.1, y6.2.1.2.2.2.2.1, y6.2.1.2.2.2.2.2.1, y6.2.1.2.2.2.2.2.2.1, y6.2.1.2.2.2.2.2.2.2.1, y6.2.1.2.2.2.2.2.2.2.2.1, y6.2.1.2.2.2.2.2.2.2.2.2.1, y6.2.1.2.2.2.2.2.2.2.2.2.2.1, ()), y6.2.2.1, ()))) fun y8 => .alt y8 (fun y9 =>
 .get (k170y_V y9.2.1.2.2.2.2.2.2.2.1) fun y11 =>
 .ret ((((!y11.1.1.1), ()), ()), ((), ()))) (fun y10 =>
 .ret (((y10.1.1, ()), ()), ((), ())))) (fun y7 =>
 .ret (((y7.1.1, ()), ()), ((), ()))))
 .fail))
 (.ret (((false, ()), ()), ((), ()))))
 (.ret (((false, ()), ()), ((), ())))
abbrev f80_s5 : List (Nat × VSlot) := [(64000000, .var [.i .i64, .i .i64, .ro (.sl tyN) (some 0), .ro tyP (some 1), .ro tyI (some 2), .ro (.sl tyI) (some 3), .ro tyO (some 4), .ro tyU (some 5), .ro tyF (some 6), .ro tyI (some 7), .ro tyI (some 8)]), (64000001, .arr .bool)]
def f80_A : Nat → Option LoopAnn := fun n => annOf [(0, ⟨⟨[.dead, .vptr 64000000 0, .dead, .srf 64000001] ++ dd 23 ++ [.ro tyP (some 1), .i .i64, .i .i64] ++ dd 52, f80_s5⟩, ⟨[.dead, .vptr 64000000 0, .dead, .srf 64000001] ++ dd 78, f80_s5⟩, some ⟨[.dead, .dead, .b] ++ dd 79, []⟩, false⟩), (2, ⟨⟨[.dead, .vptr 64000000 0, .dead, .srf 64000001] ++ dd 23 ++ [.ro tyP (some 1), .i .i64, .i .i64] ++ dd 19 ++ [.ro tyI none, .i .i64, .i .i64] ++ dd 30, f80_s5⟩, ⟨[.dead, .vptr 64000000 0, .dead, .srf 64000001] ++ dd 23 ++ [.ro tyP (some 1), .i .i64, .i .i64] ++ dd 52, f80_s5⟩, some ⟨[.dead, .dead, .b] ++ dd 79, []⟩, false⟩), (4, ⟨⟨[.dead, .vptr 64000000 0] ++ dd 62 ++ [.srf 64000001, .i .i64, .i .i64] ++ dd 15, f80_s5⟩, ⟨[.dead, .vptr 64000000 0] ++ dd 80, [(64000000, .var [.i .i64, .i .i64, .ro (.sl tyN) (some 0), .ro tyP (some 1), .ro tyI (some 2), .ro (.sl tyI) (some 3), .ro tyO (some 4), .ro tyU (some 5), .ro tyF (some 6), .ro tyI (some 7), .ro tyI (some 8)])]⟩, some ⟨[.dead, .dead, .b] ++ dd 79, []⟩, false⟩)] n
def k80_V := fun a0 a1 a2 a3 a4 a5 a6 a7 a8 a9 a10 => (f80_tree a0 a1 a2 a3 a4 a5 a6 a7 a8 a9 a10).eval
def k80 : Con := { f := 80, lend := true, its := [⟨false, true, [.i .i64, .i .i64, .ro (.sl tyN), .ro tyP, .ro tyI, .ro (.sl tyI), .ro tyO, .ro tyU, .ro tyF, .ro tyI, .ro tyI]⟩], lay := [none], rs := [⟨false, false, [.b]⟩], F := fun x => .get (k80_V x.1.1 x.1.2.1 x.1.2.2.1 x.1.2.2.2.1 x.1.2.2.2.2.1 x.1.2.2.2.2.2.1 x.1.2.2.2.2.2.2.1 x.1.2.2.2.2.2.2.2.1 x.1.2.2.2.2.2.2.2.2.1 x.1.2.2.2.2.2.2.2.2.2.1 x.1.2.2.2.2.2.2.2.2.2.2.1) fun y => .ret y }
theorem f80_eq (x : itemsD k80.its) : bo [k89, k42, k149, k168, k169, k170y] f80_A Tryz.f80 k80 [.tmp 2] x = f80_tree x.1.1 x.1.2.1 x.1.2.2.1 x.1.2.2.2.1 x.1.2.2.2.2.1 x.1.2.2.2.2.2.1 x.1.2.2.2.2.2.2.1 x.1.2.2.2.2.2.2.2.1 x.1.2.2.2.2.2.2.2.2.1 x.1.2.2.2.2.2.2.2.2.2.1 x.1.2.2.2.2.2.2.2.2.2.2.1 := by kernel_rfl
theorem k80_ok : k80.Ok Tryz.prog := con_fn [k89, k42, k149, k168, k169, k170y] ⟨k89_ok, k42_ok, k149_ok, k168_ok, k169_ok, k170y_ok, trivial⟩ f80_eq fun _ _ _ hy => (eval_get_ret _).symm.trans hy
def f40_tree (a0 : Int) (a1 : Int) (a2 : Int) (a3 : List (List InsD)) (a4 : List XB) (a5 : List Int) (a6 : List Bool) (a7 : List XF) (a8 : List (Bool × XE)) (a9 : List XK) (a10 : Bool) (a11 : List Int) (a12 : Int) (a13 : Int) (a14 : List Int) (a15 : Int) (a16 : Int) (a17 : List (List InsD)) (a18 : List ProcD) (a19 : List Int) (a20 : List (List Int)) (a21 : List OpenD) (a22 : List XH) (a23 : List CpuD) (a24 : List Int) (a25 : List Int) : Out (((Bool × Unit) × Unit) × (Unit × Unit)) :=
 .ite ((a0 == 1))
 (.get (k78_V a1 a2 a3 a4 a5 a6 a7 a8 a9 a10 a11 a12 a13 a14) fun y1 =>
 .ite (y1.1.1.1 == true)
 (.get (k79_V a15 a16 a17 a18 a19 a20 a21 a22 a23 a24 a25) fun y2 =>
 .ret (((y2.1.1.1, ()), ()), ((), ())))
 (.ret (((false, ()), ()), ((), ()))))
 (.ite ((a0 == 2))
 (.get (k80_V a15 a16 a17 a18 a19 a20 a21 a22 a23 a24 a25) fun y3 =>
 .ite (y3.1.1.1 == true)
 (.get (k81_V a1 a2 a3 a4 a5 a6 a7 a8 a9 a10 a11 a12 a13 a14) fun y4 =>
 .ret (((y4.1.1.1, ()), ()), ((), ())))
 (.ret (((false, ()), ()), ((), ()))))
 (.ret (((false, ()), ()), ((), ()))))
def k40_V := fun a0 a1 a2 a3 a4 a5 a6 a7 a8 a9 a10 a11 a12 a13 a14 a15 a16 a17 a18 a19 a20 a21 a22 a23 a24 a25 => (f40_tree a0 a1 a2 a3 a4 a5 a6 a7 a8 a9 a10 a11 a12 a13 a14 a15 a16 a17 a18 a19 a20 a21 a22 a23 a24 a25).eval
def k40 : Con := { f := 40, lend := true, its := [⟨false, true, [.i .i64, .i .i64, .i .i64, .ro (.sl tyN), .ro tyQ, .ro tyI, .ro .bool, .ro tyS, .ro tyR, .ro tyT, .b, .ro tyI, .i .i64, .i .i64, .ro tyI, .i .i64, .i .i64, .ro (.sl tyN), .ro tyP, .ro tyI, .ro (.sl tyI), .ro tyO, .ro tyU, .ro tyF, .ro tyI, .ro tyI]⟩], lay := [none], rs := [⟨false, false, [.b]⟩], F := fun x => .get (k40_V x.1.1 x.1.2.1 x.1.2.2.1 x.1.2.2.2.1 x.1.2.2.2.2.1 x.1.2.2.2.2.2.1 x.1.2.2.2.2.2.2.1 x.1.2.2.2.2.2.2.2.1 x.1.2.2.2.2.2.2.2.2.1 x.1.2.2.2.2.2.2.2.2.2.1 x.1.2.2.2.2.2.2.2.2.2.2.1 x.1.2.2.2.2.2.2.2.2.2.2.2.1 x.1.2.2.2.2.2.2.2.2.2.2.2.2.1 x.1.2.2.2.2.2.2.2.2.2.2.2.2.2.1 x.1.2.2.2.2.2.2.2.2.2.2.2.2.2.2.1 x.1.2.2.2.2.2.2.2.2.2.2.2.2.2.2.2.1 x.1.2.2.2.2.2.2.2.2.2.2.2.2.2.2.2.2.1 x.1.2.2.2.2.2.2.2.2.2.2.2.2.2.2.2.2.2.1 x.1.2.2.2.2.2.2.2.2.2.2.2.2.2.2.2.2.2.2.1 x.1.2.2.2.2.2.2.2.2.2.2.2.2.2.2.2.2.2.2.2.1 x.1.2.2.2.2.2.2.2.2.2.2.2.2.2.2.2.2.2.2.2.2.1 x.1.2.2.2.2.2.2.2.2.2.2.2.2.2.2.2.2.2.2.2.2.2.1 x.1.2.2.2.2.2.2.2.2.2.2.2.2.2.2.2.2.2.2.2.2.2.2.1 x.1.2.2.2.2.2.2.2.2.2.2.2.2.2.2.2.2.2.2.2.2.2.2.2.1 x.1.2.2.2.2.2.2.2.2.2.2.2.2.2.2.2.2.2.2.2.2.2.2.2.2.1 x.1.2.2.2.2.2.2.2.2.2.2.2.2.2.2.2.2.2.2.2.2.2.2.2.2.2.1) fun y => .ret y }
theorem f40_eq (x : itemsD k40.its) : bo [k78, k79, k80, k81] (fun _ => none) Tryz.f40 k40 [.tmp 2] x = f40_tree x.1.1 x.1.2.1 x.1.2.2.1 x.1.2.2.2.1 x.1.2.2.2.2.1 x.1.2.2.2.2.2.1 x.1.2.2.2.2.2.2.1 x.1.2.2.2.2.2.2.2.1 x.1.2.2.2.2.2.2.2.2.1 x.1.2.2.2.2.2.2.2.2.2.1 x.1.2.2.2.2.2.2.2.2.2.2.1 x.1.2.2.2.2.2.2.2.2.2.2.2.1 x.1.2.2.2.2.2.2.2.2.2.2.2.2.1 x.1.2.2.2.2.2.2.2.2.2.2.2.2.2.1 x.1.2.2.2.2.2.2.2.2.2.2.2.2.2.2.1 x.1.2.2.2.2.2.2.2.2.2.2.2.2.2.2.2.1 x.1.2.2.2.2.2.2.2.2.2.2.2.2.2.2.2.2.1 x.1.2.2.2.2.2.2.2.2.2.2.2.2.2.2.2.2.2.1 x.1.2.2.2.2.2.2.2.2.2.2.2.2.2.2.2.2.2.2.1 x.1.2.2.2.2.2.2.2.2.2.2.2.2.2.2.2.2.2.2.2.1 x.1.2.2.2.2.2.2.2.2.2.2.2.2.2.2.2.2.2.2.2.2.1 x.1.2.2.2.2.2.2.2.2.2.2.2.2.2.2.2.2.2.2.2.2.2.1 x.1.2.2.2.2.2.2.2.2.2.2.2.2.2.2.2.2.2.2.2.2.2.2.1 x.1.2.2.2.2.2.2.2.2.2.2.2.2.2.2.2.2.2.2.2.2.2.2.2.1 x.1.2.2.2.2.2.2.2.2.2.2.2.2.2.2.2.2.2.2.2.2.2.2.2.2.1 x.1.2.2.2.2.2.2.2.2.2.2.2.2.2.2.2.2.2.2.2.2.2.2.2.2.2.1 := by kernel_rfl
theorem k40_ok : k40.Ok Tryz.prog := con_fn [k78, k79, k80, k81] ⟨k78_ok, k79_ok, k80_ok, k81_ok, trivial⟩ f40_eq fun _ _ _ hy => (eval_get_ret _).symm.trans hy
def f12_tree (a0 : Int) (a1 : Int) (a2 : Int) (a3 : List (List InsD)) (a4 : List XB) (a5 : List Int) (a6 : List Bool) (a7 : List XF) (a8 : List (Bool × XE)) (a9 : List XK) (a10 : Bool) (a11 : List Int) (a12 : Int) (a13 : Int) (a14 : List Int) (a15 : Int) (a16 : Int) (a17 : List (List InsD)) (a18 : List ProcD) (a19 : List Int) (a20 : List (List Int)) (a21 : List OpenD) (a22 : List XH) (a23 : List CpuD) (a24 : List Int) (a25 : List Int) : Out ((UnixD × Unit) × (Unit × Unit)) :=
 .get (k40_V a0 a1 a2 a3 a4 a5 a6 a7 a8 a9 a10 a11 a12 a13 a14 a15 a16 a17 a18 a19 a20 a21 a22 a23 a24 a25) fun y1 =>
 .ite (!y1.1.1.1)
 (.ret (((0, 0, ([] : List (List InsD)), ([] : List ProcD), ([] : List OpenD), ([] : List CpuD), ([] : List CpuD), ([] : List Int), ([] : List Int), ()), ()), ((), ())))
 (.ite ((a0 == 1))
 (.get (k41_V a1 a2 a3 a4 a5 a6 a7 a8 a9 a10 a11 a12 a13 a14) fun (((y2aa, y2ab, y2ac, y2ad, y2ae, y2af, y2ag, y2ah, y2ai, _), _), _) =>
 .ret (((y2aa, y2ab, y2ac, y2ad, y2ae, y2af, y2ag, y2ah, y2ai, ()), ()), ((), ())))
 (.get (k42_V a15 a16 a17 a18 a19 a20 a21 a22 a23 a24 a25) fun (((y3aa, y3ab, y3ac, y3ad, y3ae, y3af, y3ag, y3ah, y3ai, _), _), _) =>
 .ret (((y3aa, y3ab, y3ac, y3ad, y3ae, y3af, y3ag, y3ah, y3ai, ()), ()), ((), ()))))
def k12_V := fun a0 a1 a2 a3 a4 a5 a6 a7 a8 a9 a10 a11 a12 a13 a14 a15 a16 a17 a18 a19 a20 a21 a22 a23 a24 a25 => (f12_tree a0 a1 a2 a3 a4 a5 a6 a7 a8 a9 a10 a11 a12 a13 a14 a15 a16 a17 a18 a19 a20 a21 a22 a23 a24 a25).eval
def k12 : Con := { f := 12, lend := true, its := [⟨false, true, [.i .i64, .i .i64, .i .i64, .ro (.sl tyN), .ro tyQ, .ro tyI, .ro .bool, .ro tyS, .ro tyR, .ro tyT, .b, .ro tyI, .i .i64, .i .i64, .ro tyI, .i .i64, .i .i64, .ro (.sl tyN), .ro tyP, .ro tyI, .ro (.sl tyI), .ro tyO, .ro tyU, .ro tyF, .ro tyI, .ro tyI]⟩], lay := [none], rs := [⟨false, true, [.i .i64, .i .i64, .own (.sl tyN), .own tyP, .own tyO, .own tyF, .own tyF, .own tyI, .own tyI]⟩], F := fun x => .get (k12_V x.1.1 x.1.2.1 x.1.2.2.1 x.1.2.2.2.1 x.1.2.2.2.2.1 x.1.2.2.2.2.2.1 x.1.2.2.2.2.2.2.1 x.1.2.2.2.2.2.2.2.1 x.1.2.2.2.2.2.2.2.2.1 x.1.2.2.2.2.2.2.2.2.2.1 x.1.2.2.2.2.2.2.2.2.2.2.1 x.1.2.2.2.2.2.2.2.2.2.2.2.1 x.1.2.2.2.2.2.2.2.2.2.2.2.2.1 x.1.2.2.2.2.2.2.2.2.2.2.2.2.2.1 x.1.2.2.2.2.2.2.2.2.2.2.2.2.2.2.1 x.1.2.2.2.2.2.2.2.2.2.2.2.2.2.2.2.1 x.1.2.2.2.2.2.2.2.2.2.2.2.2.2.2.2.2.1 x.1.2.2.2.2.2.2.2.2.2.2.2.2.2.2.2.2.2.1 x.1.2.2.2.2.2.2.2.2.2.2.2.2.2.2.2.2.2.2.1 x.1.2.2.2.2.2.2.2.2.2.2.2.2.2.2.2.2.2.2.2.1 x.1.2.2.2.2.2.2.2.2.2.2.2.2.2.2.2.2.2.2.2.2.1 x.1.2.2.2.2.2.2.2.2.2.2.2.2.2.2.2.2.2.2.2.2.2.1 x.1.2.2.2.2.2.2.2.2.2.2.2.2.2.2.2.2.2.2.2.2.2.2.1 x.1.2.2.2.2.2.2.2.2.2.2.2.2.2.2.2.2.2.2.2.2.2.2.2.1 x.1.2.2.2.2.2.2.2.2.2.2.2.2.2.2.2.2.2.2.2.2.2.2.2.2.1 x.1.2.2.2.2.2.2.2.2.2.2.2.2.2.2.2.2.2.2.2.2.2.2.2.2.2.1) fun y => .ret y }
theorem f12_eq (x : itemsD k12.its) : bo [k40, k41, k42] (fun _ => none) Tryz.f12 k12 [.cell 2 32] x = f12_tree x.1.1 x.1.2.1 x.1.2.2.1 x.1.2.2.2.1 x.1.2.2.2.2.1 x.1.2.2.2.2.2.1 x.1.2.2.2.2.2.2.1 x.1.2.2.2.2.2.2.2.1 x.1.2.2.2.2.2.2.2.2.1 x.1.2.2.2.2.2.2.2.2.2.1 x.1.2.2.2.2.2.2.2.2.2.2.1 x.1.2.2.2.2.2.2.2.2.2.2.2.1 x.1.2.2.2.2.2.2.2.2.2.2.2.2.1 x.1.2.2.2.2.2.2.2.2.2.2.2.2.2.1 x.1.2.2.2.2.2.2.2.2.2.2.2.2.2.2.1 x.1.2.2.2.2.2.2.2.2.2.2.2.2.2.2.2.1 x.1.2.2.2.2.2.2.2.2.2.2.2.2.2.2.2.2.1 x.1.2.2.2.2.2.2.2.2.2.2.2.2.2.2.2.2.2.1 x.1.2.2.2.2.2.2.2.2.2.2.2.2.2.2.2.2.2.2.1 x.1.2.2.2.2.2.2.2.2.2.2.2.2.2.2.2.2.2.2.2.1 x.1.2.2.2.2.2.2.2.2.2.2.2.2.2.2.2.2.2.2.2.2.1 x.1.2.2.2.2.2.2.2.2.2.2.2.2.2.2.2.2.2.2.2.2.2.1 x.1.2.2.2.2.2.2.2.2.2.2.2.2.2.2.2.2.2.2.2.2.2.2.1 x.1.2.2.2.2.2.2.2.2.2.2.2.2.2.2.2.2.2.2.2.2.2.2.2.1 x.1.2.2.2.2.2.2.2.2.2.2.2.2.2.2.2.2.2.2.2.2.2.2.2.2.1 x.1.2.2.2.2.2.2.2.2.2.2.2.2.2.2.2.2.2.2.2.2.2.2.2.2.2.1 := by kernel_rfl
theorem k12_ok : k12.Ok Tryz.prog := con_fn [k40, k41, k42] ⟨k40_ok, k41_ok, k42_ok, trivial⟩ f12_eq fun _ _ _ hy => (eval_get_ret _).symm.trans hy
abbrev f35_S0 := (Int × Int × Int × Unit) × (UnixD × XM × Unit)
def f35_L0 : f35_S0 → Out (Round f35_S0 ((Int × Int × Unit) × (UnixD × XM × Unit)) Empty)
| ((p0, p1, p2, _), (p3, p4, p5, p6, p7, p8, p9, p10, p11, _), (p12, p13, p14, p15, p16, p17, p18, p19, p20, p21, _), _) =>
 .ite (decide (p2 < ((List.length p6 : Nat) : Int)))
 (.ite (decide (0 ≤ p2))
 (.get (nth p6 (Int.toNat p2)) fun y1 =>
 .ite ((y1.2.1 == p12))
 (.ite (decide (0 ≤ p2))
 (.get (nth p6 (Int.toNat p2)) fun y2 =>
 .ite ((y2.2.2.1 == 6))
 (.ret (.again (((IntKind.i64.wrap (p0 + 1)), (IntKind.i64.wrap (p1 + 1)), (IntKind.i64.wrap (p2 + 1)), ()), ((p3, p4, p5, p6, p7, p8, p9, p10, p11, ()), (p12, p13, p14, p15, p16, p17, p18, p19, p20, p21, ()), ()))))
 (.ret (.again (((IntKind.i64.wrap (p0 + 1)), p1, (IntKind.i64.wrap (p2 + 1)), ()), ((p3, p4, p5, p6, p7, p8, p9, p10, p11, ()), (p12, p13, p14, p15, p16, p17, p18, p19, p20, p21, ()), ())))))
 .fail)
 (.ret (.again ((p0, p1, (IntKind.i64.wrap (p2 + 1)), ()), ((p3, p4, p5, p6, p7, p8, p9, p10, p11, ()), (p12, p13, p14, p15, p16, p17, p18, p19, p20, p21, ()), ())))))
 .fail)
 (.ret (.out ((p0, p1, ()), ((p3, p4, p5, p6, p7, p8, p9, p10, p11, ()), (p12, p13, p14, p15, p16, p17, p18, p19, p20, p21, ()), ()))))
def f35_tree (a0 : Int) (a1 : Int) (a2 : List (List InsD)) (a3 : List ProcD) (a4 : List OpenD) (a5 : List CpuD) (a6 : List CpuD) (a7 : List Int) (a8 : List Int) (a9 : Int) (a10 : Int) (a11 : Int) (a12 : Int) (a13 : Int) (a14 : List Int) (a15 : List Int) (a16 : List Int) (a17 : Int) (a18 : Int) : Out (((Bool × Unit) × Unit) × XI) :=
 .get (iter1 f35_L0 FUEL ((0, 0, 0, ()), ((a0, a1, a2, a3, a4, a5, a6, a7, a8, ()), (a9, a10, a11, a12, a13, a14, a15, a16, a17, a18, ()), ()))) fun ((y1aa, y1ab, _), (_, _, _, _, y1ac, y1ad, _), (_, _, y1ae, _, _, _, _, y1af, y1ag, _), _) =>
 .ite ((y1ae == 3))
 (.ite ((decide (y1aa > 0)) == true)
 (.ret (((((y1ab == 0)), ()), ()), ((), (), ())))
 (.ret (((false, ()), ()), ((), (), ()))))
 (.ite ((y1ae == 6))
 (.ret (((((y1ab == 0)), ()), ()), ((), (), ())))
 (.ite ((y1ae == 4))
 (.ite (decide (0 ≤ (openAtV y1ac y1ag)))
 (.get (nth y1ac (Int.toNat (openAtV y1ac y1ag))) fun y2 =>
 .ite ((y1ae == 5))
 (.ite ((hasV y1af y2.1) == true)
 (.ite (((y2.2.1 == 4)) == true)
 (.ite (decide (0 ≤ (pipeAtV y1ad y2.2.2.1)))
 (.get (nth y1ad (Int.toNat (pipeAtV y1ad y2.2.2.1))) fun y3 =>
 .ite (((((List.length y3.2.1 : Nat) : Int) == 4)) == true)
 (.ret ((((decide ((endsV y1ac y2.2.2.1 (3 : Int)) > 0)), ()), ()), ((), (), ())))
 (.ret (((false, ()), ()), ((), (), ()))))
 .fail)
 (.ret (((false, ()), ()), ((), (), ()))))
 (.ret (((false, ()), ()), ((), (), ()))))
 (.ite ((hasV y1af y2.1) == true)
 (.ite (((y2.2.1 == 3)) == true)
 (.ite (decide (0 ≤ (pipeAtV y1ad y2.2.2.1)))
 (.get (nth y1ad (Int.toNat (pipeAtV y1ad y2.2.2.1))) fun y4 =>
 .ite (((((List.length y4.2.1 : Nat) : Int) == 0)) == true)
 (.ret ((((decide ((endsV y1ac y2.2.2.1 (4 : Int)) > 0)), ()), ()), ((), (), ())))
 (.ret (((false, ()), ()), ((), (), ()))))
 .fail)
 (.ret (((false, ()), ()), ((), (), ()))))
 (.ret (((false, ()), ()), ((), (), ())))))
 .fail)
 (.ite ((y1ae == 5))
 (.ite (decide (0 ≤ (openAtV y1ac y1ag)))
 (.get (nth y1ac (Int.toNat (openAtV y1ac y1ag))) fun y5 =>
 .ite ((y1ae == 5))
 (.ite ((hasV y1af y5.1) == true)
 (.ite (((y5.2.1 == 4)) == true)
 (.ite (decide (0 ≤ (pipeAtV y1ad y5.2.2.1)))
 (.get (nth y1ad (Int.toNat (pipeAtV y1ad y5.2.2.1))) fun y6 =>
 .ite (((((List.length y6.2.1 : Nat) : Int) == 4)) == true)
 (.ret ((((decide ((endsV y1ac y5.2.2.1 (3 : Int)) > 0)), ()), ()), ((), (), ())))
 (.ret (((false, ()), ()), ((), (), ()))))
 .fail)
 (.ret (((false, ()), ()), ((), (), ()))))
 (.ret (((false, ()), ()), ((), (), ()))))
 (.ite ((hasV y1af y5.1) == true)
 (.ite (((y5.2.1 == 3)) == true)
 (.ite (decide (0 ≤ (pipeAtV y1ad y5.2.2.1)))
 (.get (nth y1ad (Int.toNat (pipeAtV y1ad y5.2.2.1))) fun y7 =>
 .ite (((((List.length y7.2.1 : Nat) : Int) == 0)) == true)
 (.ret ((((decide ((endsV y1ac y5.2.2.1 (4 : Int)) > 0)), ()), ()), ((), (), ())))
 (.ret (((false, ()), ()), ((), (), ()))))
 .fail)
 (.ret (((false, ()), ()), ((), (), ()))))
 (.ret (((false, ()), ()), ((), (), ())))))
 .fail)
 (.ret (((true, ()), ()), ((), (), ()))))))
abbrev f35_s6 : List (Nat × VSlot) := [(64000000, .var [.i .i64, .i .i64, .ro (.sl tyN) (some 0), .ro tyP (some 1), .ro tyO (some 2), .ro tyF (some 3), .ro tyF (some 4), .ro tyI (some 5), .ro tyI (some 6)]), (64000001, .var [.i .i64, .i .i64, .i .i64, .i .i64, .i .i64, .ro tyI (some 7), .ro tyI (some 8), .ro tyI (some 9), .i .i64, .i .i64])]
def f35_A : Nat → Option LoopAnn := fun n => annOf [(0, ⟨⟨[.dead, .dead, .vptr 64000000 0, .vptr 64000001 0, .dead, .i .i64, .i .i64, .i .i64] ++ dd 92, f35_s6⟩, ⟨[.dead, .dead, .vptr 64000000 0, .vptr 64000001 0, .dead, .i .i64, .i .i64] ++ dd 93, f35_s6⟩, none, false⟩)] n
def k35_V := fun a0 a1 a2 a3 a4 a5 a6 a7 a8 a9 a10 a11 a12 a13 a14 a15 a16 a17 a18 => (f35_tree a0 a1 a2 a3 a4 a5 a6 a7 a8 a9 a10 a11 a12 a13 a14 a15 a16 a17 a18).eval
def k35 : Con := { f := 35, lend := true, its := [⟨false, true, [.i .i64, .i .i64, .ro (.sl tyN), .ro tyP, .ro tyO, .ro tyF, .ro tyF, .ro tyI, .ro tyI]⟩, ⟨false, true, [.i .i64, .i .i64, .i .i64, .i .i64, .i .i64, .ro tyI, .ro tyI, .ro tyI, .i .i64, .i .i64]⟩], lay := [none, none], rs := [⟨false, false, [.b]⟩], F := fun x => .get (k35_V x.1.1 x.1.2.1 x.1.2.2.1 x.1.2.2.2.1 x.1.2.2.2.2.1 x.1.2.2.2.2.2.1 x.1.2.2.2.2.2.2.1 x.1.2.2.2.2.2.2.2.1 x.1.2.2.2.2.2.2.2.2.1 x.2.1.1 x.2.1.2.1 x.2.1.2.2.1 x.2.1.2.2.2.1 x.2.1.2.2.2.2.1 x.2.1.2.2.2.2.2.1 x.2.1.2.2.2.2.2.2.1 x.2.1.2.2.2.2.2.2.2.1 x.2.1.2.2.2.2.2.2.2.2.1 x.2.1.2.2.2.2.2.2.2.2.2.1) fun y => .ret y }
theorem f35_eq (x : itemsD k35.its) : bo [k74, k75, k76, k77] f35_A Tryz.f35 k35 [.tmp 4] x = f35_tree x.1.1 x.1.2.1 x.1.2.2.1 x.1.2.2.2.1 x.1.2.2.2.2.1 x.1.2.2.2.2.2.1 x.1.2.2.2.2.2.2.1 x.1.2.2.2.2.2.2.2.1 x.1.2.2.2.2.2.2.2.2.1 x.2.1.1 x.2.1.2.1 x.2.1.2.2.1 x.2.1.2.2.2.1 x.2.1.2.2.2.2.1 x.2.1.2.2.2.2.2.1 x.2.1.2.2.2.2.2.2.1 x.2.1.2.2.2.2.2.2.2.1 x.2.1.2.2.2.2.2.2.2.2.1 x.2.1.2.2.2.2.2.2.2.2.2.1 := by kernel_rfl
theorem k35_ok : k35.Ok Tryz.prog := con_fn [k74, k75, k76, k77] ⟨k74_ok, k75_ok, k76_ok, k77_ok, trivial⟩ f35_eq fun _ _ _ hy => (eval_get_ret _).symm.trans hy
abbrev f10_S0 := (Int × Unit) × (UnixD × Unit)
def f10_L0 : f10_S0 → Out (Round f10_S0 ((Unit) × (Unit)) ((Bool × Unit) × (Unit)))
| ((p0, _), (p1, p2, p3, p4, p5, p6, p7, p8, p9, _), _) =>
 .ite (decide (p0 < ((List.length p4 : Nat) : Int)))
 (.ite (decide (0 ≤ p0))
 (.get (nth p4 (Int.toNat p0)) fun (y1aa, y1ab, y1ac, y1ad, (y1ae, y1af, _), y1ag, y1ah, y1ai, y1aj, _) =>
 .get (k35_V p1 p2 p3 p4 p5 p6 p7 p8 p9 y1aa y1ab y1ac y1ad y1ae y1af y1ag y1ah y1ai y1aj) fun y2 =>
 .ite (!y2.1.1.1)
 (.ret (.ret ((false, ()), ())))
 (.ret (.again (((IntKind.i64.wrap (p0 + 1)), ()), ((p1, p2, p3, p4, p5, p6, p7, p8, p9, ()), ())))))
 .fail)
 (.ret (.out ((), ())))
def f10_tree (a0 : Int) (a1 : Int) (a2 : List (List InsD)) (a3 : List ProcD) (a4 : List OpenD) (a5 : List CpuD) (a6 : List CpuD) (a7 : List Int) (a8 : List Int) : Out (((Bool × Unit) × Unit) × (Unit × Unit)) :=
 .ite (!(unixOkV a0 a1 a2 a3 a4 a5 a6 a7 a8))
 (.ret (((false, ()), ()), ((), ())))
 (.get (iter f10_L0 FUEL ((0, ()), ((a0, a1, a2, a3, a4, a5, a6, a7, a8, ()), ()))) fun y1 => .alt y1 (fun y2 =>
 .ret (((true, ()), ()), ((), ()))) (fun y3 =>
 .ret (((y3.1.1, ()), ()), ((), ()))))
def f10_A : Nat → Option LoopAnn := fun n => annOf [(0, ⟨⟨[.dead, .vptr 64000000 0, .dead, .i .i64] ++ dd 18, [(64000000, .var [.i .i64, .i .i64, .ro (.sl tyN) (some 0), .ro tyP (some 1), .ro tyO (some 2), .ro tyF (some 3), .ro tyF (some 4), .ro tyI (some 5), .ro tyI (some 6)])]⟩, ⟨dd 22, []⟩, some ⟨[.dead, .dead, .b] ++ dd 19, []⟩, false⟩)] n
def k10_V := fun a0 a1 a2 a3 a4 a5 a6 a7 a8 => (f10_tree a0 a1 a2 a3 a4 a5 a6 a7 a8).eval
def k10 : Con := { f := 10, lend := true, its := [⟨false, true, [.i .i64, .i .i64, .ro (.sl tyN), .ro tyP, .ro tyO, .ro tyF, .ro tyF, .ro tyI, .ro tyI]⟩], lay := [none], rs := [⟨false, false, [.b]⟩], F := fun x => .get (k10_V x.1.1 x.1.2.1 x.1.2.2.1 x.1.2.2.2.1 x.1.2.2.2.2.1 x.1.2.2.2.2.2.1 x.1.2.2.2.2.2.2.1 x.1.2.2.2.2.2.2.2.1 x.1.2.2.2.2.2.2.2.2.1) fun y => .ret y }
theorem f10_eq (x : itemsD k10.its) : bo [k34, k35] f10_A Tryz.f10 k10 [.tmp 2] x = f10_tree x.1.1 x.1.2.1 x.1.2.2.1 x.1.2.2.2.1 x.1.2.2.2.2.1 x.1.2.2.2.2.2.1 x.1.2.2.2.2.2.2.1 x.1.2.2.2.2.2.2.2.1 x.1.2.2.2.2.2.2.2.2.1 := by kernel_rfl
theorem k10_ok : k10.Ok Tryz.prog := con_fn [k34, k35] ⟨k34_ok, k35_ok, trivial⟩ f10_eq fun _ _ _ hy => (eval_get_ret _).symm.trans hy
abbrev f37_S0 := (List Int × List Int × Int × Unit) × (Unit)
def f37_L0 : f37_S0 → Out (Round f37_S0 ((Unit) × (Unit)) ((Bool × Unit) × (Unit)))
| ((p0, p1, p2, _), _) =>
 .ite (decide (p2 < ((List.length p0 : Nat) : Int)))
 (.ite (decide (0 ≤ p2))
 (.get (nth p0 (Int.toNat p2)) fun y1 =>
 .ite (decide (0 ≤ p2))
 (.get (nth p1 (Int.toNat p2)) fun y2 =>
 .ite ((y1 != y2))
 (.ret (.ret ((false, ()), ())))
 (.ret (.again ((p0, p1, (IntKind.i64.wrap (p2 + 1)), ()), ()))))
 .fail)
 .fail)
 (.ret (.out ((), ())))
def f37_tree (a0 : List Int) (a1 : List Int) : Out (((Bool × Unit) × Unit) × XI) :=
 .ite ((((List.length a0 : Nat) : Int) != ((List.length a1 : Nat) : Int)))
 (.ret (((false, ()), ()), ((), (), ())))
 (.get (iter f37_L0 FUEL ((a0, a1, 0, ()), ())) fun y1 => .alt y1 (fun y2 =>
 .ret (((true, ()), ()), ((), (), ()))) (fun y3 =>
 .ret (((y3.1.1, ()), ()), ((), (), ()))))
def f37_A : Nat → Option LoopAnn := fun n => annOf [(0, ⟨⟨[.ro tyI (some 0), .ro tyI (some 1), .dead, .dead, .dead, .i .i64] ++ dd 20, []⟩, ⟨dd 26, []⟩, some ⟨dd 4 ++ [.b] ++ dd 21, []⟩, false⟩)] n
def k37_V := fun a0 a1 => (f37_tree a0 a1).eval
def k37 : Con := { f := 37, lend := true, its := [⟨false, false, [.ro tyI]⟩, ⟨false, false, [.ro tyI]⟩], lay := [none, none], rs := [⟨false, false, [.b]⟩], F := fun x => .get (k37_V x.1.1 x.2.1.1) fun y => .ret y }
theorem f37_eq (x : itemsD k37.its) : bo [] f37_A Tryz.f37 k37 [.tmp 4] x = f37_tree x.1.1 x.2.1.1 := by kernel_rfl
theorem k37_ok : k37.Ok Tryz.prog := con_fn [] trivial f37_eq fun _ _ _ hy => (eval_get_ret _).symm.trans hy
abbrev f36_S0 := (List CpuD × List CpuD × Int × Unit) × (Unit)
def f36_L0 : f36_S0 → Out (Round f36_S0 ((Unit) × (Unit)) ((Bool × Unit) × (Unit)))
| ((p0, p1, p2, _), _) =>
 .ite (decide (p2 < ((List.length p0 : Nat) : Int)))
 (.ite (decide (0 ≤ p2))
 (.get (nth p0 (Int.toNat p2)) fun y1 =>
 .ite (decide (0 ≤ p2))
 (.get (nth p1 (Int.toNat p2)) fun y2 =>
 .ite (((y1.1 != y2.1)) == false)
 (.ite (decide (0 ≤ p2))
 (.get (nth p0 (Int.toNat p2)) fun y3 =>
 .ite (decide (0 ≤ p2))
 (.get (nth p1 (Int.toNat p2)) fun y4 =>
 .get (k37_V y3.2.1 y4.2.1) fun y5 =>
 .ite (!y5.1.1.1)
 (.ret (.ret ((false, ()), ())))
 (.ret (.again ((p0, p1, (IntKind.i64.wrap (p2 + 1)), ()), ()))))
 .fail)
 .fail)
 (.ret (.ret ((false, ()), ()))))
 .fail)
 .fail)
 (.ret (.out ((), ())))
def f36_tree (a0 : List CpuD) (a1 : List CpuD) : Out (((Bool × Unit) × Unit) × XI) :=
 .ite ((((List.length a0 : Nat) : Int) != ((List.length a1 : Nat) : Int)))
 (.ret (((false, ()), ()), ((), (), ())))
 (.get (iter f36_L0 FUEL ((a0, a1, 0, ()), ())) fun y1 => .alt y1 (fun y2 =>
 .ret (((true, ()), ()), ((), (), ()))) (fun y3 =>
 .ret (((y3.1.1, ()), ()), ((), (), ()))))
def f36_A : Nat → Option LoopAnn := fun n => annOf [(0, ⟨⟨[.ro tyF (some 0), .ro tyF (some 1), .dead, .dead, .dead, .i .i64] ++ dd 36, []⟩, ⟨dd 42, []⟩, some ⟨dd 4 ++ [.b] ++ dd 37, []⟩, false⟩)] n
def k36_V := fun a0 a1 => (f36_tree a0 a1).eval
def k36 : Con := { f := 36, lend := true, its := [⟨false, false, [.ro tyF]⟩, ⟨false, false, [.ro tyF]⟩], lay := [none, none], rs := [⟨false, false, [.b]⟩], F := fun x => .get (k36_V x.1.1 x.2.1.1) fun y => .ret y }
theorem f36_eq (x : itemsD k36.its) : bo [k37] f36_A Tryz.f36 k36 [.tmp 4] x = f36_tree x.1.1 x.2.1.1 := by kernel_rfl
theorem k36_ok : k36.Ok Tryz.prog := con_fn [k37] ⟨k37_ok, trivial⟩ f36_eq fun _ _ _ hy => (eval_get_ret _).symm.trans hy
def f39_tree (a0 : Int) (a1 : Int) (a2 : Int) (a3 : Int) (a4 : Int) (a5 : List Int) (a6 : List Int) (a7 : List Int) (a8 : Int) (a9 : Int) (a10 : Int) (a11 : Int) (a12 : Int) (a13 : Int) (a14 : Int) (a15 : List Int) (a16 : List Int) (a17 : List Int) (a18 : Int) (a19 : Int) : Out (((Bool × Unit) × Unit) × XI) :=
 .ite (((a0 == a10)) == true)
 (.ite (((a1 == a11)) == true)
 (.ite (((a2 == a12)) == true)
 (.ite (((a3 == a13)) == true)
 (.ite (((a4 == a14)) == true)
 (.get (k37_V a5 a15) fun y1 =>
 .ite (y1.1.1.1 == true)
 (.get (k37_V a6 a16) fun y2 =>
 .ite (y2.1.1.1 == true)
 (.get (k37_V a7 a17) fun y3 =>
 .ite (y3.1.1.1 == true)
 (.ite (((a8 == a18)) == true)
 (.ret (((((a9 == a19)), ()), ()), ((), (), ())))
 (.ret (((false, ()), ()), ((), (), ()))))
 (.ret (((false, ()), ()), ((), (), ()))))
 (.ret (((false, ()), ()), ((), (), ()))))
 (.ret (((false, ()), ()), ((), (), ()))))
 (.ret (((false, ()), ()), ((), (), ()))))
 (.ret (((false, ()), ()), ((), (), ()))))
 (.ret (((false, ()), ()), ((), (), ()))))
 (.ret (((false, ()), ()), ((), (), ()))))
 (.ret (((false, ()), ()), ((), (), ())))
def k39_V := fun a0 a1 a2 a3 a4 a5 a6 a7 a8 a9 a10 a11 a12 a13 a14 a15 a16 a17 a18 a19 => (f39_tree a0 a1 a2 a3 a4 a5 a6 a7 a8 a9 a10 a11 a12 a13 a14 a15 a16 a17 a18 a19).eval
def k39 : Con := { f := 39, lend := true, its := [⟨false, true, [.i .i64, .i .i64, .i .i64, .i .i64, .i .i64, .ro tyI, .ro tyI, .ro tyI, .i .i64, .i .i64]⟩, ⟨false, true, [.i .i64, .i .i64, .i .i64, .i .i64, .i .i64, .ro tyI, .ro tyI, .ro tyI, .i .i64, .i .i64]⟩], lay := [none, none], rs := [⟨false, false, [.b]⟩], F := fun x => .get (k39_V x.1.1 x.1.2.1 x.1.2.2.1 x.1.2.2.2.1 x.1.2.2.2.2.1 x.1.2.2.2.2.2.1 x.1.2.2.2.2.2.2.1 x.1.2.2.2.2.2.2.2.1 x.1.2.2.2.2.2.2.2.2.1 x.1.2.2.2.2.2.2.2.2.2.1 x.2.1.1 x.2.1.2.1 x.2.1.2.2.1 x.2.1.2.2.2.1 x.2.1.2.2.2.2.1 x.2.1.2.2.2.2.2.1 x.2.1.2.2.2.2.2.2.1 x.2.1.2.2.2.2.2.2.2.1 x.2.1.2.2.2.2.2.2.2.2.1 x.2.1.2.2.2.2.2.2.2.2.2.1) fun y => .ret y }
theorem f39_eq (x : itemsD k39.its) : bo [k37] (fun _ => none) Tryz.f39 k39 [.tmp 4] x = f39_tree x.1.1 x.1.2.1 x.1.2.2.1 x.1.2.2.2.1 x.1.2.2.2.2.1 x.1.2.2.2.2.2.1 x.1.2.2.2.2.2.2.1 x.1.2.2.2.2.2.2.2.1 x.1.2.2.2.2.2.2.2.2.1 x.1.2.2.2.2.2.2.2.2.2.1 x.2.1.1 x.2.1.2.1 x.2.1.2.2.1 x.2.1.2.2.2.1 x.2.1.2.2.2.2.1 x.2.1.2.2.2.2.2.1 x.2.1.2.2.2.2.2.2.1 x.2.1.2.2.2.2.2.2.2.1 x.2.1.2.2.2.2.2.2.2.2.1 x.2.1.2.2.2.2.2.2.2.2.2.1 := by kernel_rfl
theorem k39_ok : k39.Ok Tryz.prog := con_fn [k37] ⟨k37_ok, trivial⟩ f39_eq fun _ _ _ hy => (eval_get_ret _).symm.trans hy
abbrev f38_S0 := (List InsD × List InsD × Int × Unit) × (Unit)
def f38_L0 : f38_S0 → Out (Round f38_S0 ((Unit) × (Unit)) ((Bool × Unit) × (Unit)))
| ((p0, p1, p2, _), _) =>
 .ite (decide (p2 < ((List.length p0 : Nat) : Int)))
 (.ite (decide (0 ≤ p2))
 (.get (nth p0 (Int.toNat p2)) fun y1 =>
 .ite (decide (0 ≤ p2))
 (.get (nth p1 (Int.toNat p2)) fun y2 =>
 .ite (!((y1.1 == y2.1) && ((y1.2.1 == y2.2.1) && ((y1.2.2.1 == y2.2.2.1) && ((y1.2.2.2.1 == y2.2.2.2.1) && true)))))
 (.ret (.ret ((false, ()), ())))
 (.ret (.again ((p0, p1, (IntKind.i64.wrap (p2 + 1)), ()), ()))))
 .fail)
 .fail)
 (.ret (.out ((), ())))
def f38_tree (a0 : List InsD) (a1 : List InsD) : Out (((Bool × Unit) × Unit) × XI) :=
 .ite ((((List.length a0 : Nat) : Int) != ((List.length a1 : Nat) : Int)))
 (.ret (((false, ()), ()), ((), (), ())))
 (.get (iter f38_L0 FUEL ((a0, a1, 0, ()), ())) fun y1 => .alt y1 (fun y2 =>
 .ret (((true, ()), ()), ((), (), ()))) (fun y3 =>
 .ret (((y3.1.1, ()), ()), ((), (), ()))))
def f38_A : Nat → Option LoopAnn := fun n => annOf [(0, ⟨⟨[.ro tyN (some 0), .ro tyN (some 1), .dead, .dead, .dead, .i .i64] ++ dd 20, []⟩, ⟨dd 26, []⟩, some ⟨dd 4 ++ [.b] ++ dd 21, []⟩, false⟩)] n
def k38_V := fun a0 a1 => (f38_tree a0 a1).eval
def k38 : Con := { f := 38, lend := true, its := [⟨false, false, [.ro tyN]⟩, ⟨false, false, [.ro tyN]⟩], lay := [none, none], rs := [⟨false, false, [.b]⟩], F := fun x => .get (k38_V x.1.1 x.2.1.1) fun y => .ret y }
theorem f38_eq (x : itemsD k38.its) : bo [] f38_A Tryz.f38 k38 [.tmp 4] x = f38_tree x.1.1 x.2.1.1 := by kernel_rfl
theorem k38_ok : k38.Ok Tryz.prog := con_fn [] trivial f38_eq fun _ _ _ hy => (eval_get_ret _).symm.trans hy
abbrev f11_S0 := (Int × Unit) × (UnixD × UnixD × Unit)
def f11_L0 : f11_S0 → Out (Round f11_S0 ((Unit) × (UnixD × UnixD × Unit)) ((Bool × Unit) × (Unit)))
| ((p0, _), (p1, p2, p3, p4, p5, p6, p7, p8, p9, _), (p10, p11, p12, p13, p14, p15, p16, p17, p18, _), _) =>
 .ite (decide (p0 < ((List.length p3 : Nat) : Int)))
 (.ite (decide (0 ≤ p0))
 (.get (nth p3 (Int.toNat p0)) fun y1 =>
 .ite (decide (0 ≤ p0))
 (.get (nth p12 (Int.toNat p0)) fun y2 =>
 .get (k38_V y1 y2) fun y3 =>
 .ite (!y3.1.1.1)
 (.ret (.ret ((false, ()), ())))
 (.ret (.again (((IntKind.i64.wrap (p0 + 1)), ()), ((p1, p2, p3, p4, p5, p6, p7, p8, p9, ()), (p10, p11, p12, p13, p14, p15, p16, p17, p18, ()), ())))))
 .fail)
 .fail)
 (.ret (.out ((), ((p1, p2, p3, p4, p5, p6, p7, p8, p9, ()), (p10, p11, p12, p13, p14, p15, p16, p17, p18, ()), ()))))
abbrev f11_S2 := (Int × Unit) × (UnixD × UnixD × Unit)
def f11_L2 : f11_S2 → Out (Round f11_S2 ((Unit) × (UnixD × UnixD × Unit)) ((Bool × Unit) × (Unit)))
| ((p0, _), (p1, p2, p3, p4, p5, p6, p7, p8, p9, _), (p10, p11, p12, p13, p14, p15, p16, p17, p18, _), _) =>
 .ite (decide (p0 < ((List.length p4 : Nat) : Int)))
 (.ite (decide (0 ≤ p0))
 (.get (nth p4 (Int.toNat p0)) fun (y1aa, y1ab, y1ac, y1ad, (y1ae, y1af, _), y1ag, y1ah, y1ai, y1aj, _) =>
 .ite (decide (0 ≤ p0))
 (.get (nth p13 (Int.toNat p0)) fun (y2aa, y2ab, y2ac, y2ad, (y2ae, y2af, _), y2ag, y2ah, y2ai, y2aj, _) =>
 .get (k39_V y1aa y1ab y1ac y1ad y1ae y1af y1ag y1ah y1ai y1aj y2aa y2ab y2ac y2ad y2ae y2af y2ag y2ah y2ai y2aj) fun y3 =>
 .ite (!y3.1.1.1)
 (.ret (.ret ((false, ()), ())))
 (.ret (.again (((IntKind.i64.wrap (p0 + 1)), ()), ((p1, p2, p3, p4, p5, p6, p7, p8, p9, ()), (p10, p11, p12, p13, p14, p15, p16, p17, p18, ()), ())))))
 .fail)
 .fail)
 (.ret (.out ((), ((p1, p2, p3, p4, p5, p6, p7, p8, p9, ()), (p10, p11, p12, p13, p14, p15, p16, p17, p18, ()), ()))))
abbrev f11_S4 := (Int × Unit) × (UnixD × UnixD × Unit)
def f11_L4 : f11_S4 → Out (Round f11_S4 ((Unit) × (UnixD × UnixD × Unit)) ((Bool × Unit) × (Unit)))
| ((p0, _), (p1, p2, p3, p4, p5, p6, p7, p8, p9, _), (p10, p11, p12, p13, p14, p15, p16, p17, p18, _), _) =>
 .ite (decide (p0 < ((List.length p5 : Nat) : Int)))
 (.ite (decide (0 ≤ p0))
 (.get (nth p5 (Int.toNat p0)) fun y1 =>
 .ite (decide (0 ≤ p0))
 (.get (nth p14 (Int.toNat p0)) fun y2 =>
 .ite (!((y1.1 == y2.1) && ((y1.2.1 == y2.2.1) && ((y1.2.2.1 == y2.2.2.1) && ((y1.2.2.2.1 == y2.2.2.2.1) && ((y1.2.2.2.2.1 == y2.2.2.2.2.1) && true))))))
 (.ret (.ret ((false, ()), ())))
 (.ret (.again (((IntKind.i64.wrap (p0 + 1)), ()), ((p1, p2, p3, p4, p5, p6, p7, p8, p9, ()), (p10, p11, p12, p13, p14, p15, p16, p17, p18, ()), ())))))
 .fail)
 .fail)
 (.ret (.out ((), ((p1, p2, p3, p4, p5, p6, p7, p8, p9, ()), (p10, p11, p12, p13, p14, p15, p16, p17, p18, ()), ()))))
abbrev f11_S6 := (Int × Unit) × (UnixD × UnixD × Unit)
def f11_L6 : f11_S6 → Out (Round f11_S6 ((Unit) × (Unit)) ((Bool × Unit) × (Unit)))
| ((p0, _), (p1, p2, p3, p4, p5, p6, p7, p8, p9, _), (p10, p11, p12, p13, p14, p15, p16, p17, p18, _), _) =>
 .ite (decide (p0 < ((List.length p6 : Nat) : Int)))
 (.ite (decide (0 ≤ p0))
 (.get (nth p6 (Int.toNat p0)) fun y1 =>
 .ite (decide (0 ≤ p0))
 (.get (nth p15 (Int.toNat p0)) fun y2 =>
 .ite (((y1.1 != y2.1)) == false)
 (.ite (decide (0 ≤ p0))
 (.get (nth p6 (Int.toNat p0)) fun y3 =>
 .ite (decide (0 ≤ p0))
 (.get (nth p15 (Int.toNat p0)) fun y4 =>
 .get (k37_V y3.2.1 y4.2.1) fun y5 =>
 .ite (!y5.1.1.1)
 (.ret (.ret ((false, ()), ())))
 (.ret (.again (((IntKind.i64.wrap (p0 + 1)), ()), ((p1, p2, p3, p4, p5, p6, p7, p8, p9, ()), (p10, p11, p12, p13, p14, p15, p16, p17, p18, ()), ())))))
 .fail)
 .fail)
 (.ret (.ret ((false, ()), ()))))
 .fail)
 .fail)
 (.ret (.out ((), ())))
def f11_tree (a0 : Int) (a1 : Int) (a2 : List (List InsD)) (a3 : List ProcD) (a4 : List OpenD) (a5 : List CpuD) (a6 : List CpuD) (a7 : List Int) (a8 : List Int) (a9 : Int) (a10 : Int) (a11 : List (List InsD)) (a12 : List ProcD) (a13 : List OpenD) (a14 : List CpuD) (a15 : List CpuD) (a16 : List Int) (a17 : List Int) : Out (((Bool × Unit) × Unit) × XI) :=
 .ite (((a0 != a9)) == false)
 (.ite (((a1 != a10)) == false)
 (.ite (((((List.length a2 : Nat) : Int) != ((List.length a11 : Nat) : Int))) == false)
 (.ite (((((List.length a3 : Nat) : Int) != ((List.length a12 : Nat) : Int))) == false)
 (.ite (((((List.length a4 : Nat) : Int) != ((List.length a13 : Nat) : Int))) == false)
 (.ite (((((List.length a5 : Nat) : Int) != ((List.length a14 : Nat) : Int))) == false)
 (.get (k36_V a6 a15) fun y1 =>
 .ite ((!y1.1.1.1) == false)
 (.get (k37_V a7 a16) fun y2 =>
 .ite ((!y2.1.1.1) == false)
 (.get (k37_V a8 a17) fun y3 =>
 .ite (!y3.1.1.1)
 (.ret (((false, ()), ()), ((), (), ())))
 (.get (iter f11_L0 FUEL ((0, ()), ((a0, a1, a2, a3, a4, a5, a6, a7, a8, ()), (a9, a10, a11, a12, a13, a14, a15, a16, a17, ()), ()))) fun y4 => .alt y4 (fun y5 =>
 .get (iter f11_L2 FUEL ((0, ()), ((y5.2.1.1, y5.2.1.2.1, y5.2.1.2.2.1, y5.2.1.2.2.2.1, y5.2.1.2.2.2.2.1, y5.2.1.2.2.2.2.2.1, y5.2.1.2.2.2.2.2.2.1, y5.2.1.2.2.2.2.2.2.2.1, y5.2.1.2.2.2.2.2.2.2.2.1, ()), (y5.2.2.1.1, y5.2.2.1.2.1, y5.2.2.1.2.2.1, y5.2.2.1.2.2.2.1, y5.2.2.1.2.2.2.2.1, y5.2.2.1.2.2.2.2.2.1, y5.2.2.1.2.2.2.2.2.2.1, y5.2.2.1.2.2.2.2.2.2.2.1, y5.2.2.1.2.2.2.2.2.2.2.2.1, ()), ()))) fun y7 => .alt y7 (fun y8 =>
 .get (iter f11_L4 FUEL ((0, ()), ((y8.2.1.1, y8.2.1.2.1, y8.2.1.2.2.1, y8.2.1.2.2.2.1, y8.2.1.2.2.2.2.1, y8.2.1.2.2.2.2.2.1, y8.2.1.2.2.2.2.2.2.1, y8.2.1.2.2.2.2.2.2.2.1, y8.2.1.2.2.2.2.2.2.2.2.1, ()), (y8.2.2.1.1, y8.2.2.1.2.1, y8.2.2.1.2.2.1, y8.2.2.1.2.2.2.1, y8.2.2.1.2.2.2.2.1, y8.2.2.1.2.2.2.2.2.1, y8.2.2.1.2.2.2.2.2.2.1, y8.2.2.1.2.2.2.2.2.2.2.1, y8.2.2.1.2.2.2.2.2.2.2.2.1, ()), ()))) fun y10 => .alt y10 (fun y11 =>
 .get (iter f11_L6 FUEL ((0, ()), ((y11.2.1.1, y11.2.1.2.1, y11.2.1.2.2.1, y11.2.1.2.2.2.1, y11.2.1.2.2.2.2.1, y11.2.1.2.2.2.2.2.1, y11.2.1.2.2.2.2.2.2.1, y11.2.1.2.2.2.2.2.2.2.1, y11.2.1.2.2.2.2.2.2.2.2.1, ()), (y11.2.2.1.1, y11.2.2.1.2.1, y11.2.2.1.2.2.1, y11.2.2.1.2.2.2.1, y11.2.2.1.2.2.2.2.1, y11.2.2.1.2.2.2.2.2.1, y11.2.2.1.2.2.2.2.2.2.1, y11.2.2.1.2.2.2.2.2.2.2.1, y11.2.2.1.2.2.2.2.2.2.2.2.1, ()), ()))) fun y13 => .alt y13 (fun y14 =>
 .ret (((true, ()), ()), ((), (), ()))) (fun y15 =>
 .ret (((y15.1.1, ()), ()), ((), (), ())))) (fun y12 =>
 .ret (((y12.1.1, ()), ()), ((), (), ())))) (fun y9 =>
 .ret (((y9.1.1, ()), ()), ((), (), ())))) (fun y6 =>
 .ret (((y6.1.1, ()), ()), ((), (), ())))))
 (.ret (((false, ()), ()), ((), (), ()))))
 (.ret (((false, ()), ()), ((), (), ()))))
 (.ret (((false, ()), ()), ((), (), ()))))
 (.ret (((false, ()), ()), ((), (), ()))))
 (.ret (((false, ()), ()), ((), (), ()))))
 (.ret (((false, ()), ()), ((), (), ()))))
 (.ret (((false, ()), ()), ((), (), ()))))
 (.ret (((false, ()), ()), ((), (), ())))
abbrev f11_s7 : List (Nat × VSlot) := [(64000000, .var [.i .i64, .i .i64, .ro (.sl tyN) (some 0), .ro tyP (some 1), .ro tyO (some 2), .ro tyF (some 3), .ro tyF (some 4), .ro tyI (some 5), .ro tyI (some 6)]), (64000001, .var [.i .i64, .i .i64, .ro (.sl tyN) (some 7), .ro tyP (some 8), .ro tyO (some 9), .ro tyF (some 10), .ro tyF (some 11), .ro tyI (some 12), .ro tyI (some 13)])]
def f11_A : Nat → Option LoopAnn := fun n => annOf [(0, ⟨⟨[.dead, .dead, .vptr 64000000 0, .vptr 64000001 0, .dead, .i .i64] ++ dd 167, f11_s7⟩, ⟨[.dead, .dead, .vptr 64000000 0, .vptr 64000001 0] ++ dd 169, f11_s7⟩, some ⟨dd 4 ++ [.b] ++ dd 168, []⟩, false⟩), (2, ⟨⟨[.dead, .dead, .vptr 64000000 0, .vptr 64000001 0, .dead, .dead, .i .i64] ++ dd 166, f11_s7⟩, ⟨[.dead, .dead, .vptr 64000000 0, .vptr 64000001 0] ++ dd 169, f11_s7⟩, some ⟨dd 4 ++ [.b] ++ dd 168, []⟩, false⟩), (4, ⟨⟨[.dead, .dead, .vptr 64000000 0, .vptr 64000001 0, .dead, .dead, .dead, .i .i64] ++ dd 165, f11_s7⟩, ⟨[.dead, .dead, .vptr 64000000 0, .vptr 64000001 0] ++ dd 169, f11_s7⟩, some ⟨dd 4 ++ [.b] ++ dd 168, []⟩, false⟩), (6, ⟨⟨[.dead, .dead, .vptr 64000000 0, .vptr 64000001 0] ++ dd 4 ++ [.i .i64] ++ dd 164, f11_s7⟩, ⟨dd 173, []⟩, some ⟨dd 4 ++ [.b] ++ dd 168, []⟩, false⟩)] n
def k11_V := fun a0 a1 a2 a3 a4 a5 a6 a7 a8 a9 a10 a11 a12 a13 a14 a15 a16 a17 => (f11_tree a0 a1 a2 a3 a4 a5 a6 a7 a8 a9 a10 a11 a12 a13 a14 a15 a16 a17).eval
def k11 : Con := { f := 11, lend := true, its := [⟨false, true, [.i .i64, .i .i64, .ro (.sl tyN), .ro tyP, .ro tyO, .ro tyF, .ro tyF, .ro tyI, .ro tyI]⟩, ⟨false, true, [.i .i64, .i .i64, .ro (.sl tyN), .ro tyP, .ro tyO, .ro tyF, .ro tyF, .ro tyI, .ro tyI]⟩], lay := [none, none], rs := [⟨false, false, [.b]⟩], F := fun x => .get (k11_V x.1.1 x.1.2.1 x.1.2.2.1 x.1.2.2.2.1 x.1.2.2.2.2.1 x.1.2.2.2.2.2.1 x.1.2.2.2.2.2.2.1 x.1.2.2.2.2.2.2.2.1 x.1.2.2.2.2.2.2.2.2.1 x.2.1.1 x.2.1.2.1 x.2.1.2.2.1 x.2.1.2.2.2.1 x.2.1.2.2.2.2.1 x.2.1.2.2.2.2.2.1 x.2.1.2.2.2.2.2.2.1 x.2.1.2.2.2.2.2.2.2.1 x.2.1.2.2.2.2.2.2.2.2.1) fun y => .ret y }
theorem f11_eq (x : itemsD k11.its) : bo [k36, k37, k38, k39] f11_A Tryz.f11 k11 [.tmp 4] x = f11_tree x.1.1 x.1.2.1 x.1.2.2.1 x.1.2.2.2.1 x.1.2.2.2.2.1 x.1.2.2.2.2.2.1 x.1.2.2.2.2.2.2.1 x.1.2.2.2.2.2.2.2.1 x.1.2.2.2.2.2.2.2.2.1 x.2.1.1 x.2.1.2.1 x.2.1.2.2.1 x.2.1.2.2.2.1 x.2.1.2.2.2.2.1 x.2.1.2.2.2.2.2.1 x.2.1.2.2.2.2.2.2.1 x.2.1.2.2.2.2.2.2.2.1 x.2.1.2.2.2.2.2.2.2.2.1 := by kernel_rfl
theorem k11_ok : k11.Ok Tryz.prog := con_fn [k36, k37, k38, k39] ⟨k36_ok, k37_ok, k38_ok, k39_ok, trivial⟩ f11_eq fun _ _ _ hy => (eval_get_ret _).symm.trans hy
end Go.Proofs.YtnnpnkegpkladaaGreat.Dm
