/- Functions of the program, and what they compute. -/
import Derived.Test.YtjcinikojcfebaaA17
namespace Go.Proofs.Ytjcinikojcfebaa.Dm
open Go Go.ChangeShapes Go.WideShapes Go.ChangeAt Go.RowKit

/-! ## Savers drawn -/
theorem saverOkV_new : saverOkV newSaverV.1 newSaverV.2.1 newSaverV.2.2.1 newSaverV.2.2.2.1 newSaverV.2.2.2.2.1 newSaverV.2.2.2.2.2 = true := by decide
abbrev f224_S0 := (Int × Unit) × ((List (Int) × Int × Int × Unit) × (Int × Int × Unit) × (Int × Int × Unit) × List (List UInt8) × List ((Int × List UInt8 × Unit)) × List ((Int × List Int × Unit)) × List ((Int × List Int × Unit)) × List (List UInt8) × List ((Int × List UInt8 × Unit)) × List ((Int × List Int × Unit)) × List ((Int × List Int × Unit)) × Unit)
def f224_L0 (x : f224_S0) : Out (Round f224_S0 ((Unit) × ((Int × Int × Unit) × (Int × Int × Unit) × List (List UInt8) × List ((Int × List UInt8 × Unit)) × List ((Int × List Int × Unit)) × List ((Int × List Int × Unit)) × List (List UInt8) × List ((Int × List UInt8 × Unit)) × List ((Int × List Int × Unit)) × List ((Int × List Int × Unit)) × (List (Int) × Int × Int × Unit) × Unit)) Empty) :=
 .ite (decide (x.1.1 > (0 : Int)))
 (.get (k139_V x.2.1.1 x.2.1.2.1 x.2.1.2.2.1 (9 : Int)) fun y1 =>
 .ite ((y1.1.1.1 == (0 : Int)))
 (.get (k181_V x.2.1.1 y1.2.1.1 y1.2.1.2.1) fun y2 =>
 .ret (.again (((IntKind.i64.wrap (x.1.1 - (1 : Int))), ()), ((x.2.1.1, y2.2.1.1, y2.2.1.2.1, ()), (x.2.2.1.1, x.2.2.1.2.1, ()), ((saveBeginV x.2.2.2.2.2.2.2.2.1 x.2.2.2.2.2.2.2.2.2.1 x.2.2.2.2.2.2.2.2.2.2.1 x.2.2.2.2.2.2.2.2.2.2.2.1 x.2.2.2.1.1 x.2.2.2.1.2.1 y2.1.1.1).2.2.2.2.1, (saveBeginV x.2.2.2.2.2.2.2.2.1 x.2.2.2.2.2.2.2.2.2.1 x.2.2.2.2.2.2.2.2.2.2.1 x.2.2.2.2.2.2.2.2.2.2.2.1 x.2.2.2.1.1 x.2.2.2.1.2.1 y2.1.1.1).2.2.2.2.2.1, ()), x.2.2.2.2.1, x.2.2.2.2.2.1, x.2.2.2.2.2.2.1, x.2.2.2.2.2.2.2.1, (saveBeginV x.2.2.2.2.2.2.2.2.1 x.2.2.2.2.2.2.2.2.2.1 x.2.2.2.2.2.2.2.2.2.2.1 x.2.2.2.2.2.2.2.2.2.2.2.1 x.2.2.2.1.1 x.2.2.2.1.2.1 y2.1.1.1).1, (saveBeginV x.2.2.2.2.2.2.2.2.1 x.2.2.2.2.2.2.2.2.2.1 x.2.2.2.2.2.2.2.2.2.2.1 x.2.2.2.2.2.2.2.2.2.2.2.1 x.2.2.2.1.1 x.2.2.2.1.2.1 y2.1.1.1).2.1, (saveBeginV x.2.2.2.2.2.2.2.2.1 x.2.2.2.2.2.2.2.2.2.1 x.2.2.2.2.2.2.2.2.2.2.1 x.2.2.2.2.2.2.2.2.2.2.2.1 x.2.2.2.1.1 x.2.2.2.1.2.1 y2.1.1.1).2.2.1, (saveBeginV x.2.2.2.2.2.2.2.2.1 x.2.2.2.2.2.2.2.2.2.1 x.2.2.2.2.2.2.2.2.2.2.1 x.2.2.2.2.2.2.2.2.2.2.2.1 x.2.2.2.1.1 x.2.2.2.1.2.1 y2.1.1.1).2.2.2.1, ()))))
 (.ite ((y1.1.1.1 == (1 : Int)))
 (.get (k181_V x.2.1.1 y1.2.1.1 y1.2.1.2.1) fun y3 =>
 .ret (.again (((IntKind.i64.wrap (x.1.1 - (1 : Int))), ()), ((x.2.1.1, y3.2.1.1, y3.2.1.2.1, ()), (x.2.2.1.1, x.2.2.1.2.1, ()), ((saveBeginV x.2.2.2.2.2.2.2.2.1 x.2.2.2.2.2.2.2.2.2.1 x.2.2.2.2.2.2.2.2.2.2.1 x.2.2.2.2.2.2.2.2.2.2.2.1 x.2.2.2.1.1 x.2.2.2.1.2.1 y3.1.1.1).2.2.2.2.1, (saveBeginV x.2.2.2.2.2.2.2.2.1 x.2.2.2.2.2.2.2.2.2.1 x.2.2.2.2.2.2.2.2.2.2.1 x.2.2.2.2.2.2.2.2.2.2.2.1 x.2.2.2.1.1 x.2.2.2.1.2.1 y3.1.1.1).2.2.2.2.2.1, ()), x.2.2.2.2.1, x.2.2.2.2.2.1, x.2.2.2.2.2.2.1, x.2.2.2.2.2.2.2.1, (saveBeginV x.2.2.2.2.2.2.2.2.1 x.2.2.2.2.2.2.2.2.2.1 x.2.2.2.2.2.2.2.2.2.2.1 x.2.2.2.2.2.2.2.2.2.2.2.1 x.2.2.2.1.1 x.2.2.2.1.2.1 y3.1.1.1).1, (saveBeginV x.2.2.2.2.2.2.2.2.1 x.2.2.2.2.2.2.2.2.2.1 x.2.2.2.2.2.2.2.2.2.2.1 x.2.2.2.2.2.2.2.2.2.2.2.1 x.2.2.2.1.1 x.2.2.2.1.2.1 y3.1.1.1).2.1, (saveBeginV x.2.2.2.2.2.2.2.2.1 x.2.2.2.2.2.2.2.2.2.1 x.2.2.2.2.2.2.2.2.2.2.1 x.2.2.2.2.2.2.2.2.2.2.2.1 x.2.2.2.1.1 x.2.2.2.1.2.1 y3.1.1.1).2.2.1, (saveBeginV x.2.2.2.2.2.2.2.2.1 x.2.2.2.2.2.2.2.2.2.1 x.2.2.2.2.2.2.2.2.2.2.1 x.2.2.2.2.2.2.2.2.2.2.2.1 x.2.2.2.1.1 x.2.2.2.1.2.1 y3.1.1.1).2.2.2.1, ()))))
 (.ite ((y1.1.1.1 == (2 : Int)))
 (.get (k181_V x.2.1.1 y1.2.1.1 y1.2.1.2.1) fun y4 =>
 .ret (.again (((IntKind.i64.wrap (x.1.1 - (1 : Int))), ()), ((x.2.1.1, y4.2.1.1, y4.2.1.2.1, ()), (x.2.2.1.1, x.2.2.1.2.1, ()), ((saveBeginV x.2.2.2.2.2.2.2.2.1 x.2.2.2.2.2.2.2.2.2.1 x.2.2.2.2.2.2.2.2.2.2.1 x.2.2.2.2.2.2.2.2.2.2.2.1 x.2.2.2.1.1 x.2.2.2.1.2.1 y4.1.1.1).2.2.2.2.1, (saveBeginV x.2.2.2.2.2.2.2.2.1 x.2.2.2.2.2.2.2.2.2.1 x.2.2.2.2.2.2.2.2.2.2.1 x.2.2.2.2.2.2.2.2.2.2.2.1 x.2.2.2.1.1 x.2.2.2.1.2.1 y4.1.1.1).2.2.2.2.2.1, ()), x.2.2.2.2.1, x.2.2.2.2.2.1, x.2.2.2.2.2.2.1, x.2.2.2.2.2.2.2.1, (saveBeginV x.2.2.2.2.2.2.2.2.1 x.2.2.2.2.2.2.2.2.2.1 x.2.2.2.2.2.2.2.2.2.2.1 x.2.2.2.2.2.2.2.2.2.2.2.1 x.2.2.2.1.1 x.2.2.2.1.2.1 y4.1.1.1).1, (saveBeginV x.2.2.2.2.2.2.2.2.1 x.2.2.2.2.2.2.2.2.2.1 x.2.2.2.2.2.2.2.2.2.2.1 x.2.2.2.2.2.2.2.2.2.2.2.1 x.2.2.2.1.1 x.2.2.2.1.2.1 y4.1.1.1).2.1, (saveBeginV x.2.2.2.2.2.2.2.2.1 x.2.2.2.2.2.2.2.2.2.1 x.2.2.2.2.2.2.2.2.2.2.1 x.2.2.2.2.2.2.2.2.2.2.2.1 x.2.2.2.1.1 x.2.2.2.1.2.1 y4.1.1.1).2.2.1, (saveBeginV x.2.2.2.2.2.2.2.2.1 x.2.2.2.2.2.2.2.2.2.1 x.2.2.2.2.2.2.2.2.2.2.1 x.2.2.2.2.2.2.2.2.2.2.2.1 x.2.2.2.1.1 x.2.2.2.1.2.1 y4.1.1.1).2.2.2.1, ()))))
 (.ite ((y1.1.1.1 == (3 : Int)))
 (.get (k139_V x.2.1.1 y1.2.1.1 y1.2.1.2.1 (256 : Int)) fun y5 =>
 .ret (.again (((IntKind.i64.wrap (x.1.1 - (1 : Int))), ()), ((x.2.1.1, y5.2.1.1, y5.2.1.2.1, ()), (x.2.2.1.1, x.2.2.1.2.1, ()), ((saveFallV x.2.2.2.2.2.2.2.2.1 x.2.2.2.2.2.2.2.2.2.1 x.2.2.2.2.2.2.2.2.2.2.1 x.2.2.2.2.2.2.2.2.2.2.2.1 x.2.2.2.1.1 x.2.2.2.1.2.1 y5.1.1.1).2.2.2.2.1, (saveFallV x.2.2.2.2.2.2.2.2.1 x.2.2.2.2.2.2.2.2.2.1 x.2.2.2.2.2.2.2.2.2.2.1 x.2.2.2.2.2.2.2.2.2.2.2.1 x.2.2.2.1.1 x.2.2.2.1.2.1 y5.1.1.1).2.2.2.2.2.1, ()), x.2.2.2.2.1, x.2.2.2.2.2.1, x.2.2.2.2.2.2.1, x.2.2.2.2.2.2.2.1, (saveFallV x.2.2.2.2.2.2.2.2.1 x.2.2.2.2.2.2.2.2.2.1 x.2.2.2.2.2.2.2.2.2.2.1 x.2.2.2.2.2.2.2.2.2.2.2.1 x.2.2.2.1.1 x.2.2.2.1.2.1 y5.1.1.1).1, (saveFallV x.2.2.2.2.2.2.2.2.1 x.2.2.2.2.2.2.2.2.2.1 x.2.2.2.2.2.2.2.2.2.2.1 x.2.2.2.2.2.2.2.2.2.2.2.1 x.2.2.2.1.1 x.2.2.2.1.2.1 y5.1.1.1).2.1, (saveFallV x.2.2.2.2.2.2.2.2.1 x.2.2.2.2.2.2.2.2.2.1 x.2.2.2.2.2.2.2.2.2.2.1 x.2.2.2.2.2.2.2.2.2.2.2.1 x.2.2.2.1.1 x.2.2.2.1.2.1 y5.1.1.1).2.2.1, (saveFallV x.2.2.2.2.2.2.2.2.1 x.2.2.2.2.2.2.2.2.2.1 x.2.2.2.2.2.2.2.2.2.2.1 x.2.2.2.2.2.2.2.2.2.2.2.1 x.2.2.2.1.1 x.2.2.2.1.2.1 y5.1.1.1).2.2.2.1, ()))))
 (.ret (.again (((IntKind.i64.wrap (x.1.1 - (1 : Int))), ()), ((x.2.1.1, y1.2.1.1, y1.2.1.2.1, ()), (x.2.2.1.1, x.2.2.1.2.1, ()), ((saveStepV x.2.2.2.2.2.2.2.2.1 x.2.2.2.2.2.2.2.2.2.1 x.2.2.2.2.2.2.2.2.2.2.1 x.2.2.2.2.2.2.2.2.2.2.2.1 x.2.2.2.1.1 x.2.2.2.1.2.1).2.2.2.2.1, (saveStepV x.2.2.2.2.2.2.2.2.1 x.2.2.2.2.2.2.2.2.2.1 x.2.2.2.2.2.2.2.2.2.2.1 x.2.2.2.2.2.2.2.2.2.2.2.1 x.2.2.2.1.1 x.2.2.2.1.2.1).2.2.2.2.2.1, ()), x.2.2.2.2.1, x.2.2.2.2.2.1, x.2.2.2.2.2.2.1, x.2.2.2.2.2.2.2.1, (saveStepV x.2.2.2.2.2.2.2.2.1 x.2.2.2.2.2.2.2.2.2.1 x.2.2.2.2.2.2.2.2.2.2.1 x.2.2.2.2.2.2.2.2.2.2.2.1 x.2.2.2.1.1 x.2.2.2.1.2.1).1, (saveStepV x.2.2.2.2.2.2.2.2.1 x.2.2.2.2.2.2.2.2.2.1 x.2.2.2.2.2.2.2.2.2.2.1 x.2.2.2.2.2.2.2.2.2.2.2.1 x.2.2.2.1.1 x.2.2.2.1.2.1).2.1, (saveStepV x.2.2.2.2.2.2.2.2.1 x.2.2.2.2.2.2.2.2.2.1 x.2.2.2.2.2.2.2.2.2.2.1 x.2.2.2.2.2.2.2.2.2.2.2.1 x.2.2.2.1.1 x.2.2.2.1.2.1).2.2.1, (saveStepV x.2.2.2.2.2.2.2.2.1 x.2.2.2.2.2.2.2.2.2.1 x.2.2.2.2.2.2.2.2.2.2.1 x.2.2.2.2.2.2.2.2.2.2.2.1 x.2.2.2.1.1 x.2.2.2.1.2.1).2.2.2.1, ()))))))))
 (.ret (.out ((), ((x.2.2.1.1, x.2.2.1.2.1, ()), (x.2.2.2.1.1, x.2.2.2.1.2.1, ()), x.2.2.2.2.1, x.2.2.2.2.2.1, x.2.2.2.2.2.2.1, x.2.2.2.2.2.2.2.1, x.2.2.2.2.2.2.2.2.1, x.2.2.2.2.2.2.2.2.2.1, x.2.2.2.2.2.2.2.2.2.2.1, x.2.2.2.2.2.2.2.2.2.2.2.1, (x.2.1.1, x.2.1.2.1, x.2.1.2.2.1, ()), ()))))
def f224_tree (a0 : List Int) (a1 : Int) (a2 : Int) (a3 : Int) : Out (((List (List UInt8) × List (Int × List UInt8 × Unit) × List (Int × List Int × Unit) × List (Int × List Int × Unit) × Int × Int × Unit) × Unit) × ((Int × Int × Unit) × Unit × Unit)) :=
 .get (k139_V a0 a1 a2 a3) fun y1 =>
 .get (iter1 f224_L0 FUEL ((y1.1.1.1, ()), ((a0, y1.2.1.1, y1.2.1.2.1, ()), ((0 : Int), (0 : Int), ()), (newSaverV.2.2.2.2.1, newSaverV.2.2.2.2.2, ()), ([] : List (List UInt8)), ([] : List ((Int × List UInt8 × Unit))), ([] : List ((Int × List Int × Unit))), ([] : List ((Int × List Int × Unit))), newSaverV.1, newSaverV.2.1, newSaverV.2.2.1, newSaverV.2.2.2.1, ()))) fun y2 =>
 .ret (((y2.2.2.2.2.2.2.2.1, y2.2.2.2.2.2.2.2.2.1, y2.2.2.2.2.2.2.2.2.2.1, y2.2.2.2.2.2.2.2.2.2.2.1, y2.2.2.1.1, y2.2.2.1.2.1, ()), ()), ((y2.2.2.2.2.2.2.2.2.2.2.2.1.2.1, y2.2.2.2.2.2.2.2.2.2.2.2.1.2.2.1, ()), (), ()))
def f224_A : Nat → Option LoopAnn := fun n => annOf [(0, { head := { t := [.vptr 0 0, .dead, .dead, .dead, .vptr 64000000 0, .vptr 64000001 0, .i .i64, .dead, .dead, .dead, .dead, .dead, .dead, .dead, .dead, .dead, .dead, .dead, .dead, .dead, .dead, .dead, .dead, .dead, .dead, .dead, .dead, .dead, .dead, .dead, .dead, .dead, .dead, .dead, .dead, .dead, .dead, .dead, .dead, .dead, .dead, .dead, .dead], v := [(0, .var [.ro (.int .u8) (some 1), .i .i64, .i .i64]), (64000000, .var [.srf 64000002, .srf 64000003, .srf 64000004, .srf 64000005, .i .i64, .i .i64]), (64000001, .var [.srf 64000006, .srf 64000007, .srf 64000008, .srf 64000009, .i .i64, .i .i64]), (64000002, .arr .str), (64000003, .arr (.st (.cons (.int .i64) (.cons .str .nil)))), (64000004, .arr (.st (.cons (.int .i64) (.cons (.sl (.int .i64)) .nil)))), (64000005, .arr (.st (.cons (.int .i64) (.cons (.sl (.int .i64)) .nil)))), (64000006, .arr .str), (64000007, .arr (.st (.cons (.int .i64) (.cons .str .nil)))), (64000008, .arr (.st (.cons (.int .i64) (.cons (.sl (.int .i64)) .nil)))), (64000009, .arr (.st (.cons (.int .i64) (.cons (.sl (.int .i64)) .nil))))] }, out := { t := [.vptr 0 0, .dead, .dead, .dead, .vptr 64000256 0, .vptr 64000257 0, .dead, .dead, .dead, .dead, .dead, .dead, .dead, .dead, .dead, .dead, .dead, .dead, .dead, .dead, .dead, .dead, .dead, .dead, .dead, .dead, .dead, .dead, .dead, .dead, .dead, .dead, .dead, .dead, .dead, .dead, .dead, .dead, .dead, .dead, .dead, .dead, .dead], v := [(64000256, .var [.srf 64000258, .srf 64000259, .srf 64000260, .srf 64000261, .i .i64, .i .i64]), (64000257, .var [.srf 64000262, .srf 64000263, .srf 64000264, .srf 64000265, .i .i64, .i .i64]), (64000258, .arr .str), (64000259, .arr (.st (.cons (.int .i64) (.cons .str .nil)))), (64000260, .arr (.st (.cons (.int .i64) (.cons (.sl (.int .i64)) .nil)))), (64000261, .arr (.st (.cons (.int .i64) (.cons (.sl (.int .i64)) .nil)))), (64000262, .arr .str), (64000263, .arr (.st (.cons (.int .i64) (.cons .str .nil)))), (64000264, .arr (.st (.cons (.int .i64) (.cons (.sl (.int .i64)) .nil)))), (64000265, .arr (.st (.cons (.int .i64) (.cons (.sl (.int .i64)) .nil)))), (0, .var [.ro (.int .u8) (some 1), .i .i64, .i .i64])] }, ret := none })] n
def k224_V (a0 : List Int) (a1 : Int) (a2 : Int) (a3 : Int) : Option (((List (List UInt8) × List (Int × List UInt8 × Unit) × List (Int × List Int × Unit) × List (Int × List Int × Unit) × Int × Int × Unit) × Unit) × ((Int × Int × Unit) × Unit × Unit)) := (f224_tree a0 a1 a2 a3).eval
def k224 : Con := { f := 224, lend := true, its := [⟨true, false, [.ro (.int .u8), .i .i64, .i .i64]⟩, ⟨false, false, [.i .i64]⟩], lay := [none, none], rs := [⟨false, true, [.own .str, .own (.st (.cons (.int .i64) (.cons .str .nil))), .own (.st (.cons (.int .i64) (.cons (.sl (.int .i64)) .nil))), .own (.st (.cons (.int .i64) (.cons (.sl (.int .i64)) .nil))), .i .i64, .i .i64]⟩], F := fun x => .get (k224_V x.1.1 x.1.2.1 x.1.2.2.1 x.2.1.1) fun y => .ret y }
theorem f224_eq (x : itemsD k224.its) : bodyOut (cxOf [k50, k139, k181, k109, k243, k114]) (f224_A) (codeOf Try.f224) k224.its k224.lay Try.f224.ntmps k224.rs [.cell 4 70] x = f224_tree x.1.1 x.1.2.1 x.1.2.2.1 x.2.1.1 := by kernel_rfl
theorem f224_ok (hr : ∀ x : (List Int × Int × Int × Unit) × (Int × Unit) × Unit, itemsWF k224.its x → (f224_tree x.1.1 x.1.2.1 x.1.2.2.1 x.2.1.1).eval = (k224.F x).eval) : k224.Ok Try.prog :=
  con_fn [k50, k139, k181, k109, k243, k114] ⟨k50_ok, k139_ok, k181_ok, k109_ok, k243_ok, k114_ok, trivial⟩ (by kernel_rfl) (codeOf_eq (by kernel_rfl)) (by kernel_rfl) (by kernel_rfl) (by kernel_rfl) f224_eq fun x hw _ hy => (hr x hw).trans hy
theorem k224_ok : k224.Ok Try.prog := f224_ok fun x _ => (eval_get_ret _).symm
theorem someS_tot {b : List Int} {i h n : Int} (hb : b.length ≤ BIG) (hi : 0 ≤ i) (hn : n ≤ 1000) : TotV (k224_V b i h n) fun y => saverOkV y.1.1.1 y.1.1.2.1 y.1.1.2.2.1 y.1.1.2.2.2.1 y.1.1.2.2.2.2.1 y.1.1.2.2.2.2.2.1 = true ∧ 0 ≤ y.2.1.1 := by
  unfold k224_V f224_tree
  refine tot_get (below_tot hb hi) fun y hy => tot_get (P := fun x => saverOkV x.2.2.2.2.2.2.2.1 x.2.2.2.2.2.2.2.2.1 x.2.2.2.2.2.2.2.2.2.1 x.2.2.2.2.2.2.2.2.2.2.1 x.2.2.1.1 x.2.2.1.2.1 = true ∧ 0 ≤ x.2.2.2.2.2.2.2.2.2.2.2.1.2.1)
    (tot_iter1 (fun x => (x.2.1.1 = b ∧ 0 ≤ x.2.1.2.1 ∧ x.1.1 ≤ 1000) ∧ saverOkV x.2.2.2.2.2.2.2.2.1 x.2.2.2.2.2.2.2.2.2.1 x.2.2.2.2.2.2.2.2.2.2.1 x.2.2.2.2.2.2.2.2.2.2.2.1 x.2.2.2.1.1 x.2.2.2.1.2.1 = true) (fun x => x.1.1.toNat) _ (fun x hx => ?_) _ _ ⟨⟨rfl, hy.2, ?_⟩, saverOkV_new⟩ ?_) fun x hx => tot_ret hx
  · obtain ⟨⟨k, _⟩, ⟨b', i, h, _⟩, dis, ⟨q, p, _⟩, l1, l2, l3, l4, a, bb, c, d, _⟩ := x
    obtain ⟨⟨z1, z2, z3⟩, z4⟩ := hx
    simp only at z1 z2 z3 z4
    subst z1
    unfold f224_L0
    refine tot_ite (fun g => ?_) fun _ => tot_ret ⟨z4, z2⟩
    have g : k > 0 := of_decide_eq_true g
    have w : IntKind.i64.wrap (k - 1) = k - 1 := wrap_id (by omega) (by omega)
    refine tot_get (below_tot hb z2) fun u hu => ?_
    refine tot_ite (fun _ => tot_get (files_tot hb hu.2) fun v hv => tot_ret ⟨⟨⟨rfl, hv.2, by simp only [w]; omega⟩, begin_ok z4⟩, by simp only [w]; omega⟩) fun _ => ?_
    refine tot_ite (fun _ => tot_get (files_tot hb hu.2) fun v hv => tot_ret ⟨⟨⟨rfl, hv.2, by simp only [w]; omega⟩, begin_ok z4⟩, by simp only [w]; omega⟩) fun _ => ?_
    refine tot_ite (fun _ => tot_get (files_tot hb hu.2) fun v hv => tot_ret ⟨⟨⟨rfl, hv.2, by simp only [w]; omega⟩, begin_ok z4⟩, by simp only [w]; omega⟩) fun _ => ?_
    refine tot_ite (fun _ => tot_get (below_tot hb hu.2) fun v hv => tot_ret ⟨⟨⟨rfl, hv.2, by simp only [w]; omega⟩, fall_ok z4⟩, by simp only [w]; omega⟩) fun _ => ?_
    exact tot_ret ⟨⟨⟨rfl, hu.2, by simp only [w]; omega⟩, step_ok z4⟩, by simp only [w]; omega⟩
  · rcases Int.lt_or_le 0 n with h0 | h0
    · have := hy.1.2.1 h0; simp only; omega
    · have := hy.1.2.2 h0; simp only; omega
  · have : y.1.1.1 ≤ 1000 := by
      rcases Int.lt_or_le 0 n with h0 | h0
      · have := hy.1.2.1 h0; omega
      · have := hy.1.2.2 h0; omega
    exact Nat.lt_of_le_of_lt (show y.1.1.1.toNat ≤ 1000 by omega) (by decide)
def f197_tree (a0 : List Int) (a1 : Int) (a2 : Int) (a3 : Int) : Out (((List (List UInt8) × List (Int × List UInt8 × Unit) × List (Int × List Int × Unit) × List (Int × List Int × Unit) × Int × Int × Unit) × Unit) × ((Int × Int × Unit) × Unit × Unit)) :=
 .get (k224_V a0 a1 a2 a3) fun y1 =>
 .get (k140_V a0 y1.2.1.1 y1.2.1.2.1 (10 : Int)) fun y2 =>
 .ite (!y2.1.1.1)
 (.ret (((y1.1.1.1, y1.1.1.2.1, y1.1.1.2.2.1, y1.1.1.2.2.2.1, y1.1.1.2.2.2.2.1, y1.1.1.2.2.2.2.2.1, ()), ()), ((y2.2.1.1, y2.2.1.2.1, ()), (), ())))
 (.get (k139_V a0 y2.2.1.1 y2.2.1.2.1 (5 : Int)) fun y3 =>
 .ite ((y3.1.1.1 == (0 : Int)))
 (.get (k139_V a0 y3.2.1.1 y3.2.1.2.1 (7 : Int)) fun y4 =>
 .ret (((y1.1.1.1, y1.1.1.2.1, y1.1.1.2.2.1, y1.1.1.2.2.2.1, y1.1.1.2.2.2.2.1, (IntKind.i64.wrap (y4.1.1.1 - (1 : Int))), ()), ()), ((y4.2.1.1, y4.2.1.2.1, ()), (), ())))
 (.ite ((y3.1.1.1 == (1 : Int)))
 (.get (k141_V a0 y3.2.1.1 y3.2.1.2.1 ([(-1 : Int), (0 : Int), (1000000 : Int), (1000001 : Int)] : List (Int))) fun y5 =>
 .ret (((y1.1.1.1, y1.1.1.2.1, y1.1.1.2.2.1, y1.1.1.2.2.2.1, y5.1.1.1, y1.1.1.2.2.2.2.2.1, ()), ()), ((y5.2.1.1, y5.2.1.2.1, ()), (), ())))
 (.ite ((y3.1.1.1 == (2 : Int)))
 (.get (k179_V a0 y3.2.1.1 y3.2.1.2.1) fun y6 =>
 .ret (((y1.1.1.1, y1.1.1.2.1, y1.1.1.2.2.1, y6.1.1.1, y1.1.1.2.2.2.2.1, y1.1.1.2.2.2.2.2.1, ()), ()), ((y6.2.1.1, y6.2.1.2.1, ()), (), ())))
 (.ite ((y3.1.1.1 == (3 : Int)))
 (.get (k179_V a0 y3.2.1.1 y3.2.1.2.1) fun y7 =>
 .ret (((y1.1.1.1, y1.1.1.2.1, y7.1.1.1, y1.1.1.2.2.2.1, y1.1.1.2.2.2.2.1, y1.1.1.2.2.2.2.2.1, ()), ()), ((y7.2.1.1, y7.2.1.2.1, ()), (), ())))
 (.get (k139_V a0 y3.2.1.1 y3.2.1.2.1 (7 : Int)) fun y8 =>
 .ite (decide (0 ≤ y8.1.1.1 ∧ y8.1.1.1 < ((List.length y1.1.1.1 : Nat) : Int)))
 (.get (nth y1.1.1.1 (Int.toNat y8.1.1.1)) fun y9 =>
 .get (k178_V a0 y8.2.1.1 y8.2.1.2.1 y9) fun y10 =>
 .ite (decide (0 ≤ y8.1.1.1 ∧ y8.1.1.1 < ((List.length y1.1.1.1 : Nat) : Int)))
 (.get (nth y1.1.1.1 (Int.toNat y8.1.1.1)) fun y11 =>
 .ret ((((List.set y1.1.1.1 (Int.toNat y8.1.1.1) y10.1.1.1), y1.1.1.2.1, y1.1.1.2.2.1, y1.1.1.2.2.2.1, y1.1.1.2.2.2.2.1, y1.1.1.2.2.2.2.2.1, ()), ()), ((y10.2.1.1, y10.2.1.2.1, ()), (), ())))
 .fail)
 .fail)))))
def k197_V (a0 : List Int) (a1 : Int) (a2 : Int) (a3 : Int) : Option (((List (List UInt8) × List (Int × List UInt8 × Unit) × List (Int × List Int × Unit) × List (Int × List Int × Unit) × Int × Int × Unit) × Unit) × ((Int × Int × Unit) × Unit × Unit)) := (f197_tree a0 a1 a2 a3).eval
def k197 : Con := { f := 197, lend := true, its := [⟨true, false, [.ro (.int .u8), .i .i64, .i .i64]⟩, ⟨false, false, [.i .i64]⟩], lay := [none, none], rs := [⟨false, true, [.own .str, .own (.st (.cons (.int .i64) (.cons .str .nil))), .own (.st (.cons (.int .i64) (.cons (.sl (.int .i64)) .nil))), .own (.st (.cons (.int .i64) (.cons (.sl (.int .i64)) .nil))), .i .i64, .i .i64]⟩], F := fun x => .get (k197_V x.1.1 x.1.2.1 x.1.2.2.1 x.2.1.1) fun y => .ret y }
theorem f197_eq (x : itemsD k197.its) : bodyOut (cxOf [k224, k140, k139, k141, k179, k178]) (fun _ => none) (codeOf Try.f197) k197.its k197.lay Try.f197.ntmps k197.rs [.cell 4 70] x = f197_tree x.1.1 x.1.2.1 x.1.2.2.1 x.2.1.1 := by kernel_rfl
theorem f197_ok (hr : ∀ x : (List Int × Int × Int × Unit) × (Int × Unit) × Unit, itemsWF k197.its x → (f197_tree x.1.1 x.1.2.1 x.1.2.2.1 x.2.1.1).eval = (k197.F x).eval) : k197.Ok Try.prog :=
  con_fn [k224, k140, k139, k141, k179, k178] ⟨k224_ok, k140_ok, k139_ok, k141_ok, k179_ok, k178_ok, trivial⟩ (by kernel_rfl) (codeOf_eq (by kernel_rfl)) (by kernel_rfl) (by kernel_rfl) (by kernel_rfl) f197_eq fun x hw _ hy => (hr x hw).trans hy
theorem k197_ok : k197.Ok Try.prog := f197_ok fun x _ => (eval_get_ret _).symm
theorem anyS_tot {b : List Int} {i h n : Int} (hb : b.length ≤ BIG) (hi : 0 ≤ i) (hn : n ≤ 1000) : TotV (k197_V b i h n) fun y => 0 ≤ y.2.1.1 := by
  unfold k197_V f197_tree
  refine tot_get (someS_tot hb hi hn) fun y hy => tot_get (once_tot hb hy.2) fun u hu => tot_ite (fun _ => tot_ret hu) fun _ => tot_get (below_tot hb hu) fun v hv => ?_
  refine tot_ite (fun _ => tot_get (below_tot hb hv.2) fun w hw => tot_ret hw.2) fun _ => ?_
  refine tot_ite (fun _ => tot_get (pick_tot hb hv.2 (by simp)) fun w hw => tot_ret hw.2) fun _ => ?_
  refine tot_ite (fun _ => tot_get (any_tot hb hv.2) fun w hw => tot_ret hw.2) fun _ => ?_
  refine tot_ite (fun _ => tot_get (any_tot hb hv.2) fun w hw => tot_ret hw.2) fun _ => ?_
  refine tot_get (below_tot hb hv.2) fun w hw => ?_
  obtain ⟨h7, _, h600, _⟩ := diskOkV_parts (saverOkV_parts hy.1).1
  have w0 := hw.1.1
  have w1 := hw.1.2.1 (by decide)
  have hin : decide (0 ≤ w.1.1.1 ∧ w.1.1.1 < ((List.length y.1.1.1 : Nat) : Int)) = true := decide_eq_true ⟨w0, by rw [h7]; exact w1⟩
  have hlt : w.1.1.1.toNat < y.1.1.1.length := by rw [h7]; omega
  refine tot_t hin (tot_get (P := fun s : Str => s.length ≤ 1000000) ⟨_, List.getElem?_eq_getElem hlt, Nat.le_trans (h600 _ (List.getElem_mem hlt)) (by decide)⟩ fun s hs => tot_get (spoil_tot hb hw.2 hs) fun t ht => tot_t hin (tot_get (P := fun _ => True) ⟨_, List.getElem?_eq_getElem hlt, trivial⟩ fun _ _ => tot_ret ht.2))
def f115_tree (a0 : List Int) : Out (((List (List UInt8) × List (Int × List UInt8 × Unit) × List (Int × List Int × Unit) × List (Int × List Int × Unit) × Int × Int × Unit) × Unit) × (Unit × Unit)) :=
 .get (k138_V a0) fun y1 =>
 .get (k143_V a0 (40 : Int)) fun y2 =>
 .get (k197_V y1.1.1.1 y1.1.1.2.1 y1.1.1.2.2.1 y2.1.1.1) fun y3 =>
 .ret (((y3.1.1.1, y3.1.1.2.1, y3.1.1.2.2.1, y3.1.1.2.2.2.1, y3.1.1.2.2.2.2.1, y3.1.1.2.2.2.2.2.1, ()), ()), ((), ()))
def k115_V (a0 : List Int) : Option (((List (List UInt8) × List (Int × List UInt8 × Unit) × List (Int × List Int × Unit) × List (Int × List Int × Unit) × Int × Int × Unit) × Unit) × (Unit × Unit)) := (f115_tree a0).eval
def k115 : Con := { f := 115, lend := true, its := [⟨false, false, [.ro (.int .u8)]⟩], lay := [none], rs := [⟨false, true, [.own .str, .own (.st (.cons (.int .i64) (.cons .str .nil))), .own (.st (.cons (.int .i64) (.cons (.sl (.int .i64)) .nil))), .own (.st (.cons (.int .i64) (.cons (.sl (.int .i64)) .nil))), .i .i64, .i .i64]⟩], F := fun x => .get (k115_V x.1.1) fun y => .ret y }
theorem f115_eq (x : itemsD k115.its) : bodyOut (cxOf [k138, k143, k197]) (fun _ => none) (codeOf Try.f115) k115.its k115.lay Try.f115.ntmps k115.rs [.cell 2 70] x = f115_tree x.1.1 := by kernel_rfl
theorem f115_ok (hr : ∀ x : (List Int × Unit) × Unit, itemsWF k115.its x → (f115_tree x.1.1).eval = (k115.F x).eval) : k115.Ok Try.prog :=
  con_fn [k138, k143, k197] ⟨k138_ok, k143_ok, k197_ok, trivial⟩ (by kernel_rfl) (codeOf_eq (by kernel_rfl)) (by kernel_rfl) (by kernel_rfl) (by kernel_rfl) f115_eq fun x hw _ hy => (hr x hw).trans hy
theorem k115_ok : k115.Ok Try.prog := f115_ok fun x _ => (eval_get_ret _).symm
theorem drawStep_tot {b : List Int} (hb : b.length ≤ BIG) : TotV (k115_V b) fun _ => True := by
  unfold k115_V f115_tree
  refine tot_get (newCur_tot hb) fun c hc => ?_
  have h0 : 0 ≤ c.1.1.2.1 := by rw [hc.2]; exact Int.le_refl 0
  exact tot_get (size_tot hb) fun u hu => tot_get (anyS_tot (by rw [hc.1]; exact hb) h0 (by omega)) fun v _ => tot_ret trivial
def f116_tree (a0 : List Int) : Out (((List (List UInt8) × List (Int × List UInt8 × Unit) × List (Int × List Int × Unit) × List (Int × List Int × Unit) × Int × Int × Unit) × (List (Int × List Int × Unit) × Unit) × Unit) × (Unit × Unit)) :=
 .get (k138_V a0) fun y1 =>
 .get (k179_V y1.1.1.1 y1.1.1.2.1 y1.1.1.2.2.1) fun y2 =>
 .get (k143_V a0 (30 : Int)) fun y3 =>
 .get (k197_V y1.1.1.1 y2.2.1.1 y2.2.1.2.1 y3.1.1.1) fun y4 =>
 .get (k140_V y1.1.1.1 y4.2.1.1 y4.2.1.2.1 (6 : Int)) fun y5 =>
 .ite y5.1.1.1
 (.ret (((y4.1.1.1, y4.1.1.2.1, y4.1.1.2.2.1, y4.1.1.2.2.2.1, y4.1.1.2.2.2.2.1, y4.1.1.2.2.2.2.2.1, ()), (y4.1.1.2.2.1, ()), ()), ((), ())))
 (.ret (((y4.1.1.1, y4.1.1.2.1, y4.1.1.2.2.1, y4.1.1.2.2.2.1, y4.1.1.2.2.2.2.1, y4.1.1.2.2.2.2.2.1, ()), (y2.1.1.1, ()), ()), ((), ())))
def k116_V (a0 : List Int) : Option (((List (List UInt8) × List (Int × List UInt8 × Unit) × List (Int × List Int × Unit) × List (Int × List Int × Unit) × Int × Int × Unit) × (List (Int × List Int × Unit) × Unit) × Unit) × (Unit × Unit)) := (f116_tree a0).eval
def k116 : Con := { f := 116, lend := false, its := [⟨false, false, [.ro (.int .u8)]⟩], lay := [none], rs := [⟨false, true, [.ro .str, .ro (.st (.cons (.int .i64) (.cons .str .nil))), .ro (.st (.cons (.int .i64) (.cons (.sl (.int .i64)) .nil))), .ro (.st (.cons (.int .i64) (.cons (.sl (.int .i64)) .nil))), .i .i64, .i .i64]⟩, ⟨false, false, [.ro (.st (.cons (.int .i64) (.cons (.sl (.int .i64)) .nil)))]⟩], F := fun x => .get (k116_V x.1.1) fun y => .ret y }
theorem f116_eq (x : itemsD k116.its) : bodyOut (cxOf [k138, k179, k143, k197, k140]) (fun _ => none) (codeOf Try.f116) k116.its k116.lay Try.f116.ntmps k116.rs [.cell 2 70, .tmp 3] x = f116_tree x.1.1 := by kernel_rfl
theorem f116_ok (hr : ∀ x : (List Int × Unit) × Unit, itemsWF k116.its x → (f116_tree x.1.1).eval = (k116.F x).eval) : k116.Ok Try.prog :=
  con_fn [k138, k179, k143, k197, k140] ⟨k138_ok, k179_ok, k143_ok, k197_ok, k140_ok, trivial⟩ (by kernel_rfl) (codeOf_eq (by kernel_rfl)) (by kernel_rfl) (by kernel_rfl) (by kernel_rfl) f116_eq fun x hw _ hy => (hr x hw).trans hy
theorem k116_ok : k116.Ok Try.prog := f116_ok fun x _ => (eval_get_ret _).symm
theorem drawBegin_tot {b : List Int} (hb : b.length ≤ BIG) : TotV (k116_V b) fun _ => True := by
  unfold k116_V f116_tree
  refine tot_get (newCur_tot hb) fun c hc => ?_
  have h0 : 0 ≤ c.1.1.2.1 := by rw [hc.2]; exact Int.le_refl 0
  have hb' : c.1.1.1.length ≤ BIG := by rw [hc.1]; exact hb
  exact tot_get (any_tot hb' h0) fun f hf => tot_get (size_tot hb) fun u hu => tot_get (anyS_tot hb' hf.2 (by omega)) fun v hv => tot_get (once_tot hb' hv) fun _ _ => tot_ite (fun _ => tot_ret trivial) fun _ => tot_ret trivial
end Go.Proofs.Ytjcinikojcfebaa.Dm
