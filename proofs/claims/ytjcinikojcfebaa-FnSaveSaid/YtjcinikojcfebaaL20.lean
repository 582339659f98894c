/- Functions of the program, and what they compute. -/
import Derived.Test.YtjcinikojcfebaaA17
import Derived.Test.YtjcinikojcfebaaFacts
import Derived.Test.YtjcinikojcfebaaRows
import Derived.ChangeCalls
namespace Go.Proofs.Ytjcinikojcfebaa.Dm
open Go Go.ChangeShapes Go.WideShapes Go.ChangeAt Go.RowKit

abbrev f20_S2 := (List (Int) × Int × Int × Unit) × ((Int × Int × Unit) × List (List UInt8) × List ((Int × List UInt8 × Unit)) × List ((Int × List Int × Unit)) × List ((Int × List Int × Unit)) × Unit)
def f20_L2 (x : f20_S2) : Out (Round f20_S2 ((List (Int) × Int × Unit) × ((Int × Int × Unit) × List (List UInt8) × List ((Int × List UInt8 × Unit)) × List ((Int × List Int × Unit)) × List ((Int × List Int × Unit)) × Unit)) Empty) :=
 .get (atV x.1.1 x.1.2.1) fun y1 =>
 .ite ((6 : Int) == 0)
 .fail
 (.ite (decide (x.1.2.2.1 < (Int.tmod y1 (6 : Int))))
 (.ite ((saveStepV x.2.2.1 x.2.2.2.1 x.2.2.2.2.1 x.2.2.2.2.2.1 x.2.1.1 x.2.1.2.1).2.2.2.2.2.2)
 (.ret (.again ((x.1.1, x.1.2.1, (IntKind.i64.wrap (x.1.2.2.1 + (1 : Int))), ()), (((saveStepV x.2.2.1 x.2.2.2.1 x.2.2.2.2.1 x.2.2.2.2.2.1 x.2.1.1 x.2.1.2.1).2.2.2.2.1, (saveStepV x.2.2.1 x.2.2.2.1 x.2.2.2.2.1 x.2.2.2.2.2.1 x.2.1.1 x.2.1.2.1).2.2.2.2.2.1, ()), (saveStepV x.2.2.1 x.2.2.2.1 x.2.2.2.2.1 x.2.2.2.2.2.1 x.2.1.1 x.2.1.2.1).1, (saveStepV x.2.2.1 x.2.2.2.1 x.2.2.2.2.1 x.2.2.2.2.2.1 x.2.1.1 x.2.1.2.1).2.1, (saveStepV x.2.2.1 x.2.2.2.1 x.2.2.2.2.1 x.2.2.2.2.2.1 x.2.1.1 x.2.1.2.1).2.2.1, (saveStepV x.2.2.1 x.2.2.2.1 x.2.2.2.2.1 x.2.2.2.2.2.1 x.2.1.1 x.2.1.2.1).2.2.2.1, ()))))
 (.ret (.again ((x.1.1, x.1.2.1, (IntKind.i64.wrap (x.1.2.2.1 + (1 : Int))), ()), ((x.2.1.1, x.2.1.2.1, ()), x.2.2.1, x.2.2.2.1, x.2.2.2.2.1, x.2.2.2.2.2.1, ())))))
 (.ret (.out ((x.1.1, x.1.2.1, ()), ((x.2.1.1, x.2.1.2.1, ()), x.2.2.1, x.2.2.2.1, x.2.2.2.2.1, x.2.2.2.2.2.1, ())))))
abbrev f20_S0 := (List (Int) × Int × Unit) × ((Int × Int × Unit) × List (List UInt8) × List ((Int × List UInt8 × Unit)) × List ((Int × List Int × Unit)) × List ((Int × List Int × Unit)) × Unit)
def f20_L0 (x : f20_S0) : Out (Round f20_S0 ((Unit) × (Unit)) ((Bool × Unit) × (Unit))) :=
 .ite (decide (x.1.2.1 < (12 : Int)))
 (.get (k105_V x.1.1 x.1.2.1) fun y1 =>
 .get (k93_V y1.1.1.1) fun y2 =>
 .ite ((saveBeginV x.2.2.1 x.2.2.2.1 x.2.2.2.2.1 x.2.2.2.2.2.1 x.2.1.1 x.2.1.2.1 y2.1.1.1).2.2.2.2.2.2)
 (.get (iter1 f20_L2 FUEL ((x.1.1, x.1.2.1, (0 : Int), ()), (((saveBeginV x.2.2.1 x.2.2.2.1 x.2.2.2.2.1 x.2.2.2.2.2.1 x.2.1.1 x.2.1.2.1 y2.1.1.1).2.2.2.2.1, (saveBeginV x.2.2.1 x.2.2.2.1 x.2.2.2.2.1 x.2.2.2.2.2.1 x.2.1.1 x.2.1.2.1 y2.1.1.1).2.2.2.2.2.1, ()), (saveBeginV x.2.2.1 x.2.2.2.1 x.2.2.2.2.1 x.2.2.2.2.2.1 x.2.1.1 x.2.1.2.1 y2.1.1.1).1, (saveBeginV x.2.2.1 x.2.2.2.1 x.2.2.2.2.1 x.2.2.2.2.2.1 x.2.1.1 x.2.1.2.1 y2.1.1.1).2.1, (saveBeginV x.2.2.1 x.2.2.2.1 x.2.2.2.2.1 x.2.2.2.2.2.1 x.2.1.1 x.2.1.2.1 y2.1.1.1).2.2.1, (saveBeginV x.2.2.1 x.2.2.2.1 x.2.2.2.2.1 x.2.2.2.2.2.1 x.2.1.1 x.2.1.2.1 y2.1.1.1).2.2.2.1, ()))) fun y3 =>
 .ite (!(saverOkV y3.2.2.1 y3.2.2.2.1 y3.2.2.2.2.1 y3.2.2.2.2.2.1 y3.2.1.1 y3.2.1.2.1))
 (.ret (.ret ((false, ()), ())))
 (.get (atV y3.1.1 (IntKind.i64.wrap (y3.1.2.1 + (1 : Int)))) fun y4 =>
 .ite ((!(saveFallV y3.2.2.1 y3.2.2.2.1 y3.2.2.2.2.1 y3.2.2.2.2.2.1 y3.2.1.1 y3.2.1.2.1 y4).2.2.2.2.2.2) == false)
 (.ite ((((saveFallV y3.2.2.1 y3.2.2.2.1 y3.2.2.2.2.1 y3.2.2.2.2.2.1 y3.2.1.1 y3.2.1.2.1 y4).2.2.2.2.2.1 != (0 : Int))) == false)
 (.ite ((!(eqFilesV (saveFallV y3.2.2.1 y3.2.2.2.1 y3.2.2.2.2.1 y3.2.2.2.2.2.1 y3.2.1.1 y3.2.1.2.1 y4).2.2.1 y3.2.2.2.2.1)) == true)
 (.ite (((y3.2.1.2.1 == (0 : Int))) == false)
 (.ite (!(eqFilesV (saveFallV y3.2.2.1 y3.2.2.2.1 y3.2.2.2.2.1 y3.2.2.2.2.2.1 y3.2.1.1 y3.2.1.2.1 y4).2.2.1 y3.2.2.2.2.2.1))
 (.ret (.ret ((false, ()), ())))
 (.ite ((decide (y3.2.1.2.1 ≥ (3 : Int))) == true)
 (.ite (!(eqFilesV (saveFallV y3.2.2.1 y3.2.2.2.1 y3.2.2.2.2.1 y3.2.2.2.2.2.1 y3.2.1.1 y3.2.1.2.1 y4).2.2.1 y3.2.2.2.2.2.1))
 (.ret (.ret ((false, ()), ())))
 (.get (atV y3.1.1 (IntKind.i64.wrap (y3.1.2.1 + (2 : Int)))) fun y5 =>
 .ite ((3 : Int) == 0)
 .fail
 (.ite (((Int.tmod y5 (3 : Int)) == (0 : Int)))
 (.ret (.again ((y3.1.1, (IntKind.i64.wrap (y3.1.2.1 + (1 : Int))), ()), (((saveFallV y3.2.2.1 y3.2.2.2.1 y3.2.2.2.2.1 y3.2.2.2.2.2.1 y3.2.1.1 y3.2.1.2.1 y4).2.2.2.2.1, (saveFallV y3.2.2.1 y3.2.2.2.1 y3.2.2.2.2.1 y3.2.2.2.2.2.1 y3.2.1.1 y3.2.1.2.1 y4).2.2.2.2.2.1, ()), (saveFallV y3.2.2.1 y3.2.2.2.1 y3.2.2.2.2.1 y3.2.2.2.2.2.1 y3.2.1.1 y3.2.1.2.1 y4).1, (saveFallV y3.2.2.1 y3.2.2.2.1 y3.2.2.2.2.1 y3.2.2.2.2.2.1 y3.2.1.1 y3.2.1.2.1 y4).2.1, (saveFallV y3.2.2.1 y3.2.2.2.1 y3.2.2.2.2.1 y3.2.2.2.2.2.1 y3.2.1.1 y3.2.1.2.1 y4).2.2.1, (saveFallV y3.2.2.1 y3.2.2.2.1 y3.2.2.2.2.1 y3.2.2.2.2.2.1 y3.2.1.1 y3.2.1.2.1 y4).2.2.2.1, ()))))
 (.ret (.again ((y3.1.1, (IntKind.i64.wrap (y3.1.2.1 + (1 : Int))), ()), ((y3.2.1.1, y3.2.1.2.1, ()), y3.2.2.1, y3.2.2.2.1, y3.2.2.2.2.1, y3.2.2.2.2.2.1, ())))))))
 (.get (atV y3.1.1 (IntKind.i64.wrap (y3.1.2.1 + (2 : Int)))) fun y6 =>
 .ite ((3 : Int) == 0)
 .fail
 (.ite (((Int.tmod y6 (3 : Int)) == (0 : Int)))
 (.ret (.again ((y3.1.1, (IntKind.i64.wrap (y3.1.2.1 + (1 : Int))), ()), (((saveFallV y3.2.2.1 y3.2.2.2.1 y3.2.2.2.2.1 y3.2.2.2.2.2.1 y3.2.1.1 y3.2.1.2.1 y4).2.2.2.2.1, (saveFallV y3.2.2.1 y3.2.2.2.1 y3.2.2.2.2.1 y3.2.2.2.2.2.1 y3.2.1.1 y3.2.1.2.1 y4).2.2.2.2.2.1, ()), (saveFallV y3.2.2.1 y3.2.2.2.1 y3.2.2.2.2.1 y3.2.2.2.2.2.1 y3.2.1.1 y3.2.1.2.1 y4).1, (saveFallV y3.2.2.1 y3.2.2.2.1 y3.2.2.2.2.1 y3.2.2.2.2.2.1 y3.2.1.1 y3.2.1.2.1 y4).2.1, (saveFallV y3.2.2.1 y3.2.2.2.1 y3.2.2.2.2.1 y3.2.2.2.2.2.1 y3.2.1.1 y3.2.1.2.1 y4).2.2.1, (saveFallV y3.2.2.1 y3.2.2.2.1 y3.2.2.2.2.1 y3.2.2.2.2.2.1 y3.2.1.1 y3.2.1.2.1 y4).2.2.2.1, ()))))
 (.ret (.again ((y3.1.1, (IntKind.i64.wrap (y3.1.2.1 + (1 : Int))), ()), ((y3.2.1.1, y3.2.1.2.1, ()), y3.2.2.1, y3.2.2.2.1, y3.2.2.2.2.1, y3.2.2.2.2.2.1, ()))))))))
 (.ret (.ret ((false, ()), ()))))
 (.ite ((decide (y3.2.1.2.1 ≥ (3 : Int))) == true)
 (.ite (!(eqFilesV (saveFallV y3.2.2.1 y3.2.2.2.1 y3.2.2.2.2.1 y3.2.2.2.2.2.1 y3.2.1.1 y3.2.1.2.1 y4).2.2.1 y3.2.2.2.2.2.1))
 (.ret (.ret ((false, ()), ())))
 (.get (atV y3.1.1 (IntKind.i64.wrap (y3.1.2.1 + (2 : Int)))) fun y7 =>
 .ite ((3 : Int) == 0)
 .fail
 (.ite (((Int.tmod y7 (3 : Int)) == (0 : Int)))
 (.ret (.again ((y3.1.1, (IntKind.i64.wrap (y3.1.2.1 + (1 : Int))), ()), (((saveFallV y3.2.2.1 y3.2.2.2.1 y3.2.2.2.2.1 y3.2.2.2.2.2.1 y3.2.1.1 y3.2.1.2.1 y4).2.2.2.2.1, (saveFallV y3.2.2.1 y3.2.2.2.1 y3.2.2.2.2.1 y3.2.2.2.2.2.1 y3.2.1.1 y3.2.1.2.1 y4).2.2.2.2.2.1, ()), (saveFallV y3.2.2.1 y3.2.2.2.1 y3.2.2.2.2.1 y3.2.2.2.2.2.1 y3.2.1.1 y3.2.1.2.1 y4).1, (saveFallV y3.2.2.1 y3.2.2.2.1 y3.2.2.2.2.1 y3.2.2.2.2.2.1 y3.2.1.1 y3.2.1.2.1 y4).2.1, (saveFallV y3.2.2.1 y3.2.2.2.1 y3.2.2.2.2.1 y3.2.2.2.2.2.1 y3.2.1.1 y3.2.1.2.1 y4).2.2.1, (saveFallV y3.2.2.1 y3.2.2.2.1 y3.2.2.2.2.1 y3.2.2.2.2.2.1 y3.2.1.1 y3.2.1.2.1 y4).2.2.2.1, ()))))
 (.ret (.again ((y3.1.1, (IntKind.i64.wrap (y3.1.2.1 + (1 : Int))), ()), ((y3.2.1.1, y3.2.1.2.1, ()), y3.2.2.1, y3.2.2.2.1, y3.2.2.2.2.1, y3.2.2.2.2.2.1, ())))))))
 (.get (atV y3.1.1 (IntKind.i64.wrap (y3.1.2.1 + (2 : Int)))) fun y8 =>
 .ite ((3 : Int) == 0)
 .fail
 (.ite (((Int.tmod y8 (3 : Int)) == (0 : Int)))
 (.ret (.again ((y3.1.1, (IntKind.i64.wrap (y3.1.2.1 + (1 : Int))), ()), (((saveFallV y3.2.2.1 y3.2.2.2.1 y3.2.2.2.2.1 y3.2.2.2.2.2.1 y3.2.1.1 y3.2.1.2.1 y4).2.2.2.2.1, (saveFallV y3.2.2.1 y3.2.2.2.1 y3.2.2.2.2.1 y3.2.2.2.2.2.1 y3.2.1.1 y3.2.1.2.1 y4).2.2.2.2.2.1, ()), (saveFallV y3.2.2.1 y3.2.2.2.1 y3.2.2.2.2.1 y3.2.2.2.2.2.1 y3.2.1.1 y3.2.1.2.1 y4).1, (saveFallV y3.2.2.1 y3.2.2.2.1 y3.2.2.2.2.1 y3.2.2.2.2.2.1 y3.2.1.1 y3.2.1.2.1 y4).2.1, (saveFallV y3.2.2.1 y3.2.2.2.1 y3.2.2.2.2.1 y3.2.2.2.2.2.1 y3.2.1.1 y3.2.1.2.1 y4).2.2.1, (saveFallV y3.2.2.1 y3.2.2.2.1 y3.2.2.2.2.1 y3.2.2.2.2.2.1 y3.2.1.1 y3.2.1.2.1 y4).2.2.2.1, ()))))
 (.ret (.again ((y3.1.1, (IntKind.i64.wrap (y3.1.2.1 + (1 : Int))), ()), ((y3.2.1.1, y3.2.1.2.1, ()), y3.2.2.1, y3.2.2.2.1, y3.2.2.2.2.1, y3.2.2.2.2.2.1, ()))))))))
 (.ret (.ret ((false, ()), ()))))
 (.ret (.ret ((false, ()), ())))))
 (.get (iter1 f20_L2 FUEL ((x.1.1, x.1.2.1, (0 : Int), ()), ((x.2.1.1, x.2.1.2.1, ()), x.2.2.1, x.2.2.2.1, x.2.2.2.2.1, x.2.2.2.2.2.1, ()))) fun y9 =>
 .ite (!(saverOkV y9.2.2.1 y9.2.2.2.1 y9.2.2.2.2.1 y9.2.2.2.2.2.1 y9.2.1.1 y9.2.1.2.1))
 (.ret (.ret ((false, ()), ())))
 (.get (atV y9.1.1 (IntKind.i64.wrap (y9.1.2.1 + (1 : Int)))) fun y10 =>
 .ite ((!(saveFallV y9.2.2.1 y9.2.2.2.1 y9.2.2.2.2.1 y9.2.2.2.2.2.1 y9.2.1.1 y9.2.1.2.1 y10).2.2.2.2.2.2) == false)
 (.ite ((((saveFallV y9.2.2.1 y9.2.2.2.1 y9.2.2.2.2.1 y9.2.2.2.2.2.1 y9.2.1.1 y9.2.1.2.1 y10).2.2.2.2.2.1 != (0 : Int))) == false)
 (.ite ((!(eqFilesV (saveFallV y9.2.2.1 y9.2.2.2.1 y9.2.2.2.2.1 y9.2.2.2.2.2.1 y9.2.1.1 y9.2.1.2.1 y10).2.2.1 y9.2.2.2.2.1)) == true)
 (.ite (((y9.2.1.2.1 == (0 : Int))) == false)
 (.ite (!(eqFilesV (saveFallV y9.2.2.1 y9.2.2.2.1 y9.2.2.2.2.1 y9.2.2.2.2.2.1 y9.2.1.1 y9.2.1.2.1 y10).2.2.1 y9.2.2.2.2.2.1))
 (.ret (.ret ((false, ()), ())))
 (.ite ((decide (y9.2.1.2.1 ≥ (3 : Int))) == true)
 (.ite (!(eqFilesV (saveFallV y9.2.2.1 y9.2.2.2.1 y9.2.2.2.2.1 y9.2.2.2.2.2.1 y9.2.1.1 y9.2.1.2.1 y10).2.2.1 y9.2.2.2.2.2.1))
 (.ret (.ret ((false, ()), ())))
 (.get (atV y9.1.1 (IntKind.i64.wrap (y9.1.2.1 + (2 : Int)))) fun y11 =>
 .ite ((3 : Int) == 0)
 .fail
 (.ite (((Int.tmod y11 (3 : Int)) == (0 : Int)))
 (.ret (.again ((y9.1.1, (IntKind.i64.wrap (y9.1.2.1 + (1 : Int))), ()), (((saveFallV y9.2.2.1 y9.2.2.2.1 y9.2.2.2.2.1 y9.2.2.2.2.2.1 y9.2.1.1 y9.2.1.2.1 y10).2.2.2.2.1, (saveFallV y9.2.2.1 y9.2.2.2.1 y9.2.2.2.2.1 y9.2.2.2.2.2.1 y9.2.1.1 y9.2.1.2.1 y10).2.2.2.2.2.1, ()), (saveFallV y9.2.2.1 y9.2.2.2.1 y9.2.2.2.2.1 y9.2.2.2.2.2.1 y9.2.1.1 y9.2.1.2.1 y10).1, (saveFallV y9.2.2.1 y9.2.2.2.1 y9.2.2.2.2.1 y9.2.2.2.2.2.1 y9.2.1.1 y9.2.1.2.1 y10).2.1, (saveFallV y9.2.2.1 y9.2.2.2.1 y9.2.2.2.2.1 y9.2.2.2.2.2.1 y9.2.1.1 y9.2.1.2.1 y10).2.2.1, (saveFallV y9.2.2.1 y9.2.2.2.1 y9.2.2.2.2.1 y9.2.2.2.2.2.1 y9.2.1.1 y9.2.1.2.1 y10).2.2.2.1, ()))))
 (.ret (.again ((y9.1.1, (IntKind.i64.wrap (y9.1.2.1 + (1 : Int))), ()), ((y9.2.1.1, y9.2.1.2.1, ()), y9.2.2.1, y9.2.2.2.1, y9.2.2.2.2.1, y9.2.2.2.2.2.1, ())))))))
 (.get (atV y9.1.1 (IntKind.i64.wrap (y9.1.2.1 + (2 : Int)))) fun y12 =>
 .ite ((3 : Int) == 0)
 .fail
 (.ite (((Int.tmod y12 (3 : Int)) == (0 : Int)))
 (.ret (.again ((y9.1.1, (IntKind.i64.wrap (y9.1.2.1 + (1 : Int))), ()), (((saveFallV y9.2.2.1 y9.2.2.2.1 y9.2.2.2.2.1 y9.2.2.2.2.2.1 y9.2.1.1 y9.2.1.2.1 y10).2.2.2.2.1, (saveFallV y9.2.2.1 y9.2.2.2.1 y9.2.2.2.2.1 y9.2.2.2.2.2.1 y9.2.1.1 y9.2.1.2.1 y10).2.2.2.2.2.1, ()), (saveFallV y9.2.2.1 y9.2.2.2.1 y9.2.2.2.2.1 y9.2.2.2.2.2.1 y9.2.1.1 y9.2.1.2.1 y10).1, (saveFallV y9.2.2.1 y9.2.2.2.1 y9.2.2.2.2.1 y9.2.2.2.2.2.1 y9.2.1.1 y9.2.1.2.1 y10).2.1, (saveFallV y9.2.2.1 y9.2.2.2.1 y9.2.2.2.2.1 y9.2.2.2.2.2.1 y9.2.1.1 y9.2.1.2.1 y10).2.2.1, (saveFallV y9.2.2.1 y9.2.2.2.1 y9.2.2.2.2.1 y9.2.2.2.2.2.1 y9.2.1.1 y9.2.1.2.1 y10).2.2.2.1, ()))))
 (.ret (.again ((y9.1.1, (IntKind.i64.wrap (y9.1.2.1 + (1 : Int))), ()), ((y9.2.1.1, y9.2.1.2.1, ()), y9.2.2.1, y9.2.2.2.1, y9.2.2.2.2.1, y9.2.2.2.2.2.1, ()))))))))
 (.ret (.ret ((false, ()), ()))))
 (.ite ((decide (y9.2.1.2.1 ≥ (3 : Int))) == true)
 (.ite (!(eqFilesV (saveFallV y9.2.2.1 y9.2.2.2.1 y9.2.2.2.2.1 y9.2.2.2.2.2.1 y9.2.1.1 y9.2.1.2.1 y10).2.2.1 y9.2.2.2.2.2.1))
 (.ret (.ret ((false, ()), ())))
 (.get (atV y9.1.1 (IntKind.i64.wrap (y9.1.2.1 + (2 : Int)))) fun y13 =>
 .ite ((3 : Int) == 0)
 .fail
 (.ite (((Int.tmod y13 (3 : Int)) == (0 : Int)))
 (.ret (.again ((y9.1.1, (IntKind.i64.wrap (y9.1.2.1 + (1 : Int))), ()), (((saveFallV y9.2.2.1 y9.2.2.2.1 y9.2.2.2.2.1 y9.2.2.2.2.2.1 y9.2.1.1 y9.2.1.2.1 y10).2.2.2.2.1, (saveFallV y9.2.2.1 y9.2.2.2.1 y9.2.2.2.2.1 y9.2.2.2.2.2.1 y9.2.1.1 y9.2.1.2.1 y10).2.2.2.2.2.1, ()), (saveFallV y9.2.2.1 y9.2.2.2.1 y9.2.2.2.2.1 y9.2.2.2.2.2.1 y9.2.1.1 y9.2.1.2.1 y10).1, (saveFallV y9.2.2.1 y9.2.2.2.1 y9.2.2.2.2.1 y9.2.2.2.2.2.1 y9.2.1.1 y9.2.1.2.1 y10).2.1, (saveFallV y9.2.2.1 y9.2.2.2.1 y9.2.2.2.2.1 y9.2.2.2.2.2.1 y9.2.1.1 y9.2.1.2.1 y10).2.2.1, (saveFallV y9.2.2.1 y9.2.2.2.1 y9.2.2.2.2.1 y9.2.2.2.2.2.1 y9.2.1.1 y9.2.1.2.1 y10).2.2.2.1, ()))))
 (.ret (.again ((y9.1.1, (IntKind.i64.wrap (y9.1.2.1 + (1 : Int))), ()), ((y9.2.1.1, y9.2.1.2.1, ()), y9.2.2.1, y9.2.2.2.1, y9.2.2.2.2.1, y9.2.2.2.2.2.1, ())))))))
 (.get (atV y9.1.1 (IntKind.i64.wrap (y9.1.2.1 + (2 : Int)))) fun y14 =>
 .ite ((3 : Int) == 0)
 .fail
 (.ite (((Int.tmod y14 (3 : Int)) == (0 : Int)))
 (.ret (.again ((y9.1.1, (IntKind.i64.wrap (y9.1.2.1 + (1 : Int))), ()), (((saveFallV y9.2.2.1 y9.2.2.2.1 y9.2.2.2.2.1 y9.2.2.2.2.2.1 y9.2.1.1 y9.2.1.2.1 y10).2.2.2.2.1, (saveFallV y9.2.2.1 y9.2.2.2.1 y9.2.2.2.2.1 y9.2.2.2.2.2.1 y9.2.1.1 y9.2.1.2.1 y10).2.2.2.2.2.1, ()), (saveFallV y9.2.2.1 y9.2.2.2.1 y9.2.2.2.2.1 y9.2.2.2.2.2.1 y9.2.1.1 y9.2.1.2.1 y10).1, (saveFallV y9.2.2.1 y9.2.2.2.1 y9.2.2.2.2.1 y9.2.2.2.2.2.1 y9.2.1.1 y9.2.1.2.1 y10).2.1, (saveFallV y9.2.2.1 y9.2.2.2.1 y9.2.2.2.2.1 y9.2.2.2.2.2.1 y9.2.1.1 y9.2.1.2.1 y10).2.2.1, (saveFallV y9.2.2.1 y9.2.2.2.1 y9.2.2.2.2.1 y9.2.2.2.2.2.1 y9.2.1.1 y9.2.1.2.1 y10).2.2.2.1, ()))))
 (.ret (.again ((y9.1.1, (IntKind.i64.wrap (y9.1.2.1 + (1 : Int))), ()), ((y9.2.1.1, y9.2.1.2.1, ()), y9.2.2.1, y9.2.2.2.1, y9.2.2.2.2.1, y9.2.2.2.2.2.1, ()))))))))
 (.ret (.ret ((false, ()), ()))))
 (.ret (.ret ((false, ()), ()))))))
 (.ret (.out ((), ())))
def f20_tree (a0 : List Int) : Out (((Bool × Unit) × Unit) × (Unit × Unit)) :=
 .ite (bigV a0)
 (.ret (((true, ()), ()), ((), ())))
 (.get (iter f20_L0 FUEL ((a0, (0 : Int), ()), ((newSaverV.2.2.2.2.1, newSaverV.2.2.2.2.2, ()), newSaverV.1, newSaverV.2.1, newSaverV.2.2.1, newSaverV.2.2.2.1, ()))) fun y1 => .alt y1 (fun y2 =>
 .ret (((true, ()), ()), ((), ()))) (fun y3 =>
 .ret (((y3.1.1, ()), ()), ((), ()))))
def f20_A : Nat → Option LoopAnn := fun n => annOf [(0, { head := { t := [.ro (.int .u8) (some 0), .dead, .dead, .vptr 64000000 0, .i .i64, .dead, .dead, .dead, .dead, .dead, .dead, .dead, .dead, .dead, .dead, .dead, .dead, .dead, .dead, .dead, .dead, .dead, .dead, .dead, .dead, .dead, .dead, .dead, .dead, .dead, .dead, .dead, .dead, .dead, .dead, .dead, .dead, .dead, .dead, .dead, .dead, .dead, .dead, .dead, .dead, .dead, .dead, .dead, .dead, .dead, .dead, .dead, .dead, .dead, .dead, .dead, .dead, .dead, .dead, .dead, .dead, .dead, .dead, .dead, .dead, .dead, .dead, .dead, .dead, .dead, .dead, .dead, .dead, .dead, .dead, .dead, .dead, .dead, .dead, .dead, .dead, .dead, .dead, .dead, .dead, .dead, .dead, .dead, .dead, .dead, .dead, .dead, .dead, .dead, .dead, .dead, .dead, .dead, .dead, .dead, .dead, .dead, .dead, .dead, .dead], v := [(64000000, .var [.srf 64000001, .srf 64000002, .srf 64000003, .srf 64000004, .i .i64, .i .i64]), (64000001, .arr .str), (64000002, .arr (.st (.cons (.int .i64) (.cons .str .nil)))), (64000003, .arr (.st (.cons (.int .i64) (.cons (.sl (.int .i64)) .nil)))), (64000004, .arr (.st (.cons (.int .i64) (.cons (.sl (.int .i64)) .nil))))] }, out := { t := [.dead, .dead, .dead, .dead, .dead, .dead, .dead, .dead, .dead, .dead, .dead, .dead, .dead, .dead, .dead, .dead, .dead, .dead, .dead, .dead, .dead, .dead, .dead, .dead, .dead, .dead, .dead, .dead, .dead, .dead, .dead, .dead, .dead, .dead, .dead, .dead, .dead, .dead, .dead, .dead, .dead, .dead, .dead, .dead, .dead, .dead, .dead, .dead, .dead, .dead, .dead, .dead, .dead, .dead, .dead, .dead, .dead, .dead, .dead, .dead, .dead, .dead, .dead, .dead, .dead, .dead, .dead, .dead, .dead, .dead, .dead, .dead, .dead, .dead, .dead, .dead, .dead, .dead, .dead, .dead, .dead, .dead, .dead, .dead, .dead, .dead, .dead, .dead, .dead, .dead, .dead, .dead, .dead, .dead, .dead, .dead, .dead, .dead, .dead, .dead, .dead, .dead, .dead, .dead, .dead], v := [] }, ret := some { t := [.dead, .dead, .b, .dead, .dead, .dead, .dead, .dead, .dead, .dead, .dead, .dead, .dead, .dead, .dead, .dead, .dead, .dead, .dead, .dead, .dead, .dead, .dead, .dead, .dead, .dead, .dead, .dead, .dead, .dead, .dead, .dead, .dead, .dead, .dead, .dead, .dead, .dead, .dead, .dead, .dead, .dead, .dead, .dead, .dead, .dead, .dead, .dead, .dead, .dead, .dead, .dead, .dead, .dead, .dead, .dead, .dead, .dead, .dead, .dead, .dead, .dead, .dead, .dead, .dead, .dead, .dead, .dead, .dead, .dead, .dead, .dead, .dead, .dead, .dead, .dead, .dead, .dead, .dead, .dead, .dead, .dead, .dead, .dead, .dead, .dead, .dead, .dead, .dead, .dead, .dead, .dead, .dead, .dead, .dead, .dead, .dead, .dead, .dead, .dead, .dead, .dead, .dead, .dead, .dead], v := [] } }), (2, { head := { t := [.ro (.int .u8) (some 0), .dead, .dead, .vptr 64002048 0, .i .i64, .dead, .dead, .dead, .i .i64, .dead, .dead, .dead, .dead, .dead, .dead, .dead, .dead, .dead, .dead, .dead, .dead, .dead, .dead, .dead, .dead, .dead, .dead, .dead, .dead, .dead, .dead, .dead, .dead, .dead, .dead, .dead, .dead, .dead, .dead, .dead, .dead, .dead, .dead, .dead, .dead, .dead, .dead, .dead, .dead, .dead, .dead, .dead, .dead, .dead, .dead, .dead, .dead, .dead, .dead, .dead, .dead, .dead, .dead, .dead, .dead, .dead, .dead, .dead, .dead, .dead, .dead, .dead, .dead, .dead, .dead, .dead, .dead, .dead, .dead, .dead, .dead, .dead, .dead, .dead, .dead, .dead, .dead, .dead, .dead, .dead, .dead, .dead, .dead, .dead, .dead, .dead, .dead, .dead, .dead, .dead, .dead, .dead, .dead, .dead, .dead], v := [(64002048, .var [.srf 64002049, .srf 64002050, .srf 64002051, .srf 64002052, .i .i64, .i .i64]), (64002049, .arr .str), (64002050, .arr (.st (.cons (.int .i64) (.cons .str .nil)))), (64002051, .arr (.st (.cons (.int .i64) (.cons (.sl (.int .i64)) .nil)))), (64002052, .arr (.st (.cons (.int .i64) (.cons (.sl (.int .i64)) .nil))))] }, out := { t := [.ro (.int .u8) (some 0), .dead, .dead, .vptr 64002304 0, .i .i64, .dead, .dead, .dead, .dead, .dead, .dead, .dead, .dead, .dead, .dead, .dead, .dead, .dead, .dead, .dead, .dead, .dead, .dead, .dead, .dead, .dead, .dead, .dead, .dead, .dead, .dead, .dead, .dead, .dead, .dead, .dead, .dead, .dead, .dead, .dead, .dead, .dead, .dead, .dead, .dead, .dead, .dead, .dead, .dead, .dead, .dead, .dead, .dead, .dead, .dead, .dead, .dead, .dead, .dead, .dead, .dead, .dead, .dead, .dead, .dead, .dead, .dead, .dead, .dead, .dead, .dead, .dead, .dead, .dead, .dead, .dead, .dead, .dead, .dead, .dead, .dead, .dead, .dead, .dead, .dead, .dead, .dead, .dead, .dead, .dead, .dead, .dead, .dead, .dead, .dead, .dead, .dead, .dead, .dead, .dead, .dead, .dead, .dead, .dead, .dead], v := [(64002304, .var [.srf 64002305, .srf 64002306, .srf 64002307, .srf 64002308, .i .i64, .i .i64]), (64002305, .arr .str), (64002306, .arr (.st (.cons (.int .i64) (.cons .str .nil)))), (64002307, .arr (.st (.cons (.int .i64) (.cons (.sl (.int .i64)) .nil)))), (64002308, .arr (.st (.cons (.int .i64) (.cons (.sl (.int .i64)) .nil))))] }, ret := none })] n
def true1c (_ : List Int) : Bool := true
def k20 : Con := { f := 20, lend := true, its := [⟨false, false, [.ro (.int .u8)]⟩], lay := [none], rs := [⟨false, false, [.b]⟩], F := fun x => .ret ((((true1c x.1.1), ()), ()), ((), ())) }
theorem f20_eq (x : itemsD k20.its) : bodyOut (cxOf [k45, k50, k105, k93, k106, k92, k107, k78, k108, k94]) (f20_A) (codeOf Try.f20) k20.its k20.lay Try.f20.ntmps k20.rs [.tmp 2] x = f20_tree x.1.1 := by kernel_rfl
theorem f20_ok (hr : ∀ x : (List Int × Unit) × Unit, itemsWF k20.its x → (f20_tree x.1.1).eval = (k20.F x).eval) : k20.Ok Try.prog :=
  con_fn [k45, k50, k105, k93, k106, k92, k107, k78, k108, k94] ⟨k45_ok, k50_ok, k105_ok, k93_ok, k106_ok, k92_ok, k107_ok, k78_ok, k108_ok, k94_ok, trivial⟩ (by kernel_rfl) (codeOf_eq (by kernel_rfl)) (by kernel_rfl) (by kernel_rfl) (by kernel_rfl) f20_eq fun x hw _ hy => (hr x hw).trans hy
theorem steps_tot {c : List Int} {i : Int} (hi : 0 ≤ i) (s : (Int × Int × Unit) × List Str × List WriteD × List FileD × List FileD × Unit) (h1 : saverOkV s.2.1 s.2.2.1 s.2.2.2.1 s.2.2.2.2.1 s.1.1 s.1.2.1 = true) (h2 : Stage s.2.1 s.2.2.1 s.2.2.2.1 s.2.2.2.2.1 s.1.1 s.1.2.1) :
    TotV (iter1 f20_L2 FUEL ((c, i, (0 : Int), ()), s)) fun z => (z.1.1 = c ∧ z.1.2.1 = i) ∧ saverOkV z.2.2.1 z.2.2.2.1 z.2.2.2.2.1 z.2.2.2.2.2.1 z.2.1.1 z.2.1.2.1 = true ∧ Stage z.2.2.1 z.2.2.2.1 z.2.2.2.2.1 z.2.2.2.2.2.1 z.2.1.1 z.2.1.2.1 := by
  refine tot_iter1 (fun x => (x.1.1 = c ∧ x.1.2.1 = i) ∧ (0 ≤ x.1.2.2.1 ∧ x.1.2.2.1 ≤ 6) ∧ saverOkV x.2.2.1 x.2.2.2.1 x.2.2.2.2.1 x.2.2.2.2.2.1 x.2.1.1 x.2.1.2.1 = true ∧ Stage x.2.2.1 x.2.2.2.1 x.2.2.2.2.1 x.2.2.2.2.2.1 x.2.1.1 x.2.1.2.1) (fun x => 6 - x.1.2.2.1.toNat) _ (fun x hx => ?_) _ _ ⟨⟨rfl, rfl⟩, by simp, h1, h2⟩ (by simp; decide)
  obtain ⟨⟨c', i', k, _⟩, ⟨q, p, _⟩, a, b, cc, d, _⟩ := x
  obtain ⟨⟨z1, z2⟩, ⟨k0, k6⟩, z3, z4⟩ := hx
  simp only at z1 z2 k0 k6 z3 z4
  subst z1; subst z2
  unfold f20_L2
  refine tot_get (at_some c' hi) fun v _ => tot_f rfl (tot_ite (fun g => ?_) fun _ => tot_ret ⟨⟨rfl, rfl⟩, z3, z4⟩)
  have g : k < Int.tmod v 6 := of_decide_eq_true g
  have hk : k < 6 := by
    have := Int.tmod_lt_of_pos v (show (0 : Int) < 6 by decide)
    omega
  have w : IntKind.i64.wrap (k + 1) = k + 1 := wrap_id (by omega) (by omega)
  refine tot_ite (fun g2 => tot_ret ⟨⟨⟨rfl, rfl⟩, ⟨by simp only [w]; omega, by simp only [w]; omega⟩, step_ok z3, step_stage z3 z4 g2⟩, by simp only [w]; omega⟩) fun _ => tot_ret ⟨⟨⟨rfl, rfl⟩, ⟨by simp only [w]; omega, by simp only [w]; omega⟩, z3, z4⟩, by simp only [w]; omega⟩
theorem k20_ok : k20.Ok Try.prog := by
  refine f20_ok fun x hw => ?_
  obtain ⟨⟨c, _⟩, _⟩ := x
  have hc : c.length ≤ BIG := hw.1.1.1
  show (f20_tree c).eval = some (((true, ()), ()), ((), ()))
  unfold f20_tree
  by_cases hb : bigV c = true
  · rw [eval_ite_t hb]; rfl
  rw [eval_ite_f (by simpa using hb)]
  obtain ⟨y, e, _⟩ := tot_iter (f := f20_L0) (fun x => x.1.1.length ≤ BIG ∧ 0 ≤ x.1.2.1 ∧ x.1.2.1 ≤ 12 ∧ saverOkV x.2.2.1 x.2.2.2.1 x.2.2.2.2.1 x.2.2.2.2.2.1 x.2.1.1 x.2.1.2.1 = true ∧ Stage x.2.2.1 x.2.2.2.1 x.2.2.2.2.1 x.2.2.2.2.2.1 x.2.1.1 x.2.1.2.1) (fun x => 12 - x.1.2.1.toNat) (fun _ => True) (fun x hx => by
    obtain ⟨⟨c', i', _⟩, ⟨q, p, _⟩, a, b, cc, d, _⟩ := x
    obtain ⟨hc, i0, i12, x3, x4⟩ := hx
    simp only at hc i0 i12 x3 x4
    unfold f20_L0
    refine tot_ite (fun g => ?_) fun _ => tot_ret trivial
    have g : i' < 12 := of_decide_eq_true g
    have w1 : IntKind.i64.wrap (i' + 1) = i' + 1 := wrap_id (by omega) (by omega)
    have w2 : IntKind.i64.wrap (i' + 2) = i' + 2 := wrap_id (by omega) (by omega)
    refine tot_get fresh_tot fun u hu => tot_get (drawFiles_tot (by unfold BIG; omega)) fun v hv => tot_ite (fun gb => ?_) fun _ => ?_
    · have hB := begin_stage x3 x4 gb
      have hBo : saverOkV a b cc v.1.1.1 q 1 = true := by
        have := begin_ok (f := v.1.1.1) x3
        rw [hB.1] at this
        exact this
      simp only [hB.1]
      refine tot_get (steps_tot (c := c') (i := i') i0 ((q, 1, ()), a, b, cc, v.1.1.1, ()) hBo hB.2) fun z hz => ?_
      obtain ⟨⟨c', i', _⟩, ⟨q, p, _⟩, a, b, cc, d, _⟩ := z
      obtain ⟨⟨z1, z2⟩, z3, z4⟩ := hz
      simp only at z1 z2 z3 z4
      subst z1; subst z2
      refine tot_f (by simp only [z3]; rfl) (tot_get (at_some c' (by simp only [w1]; omega)) fun m _ => ?_)
      obtain ⟨a', f, s, hF, hS, hdis, h3⟩ := fall_stage (m := m) z3 z4
      have hok : saverOkV a' [] f [] s 0 = true := by
        have := fall_ok (m := m) z3
        rw [hF] at this
        exact this
      simp only [hF]
      have C : TotV (Out.eval (.get (atV c' (IntKind.i64.wrap (i' + 2))) fun y5 => .ite ((3 : Int) == 0) .fail (.ite ((Int.tmod y5 (3 : Int)) == (0 : Int))
          (.ret (.again ((c', (IntKind.i64.wrap (i' + (1 : Int))), ()), ((s, 0, ()), a', ([] : List WriteD), f, ([] : List FileD), ()))))
          (.ret (.again ((c', (IntKind.i64.wrap (i' + (1 : Int))), ()), ((q, p, ()), a, b, cc, d, ()))))) : Out (Round f20_S0 (Unit × Unit) ((Bool × Unit) × Unit)))) (RoundP (fun x' => (x'.1.1.length ≤ BIG ∧ 0 ≤ x'.1.2.1 ∧ x'.1.2.1 ≤ 12 ∧ saverOkV x'.2.2.1 x'.2.2.2.1 x'.2.2.2.2.1 x'.2.2.2.2.2.1 x'.2.1.1 x'.2.1.2.1 = true ∧ Stage x'.2.2.1 x'.2.2.2.1 x'.2.2.2.2.1 x'.2.2.2.2.2.1 x'.2.1.1 x'.2.1.2.1) ∧ 12 - x'.1.2.1.toNat < 12 - i'.toNat) (fun _ => True) (fun _ => False)) := by
        refine tot_get (at_some c' (by rw [w2]; omega)) fun _ _ => tot_f rfl (tot_ite (fun _ => tot_ret ⟨⟨hc, ?_, ?_, hok, hS⟩, ?_⟩) fun _ => tot_ret ⟨⟨hc, ?_, ?_, z3, z4⟩, ?_⟩) <;> (simp only [w1]; omega)
      refine tot_t rfl (tot_t rfl ?_)
      by_cases hfc : f = cc
      · have e : eqFilesV f cc = true := decide_eq_true hfc
        refine tot_f (by simp only [e]; rfl) (tot_ite (fun g => ?_) fun _ => C)
        have g : p ≥ 3 := of_decide_eq_true (by simpa using g)
        have e2 : eqFilesV f d = true := decide_eq_true (h3 g)
        exact tot_f (by simp only [e2]; rfl) C
      · have e : eqFilesV f cc = false := decide_eq_false hfc
        have hd : p ≠ 0 ∧ f = d := hdis.resolve_left hfc
        have e2 : eqFilesV f d = true := decide_eq_true hd.2
        have e3 : (p == (0 : Int)) = false := by simpa using hd.1
        refine tot_t (by simp only [e]; rfl) (tot_t (by simp only [e3]; rfl) (tot_f (by simp only [e2]; rfl) (tot_ite (fun g => ?_) fun _ => C)))
        exact tot_f (by simp only [e2]; rfl) C
    · refine tot_get (steps_tot (c := c') (i := i') i0 ((q, p, ()), a, b, cc, d, ()) x3 x4) fun z hz => ?_
      obtain ⟨⟨c', i', _⟩, ⟨q, p, _⟩, a, b, cc, d, _⟩ := z
      obtain ⟨⟨z1, z2⟩, z3, z4⟩ := hz
      simp only at z1 z2 z3 z4
      subst z1; subst z2
      refine tot_f (by simp only [z3]; rfl) (tot_get (at_some c' (by simp only [w1]; omega)) fun m _ => ?_)
      obtain ⟨a', f, s, hF, hS, hdis, h3⟩ := fall_stage (m := m) z3 z4
      have hok : saverOkV a' [] f [] s 0 = true := by
        have := fall_ok (m := m) z3
        rw [hF] at this
        exact this
      simp only [hF]
      have C : TotV (Out.eval (.get (atV c' (IntKind.i64.wrap (i' + 2))) fun y5 => .ite ((3 : Int) == 0) .fail (.ite ((Int.tmod y5 (3 : Int)) == (0 : Int))
          (.ret (.again ((c', (IntKind.i64.wrap (i' + (1 : Int))), ()), ((s, 0, ()), a', ([] : List WriteD), f, ([] : List FileD), ()))))
          (.ret (.again ((c', (IntKind.i64.wrap (i' + (1 : Int))), ()), ((q, p, ()), a, b, cc, d, ()))))) : Out (Round f20_S0 (Unit × Unit) ((Bool × Unit) × Unit)))) (RoundP (fun x' => (x'.1.1.length ≤ BIG ∧ 0 ≤ x'.1.2.1 ∧ x'.1.2.1 ≤ 12 ∧ saverOkV x'.2.2.1 x'.2.2.2.1 x'.2.2.2.2.1 x'.2.2.2.2.2.1 x'.2.1.1 x'.2.1.2.1 = true ∧ Stage x'.2.2.1 x'.2.2.2.1 x'.2.2.2.2.1 x'.2.2.2.2.2.1 x'.2.1.1 x'.2.1.2.1) ∧ 12 - x'.1.2.1.toNat < 12 - i'.toNat) (fun _ => True) (fun _ => False)) := by
        refine tot_get (at_some c' (by rw [w2]; omega)) fun _ _ => tot_f rfl (tot_ite (fun _ => tot_ret ⟨⟨hc, ?_, ?_, hok, hS⟩, ?_⟩) fun _ => tot_ret ⟨⟨hc, ?_, ?_, z3, z4⟩, ?_⟩) <;> (simp only [w1]; omega)
      refine tot_t rfl (tot_t rfl ?_)
      by_cases hfc : f = cc
      · have e : eqFilesV f cc = true := decide_eq_true hfc
        refine tot_f (by simp only [e]; rfl) (tot_ite (fun g => ?_) fun _ => C)
        have g : p ≥ 3 := of_decide_eq_true (by simpa using g)
        have e2 : eqFilesV f d = true := decide_eq_true (h3 g)
        exact tot_f (by simp only [e2]; rfl) C
      · have e : eqFilesV f cc = false := decide_eq_false hfc
        have hd : p ≠ 0 ∧ f = d := hdis.resolve_left hfc
        have e2 : eqFilesV f d = true := decide_eq_true hd.2
        have e3 : (p == (0 : Int)) = false := by simpa using hd.1
        refine tot_t (by simp only [e]; rfl) (tot_t (by simp only [e3]; rfl) (tot_f (by simp only [e2]; rfl) (tot_ite (fun g => ?_) fun _ => C)))
        exact tot_f (by simp only [e2]; rfl) C
    ) FUEL ((c, (0 : Int), ()), ((newSaverV.2.2.2.2.1, newSaverV.2.2.2.2.2, ()), newSaverV.1, newSaverV.2.1, newSaverV.2.2.1, newSaverV.2.2.2.1, ())) ⟨hc, Int.le_refl _, (show (0 : Int) ≤ 12 by decide), new_ok, new_stage⟩ (show 12 - Int.toNat 0 < FUEL by decide)
  refine (eval_get_some e).trans rfl

theorem f20_own : ownKnob Try.prog.godebug = none := by kernel_rfl
set_option maxRecDepth 100000 in
theorem f20_contract (H : Type) (enc : TypeId × Value → H) (W : World) (base : Nat) (args : Array Value) (ds gs : List (DataW H)) (before : List MemPlace)
    (hval : ∀ (j : Nat) t v, Try.f20.params[j]? = some t → args[j]? = some v → Value.okWide Try.prog W .any base t v)
    (hW : DataW.Whole enc Try.prog Try.f20.params.toList Rows.fnSaveSpec.vars false W args.toList ds gs before) :
    Calls Try.prog 20 args W fun e W' => ∃ v, e = .returned v ∧ Rows.fnSaveSpec.post enc Try.prog Try.f20 false true false false W args v W' := by
  have hW' := hW
  obtain ⟨p, q, hA0, hV, rfl, _, _⟩ := hW
  have hA : DataW.TrodAll enc Try.prog W 0 (fun _ => true) true [58] args.toList ds p := hA0
  have hlt := hW'.lt
  obtain ⟨rfl, rfl⟩ := trodVars_none hV
  simp only [List.append_nil] at hW' hlt
  have hlen : ds.length = 1 := (trodAll_length hA).2
  obtain ⟨d0, e0⟩ := List.length_eq_one_iff.1 hlen
  subst e0
  have hu : Try.prog.underlying 4 = some .bool := by kernel_rfl
  refine (law_calls (ts := [(.sl (.int .u8))]) (tids := [58]) (f := 20) (lend := k20.lend) (F := k20.F) k20_ok (parsB_ok (by kernel_rfl)) (fun x hw => ?_) (b0 := base) (fun j t v ht hv => hval j t v ?_ hv) hA).mono fun e W' ⟨he, hg, hs⟩ => ?_
  · exact ⟨_, rfl⟩
  · rw [← ht, Try.params20]; first | rfl | simp
  · subst he
    exact ⟨_, rfl, post_of_same (pa := p) (pv := []) hW' (fun _ _ _ => trodAll_mk1 (shut_bool hu true)) (fun sp hsp => trodAll_stays (by kernel_rfl) hs (by kernel_rfl) hA hlt hsp) (fun _ _ => rfl) (by simp) (hg.frame _) hg.2.1 (ok_one (by kernel_rfl) rfl (okWide_bool_mk hu true))⟩
set_option maxRecDepth 100000 in
theorem f20_lifted (os : Os) (started : os.Started) (H : Type) (enc : TypeId × Value → H) :
    ReturnsInHanded {} Try.checked os 20 .any (Rows.fnSaveSpec.pre6 enc Try.prog Try.f20 Rows.fnSaveRow.domain false) (Rows.fnSaveSpec.post enc Try.prog Try.f20 false true false false) := by
  refine returnsInHanded_of_change (C := Try.checked) f20_own started (by kernel_rfl) Try.func20
    (ChangeSpec.witness6 (enc := enc) (C := Try.checked) false ⟨#[], #[.slice none 0 0], []⟩ 8 (by kernel_rfl) (by kernel_rfl) (by kernel_rfl) (by kernel_rfl)) ?_
  intro W base args ds gs before hval hW _ _
  exact f20_contract H enc W base args ds gs before hval hW
theorem f20_closed : joinedFacts Try.prog 20 Try.f20 Rows.fnSaveSpec Rows.fnSaveRow = true := by
  unfold joinedFacts
  rw [mayEnter_ok, lifts_ok, make_ok]
  kernel_rfl
theorem f20_said : Rows.FnSaveSaid :=
  OpenClaim.holds_of_wide 20 Try.f20 rfl rfl rfl rfl rfl rfl rfl ⟨rfl, rfl, rfl, rfl, rfl⟩ rfl rfl rfl rfl rfl (by kernel_rfl) Try.func20 f20_closed
    (of_decide_eq_true (by kernel_rfl)) (by unfold Func.isWrapper; first | (rw [if_pos (by decide +kernel)]; kernel_rfl) | (rw [if_neg (by decide +kernel)]; exact ⟨rfl, rfl⟩))
    (fun os started H enc _ => f20_lifted os started H enc)
end Go.Proofs.Ytjcinikojcfebaa.Dm
namespace Go.Proofs.Ytjcinikojcfebaa
theorem fnSave_said : Rows.FnSaveSaid := Dm.f20_said
end Go.Proofs.Ytjcinikojcfebaa
namespace Go.Proofs.Ytjcinikojcfebaa.Dm


end Go.Proofs.Ytjcinikojcfebaa.Dm
