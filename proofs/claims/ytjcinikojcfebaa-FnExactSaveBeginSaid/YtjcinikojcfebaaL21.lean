/- Functions of the program, and what they compute. -/
import Derived.Test.YtjcinikojcfebaaA15
import Derived.Test.YtjcinikojcfebaaFacts
import Derived.Test.YtjcinikojcfebaaRows
import Derived.ChangeCalls
namespace Go.Proofs.Ytjcinikojcfebaa.Dm
open Go Go.ChangeShapes Go.WideShapes Go.ChangeAt Go.RowKit

def f21_tree (a0 : List (List UInt8)) (a1 : List (Int × List UInt8 × Unit)) (a2 : List (Int × List Int × Unit)) (a3 : List (Int × List Int × Unit)) (a4 : Int) (a5 : Int) (a6 : List (Int × List Int × Unit)) : Out (((Bool × Unit) × Unit) × (Unit × Unit × Unit)) :=
 .ite (decide ((szSaverV a0 a1 a2 a3 a4 a5 (1048576 : Int)) < (0 : Int)))
 (.ret (((true, ()), ()), ((), (), ())))
 (.ite (decide ((szFilesV a6 (szSaverV a0 a1 a2 a3 a4 a5 (1048576 : Int))) < (0 : Int)))
 (.ret (((true, ()), ()), ((), (), ())))
 (.get (toSaverV a0 a1 a2 a3 a4 a5) fun y1 =>
 .get (toFilesV a6) fun y2 =>
 .get (toSaverV a0 a1 a2 a3 a4 a5) fun y3 =>
 .get (toFilesV a6) fun y4 =>
 .ite ((!(eqSaverV (saveBeginV y3.1 y3.2.1 y3.2.2.1 y3.2.2.2.1 y3.2.2.2.2.1 y3.2.2.2.2.2 y4).1 (saveBeginV y3.1 y3.2.1 y3.2.2.1 y3.2.2.2.1 y3.2.2.2.2.1 y3.2.2.2.2.2 y4).2.1 (saveBeginV y3.1 y3.2.1 y3.2.2.1 y3.2.2.2.1 y3.2.2.2.2.1 y3.2.2.2.2.2 y4).2.2.1 (saveBeginV y3.1 y3.2.1 y3.2.2.1 y3.2.2.2.1 y3.2.2.2.2.1 y3.2.2.2.2.2 y4).2.2.2.1 (saveBeginV y3.1 y3.2.1 y3.2.2.1 y3.2.2.2.1 y3.2.2.2.2.1 y3.2.2.2.2.2 y4).2.2.2.2.1 (saveBeginV y3.1 y3.2.1 y3.2.2.1 y3.2.2.2.1 y3.2.2.2.2.1 y3.2.2.2.2.2 y4).2.2.2.2.2.1 (saveBeginV y1.1 y1.2.1 y1.2.2.1 y1.2.2.2.1 y1.2.2.2.2.1 y1.2.2.2.2.2 y2).1 (saveBeginV y1.1 y1.2.1 y1.2.2.1 y1.2.2.2.1 y1.2.2.2.2.1 y1.2.2.2.2.2 y2).2.1 (saveBeginV y1.1 y1.2.1 y1.2.2.1 y1.2.2.2.1 y1.2.2.2.2.1 y1.2.2.2.2.2 y2).2.2.1 (saveBeginV y1.1 y1.2.1 y1.2.2.1 y1.2.2.2.1 y1.2.2.2.2.1 y1.2.2.2.2.2 y2).2.2.2.1 (saveBeginV y1.1 y1.2.1 y1.2.2.1 y1.2.2.2.1 y1.2.2.2.2.1 y1.2.2.2.2.2 y2).2.2.2.2.1 (saveBeginV y1.1 y1.2.1 y1.2.2.1 y1.2.2.2.1 y1.2.2.2.2.1 y1.2.2.2.2.2 y2).2.2.2.2.2.1)) == false)
 (.ite (!((saveBeginV y3.1 y3.2.1 y3.2.2.1 y3.2.2.2.1 y3.2.2.2.2.1 y3.2.2.2.2.2 y4).2.2.2.2.2.2 == (saveBeginV y1.1 y1.2.1 y1.2.2.1 y1.2.2.2.1 y1.2.2.2.2.1 y1.2.2.2.2.2 y2).2.2.2.2.2.2))
 (.ret (((false, ()), ()), ((), (), ())))
 (.get (toSaverV a0 a1 a2 a3 a4 a5) fun y5 =>
 .ite (!(eqSaverV y3.1 y3.2.1 y3.2.2.1 y3.2.2.2.1 y3.2.2.2.2.1 y3.2.2.2.2.2 y5.1 y5.2.1 y5.2.2.1 y5.2.2.2.1 y5.2.2.2.2.1 y5.2.2.2.2.2))
 (.ret (((false, ()), ()), ((), (), ())))
 (.get (toFilesV a6) fun y6 =>
 .ite (!(eqFilesV y4 y6))
 (.ret (((false, ()), ()), ((), (), ())))
 (.ite ((decide ((markFileSV y4 (markSaverV y3.1 y3.2.1 y3.2.2.1 y3.2.2.2.1 y3.2.2.2.2.1 y3.2.2.2.2.2 (1 : Int)).1).1 < (0 : Int))) == false)
 (.ite ((!(eqSaverV (saveBeginV y3.1 y3.2.1 y3.2.2.1 y3.2.2.2.1 y3.2.2.2.2.1 y3.2.2.2.2.2 y4).1 (saveBeginV y3.1 y3.2.1 y3.2.2.1 y3.2.2.2.1 y3.2.2.2.2.1 y3.2.2.2.2.2 y4).2.1 (saveBeginV y3.1 y3.2.1 y3.2.2.1 y3.2.2.2.1 y3.2.2.2.2.1 y3.2.2.2.2.2 y4).2.2.1 (saveBeginV y3.1 y3.2.1 y3.2.2.1 y3.2.2.2.1 y3.2.2.2.2.1 y3.2.2.2.2.2 y4).2.2.2.1 (saveBeginV y3.1 y3.2.1 y3.2.2.1 y3.2.2.2.1 y3.2.2.2.2.1 y3.2.2.2.2.2 y4).2.2.2.2.1 (saveBeginV y3.1 y3.2.1 y3.2.2.1 y3.2.2.2.1 y3.2.2.2.2.1 y3.2.2.2.2.2 y4).2.2.2.2.2.1 (saveBeginV y1.1 y1.2.1 y1.2.2.1 y1.2.2.2.1 y1.2.2.2.2.1 y1.2.2.2.2.2 y2).1 (saveBeginV y1.1 y1.2.1 y1.2.2.1 y1.2.2.2.1 y1.2.2.2.2.1 y1.2.2.2.2.2 y2).2.1 (saveBeginV y1.1 y1.2.1 y1.2.2.1 y1.2.2.2.1 y1.2.2.2.2.1 y1.2.2.2.2.2 y2).2.2.1 (saveBeginV y1.1 y1.2.1 y1.2.2.1 y1.2.2.2.1 y1.2.2.2.2.1 y1.2.2.2.2.2 y2).2.2.2.1 (saveBeginV y1.1 y1.2.1 y1.2.2.1 y1.2.2.2.1 y1.2.2.2.2.1 y1.2.2.2.2.2 y2).2.2.2.2.1 (saveBeginV y1.1 y1.2.1 y1.2.2.1 y1.2.2.2.1 y1.2.2.2.2.1 y1.2.2.2.2.2 y2).2.2.2.2.2.1)) == false)
 (.ite (!((saveBeginV y3.1 y3.2.1 y3.2.2.1 y3.2.2.2.1 y3.2.2.2.2.1 y3.2.2.2.2.2 y4).2.2.2.2.2.2 == (saveBeginV y1.1 y1.2.1 y1.2.2.1 y1.2.2.2.1 y1.2.2.2.2.1 y1.2.2.2.2.2 y2).2.2.2.2.2.2))
 (.ret (((false, ()), ()), ((), (), ())))
 (.ite (decide ((heldSaverV (markSaverV (saveBeginV y3.1 y3.2.1 y3.2.2.1 y3.2.2.2.1 y3.2.2.2.2.1 y3.2.2.2.2.2 y4).1 (saveBeginV y3.1 y3.2.1 y3.2.2.1 y3.2.2.2.1 y3.2.2.2.2.1 y3.2.2.2.2.2 y4).2.1 (saveBeginV y3.1 y3.2.1 y3.2.2.1 y3.2.2.2.1 y3.2.2.2.2.1 y3.2.2.2.2.2 y4).2.2.1 (saveBeginV y3.1 y3.2.1 y3.2.2.1 y3.2.2.2.1 y3.2.2.2.2.1 y3.2.2.2.2.2 y4).2.2.2.1 (saveBeginV y3.1 y3.2.1 y3.2.2.1 y3.2.2.2.1 y3.2.2.2.2.1 y3.2.2.2.2.2 y4).2.2.2.2.1 (saveBeginV y3.1 y3.2.1 y3.2.2.1 y3.2.2.2.1 y3.2.2.2.2.1 y3.2.2.2.2.2 y4).2.2.2.2.2.1 (1 : Int)).2.1 (markSaverV (saveBeginV y3.1 y3.2.1 y3.2.2.1 y3.2.2.2.1 y3.2.2.2.2.1 y3.2.2.2.2.2 y4).1 (saveBeginV y3.1 y3.2.1 y3.2.2.1 y3.2.2.2.1 y3.2.2.2.2.1 y3.2.2.2.2.2 y4).2.1 (saveBeginV y3.1 y3.2.1 y3.2.2.1 y3.2.2.2.1 y3.2.2.2.2.1 y3.2.2.2.2.2 y4).2.2.1 (saveBeginV y3.1 y3.2.1 y3.2.2.1 y3.2.2.2.1 y3.2.2.2.2.1 y3.2.2.2.2.2 y4).2.2.2.1 (saveBeginV y3.1 y3.2.1 y3.2.2.1 y3.2.2.2.1 y3.2.2.2.2.1 y3.2.2.2.2.2 y4).2.2.2.2.1 (saveBeginV y3.1 y3.2.1 y3.2.2.1 y3.2.2.2.1 y3.2.2.2.2.1 y3.2.2.2.2.2 y4).2.2.2.2.2.1 (1 : Int)).2.2.1 (markSaverV (saveBeginV y3.1 y3.2.1 y3.2.2.1 y3.2.2.2.1 y3.2.2.2.2.1 y3.2.2.2.2.2 y4).1 (saveBeginV y3.1 y3.2.1 y3.2.2.1 y3.2.2.2.1 y3.2.2.2.2.1 y3.2.2.2.2.2 y4).2.1 (saveBeginV y3.1 y3.2.1 y3.2.2.1 y3.2.2.2.1 y3.2.2.2.2.1 y3.2.2.2.2.2 y4).2.2.1 (saveBeginV y3.1 y3.2.1 y3.2.2.1 y3.2.2.2.1 y3.2.2.2.2.1 y3.2.2.2.2.2 y4).2.2.2.1 (saveBeginV y3.1 y3.2.1 y3.2.2.1 y3.2.2.2.1 y3.2.2.2.2.1 y3.2.2.2.2.2 y4).2.2.2.2.1 (saveBeginV y3.1 y3.2.1 y3.2.2.1 y3.2.2.2.1 y3.2.2.2.2.1 y3.2.2.2.2.2 y4).2.2.2.2.2.1 (1 : Int)).2.2.2.1 (markSaverV (saveBeginV y3.1 y3.2.1 y3.2.2.1 y3.2.2.2.1 y3.2.2.2.2.1 y3.2.2.2.2.2 y4).1 (saveBeginV y3.1 y3.2.1 y3.2.2.1 y3.2.2.2.1 y3.2.2.2.2.1 y3.2.2.2.2.2 y4).2.1 (saveBeginV y3.1 y3.2.1 y3.2.2.1 y3.2.2.2.1 y3.2.2.2.2.1 y3.2.2.2.2.2 y4).2.2.1 (saveBeginV y3.1 y3.2.1 y3.2.2.1 y3.2.2.2.1 y3.2.2.2.2.1 y3.2.2.2.2.2 y4).2.2.2.1 (saveBeginV y3.1 y3.2.1 y3.2.2.1 y3.2.2.2.1 y3.2.2.2.2.1 y3.2.2.2.2.2 y4).2.2.2.2.1 (saveBeginV y3.1 y3.2.1 y3.2.2.1 y3.2.2.2.1 y3.2.2.2.2.1 y3.2.2.2.2.2 y4).2.2.2.2.2.1 (1 : Int)).2.2.2.2 (saveBeginV y3.1 y3.2.1 y3.2.2.1 y3.2.2.2.1 y3.2.2.2.2.1 y3.2.2.2.2.2 y4).2.2.2.2.1 (saveBeginV y3.1 y3.2.1 y3.2.2.1 y3.2.2.2.1 y3.2.2.2.2.1 y3.2.2.2.2.2 y4).2.2.2.2.2.1 (1 : Int)) < (0 : Int)))
 (.ret (((false, ()), ()), ((), (), ())))
 (.ite (((heldSaverV (markSaverV (saveBeginV y3.1 y3.2.1 y3.2.2.1 y3.2.2.2.1 y3.2.2.2.2.1 y3.2.2.2.2.2 y4).1 (saveBeginV y3.1 y3.2.1 y3.2.2.1 y3.2.2.2.1 y3.2.2.2.2.1 y3.2.2.2.2.2 y4).2.1 (saveBeginV y3.1 y3.2.1 y3.2.2.1 y3.2.2.2.1 y3.2.2.2.2.1 y3.2.2.2.2.2 y4).2.2.1 (saveBeginV y3.1 y3.2.1 y3.2.2.1 y3.2.2.2.1 y3.2.2.2.2.1 y3.2.2.2.2.2 y4).2.2.2.1 (saveBeginV y3.1 y3.2.1 y3.2.2.1 y3.2.2.2.1 y3.2.2.2.2.1 y3.2.2.2.2.2 y4).2.2.2.2.1 (saveBeginV y3.1 y3.2.1 y3.2.2.1 y3.2.2.2.1 y3.2.2.2.2.1 y3.2.2.2.2.2 y4).2.2.2.2.2.1 (1 : Int)).2.1 (markSaverV (saveBeginV y3.1 y3.2.1 y3.2.2.1 y3.2.2.2.1 y3.2.2.2.2.1 y3.2.2.2.2.2 y4).1 (saveBeginV y3.1 y3.2.1 y3.2.2.1 y3.2.2.2.1 y3.2.2.2.2.1 y3.2.2.2.2.2 y4).2.1 (saveBeginV y3.1 y3.2.1 y3.2.2.1 y3.2.2.2.1 y3.2.2.2.2.1 y3.2.2.2.2.2 y4).2.2.1 (saveBeginV y3.1 y3.2.1 y3.2.2.1 y3.2.2.2.1 y3.2.2.2.2.1 y3.2.2.2.2.2 y4).2.2.2.1 (saveBeginV y3.1 y3.2.1 y3.2.2.1 y3.2.2.2.1 y3.2.2.2.2.1 y3.2.2.2.2.2 y4).2.2.2.2.1 (saveBeginV y3.1 y3.2.1 y3.2.2.1 y3.2.2.2.1 y3.2.2.2.2.1 y3.2.2.2.2.2 y4).2.2.2.2.2.1 (1 : Int)).2.2.1 (markSaverV (saveBeginV y3.1 y3.2.1 y3.2.2.1 y3.2.2.2.1 y3.2.2.2.2.1 y3.2.2.2.2.2 y4).1 (saveBeginV y3.1 y3.2.1 y3.2.2.1 y3.2.2.2.1 y3.2.2.2.2.1 y3.2.2.2.2.2 y4).2.1 (saveBeginV y3.1 y3.2.1 y3.2.2.1 y3.2.2.2.1 y3.2.2.2.2.1 y3.2.2.2.2.2 y4).2.2.1 (saveBeginV y3.1 y3.2.1 y3.2.2.1 y3.2.2.2.1 y3.2.2.2.2.1 y3.2.2.2.2.2 y4).2.2.2.1 (saveBeginV y3.1 y3.2.1 y3.2.2.1 y3.2.2.2.1 y3.2.2.2.2.1 y3.2.2.2.2.2 y4).2.2.2.2.1 (saveBeginV y3.1 y3.2.1 y3.2.2.1 y3.2.2.2.1 y3.2.2.2.2.1 y3.2.2.2.2.2 y4).2.2.2.2.2.1 (1 : Int)).2.2.2.1 (markSaverV (saveBeginV y3.1 y3.2.1 y3.2.2.1 y3.2.2.2.1 y3.2.2.2.2.1 y3.2.2.2.2.2 y4).1 (saveBeginV y3.1 y3.2.1 y3.2.2.1 y3.2.2.2.1 y3.2.2.2.2.1 y3.2.2.2.2.2 y4).2.1 (saveBeginV y3.1 y3.2.1 y3.2.2.1 y3.2.2.2.1 y3.2.2.2.2.1 y3.2.2.2.2.2 y4).2.2.1 (saveBeginV y3.1 y3.2.1 y3.2.2.1 y3.2.2.2.1 y3.2.2.2.2.1 y3.2.2.2.2.2 y4).2.2.2.1 (saveBeginV y3.1 y3.2.1 y3.2.2.1 y3.2.2.2.1 y3.2.2.2.2.1 y3.2.2.2.2.2 y4).2.2.2.2.1 (saveBeginV y3.1 y3.2.1 y3.2.2.1 y3.2.2.2.1 y3.2.2.2.2.1 y3.2.2.2.2.2 y4).2.2.2.2.2.1 (1 : Int)).2.2.2.2 (saveBeginV y3.1 y3.2.1 y3.2.2.1 y3.2.2.2.1 y3.2.2.2.2.1 y3.2.2.2.2.2 y4).2.2.2.2.1 (saveBeginV y3.1 y3.2.1 y3.2.2.1 y3.2.2.2.1 y3.2.2.2.2.1 y3.2.2.2.2.2 y4).2.2.2.2.2.1 (1 : Int)) != (markSaverV (saveBeginV y3.1 y3.2.1 y3.2.2.1 y3.2.2.2.1 y3.2.2.2.2.1 y3.2.2.2.2.2 y4).1 (saveBeginV y3.1 y3.2.1 y3.2.2.1 y3.2.2.2.1 y3.2.2.2.2.1 y3.2.2.2.2.2 y4).2.1 (saveBeginV y3.1 y3.2.1 y3.2.2.1 y3.2.2.2.1 y3.2.2.2.2.1 y3.2.2.2.2.2 y4).2.2.1 (saveBeginV y3.1 y3.2.1 y3.2.2.1 y3.2.2.2.1 y3.2.2.2.2.1 y3.2.2.2.2.2 y4).2.2.2.1 (saveBeginV y3.1 y3.2.1 y3.2.2.1 y3.2.2.2.1 y3.2.2.2.2.1 y3.2.2.2.2.2 y4).2.2.2.2.1 (saveBeginV y3.1 y3.2.1 y3.2.2.1 y3.2.2.2.1 y3.2.2.2.2.1 y3.2.2.2.2.2 y4).2.2.2.2.2.1 (1 : Int)).1))
 (.ret (((false, ()), ()), ((), (), ())))
 (.get (toSaverV a0 a1 a2 a3 a4 a5) fun y7 =>
 .get (toFilesV a6) fun y8 =>
 .ite ((!(eqSaverV (saveBeginV y7.1 y7.2.1 y7.2.2.1 y7.2.2.2.1 y7.2.2.2.2.1 y7.2.2.2.2.2 y8).1 (saveBeginV y7.1 y7.2.1 y7.2.2.1 y7.2.2.2.1 y7.2.2.2.2.1 y7.2.2.2.2.2 y8).2.1 (saveBeginV y7.1 y7.2.1 y7.2.2.1 y7.2.2.2.1 y7.2.2.2.2.1 y7.2.2.2.2.2 y8).2.2.1 (saveBeginV y7.1 y7.2.1 y7.2.2.1 y7.2.2.2.1 y7.2.2.2.2.1 y7.2.2.2.2.2 y8).2.2.2.1 (saveBeginV y7.1 y7.2.1 y7.2.2.1 y7.2.2.2.1 y7.2.2.2.2.1 y7.2.2.2.2.2 y8).2.2.2.2.1 (saveBeginV y7.1 y7.2.1 y7.2.2.1 y7.2.2.2.1 y7.2.2.2.2.1 y7.2.2.2.2.2 y8).2.2.2.2.2.1 (saveBeginV y1.1 y1.2.1 y1.2.2.1 y1.2.2.2.1 y1.2.2.2.2.1 y1.2.2.2.2.2 y2).1 (saveBeginV y1.1 y1.2.1 y1.2.2.1 y1.2.2.2.1 y1.2.2.2.2.1 y1.2.2.2.2.2 y2).2.1 (saveBeginV y1.1 y1.2.1 y1.2.2.1 y1.2.2.2.1 y1.2.2.2.2.1 y1.2.2.2.2.2 y2).2.2.1 (saveBeginV y1.1 y1.2.1 y1.2.2.1 y1.2.2.2.1 y1.2.2.2.2.1 y1.2.2.2.2.2 y2).2.2.2.1 (saveBeginV y1.1 y1.2.1 y1.2.2.1 y1.2.2.2.1 y1.2.2.2.2.1 y1.2.2.2.2.2 y2).2.2.2.2.1 (saveBeginV y1.1 y1.2.1 y1.2.2.1 y1.2.2.2.1 y1.2.2.2.2.1 y1.2.2.2.2.2 y2).2.2.2.2.2.1)) == false)
 (.ite (!((saveBeginV y7.1 y7.2.1 y7.2.2.1 y7.2.2.2.1 y7.2.2.2.2.1 y7.2.2.2.2.2 y8).2.2.2.2.2.2 == (saveBeginV y1.1 y1.2.1 y1.2.2.1 y1.2.2.2.1 y1.2.2.2.2.1 y1.2.2.2.2.2 y2).2.2.2.2.2.2))
 (.ret (((false, ()), ()), ((), (), ())))
 (.ite (decide ((heldSaverV (markSaverV (saveBeginV y3.1 y3.2.1 y3.2.2.1 y3.2.2.2.1 y3.2.2.2.2.1 y3.2.2.2.2.2 y4).1 (saveBeginV y3.1 y3.2.1 y3.2.2.1 y3.2.2.2.1 y3.2.2.2.2.1 y3.2.2.2.2.2 y4).2.1 (saveBeginV y3.1 y3.2.1 y3.2.2.1 y3.2.2.2.1 y3.2.2.2.2.1 y3.2.2.2.2.2 y4).2.2.1 (saveBeginV y3.1 y3.2.1 y3.2.2.1 y3.2.2.2.1 y3.2.2.2.2.1 y3.2.2.2.2.2 y4).2.2.2.1 (saveBeginV y3.1 y3.2.1 y3.2.2.1 y3.2.2.2.1 y3.2.2.2.2.1 y3.2.2.2.2.2 y4).2.2.2.2.1 (saveBeginV y3.1 y3.2.1 y3.2.2.1 y3.2.2.2.1 y3.2.2.2.2.1 y3.2.2.2.2.2 y4).2.2.2.2.2.1 (1 : Int)).2.1 (markSaverV (saveBeginV y3.1 y3.2.1 y3.2.2.1 y3.2.2.2.1 y3.2.2.2.2.1 y3.2.2.2.2.2 y4).1 (saveBeginV y3.1 y3.2.1 y3.2.2.1 y3.2.2.2.1 y3.2.2.2.2.1 y3.2.2.2.2.2 y4).2.1 (saveBeginV y3.1 y3.2.1 y3.2.2.1 y3.2.2.2.1 y3.2.2.2.2.1 y3.2.2.2.2.2 y4).2.2.1 (saveBeginV y3.1 y3.2.1 y3.2.2.1 y3.2.2.2.1 y3.2.2.2.2.1 y3.2.2.2.2.2 y4).2.2.2.1 (saveBeginV y3.1 y3.2.1 y3.2.2.1 y3.2.2.2.1 y3.2.2.2.2.1 y3.2.2.2.2.2 y4).2.2.2.2.1 (saveBeginV y3.1 y3.2.1 y3.2.2.1 y3.2.2.2.1 y3.2.2.2.2.1 y3.2.2.2.2.2 y4).2.2.2.2.2.1 (1 : Int)).2.2.1 (markSaverV (saveBeginV y3.1 y3.2.1 y3.2.2.1 y3.2.2.2.1 y3.2.2.2.2.1 y3.2.2.2.2.2 y4).1 (saveBeginV y3.1 y3.2.1 y3.2.2.1 y3.2.2.2.1 y3.2.2.2.2.1 y3.2.2.2.2.2 y4).2.1 (saveBeginV y3.1 y3.2.1 y3.2.2.1 y3.2.2.2.1 y3.2.2.2.2.1 y3.2.2.2.2.2 y4).2.2.1 (saveBeginV y3.1 y3.2.1 y3.2.2.1 y3.2.2.2.1 y3.2.2.2.2.1 y3.2.2.2.2.2 y4).2.2.2.1 (saveBeginV y3.1 y3.2.1 y3.2.2.1 y3.2.2.2.1 y3.2.2.2.2.1 y3.2.2.2.2.2 y4).2.2.2.2.1 (saveBeginV y3.1 y3.2.1 y3.2.2.1 y3.2.2.2.1 y3.2.2.2.2.1 y3.2.2.2.2.2 y4).2.2.2.2.2.1 (1 : Int)).2.2.2.1 (markSaverV (saveBeginV y3.1 y3.2.1 y3.2.2.1 y3.2.2.2.1 y3.2.2.2.2.1 y3.2.2.2.2.2 y4).1 (saveBeginV y3.1 y3.2.1 y3.2.2.1 y3.2.2.2.1 y3.2.2.2.2.1 y3.2.2.2.2.2 y4).2.1 (saveBeginV y3.1 y3.2.1 y3.2.2.1 y3.2.2.2.1 y3.2.2.2.2.1 y3.2.2.2.2.2 y4).2.2.1 (saveBeginV y3.1 y3.2.1 y3.2.2.1 y3.2.2.2.1 y3.2.2.2.2.1 y3.2.2.2.2.2 y4).2.2.2.1 (saveBeginV y3.1 y3.2.1 y3.2.2.1 y3.2.2.2.1 y3.2.2.2.2.1 y3.2.2.2.2.2 y4).2.2.2.2.1 (saveBeginV y3.1 y3.2.1 y3.2.2.1 y3.2.2.2.1 y3.2.2.2.2.1 y3.2.2.2.2.2 y4).2.2.2.2.2.1 (1 : Int)).2.2.2.2 (saveBeginV y3.1 y3.2.1 y3.2.2.1 y3.2.2.2.1 y3.2.2.2.2.1 y3.2.2.2.2.2 y4).2.2.2.2.1 (saveBeginV y3.1 y3.2.1 y3.2.2.1 y3.2.2.2.1 y3.2.2.2.2.1 y3.2.2.2.2.2 y4).2.2.2.2.2.1 (1 : Int)) < (0 : Int)))
 (.ret (((false, ()), ()), ((), (), ())))
 (.ite (((heldSaverV (markSaverV (saveBeginV y3.1 y3.2.1 y3.2.2.1 y3.2.2.2.1 y3.2.2.2.2.1 y3.2.2.2.2.2 y4).1 (saveBeginV y3.1 y3.2.1 y3.2.2.1 y3.2.2.2.1 y3.2.2.2.2.1 y3.2.2.2.2.2 y4).2.1 (saveBeginV y3.1 y3.2.1 y3.2.2.1 y3.2.2.2.1 y3.2.2.2.2.1 y3.2.2.2.2.2 y4).2.2.1 (saveBeginV y3.1 y3.2.1 y3.2.2.1 y3.2.2.2.1 y3.2.2.2.2.1 y3.2.2.2.2.2 y4).2.2.2.1 (saveBeginV y3.1 y3.2.1 y3.2.2.1 y3.2.2.2.1 y3.2.2.2.2.1 y3.2.2.2.2.2 y4).2.2.2.2.1 (saveBeginV y3.1 y3.2.1 y3.2.2.1 y3.2.2.2.1 y3.2.2.2.2.1 y3.2.2.2.2.2 y4).2.2.2.2.2.1 (1 : Int)).2.1 (markSaverV (saveBeginV y3.1 y3.2.1 y3.2.2.1 y3.2.2.2.1 y3.2.2.2.2.1 y3.2.2.2.2.2 y4).1 (saveBeginV y3.1 y3.2.1 y3.2.2.1 y3.2.2.2.1 y3.2.2.2.2.1 y3.2.2.2.2.2 y4).2.1 (saveBeginV y3.1 y3.2.1 y3.2.2.1 y3.2.2.2.1 y3.2.2.2.2.1 y3.2.2.2.2.2 y4).2.2.1 (saveBeginV y3.1 y3.2.1 y3.2.2.1 y3.2.2.2.1 y3.2.2.2.2.1 y3.2.2.2.2.2 y4).2.2.2.1 (saveBeginV y3.1 y3.2.1 y3.2.2.1 y3.2.2.2.1 y3.2.2.2.2.1 y3.2.2.2.2.2 y4).2.2.2.2.1 (saveBeginV y3.1 y3.2.1 y3.2.2.1 y3.2.2.2.1 y3.2.2.2.2.1 y3.2.2.2.2.2 y4).2.2.2.2.2.1 (1 : Int)).2.2.1 (markSaverV (saveBeginV y3.1 y3.2.1 y3.2.2.1 y3.2.2.2.1 y3.2.2.2.2.1 y3.2.2.2.2.2 y4).1 (saveBeginV y3.1 y3.2.1 y3.2.2.1 y3.2.2.2.1 y3.2.2.2.2.1 y3.2.2.2.2.2 y4).2.1 (saveBeginV y3.1 y3.2.1 y3.2.2.1 y3.2.2.2.1 y3.2.2.2.2.1 y3.2.2.2.2.2 y4).2.2.1 (saveBeginV y3.1 y3.2.1 y3.2.2.1 y3.2.2.2.1 y3.2.2.2.2.1 y3.2.2.2.2.2 y4).2.2.2.1 (saveBeginV y3.1 y3.2.1 y3.2.2.1 y3.2.2.2.1 y3.2.2.2.2.1 y3.2.2.2.2.2 y4).2.2.2.2.1 (saveBeginV y3.1 y3.2.1 y3.2.2.1 y3.2.2.2.1 y3.2.2.2.2.1 y3.2.2.2.2.2 y4).2.2.2.2.2.1 (1 : Int)).2.2.2.1 (markSaverV (saveBeginV y3.1 y3.2.1 y3.2.2.1 y3.2.2.2.1 y3.2.2.2.2.1 y3.2.2.2.2.2 y4).1 (saveBeginV y3.1 y3.2.1 y3.2.2.1 y3.2.2.2.1 y3.2.2.2.2.1 y3.2.2.2.2.2 y4).2.1 (saveBeginV y3.1 y3.2.1 y3.2.2.1 y3.2.2.2.1 y3.2.2.2.2.1 y3.2.2.2.2.2 y4).2.2.1 (saveBeginV y3.1 y3.2.1 y3.2.2.1 y3.2.2.2.1 y3.2.2.2.2.1 y3.2.2.2.2.2 y4).2.2.2.1 (saveBeginV y3.1 y3.2.1 y3.2.2.1 y3.2.2.2.1 y3.2.2.2.2.1 y3.2.2.2.2.2 y4).2.2.2.2.1 (saveBeginV y3.1 y3.2.1 y3.2.2.1 y3.2.2.2.1 y3.2.2.2.2.1 y3.2.2.2.2.2 y4).2.2.2.2.2.1 (1 : Int)).2.2.2.2 (saveBeginV y3.1 y3.2.1 y3.2.2.1 y3.2.2.2.1 y3.2.2.2.2.1 y3.2.2.2.2.2 y4).2.2.2.2.1 (saveBeginV y3.1 y3.2.1 y3.2.2.1 y3.2.2.2.1 y3.2.2.2.2.1 y3.2.2.2.2.2 y4).2.2.2.2.2.1 (1 : Int)) != (markSaverV (saveBeginV y3.1 y3.2.1 y3.2.2.1 y3.2.2.2.1 y3.2.2.2.2.1 y3.2.2.2.2.2 y4).1 (saveBeginV y3.1 y3.2.1 y3.2.2.1 y3.2.2.2.1 y3.2.2.2.2.1 y3.2.2.2.2.2 y4).2.1 (saveBeginV y3.1 y3.2.1 y3.2.2.1 y3.2.2.2.1 y3.2.2.2.2.1 y3.2.2.2.2.2 y4).2.2.1 (saveBeginV y3.1 y3.2.1 y3.2.2.1 y3.2.2.2.1 y3.2.2.2.2.1 y3.2.2.2.2.2 y4).2.2.2.1 (saveBeginV y3.1 y3.2.1 y3.2.2.1 y3.2.2.2.1 y3.2.2.2.2.1 y3.2.2.2.2.2 y4).2.2.2.2.1 (saveBeginV y3.1 y3.2.1 y3.2.2.1 y3.2.2.2.1 y3.2.2.2.2.1 y3.2.2.2.2.2 y4).2.2.2.2.2.1 (1 : Int)).1))
 (.ret (((false, ()), ()), ((), (), ())))
 (.ret (((true, ()), ()), ((), (), ()))))))
 (.ret (((false, ()), ()), ((), (), ())))))))
 (.ret (((false, ()), ()), ((), (), ()))))
 (.ret (((false, ()), ()), ((), (), ())))))))
 (.ret (((false, ()), ()), ((), (), ())))))
def true7 (_ : List Str) (_ : List WriteD) (_ _ : List FileD) (_ _ : Int) (_ : List FileD) : Bool := true
def k21 : Con := { f := 21, lend := true, its := [⟨false, true, [.ro .str, .ro (.st (.cons (.int .i64) (.cons .str .nil))), .ro (.st (.cons (.int .i64) (.cons (.sl (.int .i64)) .nil))), .ro (.st (.cons (.int .i64) (.cons (.sl (.int .i64)) .nil))), .i .i64, .i .i64]⟩, ⟨false, false, [.ro (.st (.cons (.int .i64) (.cons (.sl (.int .i64)) .nil)))]⟩], lay := [none, none], rs := [⟨false, false, [.b]⟩], F := fun x => .ret ((((true7 x.1.1 x.1.2.1 x.1.2.2.1 x.1.2.2.2.1 x.1.2.2.2.2.1 x.1.2.2.2.2.2.1 x.2.1.1), ()), ()), ((), (), ())) }
theorem f21_eq (x : itemsD k21.its) : bodyOut (cxOf [k77, k55, k79, k57, k109, k106, k52, k60, k53, k61, k54]) (fun _ => none) (codeOf Try.f21) k21.its k21.lay Try.f21.ntmps k21.rs [.tmp 4] x = f21_tree x.1.1 x.1.2.1 x.1.2.2.1 x.1.2.2.2.1 x.1.2.2.2.2.1 x.1.2.2.2.2.2.1 x.2.1.1 := by kernel_rfl
theorem f21_ok (hr : ∀ x : (List (List UInt8) × List (Int × List UInt8 × Unit) × List (Int × List Int × Unit) × List (Int × List Int × Unit) × Int × Int × Unit) × (List (Int × List Int × Unit) × Unit) × Unit, itemsWF k21.its x → (f21_tree x.1.1 x.1.2.1 x.1.2.2.1 x.1.2.2.2.1 x.1.2.2.2.2.1 x.1.2.2.2.2.2.1 x.2.1.1).eval = (k21.F x).eval) : k21.Ok Try.prog :=
  con_fn [k77, k55, k79, k57, k109, k106, k52, k60, k53, k61, k54] ⟨k77_ok, k55_ok, k79_ok, k57_ok, k109_ok, k106_ok, k52_ok, k60_ok, k53_ok, k61_ok, k54_ok, trivial⟩ (by kernel_rfl) (codeOf_eq (by kernel_rfl)) (by kernel_rfl) (by kernel_rfl) (by kernel_rfl) f21_eq fun x hw _ hy => (hr x hw).trans hy
theorem mem_big {α : Type} {p : α → Prop} {a : List α} (h : ∀ (i : Nat) (y : α), a[i]? = some y → p y) : ∀ x ∈ a, p x := fun x hx => by
  obtain ⟨i, hi⟩ := List.getElem?_of_mem hx
  exact h i x hi
theorem k21_ok : k21.Ok Try.prog := by
  refine f21_ok fun x hw => ?_
  obtain ⟨⟨a, b, c, d, q, p, _⟩, ⟨f, _⟩, _⟩ := x
  have ha : a.length ≤ BIG := hw.1.1.1
  have ha' : ∀ x ∈ a, x.length ≤ BIG := mem_big hw.1.1.2
  have hb : b.length ≤ BIG := hw.1.2.1.1
  have hb' : ∀ x ∈ b, x.2.1.length ≤ BIG := mem_big fun i y hy => (hw.1.2.1.2 i y hy).2.1
  have hc : c.length ≤ BIG := hw.1.2.2.1.1
  have hc' : ∀ x ∈ c, x.2.1.length ≤ BIG := mem_big fun i y hy => (hw.1.2.2.1.2 i y hy).2.1.1
  have hd : d.length ≤ BIG := hw.1.2.2.2.1.1
  have hd' : ∀ x ∈ d, x.2.1.length ≤ BIG := mem_big fun i y hy => (hw.1.2.2.2.1.2 i y hy).2.1.1
  have hf : f.length ≤ BIG := hw.2.1.1.1
  have hf' : ∀ x ∈ f, x.2.1.length ≤ BIG := mem_big fun i y hy => (hw.2.1.1.2 i y hy).2.1.1
  show (f21_tree a b c d q p f).eval = some (((true, ()), ()), ((), ((), ())))
  unfold f21_tree
  by_cases h1 : szSaverV a b c d q p 1048576 < 0
  · rw [eval_ite_t (decide_eq_true h1)]; rfl
  rw [eval_ite_f (decide_eq_false h1)]
  have s1 := szSaver_le ha ha' hb hb' hc hc' hd hd' (by omega) (by omega) h1
  by_cases h2 : szFilesV f (szSaverV a b c d q p 1048576) < 0
  · rw [eval_ite_t (decide_eq_true h2)]; rfl
  rw [eval_ite_f (decide_eq_false h2)]
  have s2 := szFilesV_eq hf hf' s1.2.2.1 s1.2.2.2 h2
  have t1 := toSaverV_some (q := q) (p := p) s1.1.1 s1.1.2 s1.2.1.1 s1.2.1.2
  have t2 : toFilesV f = some f := if_pos (limF_of (by omega))
  have hcnt := begin_cnt a b c d q p f
  have k : ¬ (markFileSV f (markSaverV a b c d q p 1).1).1 < 0 := by
    rw [markFileSV_up, markSaverV_up, up_add]
    refine up_nonneg ?_
    unfold cntS BIG
    omega
  have e1 : eqFilesV f f = true := decide_eq_true rfl
  generalize hR : saveBeginV a b c d q p f = r at hcnt
  obtain ⟨a', b', c', d', q', p', ok⟩ := r
  have m := held_markSaver (a := a') (b := b') (c := c') (d := d') (q := q') (p := p') (q' := q') (p' := p') (by dsimp only at hcnt; omega)
  simp [Out.eval, t1, t2, hR, eqSaverV_self, e1, m.1, m.2, k]

theorem f21_own : ownKnob Try.prog.godebug = none := by kernel_rfl
set_option maxRecDepth 100000 in
theorem f21_contract (H : Type) (enc : TypeId × Value → H) (W : World) (base : Nat) (args : Array Value) (ds gs : List (DataW H)) (before : List MemPlace)
    (hval : ∀ (j : Nat) t v, Try.f21.params[j]? = some t → args[j]? = some v → Value.okWide Try.prog W .any base t v)
    (hW : DataW.Whole enc Try.prog Try.f21.params.toList Rows.fnExactSaveBeginSpec.vars false W args.toList ds gs before) :
    Calls Try.prog 21 args W fun e W' => ∃ v, e = .returned v ∧ Rows.fnExactSaveBeginSpec.post enc Try.prog Try.f21 false true false false W args v W' := by
  have hW' := hW
  obtain ⟨p, q, hA0, hV, rfl, _, _⟩ := hW
  have hA : DataW.TrodAll enc Try.prog W 0 (fun _ => true) true [97, 74] args.toList ds p := hA0
  have hlt := hW'.lt
  obtain ⟨rfl, rfl⟩ := trodVars_none hV
  simp only [List.append_nil] at hW' hlt
  have hlen : ds.length = 2 := (trodAll_length hA).2
  rcases ds with _ | ⟨d0, _ | ⟨d1, _ | ⟨d2, dr⟩⟩⟩ <;> first | (simp at hlen; done) | skip
  have hu : Try.prog.underlying 4 = some .bool := by kernel_rfl
  refine (law_calls (ts := [(.st (.cons (.st (.cons (.sl .str) (.cons (.sl (.st (.cons (.int .i64) (.cons .str .nil)))) .nil))) (.cons (.sl (.st (.cons (.int .i64) (.cons (.sl (.int .i64)) .nil)))) (.cons (.sl (.st (.cons (.int .i64) (.cons (.sl (.int .i64)) .nil)))) (.cons (.int .i64) (.cons (.int .i64) .nil)))))), (.sl (.st (.cons (.int .i64) (.cons (.sl (.int .i64)) .nil))))]) (tids := [97, 74]) (f := 21) (lend := k21.lend) (F := k21.F) k21_ok (parsB_ok (by kernel_rfl)) (fun x hw => ?_) (b0 := base) (fun j t v ht hv => hval j t v ?_ hv) hA).mono fun e W' ⟨he, hg, hs⟩ => ?_
  · exact ⟨_, rfl⟩
  · rw [← ht, Try.params21]; first | rfl | simp
  · subst he
    exact ⟨_, rfl, post_of_same (pa := p) (pv := []) hW' (fun _ _ _ => trodAll_mk1 (shut_bool hu true)) (fun sp hsp => trodAll_stays (by kernel_rfl) hs (by kernel_rfl) hA hlt hsp) (fun _ _ => rfl) (by simp) (hg.frame _) hg.2.1 (ok_one (by kernel_rfl) rfl (okWide_bool_mk hu true))⟩
set_option maxRecDepth 100000 in
theorem f21_lifted (os : Os) (started : os.Started) (H : Type) (enc : TypeId × Value → H) :
    ReturnsInHanded {} Try.checked os 21 .any (Rows.fnExactSaveBeginSpec.pre6 enc Try.prog Try.f21 Rows.fnExactSaveBeginRow.domain false) (Rows.fnExactSaveBeginSpec.post enc Try.prog Try.f21 false true false false) := by
  refine returnsInHanded_of_change (C := Try.checked) f21_own started (by kernel_rfl) Try.func21
    (ChangeSpec.witness6 (enc := enc) (C := Try.checked) false ⟨#[], #[.agg #[.slice none 0 0, .slice none 0 0, .slice none 0 0, .slice none 0 0, .int .i64 0, .int .i64 0], .slice none 0 0], []⟩ 8 (by kernel_rfl) (by kernel_rfl) (by kernel_rfl) (by kernel_rfl)) ?_
  intro W base args ds gs before hval hW _ _
  exact f21_contract H enc W base args ds gs before hval hW
theorem f21_closed : joinedFacts Try.prog 21 Try.f21 Rows.fnExactSaveBeginSpec Rows.fnExactSaveBeginRow = true := by
  unfold joinedFacts
  rw [mayEnter_ok, lifts_ok, make_ok]
  kernel_rfl
theorem f21_said : Rows.FnExactSaveBeginSaid :=
  OpenClaim.holds_of_wide 21 Try.f21 rfl rfl rfl rfl rfl rfl rfl ⟨rfl, rfl, rfl, rfl, rfl⟩ rfl rfl rfl rfl rfl (by kernel_rfl) Try.func21 f21_closed
    (of_decide_eq_true (by kernel_rfl)) (by unfold Func.isWrapper; first | (rw [if_pos (by decide +kernel)]; kernel_rfl) | (rw [if_neg (by decide +kernel)]; exact ⟨rfl, rfl⟩))
    (fun os started H enc _ => f21_lifted os started H enc)
end Go.Proofs.Ytjcinikojcfebaa.Dm
namespace Go.Proofs.Ytjcinikojcfebaa
theorem fnExactSaveBegin_said : Rows.FnExactSaveBeginSaid := Dm.f21_said
end Go.Proofs.Ytjcinikojcfebaa
namespace Go.Proofs.Ytjcinikojcfebaa.Dm
end Go.Proofs.Ytjcinikojcfebaa.Dm
