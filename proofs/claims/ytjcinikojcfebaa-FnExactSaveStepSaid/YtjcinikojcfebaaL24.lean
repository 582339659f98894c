/- Functions of the program, and what they compute. -/
import Derived.Test.YtjcinikojcfebaaA15
import Derived.Test.YtjcinikojcfebaaFacts
import Derived.Test.YtjcinikojcfebaaRows
import Derived.ChangeCalls
namespace Go.Proofs.Ytjcinikojcfebaa.Dm
open Go Go.ChangeShapes Go.WideShapes Go.ChangeAt Go.RowKit

def f24_tree (a0 : List (List UInt8)) (a1 : List (Int × List UInt8 × Unit)) (a2 : List (Int × List Int × Unit)) (a3 : List (Int × List Int × Unit)) (a4 : Int) (a5 : Int) : Out (((Bool × Unit) × Unit) × (Unit × Unit)) :=
 .ite (decide ((szSaverV a0 a1 a2 a3 a4 a5 (1048576 : Int)) < (0 : Int)))
 (.ret (((true, ()), ()), ((), ())))
 (.get (toSaverV a0 a1 a2 a3 a4 a5) fun y1 =>
 .get (toSaverV a0 a1 a2 a3 a4 a5) fun y2 =>
 .ite ((!(eqSaverV (saveStepV y2.1 y2.2.1 y2.2.2.1 y2.2.2.2.1 y2.2.2.2.2.1 y2.2.2.2.2.2).1 (saveStepV y2.1 y2.2.1 y2.2.2.1 y2.2.2.2.1 y2.2.2.2.2.1 y2.2.2.2.2.2).2.1 (saveStepV y2.1 y2.2.1 y2.2.2.1 y2.2.2.2.1 y2.2.2.2.2.1 y2.2.2.2.2.2).2.2.1 (saveStepV y2.1 y2.2.1 y2.2.2.1 y2.2.2.2.1 y2.2.2.2.2.1 y2.2.2.2.2.2).2.2.2.1 (saveStepV y2.1 y2.2.1 y2.2.2.1 y2.2.2.2.1 y2.2.2.2.2.1 y2.2.2.2.2.2).2.2.2.2.1 (saveStepV y2.1 y2.2.1 y2.2.2.1 y2.2.2.2.1 y2.2.2.2.2.1 y2.2.2.2.2.2).2.2.2.2.2.1 (saveStepV y1.1 y1.2.1 y1.2.2.1 y1.2.2.2.1 y1.2.2.2.2.1 y1.2.2.2.2.2).1 (saveStepV y1.1 y1.2.1 y1.2.2.1 y1.2.2.2.1 y1.2.2.2.2.1 y1.2.2.2.2.2).2.1 (saveStepV y1.1 y1.2.1 y1.2.2.1 y1.2.2.2.1 y1.2.2.2.2.1 y1.2.2.2.2.2).2.2.1 (saveStepV y1.1 y1.2.1 y1.2.2.1 y1.2.2.2.1 y1.2.2.2.2.1 y1.2.2.2.2.2).2.2.2.1 (saveStepV y1.1 y1.2.1 y1.2.2.1 y1.2.2.2.1 y1.2.2.2.2.1 y1.2.2.2.2.2).2.2.2.2.1 (saveStepV y1.1 y1.2.1 y1.2.2.1 y1.2.2.2.1 y1.2.2.2.2.1 y1.2.2.2.2.2).2.2.2.2.2.1)) == false)
 (.ite (!((saveStepV y2.1 y2.2.1 y2.2.2.1 y2.2.2.2.1 y2.2.2.2.2.1 y2.2.2.2.2.2).2.2.2.2.2.2 == (saveStepV y1.1 y1.2.1 y1.2.2.1 y1.2.2.2.1 y1.2.2.2.2.1 y1.2.2.2.2.2).2.2.2.2.2.2))
 (.ret (((false, ()), ()), ((), ())))
 (.get (toSaverV a0 a1 a2 a3 a4 a5) fun y3 =>
 .ite (!(eqSaverV y2.1 y2.2.1 y2.2.2.1 y2.2.2.2.1 y2.2.2.2.2.1 y2.2.2.2.2.2 y3.1 y3.2.1 y3.2.2.1 y3.2.2.2.1 y3.2.2.2.2.1 y3.2.2.2.2.2))
 (.ret (((false, ()), ()), ((), ())))
 (.ite ((decide ((markSaverV y2.1 y2.2.1 y2.2.2.1 y2.2.2.2.1 y2.2.2.2.2.1 y2.2.2.2.2.2 (1 : Int)).1 < (0 : Int))) == false)
 (.ite ((!(eqSaverV (saveStepV y2.1 y2.2.1 y2.2.2.1 y2.2.2.2.1 y2.2.2.2.2.1 y2.2.2.2.2.2).1 (saveStepV y2.1 y2.2.1 y2.2.2.1 y2.2.2.2.1 y2.2.2.2.2.1 y2.2.2.2.2.2).2.1 (saveStepV y2.1 y2.2.1 y2.2.2.1 y2.2.2.2.1 y2.2.2.2.2.1 y2.2.2.2.2.2).2.2.1 (saveStepV y2.1 y2.2.1 y2.2.2.1 y2.2.2.2.1 y2.2.2.2.2.1 y2.2.2.2.2.2).2.2.2.1 (saveStepV y2.1 y2.2.1 y2.2.2.1 y2.2.2.2.1 y2.2.2.2.2.1 y2.2.2.2.2.2).2.2.2.2.1 (saveStepV y2.1 y2.2.1 y2.2.2.1 y2.2.2.2.1 y2.2.2.2.2.1 y2.2.2.2.2.2).2.2.2.2.2.1 (saveStepV y1.1 y1.2.1 y1.2.2.1 y1.2.2.2.1 y1.2.2.2.2.1 y1.2.2.2.2.2).1 (saveStepV y1.1 y1.2.1 y1.2.2.1 y1.2.2.2.1 y1.2.2.2.2.1 y1.2.2.2.2.2).2.1 (saveStepV y1.1 y1.2.1 y1.2.2.1 y1.2.2.2.1 y1.2.2.2.2.1 y1.2.2.2.2.2).2.2.1 (saveStepV y1.1 y1.2.1 y1.2.2.1 y1.2.2.2.1 y1.2.2.2.2.1 y1.2.2.2.2.2).2.2.2.1 (saveStepV y1.1 y1.2.1 y1.2.2.1 y1.2.2.2.1 y1.2.2.2.2.1 y1.2.2.2.2.2).2.2.2.2.1 (saveStepV y1.1 y1.2.1 y1.2.2.1 y1.2.2.2.1 y1.2.2.2.2.1 y1.2.2.2.2.2).2.2.2.2.2.1)) == false)
 (.ite (!((saveStepV y2.1 y2.2.1 y2.2.2.1 y2.2.2.2.1 y2.2.2.2.2.1 y2.2.2.2.2.2).2.2.2.2.2.2 == (saveStepV y1.1 y1.2.1 y1.2.2.1 y1.2.2.2.1 y1.2.2.2.2.1 y1.2.2.2.2.2).2.2.2.2.2.2))
 (.ret (((false, ()), ()), ((), ())))
 (.ite (decide ((heldSaverV (markSaverV (saveStepV y2.1 y2.2.1 y2.2.2.1 y2.2.2.2.1 y2.2.2.2.2.1 y2.2.2.2.2.2).1 (saveStepV y2.1 y2.2.1 y2.2.2.1 y2.2.2.2.1 y2.2.2.2.2.1 y2.2.2.2.2.2).2.1 (saveStepV y2.1 y2.2.1 y2.2.2.1 y2.2.2.2.1 y2.2.2.2.2.1 y2.2.2.2.2.2).2.2.1 (saveStepV y2.1 y2.2.1 y2.2.2.1 y2.2.2.2.1 y2.2.2.2.2.1 y2.2.2.2.2.2).2.2.2.1 (saveStepV y2.1 y2.2.1 y2.2.2.1 y2.2.2.2.1 y2.2.2.2.2.1 y2.2.2.2.2.2).2.2.2.2.1 (saveStepV y2.1 y2.2.1 y2.2.2.1 y2.2.2.2.1 y2.2.2.2.2.1 y2.2.2.2.2.2).2.2.2.2.2.1 (1 : Int)).2.1 (markSaverV (saveStepV y2.1 y2.2.1 y2.2.2.1 y2.2.2.2.1 y2.2.2.2.2.1 y2.2.2.2.2.2).1 (saveStepV y2.1 y2.2.1 y2.2.2.1 y2.2.2.2.1 y2.2.2.2.2.1 y2.2.2.2.2.2).2.1 (saveStepV y2.1 y2.2.1 y2.2.2.1 y2.2.2.2.1 y2.2.2.2.2.1 y2.2.2.2.2.2).2.2.1 (saveStepV y2.1 y2.2.1 y2.2.2.1 y2.2.2.2.1 y2.2.2.2.2.1 y2.2.2.2.2.2).2.2.2.1 (saveStepV y2.1 y2.2.1 y2.2.2.1 y2.2.2.2.1 y2.2.2.2.2.1 y2.2.2.2.2.2).2.2.2.2.1 (saveStepV y2.1 y2.2.1 y2.2.2.1 y2.2.2.2.1 y2.2.2.2.2.1 y2.2.2.2.2.2).2.2.2.2.2.1 (1 : Int)).2.2.1 (markSaverV (saveStepV y2.1 y2.2.1 y2.2.2.1 y2.2.2.2.1 y2.2.2.2.2.1 y2.2.2.2.2.2).1 (saveStepV y2.1 y2.2.1 y2.2.2.1 y2.2.2.2.1 y2.2.2.2.2.1 y2.2.2.2.2.2).2.1 (saveStepV y2.1 y2.2.1 y2.2.2.1 y2.2.2.2.1 y2.2.2.2.2.1 y2.2.2.2.2.2).2.2.1 (saveStepV y2.1 y2.2.1 y2.2.2.1 y2.2.2.2.1 y2.2.2.2.2.1 y2.2.2.2.2.2).2.2.2.1 (saveStepV y2.1 y2.2.1 y2.2.2.1 y2.2.2.2.1 y2.2.2.2.2.1 y2.2.2.2.2.2).2.2.2.2.1 (saveStepV y2.1 y2.2.1 y2.2.2.1 y2.2.2.2.1 y2.2.2.2.2.1 y2.2.2.2.2.2).2.2.2.2.2.1 (1 : Int)).2.2.2.1 (markSaverV (saveStepV y2.1 y2.2.1 y2.2.2.1 y2.2.2.2.1 y2.2.2.2.2.1 y2.2.2.2.2.2).1 (saveStepV y2.1 y2.2.1 y2.2.2.1 y2.2.2.2.1 y2.2.2.2.2.1 y2.2.2.2.2.2).2.1 (saveStepV y2.1 y2.2.1 y2.2.2.1 y2.2.2.2.1 y2.2.2.2.2.1 y2.2.2.2.2.2).2.2.1 (saveStepV y2.1 y2.2.1 y2.2.2.1 y2.2.2.2.1 y2.2.2.2.2.1 y2.2.2.2.2.2).2.2.2.1 (saveStepV y2.1 y2.2.1 y2.2.2.1 y2.2.2.2.1 y2.2.2.2.2.1 y2.2.2.2.2.2).2.2.2.2.1 (saveStepV y2.1 y2.2.1 y2.2.2.1 y2.2.2.2.1 y2.2.2.2.2.1 y2.2.2.2.2.2).2.2.2.2.2.1 (1 : Int)).2.2.2.2 (saveStepV y2.1 y2.2.1 y2.2.2.1 y2.2.2.2.1 y2.2.2.2.2.1 y2.2.2.2.2.2).2.2.2.2.1 (saveStepV y2.1 y2.2.1 y2.2.2.1 y2.2.2.2.1 y2.2.2.2.2.1 y2.2.2.2.2.2).2.2.2.2.2.1 (1 : Int)) < (0 : Int)))
 (.ret (((false, ()), ()), ((), ())))
 (.ite (((heldSaverV (markSaverV (saveStepV y2.1 y2.2.1 y2.2.2.1 y2.2.2.2.1 y2.2.2.2.2.1 y2.2.2.2.2.2).1 (saveStepV y2.1 y2.2.1 y2.2.2.1 y2.2.2.2.1 y2.2.2.2.2.1 y2.2.2.2.2.2).2.1 (saveStepV y2.1 y2.2.1 y2.2.2.1 y2.2.2.2.1 y2.2.2.2.2.1 y2.2.2.2.2.2).2.2.1 (saveStepV y2.1 y2.2.1 y2.2.2.1 y2.2.2.2.1 y2.2.2.2.2.1 y2.2.2.2.2.2).2.2.2.1 (saveStepV y2.1 y2.2.1 y2.2.2.1 y2.2.2.2.1 y2.2.2.2.2.1 y2.2.2.2.2.2).2.2.2.2.1 (saveStepV y2.1 y2.2.1 y2.2.2.1 y2.2.2.2.1 y2.2.2.2.2.1 y2.2.2.2.2.2).2.2.2.2.2.1 (1 : Int)).2.1 (markSaverV (saveStepV y2.1 y2.2.1 y2.2.2.1 y2.2.2.2.1 y2.2.2.2.2.1 y2.2.2.2.2.2).1 (saveStepV y2.1 y2.2.1 y2.2.2.1 y2.2.2.2.1 y2.2.2.2.2.1 y2.2.2.2.2.2).2.1 (saveStepV y2.1 y2.2.1 y2.2.2.1 y2.2.2.2.1 y2.2.2.2.2.1 y2.2.2.2.2.2).2.2.1 (saveStepV y2.1 y2.2.1 y2.2.2.1 y2.2.2.2.1 y2.2.2.2.2.1 y2.2.2.2.2.2).2.2.2.1 (saveStepV y2.1 y2.2.1 y2.2.2.1 y2.2.2.2.1 y2.2.2.2.2.1 y2.2.2.2.2.2).2.2.2.2.1 (saveStepV y2.1 y2.2.1 y2.2.2.1 y2.2.2.2.1 y2.2.2.2.2.1 y2.2.2.2.2.2).2.2.2.2.2.1 (1 : Int)).2.2.1 (markSaverV (saveStepV y2.1 y2.2.1 y2.2.2.1 y2.2.2.2.1 y2.2.2.2.2.1 y2.2.2.2.2.2).1 (saveStepV y2.1 y2.2.1 y2.2.2.1 y2.2.2.2.1 y2.2.2.2.2.1 y2.2.2.2.2.2).2.1 (saveStepV y2.1 y2.2.1 y2.2.2.1 y2.2.2.2.1 y2.2.2.2.2.1 y2.2.2.2.2.2).2.2.1 (saveStepV y2.1 y2.2.1 y2.2.2.1 y2.2.2.2.1 y2.2.2.2.2.1 y2.2.2.2.2.2).2.2.2.1 (saveStepV y2.1 y2.2.1 y2.2.2.1 y2.2.2.2.1 y2.2.2.2.2.1 y2.2.2.2.2.2).2.2.2.2.1 (saveStepV y2.1 y2.2.1 y2.2.2.1 y2.2.2.2.1 y2.2.2.2.2.1 y2.2.2.2.2.2).2.2.2.2.2.1 (1 : Int)).2.2.2.1 (markSaverV (saveStepV y2.1 y2.2.1 y2.2.2.1 y2.2.2.2.1 y2.2.2.2.2.1 y2.2.2.2.2.2).1 (saveStepV y2.1 y2.2.1 y2.2.2.1 y2.2.2.2.1 y2.2.2.2.2.1 y2.2.2.2.2.2).2.1 (saveStepV y2.1 y2.2.1 y2.2.2.1 y2.2.2.2.1 y2.2.2.2.2.1 y2.2.2.2.2.2).2.2.1 (saveStepV y2.1 y2.2.1 y2.2.2.1 y2.2.2.2.1 y2.2.2.2.2.1 y2.2.2.2.2.2).2.2.2.1 (saveStepV y2.1 y2.2.1 y2.2.2.1 y2.2.2.2.1 y2.2.2.2.2.1 y2.2.2.2.2.2).2.2.2.2.1 (saveStepV y2.1 y2.2.1 y2.2.2.1 y2.2.2.2.1 y2.2.2.2.2.1 y2.2.2.2.2.2).2.2.2.2.2.1 (1 : Int)).2.2.2.2 (saveStepV y2.1 y2.2.1 y2.2.2.1 y2.2.2.2.1 y2.2.2.2.2.1 y2.2.2.2.2.2).2.2.2.2.1 (saveStepV y2.1 y2.2.1 y2.2.2.1 y2.2.2.2.1 y2.2.2.2.2.1 y2.2.2.2.2.2).2.2.2.2.2.1 (1 : Int)) != (markSaverV (saveStepV y2.1 y2.2.1 y2.2.2.1 y2.2.2.2.1 y2.2.2.2.2.1 y2.2.2.2.2.2).1 (saveStepV y2.1 y2.2.1 y2.2.2.1 y2.2.2.2.1 y2.2.2.2.2.1 y2.2.2.2.2.2).2.1 (saveStepV y2.1 y2.2.1 y2.2.2.1 y2.2.2.2.1 y2.2.2.2.2.1 y2.2.2.2.2.2).2.2.1 (saveStepV y2.1 y2.2.1 y2.2.2.1 y2.2.2.2.1 y2.2.2.2.2.1 y2.2.2.2.2.2).2.2.2.1 (saveStepV y2.1 y2.2.1 y2.2.2.1 y2.2.2.2.1 y2.2.2.2.2.1 y2.2.2.2.2.2).2.2.2.2.1 (saveStepV y2.1 y2.2.1 y2.2.2.1 y2.2.2.2.1 y2.2.2.2.2.1 y2.2.2.2.2.2).2.2.2.2.2.1 (1 : Int)).1))
 (.ret (((false, ()), ()), ((), ())))
 (.get (toSaverV a0 a1 a2 a3 a4 a5) fun y4 =>
 .ite ((!(eqSaverV (saveStepV y4.1 y4.2.1 y4.2.2.1 y4.2.2.2.1 y4.2.2.2.2.1 y4.2.2.2.2.2).1 (saveStepV y4.1 y4.2.1 y4.2.2.1 y4.2.2.2.1 y4.2.2.2.2.1 y4.2.2.2.2.2).2.1 (saveStepV y4.1 y4.2.1 y4.2.2.1 y4.2.2.2.1 y4.2.2.2.2.1 y4.2.2.2.2.2).2.2.1 (saveStepV y4.1 y4.2.1 y4.2.2.1 y4.2.2.2.1 y4.2.2.2.2.1 y4.2.2.2.2.2).2.2.2.1 (saveStepV y4.1 y4.2.1 y4.2.2.1 y4.2.2.2.1 y4.2.2.2.2.1 y4.2.2.2.2.2).2.2.2.2.1 (saveStepV y4.1 y4.2.1 y4.2.2.1 y4.2.2.2.1 y4.2.2.2.2.1 y4.2.2.2.2.2).2.2.2.2.2.1 (saveStepV y1.1 y1.2.1 y1.2.2.1 y1.2.2.2.1 y1.2.2.2.2.1 y1.2.2.2.2.2).1 (saveStepV y1.1 y1.2.1 y1.2.2.1 y1.2.2.2.1 y1.2.2.2.2.1 y1.2.2.2.2.2).2.1 (saveStepV y1.1 y1.2.1 y1.2.2.1 y1.2.2.2.1 y1.2.2.2.2.1 y1.2.2.2.2.2).2.2.1 (saveStepV y1.1 y1.2.1 y1.2.2.1 y1.2.2.2.1 y1.2.2.2.2.1 y1.2.2.2.2.2).2.2.2.1 (saveStepV y1.1 y1.2.1 y1.2.2.1 y1.2.2.2.1 y1.2.2.2.2.1 y1.2.2.2.2.2).2.2.2.2.1 (saveStepV y1.1 y1.2.1 y1.2.2.1 y1.2.2.2.1 y1.2.2.2.2.1 y1.2.2.2.2.2).2.2.2.2.2.1)) == false)
 (.ite (!((saveStepV y4.1 y4.2.1 y4.2.2.1 y4.2.2.2.1 y4.2.2.2.2.1 y4.2.2.2.2.2).2.2.2.2.2.2 == (saveStepV y1.1 y1.2.1 y1.2.2.1 y1.2.2.2.1 y1.2.2.2.2.1 y1.2.2.2.2.2).2.2.2.2.2.2))
 (.ret (((false, ()), ()), ((), ())))
 (.ite (decide ((heldSaverV (markSaverV (saveStepV y2.1 y2.2.1 y2.2.2.1 y2.2.2.2.1 y2.2.2.2.2.1 y2.2.2.2.2.2).1 (saveStepV y2.1 y2.2.1 y2.2.2.1 y2.2.2.2.1 y2.2.2.2.2.1 y2.2.2.2.2.2).2.1 (saveStepV y2.1 y2.2.1 y2.2.2.1 y2.2.2.2.1 y2.2.2.2.2.1 y2.2.2.2.2.2).2.2.1 (saveStepV y2.1 y2.2.1 y2.2.2.1 y2.2.2.2.1 y2.2.2.2.2.1 y2.2.2.2.2.2).2.2.2.1 (saveStepV y2.1 y2.2.1 y2.2.2.1 y2.2.2.2.1 y2.2.2.2.2.1 y2.2.2.2.2.2).2.2.2.2.1 (saveStepV y2.1 y2.2.1 y2.2.2.1 y2.2.2.2.1 y2.2.2.2.2.1 y2.2.2.2.2.2).2.2.2.2.2.1 (1 : Int)).2.1 (markSaverV (saveStepV y2.1 y2.2.1 y2.2.2.1 y2.2.2.2.1 y2.2.2.2.2.1 y2.2.2.2.2.2).1 (saveStepV y2.1 y2.2.1 y2.2.2.1 y2.2.2.2.1 y2.2.2.2.2.1 y2.2.2.2.2.2).2.1 (saveStepV y2.1 y2.2.1 y2.2.2.1 y2.2.2.2.1 y2.2.2.2.2.1 y2.2.2.2.2.2).2.2.1 (saveStepV y2.1 y2.2.1 y2.2.2.1 y2.2.2.2.1 y2.2.2.2.2.1 y2.2.2.2.2.2).2.2.2.1 (saveStepV y2.1 y2.2.1 y2.2.2.1 y2.2.2.2.1 y2.2.2.2.2.1 y2.2.2.2.2.2).2.2.2.2.1 (saveStepV y2.1 y2.2.1 y2.2.2.1 y2.2.2.2.1 y2.2.2.2.2.1 y2.2.2.2.2.2).2.2.2.2.2.1 (1 : Int)).2.2.1 (markSaverV (saveStepV y2.1 y2.2.1 y2.2.2.1 y2.2.2.2.1 y2.2.2.2.2.1 y2.2.2.2.2.2).1 (saveStepV y2.1 y2.2.1 y2.2.2.1 y2.2.2.2.1 y2.2.2.2.2.1 y2.2.2.2.2.2).2.1 (saveStepV y2.1 y2.2.1 y2.2.2.1 y2.2.2.2.1 y2.2.2.2.2.1 y2.2.2.2.2.2).2.2.1 (saveStepV y2.1 y2.2.1 y2.2.2.1 y2.2.2.2.1 y2.2.2.2.2.1 y2.2.2.2.2.2).2.2.2.1 (saveStepV y2.1 y2.2.1 y2.2.2.1 y2.2.2.2.1 y2.2.2.2.2.1 y2.2.2.2.2.2).2.2.2.2.1 (saveStepV y2.1 y2.2.1 y2.2.2.1 y2.2.2.2.1 y2.2.2.2.2.1 y2.2.2.2.2.2).2.2.2.2.2.1 (1 : Int)).2.2.2.1 (markSaverV (saveStepV y2.1 y2.2.1 y2.2.2.1 y2.2.2.2.1 y2.2.2.2.2.1 y2.2.2.2.2.2).1 (saveStepV y2.1 y2.2.1 y2.2.2.1 y2.2.2.2.1 y2.2.2.2.2.1 y2.2.2.2.2.2).2.1 (saveStepV y2.1 y2.2.1 y2.2.2.1 y2.2.2.2.1 y2.2.2.2.2.1 y2.2.2.2.2.2).2.2.1 (saveStepV y2.1 y2.2.1 y2.2.2.1 y2.2.2.2.1 y2.2.2.2.2.1 y2.2.2.2.2.2).2.2.2.1 (saveStepV y2.1 y2.2.1 y2.2.2.1 y2.2.2.2.1 y2.2.2.2.2.1 y2.2.2.2.2.2).2.2.2.2.1 (saveStepV y2.1 y2.2.1 y2.2.2.1 y2.2.2.2.1 y2.2.2.2.2.1 y2.2.2.2.2.2).2.2.2.2.2.1 (1 : Int)).2.2.2.2 (saveStepV y2.1 y2.2.1 y2.2.2.1 y2.2.2.2.1 y2.2.2.2.2.1 y2.2.2.2.2.2).2.2.2.2.1 (saveStepV y2.1 y2.2.1 y2.2.2.1 y2.2.2.2.1 y2.2.2.2.2.1 y2.2.2.2.2.2).2.2.2.2.2.1 (1 : Int)) < (0 : Int)))
 (.ret (((false, ()), ()), ((), ())))
 (.ite (((heldSaverV (markSaverV (saveStepV y2.1 y2.2.1 y2.2.2.1 y2.2.2.2.1 y2.2.2.2.2.1 y2.2.2.2.2.2).1 (saveStepV y2.1 y2.2.1 y2.2.2.1 y2.2.2.2.1 y2.2.2.2.2.1 y2.2.2.2.2.2).2.1 (saveStepV y2.1 y2.2.1 y2.2.2.1 y2.2.2.2.1 y2.2.2.2.2.1 y2.2.2.2.2.2).2.2.1 (saveStepV y2.1 y2.2.1 y2.2.2.1 y2.2.2.2.1 y2.2.2.2.2.1 y2.2.2.2.2.2).2.2.2.1 (saveStepV y2.1 y2.2.1 y2.2.2.1 y2.2.2.2.1 y2.2.2.2.2.1 y2.2.2.2.2.2).2.2.2.2.1 (saveStepV y2.1 y2.2.1 y2.2.2.1 y2.2.2.2.1 y2.2.2.2.2.1 y2.2.2.2.2.2).2.2.2.2.2.1 (1 : Int)).2.1 (markSaverV (saveStepV y2.1 y2.2.1 y2.2.2.1 y2.2.2.2.1 y2.2.2.2.2.1 y2.2.2.2.2.2).1 (saveStepV y2.1 y2.2.1 y2.2.2.1 y2.2.2.2.1 y2.2.2.2.2.1 y2.2.2.2.2.2).2.1 (saveStepV y2.1 y2.2.1 y2.2.2.1 y2.2.2.2.1 y2.2.2.2.2.1 y2.2.2.2.2.2).2.2.1 (saveStepV y2.1 y2.2.1 y2.2.2.1 y2.2.2.2.1 y2.2.2.2.2.1 y2.2.2.2.2.2).2.2.2.1 (saveStepV y2.1 y2.2.1 y2.2.2.1 y2.2.2.2.1 y2.2.2.2.2.1 y2.2.2.2.2.2).2.2.2.2.1 (saveStepV y2.1 y2.2.1 y2.2.2.1 y2.2.2.2.1 y2.2.2.2.2.1 y2.2.2.2.2.2).2.2.2.2.2.1 (1 : Int)).2.2.1 (markSaverV (saveStepV y2.1 y2.2.1 y2.2.2.1 y2.2.2.2.1 y2.2.2.2.2.1 y2.2.2.2.2.2).1 (saveStepV y2.1 y2.2.1 y2.2.2.1 y2.2.2.2.1 y2.2.2.2.2.1 y2.2.2.2.2.2).2.1 (saveStepV y2.1 y2.2.1 y2.2.2.1 y2.2.2.2.1 y2.2.2.2.2.1 y2.2.2.2.2.2).2.2.1 (saveStepV y2.1 y2.2.1 y2.2.2.1 y2.2.2.2.1 y2.2.2.2.2.1 y2.2.2.2.2.2).2.2.2.1 (saveStepV y2.1 y2.2.1 y2.2.2.1 y2.2.2.2.1 y2.2.2.2.2.1 y2.2.2.2.2.2).2.2.2.2.1 (saveStepV y2.1 y2.2.1 y2.2.2.1 y2.2.2.2.1 y2.2.2.2.2.1 y2.2.2.2.2.2).2.2.2.2.2.1 (1 : Int)).2.2.2.1 (markSaverV (saveStepV y2.1 y2.2.1 y2.2.2.1 y2.2.2.2.1 y2.2.2.2.2.1 y2.2.2.2.2.2).1 (saveStepV y2.1 y2.2.1 y2.2.2.1 y2.2.2.2.1 y2.2.2.2.2.1 y2.2.2.2.2.2).2.1 (saveStepV y2.1 y2.2.1 y2.2.2.1 y2.2.2.2.1 y2.2.2.2.2.1 y2.2.2.2.2.2).2.2.1 (saveStepV y2.1 y2.2.1 y2.2.2.1 y2.2.2.2.1 y2.2.2.2.2.1 y2.2.2.2.2.2).2.2.2.1 (saveStepV y2.1 y2.2.1 y2.2.2.1 y2.2.2.2.1 y2.2.2.2.2.1 y2.2.2.2.2.2).2.2.2.2.1 (saveStepV y2.1 y2.2.1 y2.2.2.1 y2.2.2.2.1 y2.2.2.2.2.1 y2.2.2.2.2.2).2.2.2.2.2.1 (1 : Int)).2.2.2.2 (saveStepV y2.1 y2.2.1 y2.2.2.1 y2.2.2.2.1 y2.2.2.2.2.1 y2.2.2.2.2.2).2.2.2.2.1 (saveStepV y2.1 y2.2.1 y2.2.2.1 y2.2.2.2.1 y2.2.2.2.2.1 y2.2.2.2.2.2).2.2.2.2.2.1 (1 : Int)) != (markSaverV (saveStepV y2.1 y2.2.1 y2.2.2.1 y2.2.2.2.1 y2.2.2.2.2.1 y2.2.2.2.2.2).1 (saveStepV y2.1 y2.2.1 y2.2.2.1 y2.2.2.2.1 y2.2.2.2.2.1 y2.2.2.2.2.2).2.1 (saveStepV y2.1 y2.2.1 y2.2.2.1 y2.2.2.2.1 y2.2.2.2.2.1 y2.2.2.2.2.2).2.2.1 (saveStepV y2.1 y2.2.1 y2.2.2.1 y2.2.2.2.1 y2.2.2.2.2.1 y2.2.2.2.2.2).2.2.2.1 (saveStepV y2.1 y2.2.1 y2.2.2.1 y2.2.2.2.1 y2.2.2.2.2.1 y2.2.2.2.2.2).2.2.2.2.1 (saveStepV y2.1 y2.2.1 y2.2.2.1 y2.2.2.2.1 y2.2.2.2.2.1 y2.2.2.2.2.2).2.2.2.2.2.1 (1 : Int)).1))
 (.ret (((false, ()), ()), ((), ())))
 (.ret (((true, ()), ()), ((), ()))))))
 (.ret (((false, ()), ()), ((), ())))))))
 (.ret (((false, ()), ()), ((), ()))))
 (.ret (((false, ()), ()), ((), ()))))))
 (.ret (((false, ()), ()), ((), ()))))
def true6 (_ : List Str) (_ : List WriteD) (_ _ : List FileD) (_ _ : Int) : Bool := true
def k24 : Con := { f := 24, lend := true, its := [⟨false, true, [.ro .str, .ro (.st (.cons (.int .i64) (.cons .str .nil))), .ro (.st (.cons (.int .i64) (.cons (.sl (.int .i64)) .nil))), .ro (.st (.cons (.int .i64) (.cons (.sl (.int .i64)) .nil))), .i .i64, .i .i64]⟩], lay := [none], rs := [⟨false, false, [.b]⟩], F := fun x => .ret ((((true6 x.1.1 x.1.2.1 x.1.2.2.1 x.1.2.2.2.1 x.1.2.2.2.2.1 x.1.2.2.2.2.2.1), ()), ()), ((), ())) }
theorem f24_eq (x : itemsD k24.its) : bodyOut (cxOf [k77, k79, k114, k107, k52, k53, k54]) (fun _ => none) (codeOf Try.f24) k24.its k24.lay Try.f24.ntmps k24.rs [.tmp 2] x = f24_tree x.1.1 x.1.2.1 x.1.2.2.1 x.1.2.2.2.1 x.1.2.2.2.2.1 x.1.2.2.2.2.2.1 := by kernel_rfl
theorem f24_ok (hr : ∀ x : (List (List UInt8) × List (Int × List UInt8 × Unit) × List (Int × List Int × Unit) × List (Int × List Int × Unit) × Int × Int × Unit) × Unit, itemsWF k24.its x → (f24_tree x.1.1 x.1.2.1 x.1.2.2.1 x.1.2.2.2.1 x.1.2.2.2.2.1 x.1.2.2.2.2.2.1).eval = (k24.F x).eval) : k24.Ok Try.prog :=
  con_fn [k77, k79, k114, k107, k52, k53, k54] ⟨k77_ok, k79_ok, k114_ok, k107_ok, k52_ok, k53_ok, k54_ok, trivial⟩ (by kernel_rfl) (codeOf_eq (by kernel_rfl)) (by kernel_rfl) (by kernel_rfl) (by kernel_rfl) f24_eq fun x hw _ hy => (hr x hw).trans hy
theorem mem_big {α : Type} {p : α → Prop} {a : List α} (h : ∀ (i : Nat) (y : α), a[i]? = some y → p y) : ∀ x ∈ a, p x := fun x hx => by
  obtain ⟨i, hi⟩ := List.getElem?_of_mem hx
  exact h i x hi
theorem k24_ok : k24.Ok Try.prog := by
  refine f24_ok fun x hw => ?_
  obtain ⟨⟨a, b, c, d, q, p, _⟩, _⟩ := x
  have ha : a.length ≤ BIG := hw.1.1.1
  have ha' : ∀ x ∈ a, x.length ≤ BIG := mem_big hw.1.1.2
  have hb : b.length ≤ BIG := hw.1.2.1.1
  have hb' : ∀ x ∈ b, x.2.1.length ≤ BIG := mem_big fun i y hy => (hw.1.2.1.2 i y hy).2.1
  have hc : c.length ≤ BIG := hw.1.2.2.1.1
  have hc' : ∀ x ∈ c, x.2.1.length ≤ BIG := mem_big fun i y hy => (hw.1.2.2.1.2 i y hy).2.1.1
  have hd : d.length ≤ BIG := hw.1.2.2.2.1.1
  have hd' : ∀ x ∈ d, x.2.1.length ≤ BIG := mem_big fun i y hy => (hw.1.2.2.2.1.2 i y hy).2.1.1
  show (f24_tree a b c d q p).eval = some (((true, ()), ()), ((), ()))
  unfold f24_tree
  by_cases h1 : szSaverV a b c d q p 1048576 < 0
  · rw [eval_ite_t (decide_eq_true h1)]; rfl
  rw [eval_ite_f (decide_eq_false h1)]
  have s1 := szSaver_le ha ha' hb hb' hc hc' hd hd' (by omega) (by omega) h1
  have t1 := toSaverV_some (q := q) (p := p) s1.1.1 s1.1.2 s1.2.1.1 s1.2.1.2
  have hcnt := step_cnt a b c d q p
  have k : ¬ (markSaverV a b c d q p 1).1 < 0 := by
    rw [markSaverV_up]
    refine up_nonneg ?_
    unfold cntS BIG
    omega
  generalize hR : saveStepV a b c d q p = r at hcnt
  obtain ⟨a', b', c', d', q', p', ok⟩ := r
  have m := held_markSaver (a := a') (b := b') (c := c') (d := d') (q := q') (p := p') (q' := q') (p' := p') (by dsimp only at hcnt; omega)
  simp [Out.eval, t1, hR, eqSaverV_self, m.1, m.2, k]

theorem f24_own : ownKnob Try.prog.godebug = none := by kernel_rfl
set_option maxRecDepth 100000 in
theorem f24_contract (H : Type) (enc : TypeId × Value → H) (W : World) (base : Nat) (args : Array Value) (ds gs : List (DataW H)) (before : List MemPlace)
    (hval : ∀ (j : Nat) t v, Try.f24.params[j]? = some t → args[j]? = some v → Value.okWide Try.prog W .any base t v)
    (hW : DataW.Whole enc Try.prog Try.f24.params.toList Rows.fnExactSaveStepSpec.vars false W args.toList ds gs before) :
    Calls Try.prog 24 args W fun e W' => ∃ v, e = .returned v ∧ Rows.fnExactSaveStepSpec.post enc Try.prog Try.f24 false true false false W args v W' := by
  have hW' := hW
  obtain ⟨p, q, hA0, hV, rfl, _, _⟩ := hW
  have hA : DataW.TrodAll enc Try.prog W 0 (fun _ => true) true [97] args.toList ds p := hA0
  have hlt := hW'.lt
  obtain ⟨rfl, rfl⟩ := trodVars_none hV
  simp only [List.append_nil] at hW' hlt
  have hlen : ds.length = 1 := (trodAll_length hA).2
  obtain ⟨d0, e0⟩ := List.length_eq_one_iff.1 hlen
  subst e0
  have hu : Try.prog.underlying 4 = some .bool := by kernel_rfl
  refine (law_calls (ts := [(.st (.cons (.st (.cons (.sl .str) (.cons (.sl (.st (.cons (.int .i64) (.cons .str .nil)))) .nil))) (.cons (.sl (.st (.cons (.int .i64) (.cons (.sl (.int .i64)) .nil)))) (.cons (.sl (.st (.cons (.int .i64) (.cons (.sl (.int .i64)) .nil)))) (.cons (.int .i64) (.cons (.int .i64) .nil))))))]) (tids := [97]) (f := 24) (lend := k24.lend) (F := k24.F) k24_ok (parsB_ok (by kernel_rfl)) (fun x hw => ?_) (b0 := base) (fun j t v ht hv => hval j t v ?_ hv) hA).mono fun e W' ⟨he, hg, hs⟩ => ?_
  · exact ⟨_, rfl⟩
  · rw [← ht, Try.params24]; first | rfl | simp
  · subst he
    exact ⟨_, rfl, post_of_same (pa := p) (pv := []) hW' (fun _ _ _ => trodAll_mk1 (shut_bool hu true)) (fun sp hsp => trodAll_stays (by kernel_rfl) hs (by kernel_rfl) hA hlt hsp) (fun _ _ => rfl) (by simp) (hg.frame _) hg.2.1 (ok_one (by kernel_rfl) rfl (okWide_bool_mk hu true))⟩
set_option maxRecDepth 100000 in
theorem f24_lifted (os : Os) (started : os.Started) (H : Type) (enc : TypeId × Value → H) :
    ReturnsInHanded {} Try.checked os 24 .any (Rows.fnExactSaveStepSpec.pre6 enc Try.prog Try.f24 Rows.fnExactSaveStepRow.domain false) (Rows.fnExactSaveStepSpec.post enc Try.prog Try.f24 false true false false) := by
  refine returnsInHanded_of_change (C := Try.checked) f24_own started (by kernel_rfl) Try.func24
    (ChangeSpec.witness6 (enc := enc) (C := Try.checked) false ⟨#[], #[.agg #[.slice none 0 0, .slice none 0 0, .slice none 0 0, .slice none 0 0, .int .i64 0, .int .i64 0]], []⟩ 8 (by kernel_rfl) (by kernel_rfl) (by kernel_rfl) (by kernel_rfl)) ?_
  intro W base args ds gs before hval hW _ _
  exact f24_contract H enc W base args ds gs before hval hW
theorem f24_closed : joinedFacts Try.prog 24 Try.f24 Rows.fnExactSaveStepSpec Rows.fnExactSaveStepRow = true := by
  unfold joinedFacts
  rw [mayEnter_ok, lifts_ok, make_ok]
  kernel_rfl
theorem f24_said : Rows.FnExactSaveStepSaid :=
  OpenClaim.holds_of_wide 24 Try.f24 rfl rfl rfl rfl rfl rfl rfl ⟨rfl, rfl, rfl, rfl, rfl⟩ rfl rfl rfl rfl rfl (by kernel_rfl) Try.func24 f24_closed
    (of_decide_eq_true (by kernel_rfl)) (by unfold Func.isWrapper; first | (rw [if_pos (by decide +kernel)]; kernel_rfl) | (rw [if_neg (by decide +kernel)]; exact ⟨rfl, rfl⟩))
    (fun os started H enc _ => f24_lifted os started H enc)
end Go.Proofs.Ytjcinikojcfebaa.Dm
namespace Go.Proofs.Ytjcinikojcfebaa
theorem fnExactSaveStep_said : Rows.FnExactSaveStepSaid := Dm.f24_said
end Go.Proofs.Ytjcinikojcfebaa
namespace Go.Proofs.Ytjcinikojcfebaa.Dm


end Go.Proofs.Ytjcinikojcfebaa.Dm
