/- f -/
import Derived.Test.YtnnpnkegpkladaaGreatL9
import Derived.Test.YtnnpnkegpkladaaGreatFacts
import Derived.Test.YtnnpnkegpkladaaGreatRows
import Derived.ChangeCalls
namespace Go.Proofs.YtnnpnkegpkladaaGreat.Dm
open Go Go.ChangeShapes Go.WideShapes Go.ChangeAt Go.RowKit
def f4_tree (a0 : List (List (Int × Int × Int × Int × Unit))) (a1 : Int) : Out (((Bool × Unit) × Unit) × XI) :=
 .get (szInsSSV a0 (1048576 : Int)) fun y1 =>
 .ite (decide (y1 < (0 : Int)))
 (.ret (((true, ()), ()), ((), (), ())))
 (.get (toInsSSV a0) fun y2 =>
 .get (k14_V y2 a1) fun y3 =>
 .get (toInsSSV a0) fun y4 =>
 .get (k9_V y4 a1) fun y5 =>
 .ite ((!(eqLiveV y5.1.1.1 y5.1.1.2.1 y5.1.1.2.2.1 y5.1.1.2.2.2.1 y5.1.1.2.2.2.2.1 y5.1.1.2.2.2.2.2.1 y5.1.1.2.2.2.2.2.2.1 y5.1.1.2.2.2.2.2.2.2.1 y5.1.1.2.2.2.2.2.2.2.2.1 y5.1.1.2.2.2.2.2.2.2.2.2.1 y5.1.1.2.2.2.2.2.2.2.2.2.2.1 y5.1.1.2.2.2.2.2.2.2.2.2.2.2.1 y5.1.1.2.2.2.2.2.2.2.2.2.2.2.2.1 y5.1.1.2.2.2.2.2.2.2.2.2.2.2.2.2.1 y5.1.1.2.2.2.2.2.2.2.2.2.2.2.2.2.2.1 y5.1.1.2.2.2.2.2.2.2.2.2.2.2.2.2.2.2.1 y5.1.1.2.2.2.2.2.2.2.2.2.2.2.2.2.2.2.2.1 y5.1.1.2.2.2.2.2.2.2.2.2.2.2.2.2.2.2.2.2.1 y5.1.1.2.2.2.2.2.2.2.2.2.2.2.2.2.2.2.2.2.2.1 y5.1.1.2.2.2.2.2.2.2.2.2.2.2.2.2.2.2.2.2.2.2.1 y5.1.1.2.2.2.2.2.2.2.2.2.2.2.2.2.2.2.2.2.2.2.2.1 y5.1.1.2.2.2.2.2.2.2.2.2.2.2.2.2.2.2.2.2.2.2.2.2.1 y5.1.1.2.2.2.2.2.2.2.2.2.2.2.2.2.2.2.2.2.2.2.2.2.2.1 y5.1.1.2.2.2.2.2.2.2.2.2.2.2.2.2.2.2.2.2.2.2.2.2.2.2.1 y5.1.1.2.2.2.2.2.2.2.2.2.2.2.2.2.2.2.2.2.2.2.2.2.2.2.2.1 y5.1.1.2.2.2.2.2.2.2.2.2.2.2.2.2.2.2.2.2.2.2.2.2.2.2.2.2.1 y3.1.1.1 y3.1.1.2.1 y3.1.1.2.2.1 y3.1.1.2.2.2.1 y3.1.1.2.2.2.2.1 y3.1.1.2.2.2.2.2.1 y3.1.1.2.2.2.2.2.2.1 y3.1.1.2.2.2.2.2.2.2.1 y3.1.1.2.2.2.2.2.2.2.2.1 y3.1.1.2.2.2.2.2.2.2.2.2.1 y3.1.1.2.2.2.2.2.2.2.2.2.2.1 y3.1.1.2.2.2.2.2.2.2.2.2.2.2.1 y3.1.1.2.2.2.2.2.2.2.2.2.2.2.2.1 y3.1.1.2.2.2.2.2.2.2.2.2.2.2.2.2.1 y3.1.1.2.2.2.2.2.2.2.2.2.2.2.2.2.2.1 y3.1.1.2.2.2.2.2.2.2.2.2.2.2.2.2.2.2.1 y3.1.1.2.2.2.2.2.2.2.2.2.2.2.2.2.2.2.2.1 y3.1.1.2.2.2.2.2.2.2.2.2.2.2.2.2.2.2.2.2.1 y3.1.1.2.2.2.2.2.2.2.2.2.2.2.2.2.2.2.2.2.2.1 y3.1.1.2.2.2.2.2.2.2.2.2.2.2.2.2.2.2.2.2.2.2.1 y3.1.1.2.2.2.2.2.2.2.2.2.2.2.2.2.2.2.2.2.2.2.2.1 y3.1.1.2.2.2.2.2.2.2.2.2.2.2.2.2.2.2.2.2.2.2.2.2.1 y3.1.1.2.2.2.2.2.2.2.2.2.2.2.2.2.2.2.2.2.2.2.2.2.2.1 y3.1.1.2.2.2.2.2.2.2.2.2.2.2.2.2.2.2.2.2.2.2.2.2.2.2.1 y3.1.1.2.2.2.2.2.2.2.2.2.2.2.2.2.2.2.2.2.2.2.2.2.2.2.2.1 y3.1.1.2.2.2.2.2.2.2.2.2.2.2.2.2.2.2.2.2.2.2.2.2.2.2.2.2.1)) == false)
 (.ite (!(y5.1.2.1.1 == y3.1.2.1.1))
 (.ret (((false, ()), ()), ((), (), ())))
 (.get (toInsSSV a0) fun y6 =>
 .ite (!(eqInsSSV y4 y6))
 (.ret (((false, ()), ()), ((), (), ())))
 (.get (markInsSSV y4 (1 : Int)) fun y7 =>
 .ite ((decide (y7.1 < (0 : Int))) == false)
 (.ite ((!(eqLiveV y5.1.1.1 y5.1.1.2.1 y5.1.1.2.2.1 y5.1.1.2.2.2.1 y5.1.1.2.2.2.2.1 y5.1.1.2.2.2.2.2.1 y5.1.1.2.2.2.2.2.2.1 y5.1.1.2.2.2.2.2.2.2.1 y5.1.1.2.2.2.2.2.2.2.2.1 y5.1.1.2.2.2.2.2.2.2.2.2.1 y5.1.1.2.2.2.2.2.2.2.2.2.2.1 y5.1.1.2.2.2.2.2.2.2.2.2.2.2.1 y5.1.1.2.2.2.2.2.2.2.2.2.2.2.2.1 y5.1.1.2.2.2.2.2.2.2.2.2.2.2.2.2.1 y5.1.1.2.2.2.2.2.2.2.2.2.2.2.2.2.2.1 y5.1.1.2.2.2.2.2.2.2.2.2.2.2.2.2.2.2.1 y5.1.1.2.2.2.2.2.2.2.2.2.2.2.2.2.2.2.2.1 y5.1.1.2.2.2.2.2.2.2.2.2.2.2.2.2.2.2.2.2.1 y5.1.1.2.2.2.2.2.2.2.2.2.2.2.2.2.2.2.2.2.2.1 y5.1.1.2.2.2.2.2.2.2.2.2.2.2.2.2.2.2.2.2.2.2.1 y5.1.1.2.2.2.2.2.2.2.2.2.2.2.2.2.2.2.2.2.2.2.2.1 y5.1.1.2.2.2.2.2.2.2.2.2.2.2.2.2.2.2.2.2.2.2.2.2.1 y5.1.1.2.2.2.2.2.2.2.2.2.2.2.2.2.2.2.2.2.2.2.2.2.2.1 y5.1.1.2.2.2.2.2.2.2.2.2.2.2.2.2.2.2.2.2.2.2.2.2.2.2.1 y5.1.1.2.2.2.2.2.2.2.2.2.2.2.2.2.2.2.2.2.2.2.2.2.2.2.2.1 y5.1.1.2.2.2.2.2.2.2.2.2.2.2.2.2.2.2.2.2.2.2.2.2.2.2.2.2.1 y3.1.1.1 y3.1.1.2.1 y3.1.1.2.2.1 y3.1.1.2.2.2.1 y3.1.1.2.2.2.2.1 y3.1.1.2.2.2.2.2.1 y3.1.1.2.2.2.2.2.2.1 y3.1.1.2.2.2.2.2.2.2.1 y3.1.1.2.2.2.2.2.2.2.2.1 y3.1.1.2.2.2.2.2.2.2.2.2.1 y3.1.1.2.2.2.2.2.2.2.2.2.2.1 y3.1.1.2.2.2.2.2.2.2.2.2.2.2.1 y3.1.1.2.2.2.2.2.2.2.2.2.2.2.2.1 y3.1.1.2.2.2.2.2.2.2.2.2.2.2.2.2.1 y3.1.1.2.2.2.2.2.2.2.2.2.2.2.2.2.2.1 y3.1.1.2.2.2.2.2.2.2.2.2.2.2.2.2.2.2.1 y3.1.1.2.2.2.2.2.2.2.2.2.2.2.2.2.2.2.2.1 y3.1.1.2.2.2.2.2.2.2.2.2.2.2.2.2.2.2.2.2.1 y3.1.1.2.2.2.2.2.2.2.2.2.2.2.2.2.2.2.2.2.2.1 y3.1.1.2.2.2.2.2.2.2.2.2.2.2.2.2.2.2.2.2.2.2.1 y3.1.1.2.2.2.2.2.2.2.2.2.2.2.2.2.2.2.2.2.2.2.2.1 y3.1.1.2.2.2.2.2.2.2.2.2.2.2.2.2.2.2.2.2.2.2.2.2.1 y3.1.1.2.2.2.2.2.2.2.2.2.2.2.2.2.2.2.2.2.2.2.2.2.2.1 y3.1.1.2.2.2.2.2.2.2.2.2.2.2.2.2.2.2.2.2.2.2.2.2.2.2.1 y3.1.1.2.2.2.2.2.2.2.2.2.2.2.2.2.2.2.2.2.2.2.2.2.2.2.2.1 y3.1.1.2.2.2.2.2.2.2.2.2.2.2.2.2.2.2.2.2.2.2.2.2.2.2.2.2.1)) == false)
 (.ite (!(y5.1.2.1.1 == y3.1.2.1.1))
 (.ret (((false, ()), ()), ((), (), ())))
 (.get (markLiveV y5.1.1.1 y5.1.1.2.1 y5.1.1.2.2.1 y5.1.1.2.2.2.1 y5.1.1.2.2.2.2.1 y5.1.1.2.2.2.2.2.1 y5.1.1.2.2.2.2.2.2.1 y5.1.1.2.2.2.2.2.2.2.1 y5.1.1.2.2.2.2.2.2.2.2.1 y5.1.1.2.2.2.2.2.2.2.2.2.1 y5.1.1.2.2.2.2.2.2.2.2.2.2.1 y5.1.1.2.2.2.2.2.2.2.2.2.2.2.1 y5.1.1.2.2.2.2.2.2.2.2.2.2.2.2.1 y5.1.1.2.2.2.2.2.2.2.2.2.2.2.2.2.1 y5.1.1.2.2.2.2.2.2.2.2.2.2.2.2.2.2.1 y5.1.1.2.2.2.2.2.2.2.2.2.2.2.2.2.2.2.1 y5.1.1.2.2.2.2.2.2.2.2.2.2.2.2.2.2.2.2.1 y5.1.1.2.2.2.2.2.2.2.2.2.2.2.2.2.2.2.2.2.1 y5.1.1.2.2.2.2.2.2.2.2.2.2.2.2.2.2.2.2.2.2.1 y5.1.1.2.2.2.2.2.2.2.2.2.2.2.2.2.2.2.2.2.2.2.1 y5.1.1.2.2.2.2.2.2.2.2.2.2.2.2.2.2.2.2.2.2.2.2.1 y5.1.1.2.2.2.2.2.2.2.2.2.2.2.2.2.2.2.2.2.2.2.2.2.1 y5.1.1.2.2.2.2.2.2.2.2.2.2.2.2.2.2.2.2.2.2.2.2.2.2.1 y5.1.1.2.2.2.2.2.2.2.2.2.2.2.2.2.2.2.2.2.2.2.2.2.2.2.1 y5.1.1.2.2.2.2.2.2.2.2.2.2.2.2.2.2.2.2.2.2.2.2.2.2.2.2.1 y5.1.1.2.2.2.2.2.2.2.2.2.2.2.2.2.2.2.2.2.2.2.2.2.2.2.2.2.1 (1 : Int)) fun y8 =>
 .get (heldLiveV y5.1.1.1 y5.1.1.2.1 y5.1.1.2.2.1 y8.2.1 y8.2.2.1 y8.2.2.2.1 y8.2.2.2.2.1 y8.2.2.2.2.2.1 y8.2.2.2.2.2.2.1 y8.2.2.2.2.2.2.2.1 y5.1.1.2.2.2.2.2.2.2.2.2.2.1 y8.2.2.2.2.2.2.2.2.1 y5.1.1.2.2.2.2.2.2.2.2.2.2.2.2.1 y5.1.1.2.2.2.2.2.2.2.2.2.2.2.2.2.1 y8.2.2.2.2.2.2.2.2.2.1 y5.1.1.2.2.2.2.2.2.2.2.2.2.2.2.2.2.2.1 y5.1.1.2.2.2.2.2.2.2.2.2.2.2.2.2.2.2.2.1 y8.2.2.2.2.2.2.2.2.2.2.1 y8.2.2.2.2.2.2.2.2.2.2.2.1 y8.2.2.2.2.2.2.2.2.2.2.2.2.1 y8.2.2.2.2.2.2.2.2.2.2.2.2.2.1 y8.2.2.2.2.2.2.2.2.2.2.2.2.2.2.1 y8.2.2.2.2.2.2.2.2.2.2.2.2.2.2.2.1 y8.2.2.2.2.2.2.2.2.2.2.2.2.2.2.2.2.1 y8.2.2.2.2.2.2.2.2.2.2.2.2.2.2.2.2.2.1 y8.2.2.2.2.2.2.2.2.2.2.2.2.2.2.2.2.2.2 (1 : Int)) fun y9 =>
 .ite (decide (y9 < (0 : Int)))
 (.ret (((false, ()), ()), ((), (), ())))
 (.ite ((y9 != y8.1))
 (.ret (((false, ()), ()), ((), (), ())))
 (.get (toInsSSV a0) fun y10 =>
 .get (k9_V y10 a1) fun y11 =>
 .ite ((!(eqLiveV y11.1.1.1 y11.1.1.2.1 y11.1.1.2.2.1 y11.1.1.2.2.2.1 y11.1.1.2.2.2.2.1 y11.1.1.2.2.2.2.2.1 y11.1.1.2.2.2.2.2.2.1 y11.1.1.2.2.2.2.2.2.2.1 y11.1.1.2.2.2.2.2.2.2.2.1 y11.1.1.2.2.2.2.2.2.2.2.2.1 y11.1.1.2.2.2.2.2.2.2.2.2.2.1 y11.1.1.2.2.2.2.2.2.2.2.2.2.2.1 y11.1.1.2.2.2.2.2.2.2.2.2.2.2.2.1 y11.1.1.2.2.2.2.2.2.2.2.2.2.2.2.2.1 y11.1.1.2.2.2.2.2.2.2.2.2.2.2.2.2.2.1 y11.1.1.2.2.2.2.2.2.2.2.2.2.2.2.2.2.2.1 y11.1.1.2.2.2.2.2.2.2.2.2.2.2.2.2.2.2.2.1 y11.1.1.2.2.2.2.2.2.2.2.2.2.2.2.2.2.2.2.2.1 y11.1.1.2.2.2.2.2.2.2.2.2.2.2.2.2.2.2.2.2.2.1 y11.1.1.2.2.2.2.2.2.2.2.2.2.2.2.2.2.2.2.2.2.2.1 y11.1.1.2.2.2.2.2.2.2.2.2.2.2.2.2.2.2.2.2.2.2.2.1 y11.1.1.2.2.2.2.2.2.2.2.2.2.2.2.2.2.2.2.2.2.2.2.2.1 y11.1.1.2.2.2.2.2.2.2.2.2.2.2.2.2.2.2.2.2.2.2.2.2.2.1 y11.1.1.2.2.2.2.2.2.2.2.2.2.2.2.2.2.2.2.2.2.2.2.2.2.2.1 y11.1.1.2.2.2.2.2.2.2.2.2.2.2.2.2.2.2.2.2.2.2.2.2.2.2.2.1 y11.1.1.2.2.2.2.2.2.2.2.2.2.2.2.2.2.2.2.2.2.2.2.2.2.2.2.2.1 y3.1.1.1 y3.1.1.2.1 y3.1.1.2.2.1 y3.1.1.2.2.2.1 y3.1.1.2.2.2.2.1 y3.1.1.2.2.2.2.2.1 y3.1.1.2.2.2.2.2.2.1 y3.1.1.2.2.2.2.2.2.2.1 y3.1.1.2.2.2.2.2.2.2.2.1 y3.1.1.2.2.2.2.2.2.2.2.2.1 y3.1.1.2.2.2.2.2.2.2.2.2.2.1 y3.1.1.2.2.2.2.2.2.2.2.2.2.2.1 y3.1.1.2.2.2.2.2.2.2.2.2.2.2.2.1 y3.1.1.2.2.2.2.2.2.2.2.2.2.2.2.2.1 y3.1.1.2.2.2.2.2.2.2.2.2.2.2.2.2.2.1 y3.1.1.2.2.2.2.2.2.2.2.2.2.2.2.2.2.2.1 y3.1.1.2.2.2.2.2.2.2.2.2.2.2.2.2.2.2.2.1 y3.1.1.2.2.2.2.2.2.2.2.2.2.2.2.2.2.2.2.2.1 y3.1.1.2.2.2.2.2.2.2.2.2.2.2.2.2.2.2.2.2.2.1 y3.1.1.2.2.2.2.2.2.2.2.2.2.2.2.2.2.2.2.2.2.2.1 y3.1.1.2.2.2.2.2.2.2.2.2.2.2.2.2.2.2.2.2.2.2.2.1 y3.1.1.2.2.2.2.2.2.2.2.2.2.2.2.2.2.2.2.2.2.2.2.2.1 y3.1.1.2.2.2.2.2.2.2.2.2.2.2.2.2.2.2.2.2.2.2.2.2.2.1 y3.1.1.2.2.2.2.2.2.2.2.2.2.2.2.2.2.2.2.2.2.2.2.2.2.2.1 y3.1.1.2.2.2.2.2.2.2.2.2.2.2.2.2.2.2.2.2.2.2.2.2.2.2.2.1 y3.1.1.2.2.2.2.2.2.2.2.2.2.2.2.2.2.2.2.2.2.2.2.2.2.2.2.2.1)) == false)
 (.ite (!(y11.1.2.1.1 == y3.1.2.1.1))
 (.ret (((false, ()), ()), ((), (), ())))
 (.get (heldLiveV y5.1.1.1 y5.1.1.2.1 y5.1.1.2.2.1 y8.2.1 y8.2.2.1 y8.2.2.2.1 y8.2.2.2.2.1 y8.2.2.2.2.2.1 y8.2.2.2.2.2.2.1 y8.2.2.2.2.2.2.2.1 y5.1.1.2.2.2.2.2.2.2.2.2.2.1 y8.2.2.2.2.2.2.2.2.1 y5.1.1.2.2.2.2.2.2.2.2.2.2.2.2.1 y5.1.1.2.2.2.2.2.2.2.2.2.2.2.2.2.1 y8.2.2.2.2.2.2.2.2.2.1 y5.1.1.2.2.2.2.2.2.2.2.2.2.2.2.2.2.2.1 y5.1.1.2.2.2.2.2.2.2.2.2.2.2.2.2.2.2.2.1 y8.2.2.2.2.2.2.2.2.2.2.1 y8.2.2.2.2.2.2.2.2.2.2.2.1 y8.2.2.2.2.2.2.2.2.2.2.2.2.1 y8.2.2.2.2.2.2.2.2.2.2.2.2.2.1 y8.2.2.2.2.2.2.2.2.2.2.2.2.2.2.1 y8.2.2.2.2.2.2.2.2.2.2.2.2.2.2.2.1 y8.2.2.2.2.2.2.2.2.2.2.2.2.2.2.2.2.1 y8.2.2.2.2.2.2.2.2.2.2.2.2.2.2.2.2.2.1 y8.2.2.2.2.2.2.2.2.2.2.2.2.2.2.2.2.2.2 (1 : Int)) fun y12 =>
 .ite (decide (y12 < (0 : Int)))
 (.ret (((false, ()), ()), ((), (), ())))
 (.ite ((y12 != y8.1))
 (.ret (((false, ()), ()), ((), (), ())))
 (.ret (((true, ()), ()), ((), (), ()))))))
 (.ret (((false, ()), ()), ((), (), ())))))))
 (.ret (((false, ()), ()), ((), (), ()))))
 (.ret (((false, ()), ()), ((), (), ()))))))
 (.ret (((false, ()), ()), ((), (), ()))))
def trueLB (_ : List (List InsD)) (_ : Int) : Bool := true
def k4 : Con := { f := 4, lend := true, its := [⟨false, false, [.ro (.sl tyN)]⟩, ⟨false, false, [.i .i64]⟩], lay := [none, none], rs := [⟨false, false, [.b]⟩], F := fun x => .ret ((((trueLB x.1.1 x.2.1.1), ()), ()), ((), (), ())) }
theorem f4_eq (x : itemsD k4.its) : bo [k13, k15, k14, k9, k16, k17, k18, k19, k20] (fun _ => none) Tryz.f4 k4 [.tmp 4] x = f4_tree x.1.1 x.2.1.1 := by kernel_rfl
theorem f4_ok (hr : ∀ x : (List (List (Int × Int × Int × Int × Unit)) × Unit) × (Int × Unit) × Unit, itemsWF k4.its x → (f4_tree x.1.1 x.2.1.1).eval = (k4.F x).eval) : k4.Ok Tryz.prog := con_fn [k13, k15, k14, k9, k16, k17, k18, k19, k20] ⟨k13_ok, k15_ok, k14_ok, k9_ok, k16_ok, k17_ok, k18_ok, k19_ok, k20_ok, trivial⟩ f4_eq fun x hw _ hy => (hr x hw).trans hy
theorem k4_ok : k4.Ok Tryz.prog := by
 refine f4_ok fun x hw => ?_
 obtain ⟨⟨a0, _⟩, ⟨a1, _⟩, _⟩ := x
 have l0 : List.length a0 ≤ BIG := hw.1.1.1
 show (f4_tree a0 a1).eval = some ((((trueLB a0 a1), ()), ()), ((), (), ()))
 unfold f4_tree
 have e1 : szInsSSV a0 1048576 = some (if ((szcInsSS a0 : Nat) : Int) ≤ 1048576 then 1048576 - ((szcInsSS a0 : Nat) : Int) else -1) := szP_in (by decide) (by decide)
 rw [eval_get_some e1]
 by_cases q : ((szcInsSS a0 : Nat) : Int) ≤ 1048576
 case neg => rw [if_neg q, eval_ite_t (by decide)]; rfl
 rw [if_pos q, eval_ite_f (decide_eq_false (by omega))]
 have hs : szcInsSS a0 ≤ 1048576 := by omega
 have e2 : toInsSSV a0 = some a0 := toP_in hs
 obtain ⟨L, b, h9, h14, hN⟩ := live_cases a0 a1 hs
 obtain ⟨c0, c1, c2, c3, c4, c5, c6, c7, c8, c9, c10, c11, c12, c13, c14, c15, c16, c17, c18, c19, c20, c21, c22, c23, c24, c25, _⟩ := L
 obtain ⟨n, z, m1, m2⟩ := live_marks c0 c1 c2 c3 c4 c5 c6 c7 c8 c9 c10 c11 c12 c13 c14 c15 c16 c17 c18 c19 c20 c21 c22 c23 c24 c25 hN
 have g := mkcInsSS_le a0
 have e5 : markInsSSV a0 1 = some ((1 : Int) + ((mkcInsSS a0 : Nat) : Int), mkdInsSS 1 a0) := mkP_in (by decide) (by omega)
 have n1 : ¬ (1 : Int) + ((mkcInsSS a0 : Nat) : Int) < 0 := by omega
 have n2 : ¬ (1 : Int) + ((n : Nat) : Int) < 0 := by omega
 have s1 : eqLiveV c0 c1 c2 c3 c4 c5 c6 c7 c8 c9 c10 c11 c12 c13 c14 c15 c16 c17 c18 c19 c20 c21 c22 c23 c24 c25 c0 c1 c2 c3 c4 c5 c6 c7 c8 c9 c10 c11 c12 c13 c14 c15 c16 c17 c18 c19 c20 c21 c22 c23 c24 c25 = true := decide_eq_true rfl
 have s2 : eqInsSSV a0 a0 = true := decide_eq_true rfl
 refine (eval_get_some e2).trans ((eval_get_some h14).trans ((eval_get_some e2).trans ((eval_get_some h9).trans ?_)))
 refine (eval_ite_t (by rw [s1]; rfl)).trans ((eval_ite_f (by cases b <;> rfl)).trans ((eval_get_some e2).trans ((eval_ite_f (by rw [s2]; rfl)).trans ((eval_get_some e5).trans ?_))))
 refine (eval_ite_t (by rw [decide_eq_false n1]; rfl)).trans ((eval_ite_t (by rw [s1]; rfl)).trans ((eval_ite_f (by cases b <;> rfl)).trans ((eval_get_some m1).trans ((eval_get_some m2).trans ?_))))
 refine (eval_ite_f (decide_eq_false n2)).trans ((eval_ite_f (by simp)).trans ((eval_get_some e2).trans ((eval_get_some h9).trans ?_)))
 refine (eval_ite_t (by rw [s1]; rfl)).trans ((eval_ite_f (by cases b <;> rfl)).trans ((eval_get_some m2).trans ((eval_ite_f (decide_eq_false n2)).trans ((eval_ite_f (by simp)).trans ?_))))
 rfl
theorem f4_own : ownKnob Tryz.prog.godebug = none := by kernel_rfl
set_option maxRecDepth 100000 in
theorem f4_contract (H : Type) (enc : TypeId × Value → H) (W : World) (base : Nat) (args : Array Value) (ds gs : List (DataW H)) (before : List MemPlace)
 (hval : ∀ (j : Nat) t v, Tryz.f4.params[j]? = some t → args[j]? = some v → Value.okWide Tryz.prog W .any base t v)
 (hW : DataW.Whole enc Tryz.prog Tryz.f4.params.toList Rows.fnExactLiveBootSpec.vars false W args.toList ds gs before) :
 Calls Tryz.prog 4 args W fun e W' => ∃ v, e = .returned v ∧ Rows.fnExactLiveBootSpec.post enc Tryz.prog Tryz.f4 false true false false W args v W' := by
 have hW' := hW
 obtain ⟨p, q, hA0, hV, rfl, _, _⟩ := hW
 have hA : DataW.TrodAll enc Tryz.prog W 0 (fun _ => true) true [58, 3] args.toList ds p := hA0
 have hlt := hW'.lt
 obtain ⟨rfl, rfl⟩ := trodVars_none hV
 simp only [List.append_nil] at hW' hlt
 have hlen : ds.length = 2 := (trodAll_length hA).2
 rcases ds with _ | ⟨d0, _ | ⟨d1, _ | ⟨d2, dr⟩⟩⟩ <;> first | (simp at hlen; done) | skip
 have hu : Tryz.prog.underlying 4 = some .bool := by kernel_rfl
 refine (law_calls (ts := [(.sl (.sl tyN)), (.int .i64)]) (tids := [58, 3]) (f := 4) (lend := k4.lend) (F := k4.F) k4_ok (parsB_ok (by kernel_rfl)) (fun x hw => ?_) (b0 := base) (fun j t v ht hv => hval j t v ?_ hv) hA).mono fun e W' ⟨he, hg, hs⟩ => ?_
 . exact ⟨_, rfl⟩
 . rw [← ht, Tryz.params4]; first | rfl | simp
 . subst he
   exact ⟨_, rfl, post_of_kept (pa := p) (pv := []) hW' (fun _ _ _ => trodAll_mk1 (shut_bool hu true)) (fun sp hsp => trodAll_stays (by kernel_rfl) hs (by kernel_rfl) hA hlt hsp) (fun _ _ => rfl) (by simp) hg (ok_one (by kernel_rfl) rfl (okWide_bool_mk hu true))⟩
set_option maxRecDepth 100000 in
theorem f4_lifted (os : Os) (started : os.Started) (H : Type) (enc : TypeId × Value → H) :
 ReturnsInHanded {} Tryz.checked os 4 .any (Rows.fnExactLiveBootSpec.pre6 enc Tryz.prog Tryz.f4 Rows.fnExactLiveBootRow.domain false) (Rows.fnExactLiveBootSpec.post enc Tryz.prog Tryz.f4 false true false false) := by
 refine returnsInHanded_of_change (C := Tryz.checked) f4_own started (by kernel_rfl) Tryz.func4
  (ChangeSpec.witness6 (enc := enc) (C := Tryz.checked) false ⟨#[], #[.slice none 0 0, .int .i64 0], []⟩ 8 (by kernel_rfl) (by kernel_rfl) (by kernel_rfl) (by kernel_rfl)) ?_
 intro W base args ds gs before hval hW _ _
 exact f4_contract H enc W base args ds gs before hval hW
theorem f4_closed : joinedFacts Tryz.prog 4 Tryz.f4 Rows.fnExactLiveBootSpec Rows.fnExactLiveBootRow = true := by
 unfold joinedFacts
 rw [mayEnter_ok, lifts_ok, make_ok]
 kernel_rfl
theorem f4_said : Rows.FnExactLiveBootSaid :=
 OpenClaim.holds_of_wide 4 Tryz.f4 rfl rfl rfl rfl rfl rfl rfl ⟨rfl, rfl, rfl, rfl, rfl⟩ rfl rfl rfl rfl rfl (by kernel_rfl) Tryz.func4 f4_closed
  (of_decide_eq_true (by kernel_rfl)) (by unfold Func.isWrapper; first | (rw [if_pos (by decide +kernel)]; kernel_rfl) | (rw [if_neg (by decide +kernel)]; exact ⟨rfl, rfl⟩))
  (fun os started H enc _ => f4_lifted os started H enc)
end Go.Proofs.YtnnpnkegpkladaaGreat.Dm
namespace Go.Proofs.YtnnpnkegpkladaaGreat
theorem fnExactLiveBoot_said : Rows.FnExactLiveBootSaid := Dm.f4_said
end Go.Proofs.YtnnpnkegpkladaaGreat
namespace Go.Proofs.YtnnpnkegpkladaaGreat.Dm
end Go.Proofs.YtnnpnkegpkladaaGreat.Dm
