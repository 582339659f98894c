/- Functions of the program, and what they compute. -/
import Derived.Test.YtjcinikojcfebaaGreatA15
import Derived.Test.YtjcinikojcfebaaGreatFacts
import Derived.Test.YtjcinikojcfebaaGreatRows
import Derived.ChangeCalls
namespace Go.Proofs.YtjcinikojcfebaaGreat.Dm
open Go Go.ChangeShapes Go.WideShapes Go.ChangeAt Go.RowKit

theorem fall_cnt (a : List Str) (b : List WriteD) (c d : List FileD) (q p m : Int) : cntS (saveFallV a b c d q p m).1 (saveFallV a b c d q p m).2.1 (saveFallV a b c d q p m).2.2.1 (saveFallV a b c d q p m).2.2.2.1 ≤ 300 := by
  unfold saveFallV cntS
  split
  · rename_i h
    have hc := saver_cnt h
    split
    · simp only; omega
    · rename_i f o s hm
      have hp := mountP_ok hm
      have := cntF_ok hp.2.1
      have ha := applyV_len (fun i => bitE i m) a b
      simp only [putAll_len, cntF, List.length_nil]; omega
  · simp [cntF]
def f3_tree (a0 : List (List UInt8)) (a1 : List (Int × List UInt8 × Unit)) (a2 : List (Int × List Int × Unit)) (a3 : List (Int × List Int × Unit)) (a4 : Int) (a5 : Int) (a6 : Int) : Out (((Bool × Unit) × Unit) × (Unit × Unit × Unit)) :=
 .ite (decide ((szSaverV a0 a1 a2 a3 a4 a5 (1048576 : Int)) < (0 : Int)))
 (.ret (((true, ()), ()), ((), (), ())))
 (.get (toSaverV a0 a1 a2 a3 a4 a5) fun y1 =>
 .get (toSaverV a0 a1 a2 a3 a4 a5) fun y2 =>
 .ite ((!(eqSaverV (saveFallV y2.1 y2.2.1 y2.2.2.1 y2.2.2.2.1 y2.2.2.2.2.1 y2.2.2.2.2.2 a6).1 (saveFallV y2.1 y2.2.1 y2.2.2.1 y2.2.2.2.1 y2.2.2.2.2.1 y2.2.2.2.2.2 a6).2.1 (saveFallV y2.1 y2.2.1 y2.2.2.1 y2.2.2.2.1 y2.2.2.2.2.1 y2.2.2.2.2.2 a6).2.2.1 (saveFallV y2.1 y2.2.1 y2.2.2.1 y2.2.2.2.1 y2.2.2.2.2.1 y2.2.2.2.2.2 a6).2.2.2.1 (saveFallV y2.1 y2.2.1 y2.2.2.1 y2.2.2.2.1 y2.2.2.2.2.1 y2.2.2.2.2.2 a6).2.2.2.2.1 (saveFallV y2.1 y2.2.1 y2.2.2.1 y2.2.2.2.1 y2.2.2.2.2.1 y2.2.2.2.2.2 a6).2.2.2.2.2.1 (saveFallV y1.1 y1.2.1 y1.2.2.1 y1.2.2.2.1 y1.2.2.2.2.1 y1.2.2.2.2.2 a6).1 (saveFallV y1.1 y1.2.1 y1.2.2.1 y1.2.2.2.1 y1.2.2.2.2.1 y1.2.2.2.2.2 a6).2.1 (saveFallV y1.1 y1.2.1 y1.2.2.1 y1.2.2.2.1 y1.2.2.2.2.1 y1.2.2.2.2.2 a6).2.2.1 (saveFallV y1.1 y1.2.1 y1.2.2.1 y1.2.2.2.1 y1.2.2.2.2.1 y1.2.2.2.2.2 a6).2.2.2.1 (saveFallV y1.1 y1.2.1 y1.2.2.1 y1.2.2.2.1 y1.2.2.2.2.1 y1.2.2.2.2.2 a6).2.2.2.2.1 (saveFallV y1.1 y1.2.1 y1.2.2.1 y1.2.2.2.1 y1.2.2.2.2.1 y1.2.2.2.2.2 a6).2.2.2.2.2.1)) == false)
 (.ite (!((saveFallV y2.1 y2.2.1 y2.2.2.1 y2.2.2.2.1 y2.2.2.2.2.1 y2.2.2.2.2.2 a6).2.2.2.2.2.2 == (saveFallV y1.1 y1.2.1 y1.2.2.1 y1.2.2.2.1 y1.2.2.2.2.1 y1.2.2.2.2.2 a6).2.2.2.2.2.2))
 (.ret (((false, ()), ()), ((), (), ())))
 (.get (toSaverV a0 a1 a2 a3 a4 a5) fun y3 =>
 .ite (!(eqSaverV y2.1 y2.2.1 y2.2.2.1 y2.2.2.2.1 y2.2.2.2.2.1 y2.2.2.2.2.2 y3.1 y3.2.1 y3.2.2.1 y3.2.2.2.1 y3.2.2.2.2.1 y3.2.2.2.2.2))
 (.ret (((false, ()), ()), ((), (), ())))
 (.ite ((decide ((markSaverV y2.1 y2.2.1 y2.2.2.1 y2.2.2.2.1 y2.2.2.2.2.1 y2.2.2.2.2.2 (1 : Int)).1 < (0 : Int))) == false)
 (.ite ((!(eqSaverV (saveFallV y2.1 y2.2.1 y2.2.2.1 y2.2.2.2.1 y2.2.2.2.2.1 y2.2.2.2.2.2 a6).1 (saveFallV y2.1 y2.2.1 y2.2.2.1 y2.2.2.2.1 y2.2.2.2.2.1 y2.2.2.2.2.2 a6).2.1 (saveFallV y2.1 y2.2.1 y2.2.2.1 y2.2.2.2.1 y2.2.2.2.2.1 y2.2.2.2.2.2 a6).2.2.1 (saveFallV y2.1 y2.2.1 y2.2.2.1 y2.2.2.2.1 y2.2.2.2.2.1 y2.2.2.2.2.2 a6).2.2.2.1 (saveFallV y2.1 y2.2.1 y2.2.2.1 y2.2.2.2.1 y2.2.2.2.2.1 y2.2.2.2.2.2 a6).2.2.2.2.1 (saveFallV y2.1 y2.2.1 y2.2.2.1 y2.2.2.2.1 y2.2.2.2.2.1 y2.2.2.2.2.2 a6).2.2.2.2.2.1 (saveFallV y1.1 y1.2.1 y1.2.2.1 y1.2.2.2.1 y1.2.2.2.2.1 y1.2.2.2.2.2 a6).1 (saveFallV y1.1 y1.2.1 y1.2.2.1 y1.2.2.2.1 y1.2.2.2.2.1 y1.2.2.2.2.2 a6).2.1 (saveFallV y1.1 y1.2.1 y1.2.2.1 y1.2.2.2.1 y1.2.2.2.2.1 y1.2.2.2.2.2 a6).2.2.1 (saveFallV y1.1 y1.2.1 y1.2.2.1 y1.2.2.2.1 y1.2.2.2.2.1 y1.2.2.2.2.2 a6).2.2.2.1 (saveFallV y1.1 y1.2.1 y1.2.2.1 y1.2.2.2.1 y1.2.2.2.2.1 y1.2.2.2.2.2 a6).2.2.2.2.1 (saveFallV y1.1 y1.2.1 y1.2.2.1 y1.2.2.2.1 y1.2.2.2.2.1 y1.2.2.2.2.2 a6).2.2.2.2.2.1)) == false)
 (.ite (!((saveFallV y2.1 y2.2.1 y2.2.2.1 y2.2.2.2.1 y2.2.2.2.2.1 y2.2.2.2.2.2 a6).2.2.2.2.2.2 == (saveFallV y1.1 y1.2.1 y1.2.2.1 y1.2.2.2.1 y1.2.2.2.2.1 y1.2.2.2.2.2 a6).2.2.2.2.2.2))
 (.ret (((false, ()), ()), ((), (), ())))
 (.ite (decide ((heldSaverV (markSaverV (saveFallV y2.1 y2.2.1 y2.2.2.1 y2.2.2.2.1 y2.2.2.2.2.1 y2.2.2.2.2.2 a6).1 (saveFallV y2.1 y2.2.1 y2.2.2.1 y2.2.2.2.1 y2.2.2.2.2.1 y2.2.2.2.2.2 a6).2.1 (saveFallV y2.1 y2.2.1 y2.2.2.1 y2.2.2.2.1 y2.2.2.2.2.1 y2.2.2.2.2.2 a6).2.2.1 (saveFallV y2.1 y2.2.1 y2.2.2.1 y2.2.2.2.1 y2.2.2.2.2.1 y2.2.2.2.2.2 a6).2.2.2.1 (saveFallV y2.1 y2.2.1 y2.2.2.1 y2.2.2.2.1 y2.2.2.2.2.1 y2.2.2.2.2.2 a6).2.2.2.2.1 (saveFallV y2.1 y2.2.1 y2.2.2.1 y2.2.2.2.1 y2.2.2.2.2.1 y2.2.2.2.2.2 a6).2.2.2.2.2.1 (1 : Int)).2.1 (markSaverV (saveFallV y2.1 y2.2.1 y2.2.2.1 y2.2.2.2.1 y2.2.2.2.2.1 y2.2.2.2.2.2 a6).1 (saveFallV y2.1 y2.2.1 y2.2.2.1 y2.2.2.2.1 y2.2.2.2.2.1 y2.2.2.2.2.2 a6).2.1 (saveFallV y2.1 y2.2.1 y2.2.2.1 y2.2.2.2.1 y2.2.2.2.2.1 y2.2.2.2.2.2 a6).2.2.1 (saveFallV y2.1 y2.2.1 y2.2.2.1 y2.2.2.2.1 y2.2.2.2.2.1 y2.2.2.2.2.2 a6).2.2.2.1 (saveFallV y2.1 y2.2.1 y2.2.2.1 y2.2.2.2.1 y2.2.2.2.2.1 y2.2.2.2.2.2 a6).2.2.2.2.1 (saveFallV y2.1 y2.2.1 y2.2.2.1 y2.2.2.2.1 y2.2.2.2.2.1 y2.2.2.2.2.2 a6).2.2.2.2.2.1 (1 : Int)).2.2.1 (markSaverV (saveFallV y2.1 y2.2.1 y2.2.2.1 y2.2.2.2.1 y2.2.2.2.2.1 y2.2.2.2.2.2 a6).1 (saveFallV y2.1 y2.2.1 y2.2.2.1 y2.2.2.2.1 y2.2.2.2.2.1 y2.2.2.2.2.2 a6).2.1 (saveFallV y2.1 y2.2.1 y2.2.2.1 y2.2.2.2.1 y2.2.2.2.2.1 y2.2.2.2.2.2 a6).2.2.1 (saveFallV y2.1 y2.2.1 y2.2.2.1 y2.2.2.2.1 y2.2.2.2.2.1 y2.2.2.2.2.2 a6).2.2.2.1 (saveFallV y2.1 y2.2.1 y2.2.2.1 y2.2.2.2.1 y2.2.2.2.2.1 y2.2.2.2.2.2 a6).2.2.2.2.1 (saveFallV y2.1 y2.2.1 y2.2.2.1 y2.2.2.2.1 y2.2.2.2.2.1 y2.2.2.2.2.2 a6).2.2.2.2.2.1 (1 : Int)).2.2.2.1 (markSaverV (saveFallV y2.1 y2.2.1 y2.2.2.1 y2.2.2.2.1 y2.2.2.2.2.1 y2.2.2.2.2.2 a6).1 (saveFallV y2.1 y2.2.1 y2.2.2.1 y2.2.2.2.1 y2.2.2.2.2.1 y2.2.2.2.2.2 a6).2.1 (saveFallV y2.1 y2.2.1 y2.2.2.1 y2.2.2.2.1 y2.2.2.2.2.1 y2.2.2.2.2.2 a6).2.2.1 (saveFallV y2.1 y2.2.1 y2.2.2.1 y2.2.2.2.1 y2.2.2.2.2.1 y2.2.2.2.2.2 a6).2.2.2.1 (saveFallV y2.1 y2.2.1 y2.2.2.1 y2.2.2.2.1 y2.2.2.2.2.1 y2.2.2.2.2.2 a6).2.2.2.2.1 (saveFallV y2.1 y2.2.1 y2.2.2.1 y2.2.2.2.1 y2.2.2.2.2.1 y2.2.2.2.2.2 a6).2.2.2.2.2.1 (1 : Int)).2.2.2.2 (saveFallV y2.1 y2.2.1 y2.2.2.1 y2.2.2.2.1 y2.2.2.2.2.1 y2.2.2.2.2.2 a6).2.2.2.2.1 (saveFallV y2.1 y2.2.1 y2.2.2.1 y2.2.2.2.1 y2.2.2.2.2.1 y2.2.2.2.2.2 a6).2.2.2.2.2.1 (1 : Int)) < (0 : Int)))
 (.ret (((false, ()), ()), ((), (), ())))
 (.ite (((heldSaverV (markSaverV (saveFallV y2.1 y2.2.1 y2.2.2.1 y2.2.2.2.1 y2.2.2.2.2.1 y2.2.2.2.2.2 a6).1 (saveFallV y2.1 y2.2.1 y2.2.2.1 y2.2.2.2.1 y2.2.2.2.2.1 y2.2.2.2.2.2 a6).2.1 (saveFallV y2.1 y2.2.1 y2.2.2.1 y2.2.2.2.1 y2.2.2.2.2.1 y2.2.2.2.2.2 a6).2.2.1 (saveFallV y2.1 y2.2.1 y2.2.2.1 y2.2.2.2.1 y2.2.2.2.2.1 y2.2.2.2.2.2 a6).2.2.2.1 (saveFallV y2.1 y2.2.1 y2.2.2.1 y2.2.2.2.1 y2.2.2.2.2.1 y2.2.2.2.2.2 a6).2.2.2.2.1 (saveFallV y2.1 y2.2.1 y2.2.2.1 y2.2.2.2.1 y2.2.2.2.2.1 y2.2.2.2.2.2 a6).2.2.2.2.2.1 (1 : Int)).2.1 (markSaverV (saveFallV y2.1 y2.2.1 y2.2.2.1 y2.2.2.2.1 y2.2.2.2.2.1 y2.2.2.2.2.2 a6).1 (saveFallV y2.1 y2.2.1 y2.2.2.1 y2.2.2.2.1 y2.2.2.2.2.1 y2.2.2.2.2.2 a6).2.1 (saveFallV y2.1 y2.2.1 y2.2.2.1 y2.2.2.2.1 y2.2.2.2.2.1 y2.2.2.2.2.2 a6).2.2.1 (saveFallV y2.1 y2.2.1 y2.2.2.1 y2.2.2.2.1 y2.2.2.2.2.1 y2.2.2.2.2.2 a6).2.2.2.1 (saveFallV y2.1 y2.2.1 y2.2.2.1 y2.2.2.2.1 y2.2.2.2.2.1 y2.2.2.2.2.2 a6).2.2.2.2.1 (saveFallV y2.1 y2.2.1 y2.2.2.1 y2.2.2.2.1 y2.2.2.2.2.1 y2.2.2.2.2.2 a6).2.2.2.2.2.1 (1 : Int)).2.2.1 (markSaverV (saveFallV y2.1 y2.2.1 y2.2.2.1 y2.2.2.2.1 y2.2.2.2.2.1 y2.2.2.2.2.2 a6).1 (saveFallV y2.1 y2.2.1 y2.2.2.1 y2.2.2.2.1 y2.2.2.2.2.1 y2.2.2.2.2.2 a6).2.1 (saveFallV y2.1 y2.2.1 y2.2.2.1 y2.2.2.2.1 y2.2.2.2.2.1 y2.2.2.2.2.2 a6).2.2.1 (saveFallV y2.1 y2.2.1 y2.2.2.1 y2.2.2.2.1 y2.2.2.2.2.1 y2.2.2.2.2.2 a6).2.2.2.1 (saveFallV y2.1 y2.2.1 y2.2.2.1 y2.2.2.2.1 y2.2.2.2.2.1 y2.2.2.2.2.2 a6).2.2.2.2.1 (saveFallV y2.1 y2.2.1 y2.2.2.1 y2.2.2.2.1 y2.2.2.2.2.1 y2.2.2.2.2.2 a6).2.2.2.2.2.1 (1 : Int)).2.2.2.1 (markSaverV (saveFallV y2.1 y2.2.1 y2.2.2.1 y2.2.2.2.1 y2.2.2.2.2.1 y2.2.2.2.2.2 a6).1 (saveFallV y2.1 y2.2.1 y2.2.2.1 y2.2.2.2.1 y2.2.2.2.2.1 y2.2.2.2.2.2 a6).2.1 (saveFallV y2.1 y2.2.1 y2.2.2.1 y2.2.2.2.1 y2.2.2.2.2.1 y2.2.2.2.2.2 a6).2.2.1 (saveFallV y2.1 y2.2.1 y2.2.2.1 y2.2.2.2.1 y2.2.2.2.2.1 y2.2.2.2.2.2 a6).2.2.2.1 (saveFallV y2.1 y2.2.1 y2.2.2.1 y2.2.2.2.1 y2.2.2.2.2.1 y2.2.2.2.2.2 a6).2.2.2.2.1 (saveFallV y2.1 y2.2.1 y2.2.2.1 y2.2.2.2.1 y2.2.2.2.2.1 y2.2.2.2.2.2 a6).2.2.2.2.2.1 (1 : Int)).2.2.2.2 (saveFallV y2.1 y2.2.1 y2.2.2.1 y2.2.2.2.1 y2.2.2.2.2.1 y2.2.2.2.2.2 a6).2.2.2.2.1 (saveFallV y2.1 y2.2.1 y2.2.2.1 y2.2.2.2.1 y2.2.2.2.2.1 y2.2.2.2.2.2 a6).2.2.2.2.2.1 (1 : Int)) != (markSaverV (saveFallV y2.1 y2.2.1 y2.2.2.1 y2.2.2.2.1 y2.2.2.2.2.1 y2.2.2.2.2.2 a6).1 (saveFallV y2.1 y2.2.1 y2.2.2.1 y2.2.2.2.1 y2.2.2.2.2.1 y2.2.2.2.2.2 a6).2.1 (saveFallV y2.1 y2.2.1 y2.2.2.1 y2.2.2.2.1 y2.2.2.2.2.1 y2.2.2.2.2.2 a6).2.2.1 (saveFallV y2.1 y2.2.1 y2.2.2.1 y2.2.2.2.1 y2.2.2.2.2.1 y2.2.2.2.2.2 a6).2.2.2.1 (saveFallV y2.1 y2.2.1 y2.2.2.1 y2.2.2.2.1 y2.2.2.2.2.1 y2.2.2.2.2.2 a6).2.2.2.2.1 (saveFallV y2.1 y2.2.1 y2.2.2.1 y2.2.2.2.1 y2.2.2.2.2.1 y2.2.2.2.2.2 a6).2.2.2.2.2.1 (1 : Int)).1))
 (.ret (((false, ()), ()), ((), (), ())))
 (.get (toSaverV a0 a1 a2 a3 a4 a5) fun y4 =>
 .ite ((!(eqSaverV (saveFallV y4.1 y4.2.1 y4.2.2.1 y4.2.2.2.1 y4.2.2.2.2.1 y4.2.2.2.2.2 a6).1 (saveFallV y4.1 y4.2.1 y4.2.2.1 y4.2.2.2.1 y4.2.2.2.2.1 y4.2.2.2.2.2 a6).2.1 (saveFallV y4.1 y4.2.1 y4.2.2.1 y4.2.2.2.1 y4.2.2.2.2.1 y4.2.2.2.2.2 a6).2.2.1 (saveFallV y4.1 y4.2.1 y4.2.2.1 y4.2.2.2.1 y4.2.2.2.2.1 y4.2.2.2.2.2 a6).2.2.2.1 (saveFallV y4.1 y4.2.1 y4.2.2.1 y4.2.2.2.1 y4.2.2.2.2.1 y4.2.2.2.2.2 a6).2.2.2.2.1 (saveFallV y4.1 y4.2.1 y4.2.2.1 y4.2.2.2.1 y4.2.2.2.2.1 y4.2.2.2.2.2 a6).2.2.2.2.2.1 (saveFallV y1.1 y1.2.1 y1.2.2.1 y1.2.2.2.1 y1.2.2.2.2.1 y1.2.2.2.2.2 a6).1 (saveFallV y1.1 y1.2.1 y1.2.2.1 y1.2.2.2.1 y1.2.2.2.2.1 y1.2.2.2.2.2 a6).2.1 (saveFallV y1.1 y1.2.1 y1.2.2.1 y1.2.2.2.1 y1.2.2.2.2.1 y1.2.2.2.2.2 a6).2.2.1 (saveFallV y1.1 y1.2.1 y1.2.2.1 y1.2.2.2.1 y1.2.2.2.2.1 y1.2.2.2.2.2 a6).2.2.2.1 (saveFallV y1.1 y1.2.1 y1.2.2.1 y1.2.2.2.1 y1.2.2.2.2.1 y1.2.2.2.2.2 a6).2.2.2.2.1 (saveFallV y1.1 y1.2.1 y1.2.2.1 y1.2.2.2.1 y1.2.2.2.2.1 y1.2.2.2.2.2 a6).2.2.2.2.2.1)) == false)
 (.ite (!((saveFallV y4.1 y4.2.1 y4.2.2.1 y4.2.2.2.1 y4.2.2.2.2.1 y4.2.2.2.2.2 a6).2.2.2.2.2.2 == (saveFallV y1.1 y1.2.1 y1.2.2.1 y1.2.2.2.1 y1.2.2.2.2.1 y1.2.2.2.2.2 a6).2.2.2.2.2.2))
 (.ret (((false, ()), ()), ((), (), ())))
 (.ite (decide ((heldSaverV (markSaverV (saveFallV y2.1 y2.2.1 y2.2.2.1 y2.2.2.2.1 y2.2.2.2.2.1 y2.2.2.2.2.2 a6).1 (saveFallV y2.1 y2.2.1 y2.2.2.1 y2.2.2.2.1 y2.2.2.2.2.1 y2.2.2.2.2.2 a6).2.1 (saveFallV y2.1 y2.2.1 y2.2.2.1 y2.2.2.2.1 y2.2.2.2.2.1 y2.2.2.2.2.2 a6).2.2.1 (saveFallV y2.1 y2.2.1 y2.2.2.1 y2.2.2.2.1 y2.2.2.2.2.1 y2.2.2.2.2.2 a6).2.2.2.1 (saveFallV y2.1 y2.2.1 y2.2.2.1 y2.2.2.2.1 y2.2.2.2.2.1 y2.2.2.2.2.2 a6).2.2.2.2.1 (saveFallV y2.1 y2.2.1 y2.2.2.1 y2.2.2.2.1 y2.2.2.2.2.1 y2.2.2.2.2.2 a6).2.2.2.2.2.1 (1 : Int)).2.1 (markSaverV (saveFallV y2.1 y2.2.1 y2.2.2.1 y2.2.2.2.1 y2.2.2.2.2.1 y2.2.2.2.2.2 a6).1 (saveFallV y2.1 y2.2.1 y2.2.2.1 y2.2.2.2.1 y2.2.2.2.2.1 y2.2.2.2.2.2 a6).2.1 (saveFallV y2.1 y2.2.1 y2.2.2.1 y2.2.2.2.1 y2.2.2.2.2.1 y2.2.2.2.2.2 a6).2.2.1 (saveFallV y2.1 y2.2.1 y2.2.2.1 y2.2.2.2.1 y2.2.2.2.2.1 y2.2.2.2.2.2 a6).2.2.2.1 (saveFallV y2.1 y2.2.1 y2.2.2.1 y2.2.2.2.1 y2.2.2.2.2.1 y2.2.2.2.2.2 a6).2.2.2.2.1 (saveFallV y2.1 y2.2.1 y2.2.2.1 y2.2.2.2.1 y2.2.2.2.2.1 y2.2.2.2.2.2 a6).2.2.2.2.2.1 (1 : Int)).2.2.1 (markSaverV (saveFallV y2.1 y2.2.1 y2.2.2.1 y2.2.2.2.1 y2.2.2.2.2.1 y2.2.2.2.2.2 a6).1 (saveFallV y2.1 y2.2.1 y2.2.2.1 y2.2.2.2.1 y2.2.2.2.2.1 y2.2.2.2.2.2 a6).2.1 (saveFallV y2.1 y2.2.1 y2.2.2.1 y2.2.2.2.1 y2.2.2.2.2.1 y2.2.2.2.2.2 a6).2.2.1 (saveFallV y2.1 y2.2.1 y2.2.2.1 y2.2.2.2.1 y2.2.2.2.2.1 y2.2.2.2.2.2 a6).2.2.2.1 (saveFallV y2.1 y2.2.1 y2.2.2.1 y2.2.2.2.1 y2.2.2.2.2.1 y2.2.2.2.2.2 a6).2.2.2.2.1 (saveFallV y2.1 y2.2.1 y2.2.2.1 y2.2.2.2.1 y2.2.2.2.2.1 y2.2.2.2.2.2 a6).2.2.2.2.2.1 (1 : Int)).2.2.2.1 (markSaverV (saveFallV y2.1 y2.2.1 y2.2.2.1 y2.2.2.2.1 y2.2.2.2.2.1 y2.2.2.2.2.2 a6).1 (saveFallV y2.1 y2.2.1 y2.2.2.1 y2.2.2.2.1 y2.2.2.2.2.1 y2.2.2.2.2.2 a6).2.1 (saveFallV y2.1 y2.2.1 y2.2.2.1 y2.2.2.2.1 y2.2.2.2.2.1 y2.2.2.2.2.2 a6).2.2.1 (saveFallV y2.1 y2.2.1 y2.2.2.1 y2.2.2.2.1 y2.2.2.2.2.1 y2.2.2.2.2.2 a6).2.2.2.1 (saveFallV y2.1 y2.2.1 y2.2.2.1 y2.2.2.2.1 y2.2.2.2.2.1 y2.2.2.2.2.2 a6).2.2.2.2.1 (saveFallV y2.1 y2.2.1 y2.2.2.1 y2.2.2.2.1 y2.2.2.2.2.1 y2.2.2.2.2.2 a6).2.2.2.2.2.1 (1 : Int)).2.2.2.2 (saveFallV y2.1 y2.2.1 y2.2.2.1 y2.2.2.2.1 y2.2.2.2.2.1 y2.2.2.2.2.2 a6).2.2.2.2.1 (saveFallV y2.1 y2.2.1 y2.2.2.1 y2.2.2.2.1 y2.2.2.2.2.1 y2.2.2.2.2.2 a6).2.2.2.2.2.1 (1 : Int)) < (0 : Int)))
 (.ret (((false, ()), ()), ((), (), ())))
 (.ite (((heldSaverV (markSaverV (saveFallV y2.1 y2.2.1 y2.2.2.1 y2.2.2.2.1 y2.2.2.2.2.1 y2.2.2.2.2.2 a6).1 (saveFallV y2.1 y2.2.1 y2.2.2.1 y2.2.2.2.1 y2.2.2.2.2.1 y2.2.2.2.2.2 a6).2.1 (saveFallV y2.1 y2.2.1 y2.2.2.1 y2.2.2.2.1 y2.2.2.2.2.1 y2.2.2.2.2.2 a6).2.2.1 (saveFallV y2.1 y2.2.1 y2.2.2.1 y2.2.2.2.1 y2.2.2.2.2.1 y2.2.2.2.2.2 a6).2.2.2.1 (saveFallV y2.1 y2.2.1 y2.2.2.1 y2.2.2.2.1 y2.2.2.2.2.1 y2.2.2.2.2.2 a6).2.2.2.2.1 (saveFallV y2.1 y2.2.1 y2.2.2.1 y2.2.2.2.1 y2.2.2.2.2.1 y2.2.2.2.2.2 a6).2.2.2.2.2.1 (1 : Int)).2.1 (markSaverV (saveFallV y2.1 y2.2.1 y2.2.2.1 y2.2.2.2.1 y2.2.2.2.2.1 y2.2.2.2.2.2 a6).1 (saveFallV y2.1 y2.2.1 y2.2.2.1 y2.2.2.2.1 y2.2.2.2.2.1 y2.2.2.2.2.2 a6).2.1 (saveFallV y2.1 y2.2.1 y2.2.2.1 y2.2.2.2.1 y2.2.2.2.2.1 y2.2.2.2.2.2 a6).2.2.1 (saveFallV y2.1 y2.2.1 y2.2.2.1 y2.2.2.2.1 y2.2.2.2.2.1 y2.2.2.2.2.2 a6).2.2.2.1 (saveFallV y2.1 y2.2.1 y2.2.2.1 y2.2.2.2.1 y2.2.2.2.2.1 y2.2.2.2.2.2 a6).2.2.2.2.1 (saveFallV y2.1 y2.2.1 y2.2.2.1 y2.2.2.2.1 y2.2.2.2.2.1 y2.2.2.2.2.2 a6).2.2.2.2.2.1 (1 : Int)).2.2.1 (markSaverV (saveFallV y2.1 y2.2.1 y2.2.2.1 y2.2.2.2.1 y2.2.2.2.2.1 y2.2.2.2.2.2 a6).1 (saveFallV y2.1 y2.2.1 y2.2.2.1 y2.2.2.2.1 y2.2.2.2.2.1 y2.2.2.2.2.2 a6).2.1 (saveFallV y2.1 y2.2.1 y2.2.2.1 y2.2.2.2.1 y2.2.2.2.2.1 y2.2.2.2.2.2 a6).2.2.1 (saveFallV y2.1 y2.2.1 y2.2.2.1 y2.2.2.2.1 y2.2.2.2.2.1 y2.2.2.2.2.2 a6).2.2.2.1 (saveFallV y2.1 y2.2.1 y2.2.2.1 y2.2.2.2.1 y2.2.2.2.2.1 y2.2.2.2.2.2 a6).2.2.2.2.1 (saveFallV y2.1 y2.2.1 y2.2.2.1 y2.2.2.2.1 y2.2.2.2.2.1 y2.2.2.2.2.2 a6).2.2.2.2.2.1 (1 : Int)).2.2.2.1 (markSaverV (saveFallV y2.1 y2.2.1 y2.2.2.1 y2.2.2.2.1 y2.2.2.2.2.1 y2.2.2.2.2.2 a6).1 (saveFallV y2.1 y2.2.1 y2.2.2.1 y2.2.2.2.1 y2.2.2.2.2.1 y2.2.2.2.2.2 a6).2.1 (saveFallV y2.1 y2.2.1 y2.2.2.1 y2.2.2.2.1 y2.2.2.2.2.1 y2.2.2.2.2.2 a6).2.2.1 (saveFallV y2.1 y2.2.1 y2.2.2.1 y2.2.2.2.1 y2.2.2.2.2.1 y2.2.2.2.2.2 a6).2.2.2.1 (saveFallV y2.1 y2.2.1 y2.2.2.1 y2.2.2.2.1 y2.2.2.2.2.1 y2.2.2.2.2.2 a6).2.2.2.2.1 (saveFallV y2.1 y2.2.1 y2.2.2.1 y2.2.2.2.1 y2.2.2.2.2.1 y2.2.2.2.2.2 a6).2.2.2.2.2.1 (1 : Int)).2.2.2.2 (saveFallV y2.1 y2.2.1 y2.2.2.1 y2.2.2.2.1 y2.2.2.2.2.1 y2.2.2.2.2.2 a6).2.2.2.2.1 (saveFallV y2.1 y2.2.1 y2.2.2.1 y2.2.2.2.1 y2.2.2.2.2.1 y2.2.2.2.2.2 a6).2.2.2.2.2.1 (1 : Int)) != (markSaverV (saveFallV y2.1 y2.2.1 y2.2.2.1 y2.2.2.2.1 y2.2.2.2.2.1 y2.2.2.2.2.2 a6).1 (saveFallV y2.1 y2.2.1 y2.2.2.1 y2.2.2.2.1 y2.2.2.2.2.1 y2.2.2.2.2.2 a6).2.1 (saveFallV y2.1 y2.2.1 y2.2.2.1 y2.2.2.2.1 y2.2.2.2.2.1 y2.2.2.2.2.2 a6).2.2.1 (saveFallV y2.1 y2.2.1 y2.2.2.1 y2.2.2.2.1 y2.2.2.2.2.1 y2.2.2.2.2.2 a6).2.2.2.1 (saveFallV y2.1 y2.2.1 y2.2.2.1 y2.2.2.2.1 y2.2.2.2.2.1 y2.2.2.2.2.2 a6).2.2.2.2.1 (saveFallV y2.1 y2.2.1 y2.2.2.1 y2.2.2.2.1 y2.2.2.2.2.1 y2.2.2.2.2.2 a6).2.2.2.2.2.1 (1 : Int)).1))
 (.ret (((false, ()), ()), ((), (), ())))
 (.ret (((true, ()), ()), ((), (), ()))))))
 (.ret (((false, ()), ()), ((), (), ())))))))
 (.ret (((false, ()), ()), ((), (), ()))))
 (.ret (((false, ()), ()), ((), (), ()))))))
 (.ret (((false, ()), ()), ((), (), ()))))
def true7i (_ : List Str) (_ : List WriteD) (_ _ : List FileD) (_ _ _ : Int) : Bool := true
def k3 : Con := { f := 3, lend := true, its := [⟨false, true, [.ro .str, .ro (.st (.cons (.int .i64) (.cons .str .nil))), .ro (.st (.cons (.int .i64) (.cons (.sl (.int .i64)) .nil))), .ro (.st (.cons (.int .i64) (.cons (.sl (.int .i64)) .nil))), .i .i64, .i .i64]⟩, ⟨false, false, [.i .i64]⟩], lay := [none, none], rs := [⟨false, false, [.b]⟩], F := fun x => .ret ((((true7i x.1.1 x.1.2.1 x.1.2.2.1 x.1.2.2.2.1 x.1.2.2.2.2.1 x.1.2.2.2.2.2.1 x.2.1.1), ()), ()), ((), (), ())) }
theorem f3_eq (x : itemsD k3.its) : bodyOut (cxOf [k4, k6, k5, k7, k8, k9, k10]) (fun _ => none) (codeOf Tryz.f3) k3.its k3.lay Tryz.f3.ntmps k3.rs [.tmp 4] x = f3_tree x.1.1 x.1.2.1 x.1.2.2.1 x.1.2.2.2.1 x.1.2.2.2.2.1 x.1.2.2.2.2.2.1 x.2.1.1 := by kernel_rfl
theorem f3_ok (hr : ∀ x : (List (List UInt8) × List (Int × List UInt8 × Unit) × List (Int × List Int × Unit) × List (Int × List Int × Unit) × Int × Int × Unit) × (Int × Unit) × Unit, itemsWF k3.its x → (f3_tree x.1.1 x.1.2.1 x.1.2.2.1 x.1.2.2.2.1 x.1.2.2.2.2.1 x.1.2.2.2.2.2.1 x.2.1.1).eval = (k3.F x).eval) : k3.Ok Tryz.prog :=
  con_fn [k4, k6, k5, k7, k8, k9, k10] ⟨k4_ok, k6_ok, k5_ok, k7_ok, k8_ok, k9_ok, k10_ok, trivial⟩ (by kernel_rfl) (codeOf_eq (by kernel_rfl)) (by kernel_rfl) (by kernel_rfl) (by kernel_rfl) f3_eq fun x hw _ hy => (hr x hw).trans hy
theorem mem_big {α : Type} {p : α → Prop} {a : List α} (h : ∀ (i : Nat) (y : α), a[i]? = some y → p y) : ∀ x ∈ a, p x := fun x hx => by
  obtain ⟨i, hi⟩ := List.getElem?_of_mem hx
  exact h i x hi
theorem k3_ok : k3.Ok Tryz.prog := by
  refine f3_ok fun x hw => ?_
  obtain ⟨⟨a, b, c, d, q, p, _⟩, ⟨g, _⟩, _⟩ := x
  have ha : a.length ≤ BIG := hw.1.1.1
  have ha' : ∀ x ∈ a, x.length ≤ BIG := mem_big hw.1.1.2
  have hb : b.length ≤ BIG := hw.1.2.1.1
  have hb' : ∀ x ∈ b, x.2.1.length ≤ BIG := mem_big fun i y hy => (hw.1.2.1.2 i y hy).2.1
  have hc : c.length ≤ BIG := hw.1.2.2.1.1
  have hc' : ∀ x ∈ c, x.2.1.length ≤ BIG := mem_big fun i y hy => (hw.1.2.2.1.2 i y hy).2.1.1
  have hd : d.length ≤ BIG := hw.1.2.2.2.1.1
  have hd' : ∀ x ∈ d, x.2.1.length ≤ BIG := mem_big fun i y hy => (hw.1.2.2.2.1.2 i y hy).2.1.1
  show (f3_tree a b c d q p g).eval = some (((true, ()), ()), ((), ((), ())))
  unfold f3_tree
  by_cases h1 : szSaverV a b c d q p 1048576 < 0
  · rw [eval_ite_t (decide_eq_true h1)]; rfl
  rw [eval_ite_f (decide_eq_false h1)]
  have s1 := szSaver_le ha ha' hb hb' hc hc' hd hd' (by omega) (by omega) h1
  have t1 := toSaverV_some (q := q) (p := p) s1.1.1 s1.1.2 s1.2.1.1 s1.2.1.2
  have hcnt := fall_cnt a b c d q p g
  have k : ¬ (markSaverV a b c d q p 1).1 < 0 := by
    rw [markSaverV_up]
    refine up_nonneg ?_
    unfold cntS BIG
    omega
  generalize hR : saveFallV a b c d q p g = r at hcnt
  obtain ⟨a', b', c', d', q', p', ok⟩ := r
  have m := held_markSaver (a := a') (b := b') (c := c') (d := d') (q := q') (p := p') (q' := q') (p' := p') (by dsimp only at hcnt; omega)
  simp [Out.eval, t1, hR, eqSaverV_self, m.1, m.2, k]

theorem f3_own : ownKnob Tryz.prog.godebug = none := by kernel_rfl
set_option maxRecDepth 100000 in
theorem f3_contract (H : Type) (enc : TypeId × Value → H) (W : World) (base : Nat) (args : Array Value) (ds gs : List (DataW H)) (before : List MemPlace)
    (hval : ∀ (j : Nat) t v, Tryz.f3.params[j]? = some t → args[j]? = some v → Value.okWide Tryz.prog W .any base t v)
    (hW : DataW.Whole enc Tryz.prog Tryz.f3.params.toList Rows.fnExactSaveFallSpec.vars false W args.toList ds gs before) :
    Calls Tryz.prog 3 args W fun e W' => ∃ v, e = .returned v ∧ Rows.fnExactSaveFallSpec.post enc Tryz.prog Tryz.f3 false true false false W args v W' := by
  have hW' := hW
  obtain ⟨p, q, hA0, hV, rfl, _, _⟩ := hW
  have hA : DataW.TrodAll enc Tryz.prog W 0 (fun _ => true) true [28, 3] args.toList ds p := hA0
  have hlt := hW'.lt
  obtain ⟨rfl, rfl⟩ := trodVars_none hV
  simp only [List.append_nil] at hW' hlt
  have hlen : ds.length = 2 := (trodAll_length hA).2
  rcases ds with _ | ⟨d0, _ | ⟨d1, _ | ⟨d2, dr⟩⟩⟩ <;> first | (simp at hlen; done) | skip
  have hu : Tryz.prog.underlying 4 = some .bool := by kernel_rfl
  refine (law_calls (ts := [(.st (.cons (.st (.cons (.sl .str) (.cons (.sl (.st (.cons (.int .i64) (.cons .str .nil)))) .nil))) (.cons (.sl (.st (.cons (.int .i64) (.cons (.sl (.int .i64)) .nil)))) (.cons (.sl (.st (.cons (.int .i64) (.cons (.sl (.int .i64)) .nil)))) (.cons (.int .i64) (.cons (.int .i64) .nil)))))), (.int .i64)]) (tids := [28, 3]) (f := 3) (lend := k3.lend) (F := k3.F) k3_ok (parsB_ok (by kernel_rfl)) (fun x hw => ?_) (b0 := base) (fun j t v ht hv => hval j t v ?_ hv) hA).mono fun e W' ⟨he, hg, hs⟩ => ?_
  · exact ⟨_, rfl⟩
  · rw [← ht, Tryz.params3]; first | rfl | simp
  · subst he
    exact ⟨_, rfl, post_of_same (pa := p) (pv := []) hW' (fun _ _ _ => trodAll_mk1 (shut_bool hu true)) (fun sp hsp => trodAll_stays (by kernel_rfl) hs (by kernel_rfl) hA hlt hsp) (fun _ _ => rfl) (by simp) (hg.frame _) hg.2.1 (ok_one (by kernel_rfl) rfl (okWide_bool_mk hu true))⟩
set_option maxRecDepth 100000 in
theorem f3_lifted (os : Os) (started : os.Started) (H : Type) (enc : TypeId × Value → H) :
    ReturnsInHanded {} Tryz.checked os 3 .any (Rows.fnExactSaveFallSpec.pre6 enc Tryz.prog Tryz.f3 Rows.fnExactSaveFallRow.domain false) (Rows.fnExactSaveFallSpec.post enc Tryz.prog Tryz.f3 false true false false) := by
  refine returnsInHanded_of_change (C := Tryz.checked) f3_own started (by kernel_rfl) Tryz.func3
    (ChangeSpec.witness6 (enc := enc) (C := Tryz.checked) false ⟨#[], #[.agg #[.slice none 0 0, .slice none 0 0, .slice none 0 0, .slice none 0 0, .int .i64 0, .int .i64 0], .int .i64 0], []⟩ 8 (by kernel_rfl) (by kernel_rfl) (by kernel_rfl) (by kernel_rfl)) ?_
  intro W base args ds gs before hval hW _ _
  exact f3_contract H enc W base args ds gs before hval hW
theorem f3_closed : joinedFacts Tryz.prog 3 Tryz.f3 Rows.fnExactSaveFallSpec Rows.fnExactSaveFallRow = true := by
  unfold joinedFacts
  rw [mayEnter_ok, lifts_ok, make_ok]
  kernel_rfl
theorem f3_said : Rows.FnExactSaveFallSaid :=
  OpenClaim.holds_of_wide 3 Tryz.f3 rfl rfl rfl rfl rfl rfl rfl ⟨rfl, rfl, rfl, rfl, rfl⟩ rfl rfl rfl rfl rfl (by kernel_rfl) Tryz.func3 f3_closed
    (of_decide_eq_true (by kernel_rfl)) (by unfold Func.isWrapper; first | (rw [if_pos (by decide +kernel)]; kernel_rfl) | (rw [if_neg (by decide +kernel)]; exact ⟨rfl, rfl⟩))
    (fun os started H enc _ => f3_lifted os started H enc)
end Go.Proofs.YtjcinikojcfebaaGreat.Dm
namespace Go.Proofs.YtjcinikojcfebaaGreat
theorem fnExactSaveFall_said : Rows.FnExactSaveFallSaid := Dm.f3_said
end Go.Proofs.YtjcinikojcfebaaGreat
namespace Go.Proofs.YtjcinikojcfebaaGreat.Dm


end Go.Proofs.YtjcinikojcfebaaGreat.Dm
