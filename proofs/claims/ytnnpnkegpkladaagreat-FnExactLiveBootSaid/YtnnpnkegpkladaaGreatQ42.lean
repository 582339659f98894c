/- f -/
import Derived.Test.YtnnpnkegpkladaaGreatQ41
namespace Go.Proofs.YtnnpnkegpkladaaGreat.Dm
open Go Go.ChangeShapes Go.WideShapes Go.ChangeAt Go.RowKit
theorem kind_tail {β : Type} (kind target off : Int) (pipes : List PipeD) (files : List FileD) (r : Bool → β) :
 (Out.ite (kind == (1 : Int)) (.ite ((target == (0 : Int)) == true) (.ret (r (off == (0 : Int)))) (.ret (r false)))
  (.ite (kind == (2 : Int)) (.ite ((decide (fileAtV files target ≥ (0 : Int))) == true) (.ite (decide (0 ≤ fileAtV files target)) (.get (nth files (Int.toNat (fileAtV files target))) fun y2 => .ret (r (inV off (0 : Int) ((List.length y2.2.1 : Nat) : Int)))) .fail) (.ret (r false)))
   (.ite (kind == (3 : Int)) (.ite ((decide (pipeAtV pipes target ≥ (0 : Int))) == true) (.ret (r (off == (0 : Int)))) (.ret (r false)))
    (.ite (kind == (4 : Int)) (.ite ((decide (pipeAtV pipes target ≥ (0 : Int))) == true) (.ret (r (off == (0 : Int)))) (.ret (r false))) (.ret (r false)))))).eval = some (r (kindOkV pipes files kind target off)) := by
 unfold kindOkV
 simp only [Out.eval, cond_eq_ite]
 by_cases h1 : kind = 1
 . by_cases h : target = 0
   . simp [h1, h]
   . have : (target == (0 : Int)) = false := by simpa using h
     simp [h1, h, this]
 by_cases h2 : kind = 2
 . cases hx : idxBy fileKey files target with
   | none =>
     have e3 : fileAtV files target = -1 := placeBy_none hx
     simp [h2, e3]
   | some i =>
     have hi := idxBy_lt hx
     have e3 : fileAtV files target = ((i : Nat) : Int) := placeBy_some hx
     simp [h2, e3, nth, hi]
 by_cases h3 : kind = 3
 . by_cases h : 0 ≤ pipeAtV pipes target <;> simp [h3, h]
 by_cases h4 : kind = 4
 . by_cases h : 0 ≤ pipeAtV pipes target <;> simp [h4, h]
 simp [h1, h2, h3, h4]
end Go.Proofs.YtnnpnkegpkladaaGreat.Dm
