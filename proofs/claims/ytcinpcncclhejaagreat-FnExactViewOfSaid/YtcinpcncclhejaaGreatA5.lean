/- Functions of the program, and what they compute. -/
import Derived.Test.YtcinpcncclhejaaGreatA4
namespace Go.Proofs.YtcinpcncclhejaaGreat.Dm
open Go Go.ChangeShapes Go.WideShapes Go.ChangeAt Go.RowKit

abbrev f119_S0 := (List UInt8 × List (Int) × Int × Int × Unit) × (Unit)
theorem wrap_pred (i : Nat) (h : i < BIG) : IntKind.i64.wrap (((i + 1 : Nat) : Int) - 1) = ((i : Nat) : Int) := by
  rw [wrap_id (by omega) (by unfold BIG at h; omega)]; omega
theorem not_ge (x y : Int) : decide (x ≥ y) = !decide (x < y) := by
  rw [Bool.eq_iff_iff]; simp
end Go.Proofs.YtcinpcncclhejaaGreat.Dm
