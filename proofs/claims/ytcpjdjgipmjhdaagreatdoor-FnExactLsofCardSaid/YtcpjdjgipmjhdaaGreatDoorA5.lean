/- Functions of the program, and what they compute. -/
import Derived.Test.YtcpjdjgipmjhdaaGreatDoorA4
namespace Go.Proofs.YtcpjdjgipmjhdaaGreatDoor.Dm
open Go Go.ChangeShapes Go.WideShapes Go.ChangeAt Go.RowKit
theorem wrap_pred (i : Nat) (h : i < BIG) : IntKind.i64.wrap (((i + 1 : Nat) : Int) - 1) = ((i : Nat) : Int) := by
  rw [wrap_id (by omega) (by unfold BIG at h; omega)]; omega
theorem not_ge (x y : Int) : decide (x ≥ y) = !decide (x < y) := by
  rw [Bool.eq_iff_iff]; simp
theorem flatMap_len {α β : Type} (h : α → List β) (m : Nat) : ∀ (a : List α), (∀ x ∈ a, (h x).length ≤ m) → (a.flatMap h).length ≤ m * a.length
  | [], _ => by simp
  | x :: r, hx => by
    have h1 := hx x (by simp)
    have h2 := flatMap_len h m r fun y hy => hx y (by simp [hy])
    rw [List.flatMap_cons, List.length_append, List.length_cons, Nat.mul_succ]; omega
end Go.Proofs.YtcpjdjgipmjhdaaGreatDoor.Dm
