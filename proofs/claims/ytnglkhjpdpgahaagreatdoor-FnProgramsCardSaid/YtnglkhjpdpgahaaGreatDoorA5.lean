/- Functions of the program, and what they compute. -/
import Derived.Test.YtnglkhjpdpgahaaGreatDoorA4
namespace Go.Proofs.YtnglkhjpdpgahaaGreatDoor.Dm
open Go Go.ChangeShapes Go.WideShapes Go.ChangeAt Go.RowKit
theorem flatMap_len {α β : Type} (h : α → List β) (m : Nat) : ∀ (a : List α), (∀ x ∈ a, (h x).length ≤ m) → (a.flatMap h).length ≤ m * a.length
  | [], _ => by simp
  | x :: r, hx => by
    have h1 := hx x (by simp)
    have h2 := flatMap_len h m r fun y hy => hx y (by simp [hy])
    rw [List.flatMap_cons, List.length_append, List.length_cons, Nat.mul_succ]; omega
end Go.Proofs.YtnglkhjpdpgahaaGreatDoor.Dm
