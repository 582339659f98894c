/- Functions of the program, and what they compute. -/
import Derived.Test.YtnglkhjpdpgahaaGreatDoorP3
namespace Go.Proofs.YtnglkhjpdpgahaaGreatDoor.Dm
open Go Go.ChangeShapes Go.WideShapes Go.ChangeAt Go.RowKit
def cutG (c : UInt8) (s : Str) (d : List Str × Nat × Nat) (b : UInt8) : List Str × Nat × Nat := if b = c then (d.1 ++ [(s.drop d.2.1).take (d.2.2 - d.2.1)], d.2.2 + 1, d.2.2 + 1) else (d.1, d.2.1, d.2.2 + 1)
theorem cut_inv {c : UInt8} {s : Str} : ∀ (suf pre : Str) (o : List Str) (f : Nat), s = pre ++ suf → f ≤ pre.length → c ∉ (s.drop f).take (pre.length - f) → splitOn c s = o ++ splitOn c (s.drop f) →
    (suf.foldl (cutG c s) (o, f, pre.length)).2.1 ≤ s.length ∧ splitOn c s = (suf.foldl (cutG c s) (o, f, pre.length)).1 ++ [s.drop (suf.foldl (cutG c s) (o, f, pre.length)).2.1]
  | [], pre, o, f, e, hf, hc, h => by
    rw [List.append_nil] at e
    subst e
    refine ⟨hf, ?_⟩
    show splitOn c s = o ++ [s.drop f]
    rw [h, splitOn_miss]
    rwa [List.take_of_length_le (by rw [List.length_drop]; omega)] at hc
  | b :: r, pre, o, f, e, hf, hc, h => by
    have e2 : s = (pre ++ [b]) ++ r := by rw [e, List.append_assoc]; rfl
    have hd : s.drop f = (s.drop f).take (pre.length - f) ++ b :: r := by
      conv => lhs; rw [← List.take_append_drop (pre.length - f) (s.drop f)]
      rw [List.drop_drop, show f + (pre.length - f) = pre.length by omega, e, List.drop_left]
    have hl : (pre ++ [b]).length = pre.length + 1 := by simp
    rw [List.foldl_cons]
    by_cases q : b = c
    · have e3 : cutG c s (o, f, pre.length) b = (o ++ [(s.drop f).take (pre.length - f)], (pre ++ [b]).length, (pre ++ [b]).length) := by rw [hl]; unfold cutG; rw [if_pos q]
      rw [e3]
      refine cut_inv r (pre ++ [b]) _ _ e2 (Nat.le_refl _) (by rw [Nat.sub_self]; simp) ?_
      have e4 : s.drop (pre ++ [b]).length = r := by conv => lhs; rw [e2]; rw [List.drop_left]
      rw [e4, h, List.append_assoc]
      congr 1
      conv => lhs; rw [hd, q, splitOn_hit hc]
      rfl
    · have e3 : cutG c s (o, f, pre.length) b = (o, f, (pre ++ [b]).length) := by rw [hl]; unfold cutG; rw [if_neg q]
      rw [e3]
      refine cut_inv r (pre ++ [b]) _ _ e2 (by omega) ?_ h
      rw [hl, show pre.length + 1 - f = (pre.length - f) + 1 by omega]
      intro hm
      rw [hd, List.take_append] at hm
      rcases List.mem_append.1 hm with hm | hm
      · exact hc (List.mem_of_mem_take hm)
      · have hz : (pre.length - f + 1) - ((s.drop f).take (pre.length - f)).length = 1 := by
          rw [List.length_take, List.length_drop]
          have : s.length = pre.length + (b :: r).length := by rw [e, List.length_append]
          simp only [List.length_cons] at this
          omega
        rw [hz] at hm
        simp at hm
        exact q hm.symm
theorem cut_all (c : UInt8) (s : Str) : (s.foldl (cutG c s) ([], 0, 0)).2.1 ≤ s.length ∧ splitOn c s = (s.foldl (cutG c s) ([], 0, 0)).1 ++ [s.drop (s.foldl (cutG c s) ([], 0, 0)).2.1] :=
  cut_inv s [] [] 0 rfl (Nat.le_refl _) (by simp) rfl
end Go.Proofs.YtnglkhjpdpgahaaGreatDoor.Dm
