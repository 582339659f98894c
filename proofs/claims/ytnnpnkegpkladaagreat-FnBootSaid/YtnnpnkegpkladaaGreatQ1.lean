/- Functions of the program, and what they compute. -/
import Derived.Test.YtnnpnkegpkladaaGreatA12
namespace Go.Proofs.YtnnpnkegpkladaaGreat.Dm
open Go Go.ChangeShapes Go.WideShapes Go.ChangeAt Go.RowKit
theorem wrap_le {x : Int} (h0 : -9223372036854775808 ≤ x) (h1 : x ≤ 9223372036854775807) : IntKind.i64.wrap x = x := by
  rw [IntKind.wrap_i64]; omega
section
variable {α δ σ β γ : Type}
theorem any_loop {f : σ → Out (Round σ β γ)} (a : List α) (p : α → Bool) (S : Nat → σ) {y : β} {z : γ} (hs : ∀ i (hi : i < a.length), (f (S i)).eval = some (if p a[i] = true then .ret z else .again (S (i + 1))))
    (hy : (f (S a.length)).eval = some (.out y)) (ha : a.length ≤ BIG) : iter f FUEL (S 0) = some (if a.any p = true then .inr z else .inl y) := by
  have key : ∀ (m i n : Nat), i + m = a.length → m < n → iter f n (S i) = some (if (a.drop i).any p = true then .inr z else .inl y) := by
    intro m
    induction m with
    | zero =>
      intro i n hi hn
      obtain rfl : i = a.length := by omega
      rw [iter_out' hy hn, List.drop_length]; rfl
    | succ m ih =>
      intro i n hi hn
      have hlt : i < a.length := by omega
      have hq := hs i hlt
      rw [List.drop_eq_getElem_cons hlt, List.any_cons]
      cases q : p a[i] with
      | true => rw [q, if_pos rfl] at hq; rw [iter_ret' hq (by omega)]; simp
      | false =>
        rw [q, if_neg (by decide)] at hq
        obtain ⟨n, rfl⟩ : ∃ n', n = n' + 1 := ⟨n - 1, by omega⟩
        rw [iter_again hq, ih (i + 1) n (by omega) (by omega)]; simp
  simpa using key a.length 0 FUEL (by omega) (lt_fuel ha)
end
end Go.Proofs.YtnnpnkegpkladaaGreat.Dm
