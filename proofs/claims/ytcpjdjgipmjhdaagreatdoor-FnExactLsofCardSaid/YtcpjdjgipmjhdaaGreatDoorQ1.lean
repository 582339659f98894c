/- Functions of the program, and what they compute. -/
import Derived.Test.YtcpjdjgipmjhdaaGreatDoorA12
namespace Go.Proofs.YtcpjdjgipmjhdaaGreatDoor.Dm
open Go Go.ChangeShapes Go.WideShapes Go.ChangeAt Go.RowKit
def sumBy {α : Type} (c : α → Nat) : List α → Nat
  | [] => 0
  | x :: r => c x + sumBy c r
theorem sumBy_mem {α : Type} {c : α → Nat} : ∀ {a : List α} {x : α}, x ∈ a → c x ≤ sumBy c a
  | y :: r, x, h => by
    rcases List.mem_cons.1 h with rfl | h
    · exact Nat.le_add_right _ _
    · exact Nat.le_trans (sumBy_mem h) (Nat.le_add_left _ _)
def szP (n : Nat) (l : Int) : Option Int := if 0 ≤ l ∧ l ≤ 1048576 then some (if (n : Int) ≤ l then l - n else -1) else none
def toP {β : Type} (n : Nat) (x : β) : Option β := if n ≤ 1048576 then some x else none
theorem szP_in {n : Nat} {l : Int} (h0 : 0 ≤ l) (h1 : l ≤ 1048576) : szP n l = some (if (n : Int) ≤ l then l - n else -1) := if_pos ⟨h0, h1⟩
theorem toP_in {β : Type} {n : Nat} {x : β} (h : n ≤ 1048576) : toP n x = some x := if_pos h
theorem szP_get {α : Type} {n : Nat} {l : Int} {g : Int → Out α} {y : α} (h : (Out.get (szP n l) g).eval = some y) : (0 ≤ l ∧ l ≤ 1048576) ∧ (g (if (n : Int) ≤ l then l - n else -1)).eval = some y := by
  unfold szP at h
  split at h
  · exact ⟨‹_›, h⟩
  · cases h
theorem toP_get {α β : Type} {n : Nat} {x : β} {g : β → Out α} {y : α} (h : (Out.get (toP n x) g).eval = some y) : n ≤ 1048576 ∧ (g x).eval = some y := by
  unfold toP at h
  split at h
  · exact ⟨‹_›, h⟩
  · cases h
theorem wrap_le {x : Int} (h0 : -9223372036854775808 ≤ x) (h1 : x ≤ 9223372036854775807) : IntKind.i64.wrap x = x := by
  rw [IntKind.wrap_i64]; omega
section
variable {α σ β γ : Type}
theorem sz_loop {f : σ → Out (Round σ β γ)} (a : List α) (c : α → Nat) (S : Int → Nat → σ) {y : Int → β} {z : γ}
    (hs : ∀ i (hi : i < a.length) (l : Int), 0 ≤ l → l ≤ 1048576 → (f (S l i)).eval = some (if (c a[i] : Int) ≤ l then .again (S (l - c a[i]) (i + 1)) else .ret z))
    (hy : ∀ l, (f (S l a.length)).eval = some (.out (y l))) (ha : a.length ≤ BIG) {l : Int} (h0 : 0 ≤ l) (h1 : l ≤ 1048576) :
    iter f FUEL (S l 0) = some (if (sumBy c a : Int) ≤ l then .inl (y (l - sumBy c a)) else .inr z) := by
  have key : ∀ (m : Nat) (l : Int) (i n : Nat), i + m = a.length → m < n → 0 ≤ l → l ≤ 1048576 → iter f n (S l i) = some (if (sumBy c (a.drop i) : Int) ≤ l then .inl (y (l - sumBy c (a.drop i))) else .inr z) := by
    intro m
    induction m with
    | zero =>
      intro l i n hi hn h0 _
      obtain rfl : i = a.length := by omega
      rw [iter_out' (hy l) hn, List.drop_length, sumBy, if_pos (by omega)]
      simp
    | succ m ih =>
      intro l i n hi hn h0 h1
      have hlt : i < a.length := by omega
      have hq := hs i hlt l h0 h1
      rw [List.drop_eq_getElem_cons hlt, sumBy]
      by_cases q : (c a[i] : Int) ≤ l
      · rw [if_pos q] at hq
        obtain ⟨n, rfl⟩ : ∃ n', n = n' + 1 := ⟨n - 1, by omega⟩
        rw [iter_again hq, ih (l - c a[i]) (i + 1) n (by omega) (by omega) (by omega) (by omega)]
        by_cases q2 : (sumBy c (a.drop (i + 1)) : Int) ≤ l - c a[i]
        · rw [if_pos q2, if_pos (by omega)]
          congr 3; omega
        · rw [if_neg q2, if_neg (by omega)]
      · rw [if_neg q] at hq
        rw [iter_ret' hq (by omega), if_neg (by omega)]
  simpa using key a.length l 0 FUEL (by omega) (lt_fuel ha) h0 h1
end
section
variable {α δ σ β γ : Type}
theorem any_loop {f : σ → Out (Round σ β γ)} (a : List α) (p : α → Bool) (S : Nat → σ) {y : β} {z : γ} (hs : ∀ i (hi : i < a.length), (f (S i)).eval = some (if p a[i] = true then .ret z else .again (S (i + 1))))
    (hy : (f (S a.length)).eval = some (.out y)) (ha : a.length ≤ BIG) : iter f FUEL (S 0) = some (if a.any p = true then .inr z else .inl y) := by
  have key : ∀ (m i n : Nat), i + m = a.length → m < n → iter f n (S i) = some (if (a.drop i).any p = true then .inr z else .inl y) := by
    intro m
    induction m with
    | zero =>
      intro i n hi hn
      obtain rfl : i = a.length := by omega
      rw [iter_out' hy hn, List.drop_length]; rfl
    | succ m ih =>
      intro i n hi hn
      have hlt : i < a.length := by omega
      have hq := hs i hlt
      rw [List.drop_eq_getElem_cons hlt, List.any_cons]
      cases q : p a[i] with
      | true => rw [q, if_pos rfl] at hq; rw [iter_ret' hq (by omega)]; simp
      | false =>
        rw [q, if_neg (by decide)] at hq
        obtain ⟨n, rfl⟩ : ∃ n', n = n' + 1 := ⟨n - 1, by omega⟩
        rw [iter_again hq, ih (i + 1) n (by omega) (by omega)]; simp
  simpa using key a.length 0 FUEL (by omega) (lt_fuel ha)
end
end Go.Proofs.YtcpjdjgipmjhdaaGreatDoor.Dm
