/- Functions of the program, and what they compute. -/
import Derived.Test.YtnnpnkegpkladaaGreatBase
namespace Go.Proofs.YtnnpnkegpkladaaGreat.Dm
open Go Go.ChangeShapes Go.WideShapes Go.ChangeAt Go.RowKit
abbrev Str := List UInt8
theorem all_eq {α : Type} [DecidableEq α] (a b : List α) (hl : a.length = b.length) : (List.range a.length).all (fun i => decide (a[i]? = b[i]?)) = decide (a = b) := by
  rw [Bool.eq_iff_iff, List.all_eq_true, decide_eq_true_iff]
  constructor
  · intro h
    apply List.ext_getElem?
    intro i
    by_cases hi : i < a.length
    · exact of_decide_eq_true (h i (List.mem_range.2 hi))
    · rw [List.getElem?_eq_none (by omega), List.getElem?_eq_none (by omega)]
  · rintro rfl
    intro i _
    exact decide_eq_true rfl
theorem len_ne {a b : Nat} (h : a ≠ b) : (((a : Nat) : Int) != ((b : Nat) : Int)) = true := by
  simp only [bne_iff_ne, ne_eq]; omega
theorem len_eq {a b : Nat} (h : a = b) : (((a : Nat) : Int) != ((b : Nat) : Int)) = false := by
  subst h; simp
theorem lt_t {i n : Nat} (h : i < n) : decide (((i : Nat) : Int) < ((n : Nat) : Int)) = true := decide_eq_true (by omega)
theorem ge0 (i : Nat) : decide (0 ≤ ((i : Nat) : Int)) = true := decide_eq_true (by omega)
theorem eq_loop {α : Type} [DecidableEq α] {σ β γ : Type} {f : σ → Out (Round σ β γ)} (a b : List α) (s : Nat → σ) {y : β} {z : γ} (hl : a.length = b.length) (ha : a.length ≤ BIG)
    (hy : ∀ i (hi : i < a.length) (hi' : i < b.length), a[i] = b[i] → (f (s i)).eval = some (.again (s (i + 1)))) (hn : ∀ i (hi : i < a.length) (hi' : i < b.length), a[i] ≠ b[i] → (f (s i)).eval = some (.ret z))
    (he : (f (s a.length)).eval = some (.out y)) : iter f FUEL (s 0) = some (if a = b then .inl y else .inr z) := by
  have := iter_scan s (fun i => decide (a[i]? = b[i]?)) a.length (lt_fuel ha) (fun i hi hp => by
    have he := of_decide_eq_true hp
    rw [List.getElem?_eq_getElem hi, List.getElem?_eq_getElem (by omega)] at he
    exact hy i hi (by omega) (Option.some.inj he)) (fun i hi hp => by
    have he := of_decide_eq_false hp
    rw [List.getElem?_eq_getElem hi, List.getElem?_eq_getElem (by omega)] at he
    exact hn i hi (by omega) fun e => he (by rw [e])) he
  rw [this, all_eq a b hl]
  by_cases h : a = b
  · simp only [decide_eq_true h, if_true, if_pos h]
  · simp only [decide_eq_false h, if_neg h]; rfl
end Go.Proofs.YtnnpnkegpkladaaGreat.Dm
