/- Functions of the program, and what they compute. -/
import Derived.Test.YtnnpnkegpkladaaGreatA2
namespace Go.Proofs.YtnnpnkegpkladaaGreat.Dm
open Go Go.ChangeShapes Go.WideShapes Go.ChangeAt Go.RowKit
section
variable {α σ β γ : Type} {f : σ → Out (Round σ β γ)}
theorem idx_loop (a : List α) (p : α → Bool) (S : Nat → σ) {y : β} {z : Nat → γ} (hs : ∀ i (hi : i < a.length), p a[i] = false → (f (S i)).eval = some (.again (S (i + 1))))
    (hz : ∀ i (hi : i < a.length), p a[i] = true → (f (S i)).eval = some (.ret (z i))) (hy : (f (S a.length)).eval = some (.out y)) (ha : a.length ≤ BIG) :
    iter f FUEL (S 0) = some (match a.findIdx? p with | some i => .inr (z i) | none => .inl y) := by
  cases h : a.findIdx? p with
  | none =>
    rw [List.findIdx?_eq_none_iff] at h
    exact iter_out S a.length (lt_fuel ha) (fun i hi => hs i hi (h _ (List.getElem_mem hi))) hy
  | some i =>
    rw [List.findIdx?_eq_some_iff_getElem] at h
    obtain ⟨hi, hp, hmin⟩ := h
    exact iter_ret S i (Nat.lt_of_le_of_lt (by omega) (lt_fuel ha)) (fun j hj => hs j (by omega) (by simpa using hmin j hj)) (hz i hi hp)
theorem all_loop (a : List α) (p : α → Bool) (S : Nat → σ) {y : β} {z : γ} (hs : ∀ i (hi : i < a.length), p a[i] = true → (f (S i)).eval = some (.again (S (i + 1))))
    (hz : ∀ i (hi : i < a.length), p a[i] = false → (f (S i)).eval = some (.ret z)) (hy : (f (S a.length)).eval = some (.out y)) (ha : a.length ≤ BIG) :
    iter f FUEL (S 0) = some (if a.all p = true then .inl y else .inr z) := by
  rw [idx_loop (f := f) a (fun x => !p x) S (y := y) (z := fun _ => z) (fun i hi hp => hs i hi (by simpa using hp)) (fun i hi hp => hz i hi (by simpa using hp)) hy ha]
  cases h : a.findIdx? (fun x => !p x) with
  | none =>
    rw [List.findIdx?_eq_none_iff] at h
    rw [if_pos (List.all_eq_true.2 fun x hx => by simpa using h x hx)]
  | some i =>
    rw [List.findIdx?_eq_some_iff_getElem] at h
    obtain ⟨hi, hp, _⟩ := h
    rw [if_neg (fun q => by have := List.all_eq_true.1 q _ (List.getElem_mem hi); rw [this] at hp; exact absurd hp (by decide))]
end
theorem le_cast {n : Nat} {m : Nat} : decide (((n : Nat) : Int) ≤ ((m : Nat) : Int)) = decide (n ≤ m) := by
  rw [Bool.eq_iff_iff]; simp
theorem ne_cast {n m : Nat} : (((n : Nat) : Int) != ((m : Nat) : Int)) = !decide (n = m) := by
  rw [Bool.eq_iff_iff]; simp; omega
theorem gt_cast {n m : Nat} : decide (((n : Nat) : Int) > ((m : Nat) : Int)) = !decide (n ≤ m) := by
  rw [Bool.eq_iff_iff]; simp
def f25_tree (a0 : Int) (a1 : Int) (a2 : Int) : Out (((Bool × Unit) × Unit) × (Unit × XI)) :=
 .ite ((decide (a0 ≥ a1)) == true)
 (.ret ((((decide (a0 ≤ a2)), ()), ()), ((), (), (), ())))
 (.ret (((false, ()), ()), ((), (), (), ())))
def inV (x a b : Int) : Bool := decide (a ≤ x) && decide (x ≤ b)
def k25 : Con := { f := 25, lend := true, its := [⟨false, false, [.i .i64]⟩, ⟨false, false, [.i .i64]⟩, ⟨false, false, [.i .i64]⟩], lay := [none, none, none], rs := [⟨false, false, [.b]⟩], F := fun x => .ret ((((inV x.1.1 x.2.1.1 x.2.2.1.1), ()), ()), ((), (), (), ())) }
theorem f25_eq (x : itemsD k25.its) : bo [] (fun _ => none) Tryz.f25 k25 [.tmp 6] x = f25_tree x.1.1 x.2.1.1 x.2.2.1.1 := by kernel_rfl
theorem f25_ok (hr : ∀ x : (Int × Unit) × (Int × Unit) × (Int × Unit) × Unit, itemsWF k25.its x → (f25_tree x.1.1 x.2.1.1 x.2.2.1.1).eval = (k25.F x).eval) : k25.Ok Tryz.prog := con_fn [] trivial f25_eq fun x hw _ hy => (hr x hw).trans hy
theorem k25_ok : k25.Ok Tryz.prog := by
  refine f25_ok fun x _ => ?_
  obtain ⟨⟨x, _⟩, ⟨a, _⟩, ⟨b, _⟩, _⟩ := x
  show (f25_tree x a b).eval = some (((inV x a b, ()), ()), ((), ((), ((), ()))))
  unfold f25_tree inV
  by_cases h1 : a ≤ x <;> simp [Out.eval, h1]
def f65_tree (a0 : Int) (a1 : Int) (a2 : Int) : Out (((Bool × Unit) × Unit) × (Unit × XI)) :=
 .ite ((decide (a0 ≥ a1)) == true)
 (.ret ((((decide (a0 ≤ a2)), ()), ()), ((), (), (), ())))
 (.ret (((false, ()), ()), ((), (), (), ())))
def k65 : Con := { f := 65, lend := true, its := [⟨false, false, [.i .i64]⟩, ⟨false, false, [.i .i64]⟩, ⟨false, false, [.i .i64]⟩], lay := [none, none, none], rs := [⟨false, false, [.b]⟩], F := fun x => .ret ((((inV x.1.1 x.2.1.1 x.2.2.1.1), ()), ()), ((), (), (), ())) }
theorem f65_eq (x : itemsD k65.its) : bo [] (fun _ => none) Tryz.f65 k65 [.tmp 6] x = f65_tree x.1.1 x.2.1.1 x.2.2.1.1 := by kernel_rfl
theorem f65_ok (hr : ∀ x : (Int × Unit) × (Int × Unit) × (Int × Unit) × Unit, itemsWF k65.its x → (f65_tree x.1.1 x.2.1.1 x.2.2.1.1).eval = (k65.F x).eval) : k65.Ok Tryz.prog := con_fn [] trivial f65_eq fun x hw _ hy => (hr x hw).trans hy
theorem k65_ok : k65.Ok Tryz.prog := by
  refine f65_ok fun x _ => ?_
  obtain ⟨⟨x, _⟩, ⟨a, _⟩, ⟨b, _⟩, _⟩ := x
  show (f65_tree x a b).eval = some (((inV x a b, ()), ()), ((), ((), ((), ()))))
  unfold f65_tree inV
  by_cases h1 : a ≤ x <;> simp [Out.eval, h1]
def idxV : Option Nat → Int
  | some i => ((i : Nat) : Int)
  | none => -1
theorem idxV_ge {α : Type} (a : List α) (p : α → Bool) : decide (idxV (a.findIdx? p) ≥ 0) = a.any p := by
  cases h : a.findIdx? p with
  | none =>
    rw [List.findIdx?_eq_none_iff] at h
    have : a.any p = false := by rw [List.any_eq_false]; intro x hx; simp [h x hx]
    rw [this]; rfl
  | some i =>
    rw [List.findIdx?_eq_some_iff_getElem] at h
    obtain ⟨hi, hp, _⟩ := h
    have : a.any p = true := List.any_eq_true.2 ⟨a[i], List.getElem_mem hi, hp⟩
    rw [this]
    exact decide_eq_true (by show ((i : Nat) : Int) ≥ 0; omega)
theorem not_any {α : Type} (a : List α) (p : α → Bool) : (!a.any fun x => !p x) = a.all p := by
  rw [Bool.eq_iff_iff]; simp
end Go.Proofs.YtnnpnkegpkladaaGreat.Dm
