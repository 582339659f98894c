/- Functions of the program, and what they compute. -/
import Derived.Test.YtnnpnkegpkladaaGreatA3
namespace Go.Proofs.YtnnpnkegpkladaaGreat.Dm
open Go Go.ChangeShapes Go.WideShapes Go.ChangeAt Go.RowKit
theorem ofInt_nat (a : Nat) : BitVec.ofInt 64 ((a : Nat) : Int) = BitVec.ofNat 64 a := by simp
theorem wrap_nat {a : Nat} (h : a ≤ BIG) : IntKind.i64.wrap ((a : Nat) : Int) = ((a : Nat) : Int) := by
  unfold BIG at h
  exact wrap_id (by omega) (by omega)
theorem iter1_again {α β : Type} {f : α → Out (Round α β Empty)} {n : Nat} {x x' : α} (h : (f x).eval = some (.again x')) : iter1 f (n + 1) x = iter1 f n x' := by unfold iter1; rw [iter_again h]
theorem iter1_out' {α β : Type} {f : α → Out (Round α β Empty)} {n : Nat} {x : α} {y : β} (h : (f x).eval = some (.out y)) (hn : 0 < n) : iter1 f n x = some y := by unfold iter1; rw [iter_out' h hn]; rfl
theorem foldl_loop {α β σ δ : Type} {f : σ → Out (Round σ β Empty)} (P : δ → Nat → Prop) (g : δ → α → δ) (a : List α) (S : δ → Nat → σ) (y : δ → β)
    (hs : ∀ i (hi : i < a.length) l, P l i → (f (S l i)).eval = some (.again (S (g l a[i]) (i + 1)))) (hy : ∀ l, P l a.length → (f (S l a.length)).eval = some (.out (y l)))
    (hP : ∀ i (hi : i < a.length) l, P l i → P (g l a[i]) (i + 1)) (ha : a.length ≤ BIG) (l : δ) (hl : P l 0) : iter1 f FUEL (S l 0) = some (y (a.foldl g l)) := by
  have step : ∀ i (hi : i < a.length), (a.take (i + 1)).foldl g l = g ((a.take i).foldl g l) a[i] := fun i hi => by
    rw [List.take_succ_eq_append_getElem hi, List.foldl_append]; rfl
  have inv : ∀ i, i ≤ a.length → P ((a.take i).foldl g l) i := by
    intro i
    induction i with
    | zero => intro _; simpa using hl
    | succ i ih => intro hi; rw [step i (by omega)]; exact hP i (by omega) _ (ih (by omega))
  have h := iter1_out (f := f) (fun i => S ((a.take i).foldl g l) i) a.length (y := y (a.foldl g l)) (lt_fuel ha)
    (fun i hi => by rw [step i hi]; exact hs i hi _ (inv i (by omega)))
    (by
      have := hy _ (inv a.length (Nat.le_refl _))
      rw [List.take_length] at this ⊢
      exact this)
  simpa using h
def varB (n : Nat) : Str := if n < 128 then [UInt8.ofNat n] else UInt8.ofNat (128 + n % 128) :: varB (n / 128)
termination_by n
decreasing_by omega
def varV (n : Int) : Str := if inV n 0 562949953421311 = true then varB n.toNat else []
theorem LIM_eq : LIM = 68719476736 := rfl
end Go.Proofs.YtnnpnkegpkladaaGreat.Dm
