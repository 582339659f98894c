/- The data machine, part 39: what the printed loops come to; the arguments behind a call. -/
import Derived.Test.YtjcinikojcfebaaDm38
import Derived.Laws.Runes
import Derived.Laws.BitsLemmas
namespace Go.Proofs.Ytjcinikojcfebaa.Dm
open Go Go.ChangeShapes Go.WideShapes Go.ChangeAt Go.RowKit

/-! ## Loops -/
section
variable {α β γ : Type} {f : α → Out (Round α β γ)}

theorem iter_again {n : Nat} {x x' : α} (h : (f x).eval = some (.again x')) : iter f (n + 1) x = iter f n x' := by simp only [iter, h]
theorem iter_out' {n : Nat} {x : α} {y : β} (h : (f x).eval = some (.out y)) (hn : 0 < n) : iter f n x = some (.inl y) := by
  cases n with
  | zero => omega
  | succ n => simp only [iter, h]
theorem iter_ret' {n : Nat} {x : α} {z : γ} (h : (f x).eval = some (.ret z)) (hn : 0 < n) : iter f n x = some (.inr z) := by
  cases n with
  | zero => omega
  | succ n => simp only [iter, h]
theorem iter_steps (s : Nat → α) : ∀ (m n : Nat), (∀ i, i < m → (f (s i)).eval = some (.again (s (i + 1)))) → iter f (m + n) (s 0) = iter f n (s m)
  | 0, n, _ => by rw [Nat.zero_add]
  | m + 1, n, h => by
    have h1 := iter_steps s m (1 + n) fun i hi => h i (by omega)
    rw [show m + 1 + n = m + (1 + n) by omega, h1, show 1 + n = n + 1 by omega, iter_again (h m (by omega))]
theorem iter_steps' (s : Nat → α) (m n : Nat) (hm : m ≤ n) (h : ∀ i, i < m → (f (s i)).eval = some (.again (s (i + 1)))) : iter f n (s 0) = iter f (n - m) (s m) := by
  have := iter_steps s m (n - m) h
  rwa [show m + (n - m) = n by omega] at this
/-- A loop that goes through. -/
theorem iter_out (s : Nat → α) (m : Nat) {n : Nat} {y : β} (hm : m < n) (h : ∀ i, i < m → (f (s i)).eval = some (.again (s (i + 1)))) (hy : (f (s m)).eval = some (.out y)) : iter f n (s 0) = some (.inl y) := by
  rw [iter_steps' s m n (by omega) h, iter_out' hy (by omega)]
theorem iter_ret (s : Nat → α) (m : Nat) {n : Nat} {z : γ} (hm : m < n) (h : ∀ i, i < m → (f (s i)).eval = some (.again (s (i + 1)))) (hz : (f (s m)).eval = some (.ret z)) : iter f n (s 0) = some (.inr z) := by
  rw [iter_steps' s m n (by omega) h, iter_ret' hz (by omega)]
/-- A loop that looks whether something holds of all. -/
theorem iter_scan (s : Nat → α) (p : Nat → Bool) (m : Nat) {n : Nat} {y : β} {z : γ} (hm : m < n) (h : ∀ i, i < m → p i = true → (f (s i)).eval = some (.again (s (i + 1)))) (hz : ∀ i, i < m → p i = false → (f (s i)).eval = some (.ret z))
    (hy : (f (s m)).eval = some (.out y)) : iter f n (s 0) = some (if (List.range m).all p = true then .inl y else .inr z) := by
  by_cases ha : (List.range m).all p = true
  · rw [if_pos ha]
    rw [List.all_eq_true] at ha
    exact iter_out s m hm (fun i hi => h i hi (ha i (List.mem_range.2 hi))) hy
  · rw [if_neg ha]
    have hex : ∃ i, i < m ∧ p i = false := by
      rw [List.all_eq_true] at ha
      simp only [Classical.not_forall] at ha
      obtain ⟨i, hi, hp⟩ := ha
      exact ⟨i, List.mem_range.1 hi, by simpa using hp⟩
    obtain ⟨i, ⟨hi, hp⟩, hmin⟩ := exists_least hex
    exact iter_ret s i (by omega) (fun j hj => h j (by omega) (by
      cases hpj : p j with
      | true => rfl
      | false => have := hmin j ⟨by omega, hpj⟩; omega)) (hz i hi hp)
end
theorem iter1_out {α β : Type} {f : α → Out (Round α β Empty)} (s : Nat → α) (m : Nat) {n : Nat} {y : β} (hm : m < n) (h : ∀ i, i < m → (f (s i)).eval = some (.again (s (i + 1)))) (hy : (f (s m)).eval = some (.out y)) : iter1 f n (s 0) = some y := by
  unfold iter1
  rw [iter_out s m hm h hy]
  rfl
theorem lt_fuel {m : Nat} (h : m ≤ BIG) : m < FUEL := Nat.lt_of_le_of_lt h (by decide)

/-! ## Trees of tests -/
theorem eval_ret {ρ : Type} (r : ρ) : (Out.ret r).eval = some r := rfl
theorem eval_ite {ρ : Type} (c : Bool) (a b : Out ρ) : (Out.ite c a b).eval = if c = true then a.eval else b.eval := by cases c <;> rfl
theorem eval_ite_t {ρ : Type} {c : Bool} {a b : Out ρ} (h : c = true) : (Out.ite c a b).eval = a.eval := by subst h; rfl
theorem eval_ite_f {ρ : Type} {c : Bool} {a b : Out ρ} (h : c = false) : (Out.ite c a b).eval = b.eval := by subst h; rfl
theorem eval_get_some {ρ α : Type} {o : Option α} {k : α → Out ρ} {x : α} (h : o = some x) : (Out.get o k).eval = (k x).eval := by subst h; rfl
theorem eval_alt_l {ρ α β : Type} {k : α → Out ρ} {h : β → Out ρ} (x : α) : (Out.alt (.inl x) k h).eval = (k x).eval := rfl
theorem eval_alt_r {ρ α β : Type} {k : α → Out ρ} {h : β → Out ρ} (x : β) : (Out.alt (.inr x) k h).eval = (h x).eval := rfl

theorem wrap_succ {i : Nat} (h : i < BIG) : IntKind.i64.wrap ((i : Int) + 1) = ((i + 1 : Nat) : Int) := by
  unfold BIG at h
  rw [IntKind.wrap_i64]
  omega
theorem wrap_id {n : Int} (h0 : -9223372036854775808 ≤ n) (h1 : n ≤ 9223372036854775807) : IntKind.i64.wrap n = n := by
  rw [IntKind.wrap_i64]
  omega
theorem nth_get {α : Type} {l : List α} {i : Nat} (h : i < l.length) : nth l (Int.toNat (i : Int)) = some l[i] := by
  show l[_]? = _
  rw [Int.toNat_natCast, List.getElem?_eq_getElem h]

/-! ## The arguments behind a call -/
section
variable {H : Type} {enc : TypeId × Value → H} {P : Program} {base : Nat} {sp : Nat → Bool}
theorem trodAll_stays {W W' : World} (hl : laidOutB P = true) (hs : ∀ b, b < W.heap.size → W'.heap[b]? = W.heap[b]?) : ∀ {ts : List TypeId} {vs : List Value} {ds : List (DataW H)} {ps : List MemPlace}, (ts.all fun t => P.readableRec t && decide (t < P.types.size)) = true →
    DataW.TrodAll enc P W base (fun _ => true) true ts vs ds ps → (∀ p ∈ ps, p.block < W.heap.size) → (∀ p ∈ ps, sp p.block = true) → DataW.TrodAll enc P W' base sp true ts vs ds ps
  | [], _, _, _, _, h, _, _ => by
    obtain ⟨rfl, rfl, rfl⟩ := trodAll_nil h
    exact trodAll_mk0
  | t :: ts, vs, ds, ps, ht, h, hlt, hsp => by
    obtain ⟨v, vs', d, ds', p1, p2, rfl, rfl, rfl, h1, h2⟩ := trodAll_cons h
    simp only [List.all_cons, Bool.and_eq_true, decide_eq_true_eq] at ht
    refine trodAll_cons_mk ?_ (trodAll_stays hl hs ht.2 h2 (fun p hp => hlt p (by simp [hp])) (fun p hp => hsp p (by simp [hp])))
    refine WideElems.Trod_stays hl ht.1.1 ht.1.2 h1 (fun p hp => ?_) (fun p hp => hsp p (by simp [hp]))
    have := hs p.block (hlt p (by simp [hp]))
    cases p with
    | cell b off => simp only [World.sameAt, World.cell?]; rw [show W'.heap[b]? = W.heap[b]? from this]
    | map b => exact this
end
end Go.Proofs.Ytjcinikojcfebaa.Dm
