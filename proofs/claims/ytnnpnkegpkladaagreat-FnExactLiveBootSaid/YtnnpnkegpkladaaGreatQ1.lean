/- f -/
import Derived.Test.YtnnpnkegpkladaaGreatA12
namespace Go.Proofs.YtnnpnkegpkladaaGreat.Dm
open Go Go.ChangeShapes Go.WideShapes Go.ChangeAt Go.RowKit
def sumBy {α : Type} (c : α → Nat) : List α → Nat
 | [] => 0
 | x :: r => c x + sumBy c r
def mkdL {α : Type} (c : α → Nat) (d : Int → α → α) : Int → List α → List α
 | _, [] => []
 | k, x :: r => d k x :: mkdL c d (k + c x) r
theorem sumBy_const {α : Type} (n : Nat) : ∀ a : List α, sumBy (fun _ => n) a = n * a.length
 | [] => rfl
 | _ :: r => by rw [sumBy, sumBy_const n r, List.length_cons, Nat.mul_add, Nat.mul_one, Nat.add_comm]
theorem mkdL_len {α : Type} {c : α → Nat} {d : Int → α → α} : ∀ {k : Int} {a : List α}, (mkdL c d k a).length = a.length
 | _, [] => rfl
 | _, _ :: r => by simp [mkdL, mkdL_len]
theorem mkcL_d {α : Type} {c : α → Nat} {d : Int → α → α} (h : ∀ k x, c (d k x) = c x) : ∀ (k : Int) (a : List α), sumBy c (mkdL c d k a) = sumBy c a
 | _, [] => rfl
 | k, x :: r => by simp only [mkdL, sumBy, h, mkcL_d h]
theorem mkdL_d {α : Type} {c : α → Nat} {d : Int → α → α} (h : ∀ k x, c (d k x) = c x) (h2 : ∀ j k x, d j (d k x) = d j x) : ∀ (j k : Int) (a : List α), mkdL c d j (mkdL c d k a) = mkdL c d j a
 | _, _, [] => rfl
 | j, k, x :: r => by simp only [mkdL, h, h2, mkdL_d h h2]
theorem sumBy_mem {α : Type} {c : α → Nat} : ∀ {a : List α} {x : α}, x ∈ a → c x ≤ sumBy c a
 | y :: r, x, h => by
   rcases List.mem_cons.1 h with rfl | h
   . exact Nat.le_add_right _ _
   . exact Nat.le_trans (sumBy_mem h) (Nat.le_add_left _ _)
def szP (n : Nat) (l : Int) : Option Int := if 0 ≤ l ∧ l ≤ 1048576 then some (if (n : Int) ≤ l then l - n else -1) else none
def toP {β : Type} (n : Nat) (x : β) : Option β := if n ≤ 1048576 then some x else none
def mkP {β : Type} (n : Nat) (k : Int) (x : β) : Option (Int × β) := if 0 ≤ k ∧ k + n ≤ 4611686018427387904 then some (k + n, x) else none
def hdP (n : Nat) (ok : Bool) (k : Int) : Option Int := if 0 ≤ k ∧ k + n ≤ 4611686018427387904 then some (if ok = true then k + n else -1) else none
theorem szP_in {n : Nat} {l : Int} (h0 : 0 ≤ l) (h1 : l ≤ 1048576) : szP n l = some (if (n : Int) ≤ l then l - n else -1) := if_pos ⟨h0, h1⟩
theorem toP_in {β : Type} {n : Nat} {x : β} (h : n ≤ 1048576) : toP n x = some x := if_pos h
theorem mkP_in {β : Type} {n : Nat} {k : Int} {x : β} (h0 : 0 ≤ k) (h : k + n ≤ 4611686018427387904) : mkP n k x = some (k + n, x) := if_pos ⟨h0, h⟩
theorem hdP_in {n : Nat} {ok : Bool} {k : Int} (h0 : 0 ≤ k) (h : k + n ≤ 4611686018427387904) : hdP n ok k = some (if ok = true then k + n else -1) := if_pos ⟨h0, h⟩
theorem szP_get {α : Type} {n : Nat} {l : Int} {g : Int → Out α} {y : α} (h : (Out.get (szP n l) g).eval = some y) : (0 ≤ l ∧ l ≤ 1048576) ∧ (g (if (n : Int) ≤ l then l - n else -1)).eval = some y := by
 unfold szP at h
 split at h
 . exact ⟨‹_›, h⟩
 . cases h
theorem toP_get {α β : Type} {n : Nat} {x : β} {g : β → Out α} {y : α} (h : (Out.get (toP n x) g).eval = some y) : n ≤ 1048576 ∧ (g x).eval = some y := by
 unfold toP at h
 split at h
 . exact ⟨‹_›, h⟩
 . cases h
theorem mkP_get {α β : Type} {n : Nat} {k : Int} {x : β} {g : Int × β → Out α} {y : α} (h : (Out.get (mkP n k x) g).eval = some y) : 0 ≤ k ∧ k + n ≤ 4611686018427387904 ∧ (g (k + n, x)).eval = some y := by
 unfold mkP at h
 split at h
 . rename_i q; exact ⟨q.1, q.2, h⟩
 . cases h
theorem hdP_get {α : Type} {n : Nat} {ok : Bool} {k : Int} {g : Int → Out α} {y : α} (h : (Out.get (hdP n ok k) g).eval = some y) : 0 ≤ k ∧ k + n ≤ 4611686018427387904 ∧ (g (if ok = true then k + n else -1)).eval = some y := by
 unfold hdP at h
 split at h
 . rename_i q; exact ⟨q.1, q.2, h⟩
 . cases h
theorem wrap_le {x : Int} (h0 : -9223372036854775808 ≤ x) (h1 : x ≤ 9223372036854775807) : IntKind.i64.wrap x = x := by
 rw [IntKind.wrap_i64]; omega
theorem wrap1 {k : Int} (h0 : 0 ≤ k) (h : k ≤ 4611686018427387904) : IntKind.i64.wrap (k + 1) = k + 1 := wrap_le (by omega) (by omega)
section
variable {α σ β γ : Type}
theorem sz_loop {f : σ → Out (Round σ β γ)} (a : List α) (c : α → Nat) (S : Int → Nat → σ) {y : Int → β} {z : γ}
 (hs : ∀ i (hi : i < a.length) (l : Int), 0 ≤ l → l ≤ 1048576 → (f (S l i)).eval = some (if (c a[i] : Int) ≤ l then .again (S (l - c a[i]) (i + 1)) else .ret z))
 (hy : ∀ l, (f (S l a.length)).eval = some (.out (y l))) (ha : a.length ≤ BIG) {l : Int} (h0 : 0 ≤ l) (h1 : l ≤ 1048576) :
 iter f FUEL (S l 0) = some (if (sumBy c a : Int) ≤ l then .inl (y (l - sumBy c a)) else .inr z) := by
 have key : ∀ (m : Nat) (l : Int) (i n : Nat), i + m = a.length → m < n → 0 ≤ l → l ≤ 1048576 → iter f n (S l i) = some (if (sumBy c (a.drop i) : Int) ≤ l then .inl (y (l - sumBy c (a.drop i))) else .inr z) := by
  intro m
  induction m with
  | zero =>
    intro l i n hi hn h0 _
    obtain rfl : i = a.length := by omega
    rw [iter_out' (hy l) hn, List.drop_length, sumBy, if_pos (by omega)]
    simp
  | succ m ih =>
    intro l i n hi hn h0 h1
    have hlt : i < a.length := by omega
    have hq := hs i hlt l h0 h1
    rw [List.drop_eq_getElem_cons hlt, sumBy]
    by_cases q : (c a[i] : Int) ≤ l
    . rw [if_pos q] at hq
      obtain ⟨n, rfl⟩ : ∃ n', n = n' + 1 := ⟨n - 1, by omega⟩
      rw [iter_again hq, ih (l - c a[i]) (i + 1) n (by omega) (by omega) (by omega) (by omega)]
      by_cases q2 : (sumBy c (a.drop (i + 1)) : Int) ≤ l - c a[i]
      . rw [if_pos q2, if_pos (by omega)]
        congr 3; omega
      . rw [if_neg q2, if_neg (by omega)]
    . rw [if_neg q] at hq
      rw [iter_ret' hq (by omega), if_neg (by omega)]
 simpa using key a.length l 0 FUEL (by omega) (lt_fuel ha) h0 h1
theorem hd_loop [DecidableEq α] {f : σ → Out (Round σ β γ)} (a : List α) (c : α → Nat) (d : Int → α → α) (S : Int → Nat → σ) {y : Int → β} {z : γ}
 (hs : ∀ i (hi : i < a.length) (k : Int), 0 ≤ k → k + c a[i] ≤ 4611686018427387904 → (f (S k i)).eval = some (if d k a[i] = a[i] then .again (S (k + c a[i]) (i + 1)) else .ret z))
 (hy : ∀ k, (f (S k a.length)).eval = some (.out (y k))) (ha : a.length ≤ BIG) {k : Int} (h0 : 0 ≤ k) (h : k + sumBy c a ≤ 4611686018427387904) :
 iter f FUEL (S k 0) = some (if mkdL c d k a = a then .inl (y (k + sumBy c a)) else .inr z) := by
 have key : ∀ (m : Nat) (k : Int) (i n : Nat), i + m = a.length → m < n → 0 ≤ k → k + sumBy c (a.drop i) ≤ 4611686018427387904 → iter f n (S k i) = some (if mkdL c d k (a.drop i) = a.drop i then .inl (y (k + sumBy c (a.drop i))) else .inr z) := by
  intro m
  induction m with
  | zero =>
    intro k i n hi hn _ _
    obtain rfl : i = a.length := by omega
    rw [iter_out' (hy k) hn, List.drop_length]
    simp [mkdL, sumBy]
  | succ m ih =>
    intro k i n hi hn h0 hk
    have hlt : i < a.length := by omega
    rw [List.drop_eq_getElem_cons hlt, sumBy] at hk
    have hq := hs i hlt k h0 (by omega)
    rw [List.drop_eq_getElem_cons hlt, sumBy, mkdL]
    by_cases q : d k a[i] = a[i]
    . rw [if_pos q] at hq
      obtain ⟨n, rfl⟩ : ∃ n', n = n' + 1 := ⟨n - 1, by omega⟩
      rw [iter_again hq, ih (k + c a[i]) (i + 1) n (by omega) (by omega) (by omega) (by omega), q, Int.natCast_add, ← Int.add_assoc]
      by_cases q2 : mkdL c d (k + c a[i]) (a.drop (i + 1)) = a.drop (i + 1)
      . rw [if_pos q2, if_pos (by rw [q2])]
      . rw [if_neg q2, if_neg fun e => q2 (List.cons.inj e).2]
    . rw [if_neg q] at hq
      rw [iter_ret' hq (by omega), if_neg (fun e => q (List.cons.inj e).1)]
 simpa using key a.length k 0 FUEL (by omega) (lt_fuel ha) h0 (by simpa using h)
theorem mk_loop {f : σ → Out (Round σ β Empty)} (a : List α) (c : α → Nat) (d : Int → α → α) (S : Int → List α → Nat → σ) (y : Int → List α → β)
 (hs : ∀ i (hi : i < a.length) (k : Int) (l : List α), l.length = a.length → l[i]? = some a[i] → 0 ≤ k → k + c a[i] ≤ 4611686018427387904 → (f (S k l i)).eval = some (.again (S (k + c a[i]) (l.set i (d k a[i])) (i + 1))))
 (hy : ∀ k (l : List α), l.length = a.length → (f (S k l a.length)).eval = some (.out (y k l))) (ha : a.length ≤ BIG) {k : Int} (h0 : 0 ≤ k) (h : k + sumBy c a ≤ 4611686018427387904) :
 iter1 f FUEL (S k a 0) = some (y (k + sumBy c a) (mkdL c d k a)) := by
 have key : ∀ (m i : Nat) (k : Int) (p : List α) (n : Nat), i + m = a.length → p.length = i → m < n → 0 ≤ k → k + sumBy c (a.drop i) ≤ 4611686018427387904 → iter1 f n (S k (p ++ a.drop i) i) = some (y (k + sumBy c (a.drop i)) (p ++ mkdL c d k (a.drop i))) := by
  intro m
  induction m with
  | zero =>
    intro i k p n hi hp hn _ _
    obtain rfl : i = a.length := by omega
    rw [List.drop_length, List.append_nil, iter1_out' (hy k p hp) hn]
    simp [mkdL, sumBy]
  | succ m ih =>
    intro i k p n hi hp hn h0 hk
    have hlt : i < a.length := by omega
    obtain ⟨n, rfl⟩ : ∃ n', n = n' + 1 := ⟨n - 1, by omega⟩
    have h1 : (p ++ a.drop i)[i]? = some a[i] := by
     rw [List.getElem?_append_right (by omega), hp, Nat.sub_self, List.getElem?_drop, Nat.add_zero, List.getElem?_eq_getElem hlt]
    have h2 : (p ++ a.drop i).set i (d k a[i]) = (p ++ [d k a[i]]) ++ a.drop (i + 1) := by
     rw [List.drop_eq_getElem_cons hlt, List.set_append_right _ _ (by omega), hp, Nat.sub_self, List.set_cons_zero, List.append_assoc]; rfl
    rw [List.drop_eq_getElem_cons hlt, sumBy] at hk
    rw [iter1_again (hs i hlt k _ (by simp; omega) h1 h0 (by omega)), h2, ih (i + 1) _ _ n (by omega) (by simp; omega) (by omega) (by omega) (by omega), List.drop_eq_getElem_cons hlt]
    simp [mkdL, sumBy, Int.add_assoc]
 simpa using key a.length 0 k [] FUEL (by omega) rfl (lt_fuel ha) h0 (by simpa using h)
end
abbrev mkcInt (_ : Int) : Nat := 1
abbrev mkdInt (k : Int) (_ : Int) : Int := k
abbrev mkcBool (_ : Bool) : Nat := 1
def mkdBool (k : Int) (_ : Bool) : Bool := decide (k.tmod 3 = 0)
theorem mkcInt_d (k : Int) (x : Int) : mkcInt (mkdInt k x) = mkcInt x := rfl
theorem mkdInt_d (j k : Int) (x : Int) : mkdInt j (mkdInt k x) = mkdInt j x := rfl
theorem mkcBool_d (k : Int) (x : Bool) : mkcBool (mkdBool k x) = mkcBool x := rfl
theorem mkdBool_d (j k : Int) (x : Bool) : mkdBool j (mkdBool k x) = mkdBool j x := rfl
section
variable {α δ σ β γ : Type}
theorem any_loop {f : σ → Out (Round σ β γ)} (a : List α) (p : α → Bool) (S : Nat → σ) {y : β} {z : γ} (hs : ∀ i (hi : i < a.length), (f (S i)).eval = some (if p a[i] = true then .ret z else .again (S (i + 1))))
 (hy : (f (S a.length)).eval = some (.out y)) (ha : a.length ≤ BIG) : iter f FUEL (S 0) = some (if a.any p = true then .inr z else .inl y) := by
 have key : ∀ (m i n : Nat), i + m = a.length → m < n → iter f n (S i) = some (if (a.drop i).any p = true then .inr z else .inl y) := by
  intro m
  induction m with
  | zero =>
    intro i n hi hn
    obtain rfl : i = a.length := by omega
    rw [iter_out' hy hn, List.drop_length]; rfl
  | succ m ih =>
    intro i n hi hn
    have hlt : i < a.length := by omega
    have hq := hs i hlt
    rw [List.drop_eq_getElem_cons hlt, List.any_cons]
    cases q : p a[i] with
    | true => rw [q, if_pos rfl] at hq; rw [iter_ret' hq (by omega)]; simp
    | false =>
      rw [q, if_neg (by decide)] at hq
      obtain ⟨n, rfl⟩ : ∃ n', n = n' + 1 := ⟨n - 1, by omega⟩
      rw [iter_again hq, ih (i + 1) n (by omega) (by omega)]; simp
 simpa using key a.length 0 FUEL (by omega) (lt_fuel ha)
end
theorem mkcL_le {α : Type} {c s : α → Nat} (h : ∀ x, c x ≤ 64 + 64 * s x) : ∀ a : List α, sumBy c a ≤ 64 * (a.length + sumBy s a)
 | [] => Nat.le_refl _
 | x :: r => by
   have h1 := h x
   have h2 := mkcL_le h r
   simp only [sumBy, List.length_cons]
   omega
theorem mkcL_le0 {α : Type} {c : α → Nat} (h : ∀ x, c x ≤ 64) : ∀ a : List α, sumBy c a ≤ 64 * a.length
 | [] => Nat.le_refl _
 | x :: r => by
   have h1 := h x
   have h2 := mkcL_le0 h r
   simp only [sumBy, List.length_cons]
   omega
end Go.Proofs.YtnnpnkegpkladaaGreat.Dm
