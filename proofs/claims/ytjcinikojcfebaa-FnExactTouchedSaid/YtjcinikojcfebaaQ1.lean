/- Functions of the program, and what they compute. -/
import Derived.Test.YtjcinikojcfebaaBase
namespace Go.Proofs.Ytjcinikojcfebaa.Dm
open Go Go.ChangeShapes Go.WideShapes Go.ChangeAt Go.RowKit

abbrev Str := List UInt8
theorem all_eq {α : Type} [DecidableEq α] (a b : List α) (hl : a.length = b.length) : (List.range a.length).all (fun i => decide (a[i]? = b[i]?)) = decide (a = b) := by
  rw [Bool.eq_iff_iff, List.all_eq_true, decide_eq_true_iff]
  constructor
  · intro h
    apply List.ext_getElem?
    intro i
    by_cases hi : i < a.length
    · exact of_decide_eq_true (h i (List.mem_range.2 hi))
    · rw [List.getElem?_eq_none (by omega), List.getElem?_eq_none (by omega)]
  · rintro rfl
    intro i _
    exact decide_eq_true rfl
theorem len_ne {a b : Nat} (h : a ≠ b) : (((a : Nat) : Int) != ((b : Nat) : Int)) = true := by
  simp only [bne_iff_ne, ne_eq]; omega
theorem len_eq {a b : Nat} (h : a = b) : (((a : Nat) : Int) != ((b : Nat) : Int)) = false := by
  subst h; simp
theorem lt_t {i n : Nat} (h : i < n) : decide (((i : Nat) : Int) < ((n : Nat) : Int)) = true := decide_eq_true (by omega)
theorem lt_f {i n : Nat} (h : ¬ i < n) : decide (((i : Nat) : Int) < ((n : Nat) : Int)) = false := decide_eq_false (by omega)
theorem ge0 (i : Nat) : decide (0 ≤ ((i : Nat) : Int)) = true := decide_eq_true (by omega)
theorem inr_t {i n : Nat} (h : i < n) : decide (0 ≤ ((i : Nat) : Int) ∧ ((i : Nat) : Int) < ((n : Nat) : Int)) = true := decide_eq_true (by omega)

/-- A loop that holds two lists against each other. -/
theorem eq_loop {α : Type} [DecidableEq α] {σ β γ : Type} {f : σ → Out (Round σ β γ)} (a b : List α) (s : Nat → σ) {y : β} {z : γ} (hl : a.length = b.length) (ha : a.length ≤ BIG)
    (hy : ∀ i (hi : i < a.length) (hi' : i < b.length), a[i] = b[i] → (f (s i)).eval = some (.again (s (i + 1)))) (hn : ∀ i (hi : i < a.length) (hi' : i < b.length), a[i] ≠ b[i] → (f (s i)).eval = some (.ret z))
    (he : (f (s a.length)).eval = some (.out y)) : iter f FUEL (s 0) = some (if a = b then .inl y else .inr z) := by
  have := iter_scan s (fun i => decide (a[i]? = b[i]?)) a.length (lt_fuel ha) (fun i hi hp => by
    have he := of_decide_eq_true hp
    rw [List.getElem?_eq_getElem hi, List.getElem?_eq_getElem (by omega)] at he
    exact hy i hi (by omega) (Option.some.inj he)) (fun i hi hp => by
    have he := of_decide_eq_false hp
    rw [List.getElem?_eq_getElem hi, List.getElem?_eq_getElem (by omega)] at he
    exact hn i hi (by omega) fun e => he (by rw [e])) he
  rw [this, all_eq a b hl]
  by_cases h : a = b
  · simp only [decide_eq_true h, if_true, if_pos h]
  · simp only [decide_eq_false h, if_neg h]; rfl

/-- A list made item by item. -/
theorem copy_loop {α β σ : Type} {f : σ → Out (Round σ (Unit × List β × Unit) Empty)} (a : List α) (g : α → β) (b0 : List β) (S : Nat → List β → σ) (hb : b0.length = a.length) (ha : a.length ≤ BIG)
    (hs : ∀ i (hi : i < a.length) (l : List β) (hl : l.length = a.length), (f (S i l)).eval = some (.again (S (i + 1) (l.set i (g a[i]))))) (hy : ∀ l, (f (S a.length l)).eval = some (.out ((), (l, ())))) :
    iter1 f FUEL (S 0 b0) = some ((), (a.map g, ())) := by
  have h := iter1_out (f := f) (fun i => S i (((a.map g).take i) ++ b0.drop i)) a.length (y := ((), (a.map g, ()))) (lt_fuel ha)
    (fun i hi => by
      rw [hs i hi _ (by simp; omega)]
      congr 3
      apply List.ext_getElem?
      intro j
      rw [List.getElem?_set]
      by_cases hj : i = j
      · subst hj
        rw [if_pos rfl, if_pos (by simp; omega), List.getElem?_append_left (by simp; omega), List.getElem?_take_of_lt (by omega), List.getElem?_map, List.getElem?_eq_getElem hi]
        rfl
      · rw [if_neg hj]
        by_cases hlt : j < i
        · rw [List.getElem?_append_left (by simp; omega), List.getElem?_append_left (by simp; omega), List.getElem?_take_of_lt hlt, List.getElem?_take_of_lt (by omega)]
        · rw [List.getElem?_append_right (by simp; omega), List.getElem?_append_right (by simp; omega), List.getElem?_drop, List.getElem?_drop]
          congr 1
          simp
          omega)
    (by
      rw [hy]
      congr 4
      rw [List.drop_of_length_le (by omega), List.append_nil, List.take_of_length_le (by simp)])
  simpa using h

theorem lim_cond {α : Type} {a : List α} (h : a.length ≤ LIM) : decide (0 ≤ ((a.length : Nat) : Int) ∧ ((a.length : Nat) : Int) ≤ ((a.length : Nat) : Int) ∧ ((a.length : Nat) : Int) ≤ (LIM : Int)) = true := decide_eq_true (by omega)
theorem lim_cond' {α : Type} {a : List α} (h : ¬ a.length ≤ LIM) : decide (0 ≤ ((a.length : Nat) : Int) ∧ ((a.length : Nat) : Int) ≤ ((a.length : Nat) : Int) ∧ ((a.length : Nat) : Int) ≤ (LIM : Int)) = false := decide_eq_false (by omega)
theorem LIM_eq : LIM = 68719476736 := rfl
theorem iter1_again {α β : Type} {f : α → Out (Round α β Empty)} {n : Nat} {x x' : α} (h : (f x).eval = some (.again x')) : iter1 f (n + 1) x = iter1 f n x' := by unfold iter1; rw [iter_again h]
theorem iter1_out' {α β : Type} {f : α → Out (Round α β Empty)} {n : Nat} {x : α} {y : β} (h : (f x).eval = some (.out y)) (hn : 0 < n) : iter1 f n x = some y := by unfold iter1; rw [iter_out' h hn]; rfl


/-! ## How much there is; marks; copies -/
def sumBy {α : Type} (c : α → Nat) : List α → Nat
  | [] => 0
  | x :: r => c x + sumBy c r
def mkdL {α : Type} (c : α → Nat) (d : Int → α → α) : Int → List α → List α
  | _, [] => []
  | k, x :: r => d k x :: mkdL c d (k + c x) r
theorem sumBy_const {α : Type} (n : Nat) : ∀ a : List α, sumBy (fun _ => n) a = n * a.length
  | [] => rfl
  | _ :: r => by rw [sumBy, sumBy_const n r, List.length_cons, Nat.mul_add, Nat.mul_one, Nat.add_comm]
theorem mkdL_len {α : Type} {c : α → Nat} {d : Int → α → α} : ∀ {k : Int} {a : List α}, (mkdL c d k a).length = a.length
  | _, [] => rfl
  | _, _ :: r => by simp [mkdL, mkdL_len]
theorem mkcL_d {α : Type} {c : α → Nat} {d : Int → α → α} (h : ∀ k x, c (d k x) = c x) : ∀ (k : Int) (a : List α), sumBy c (mkdL c d k a) = sumBy c a
  | _, [] => rfl
  | k, x :: r => by simp only [mkdL, sumBy, h, mkcL_d h]
theorem mkdL_d {α : Type} {c : α → Nat} {d : Int → α → α} (h : ∀ k x, c (d k x) = c x) (h2 : ∀ j k x, d j (d k x) = d j x) : ∀ (j k : Int) (a : List α), mkdL c d j (mkdL c d k a) = mkdL c d j a
  | _, _, [] => rfl
  | j, k, x :: r => by simp only [mkdL, h, h2, mkdL_d h h2]
theorem sumBy_mem {α : Type} {c : α → Nat} : ∀ {a : List α} {x : α}, x ∈ a → c x ≤ sumBy c a
  | y :: r, x, h => by
    rcases List.mem_cons.1 h with rfl | h
    · exact Nat.le_add_right _ _
    · exact Nat.le_trans (sumBy_mem h) (Nat.le_add_left _ _)
def szP (n : Nat) (l : Int) : Option Int := if 0 ≤ l ∧ l ≤ 1048576 then some (if (n : Int) ≤ l then l - n else -1) else none
def toP {β : Type} (n : Nat) (x : β) : Option β := if n ≤ 1048576 then some x else none
def mkP {β : Type} (n : Nat) (k : Int) (x : β) : Option (Int × β) := if 0 ≤ k ∧ k + n ≤ 4611686018427387904 then some (k + n, x) else none
def mkP0 (n : Nat) (k : Int) : Option Int := if 0 ≤ k ∧ k + n ≤ 4611686018427387904 then some (k + n) else none
def hdP (n : Nat) (ok : Bool) (k : Int) : Option Int := if 0 ≤ k ∧ k + n ≤ 4611686018427387904 then some (if ok = true then k + n else -1) else none
theorem szP_in {n : Nat} {l : Int} (h0 : 0 ≤ l) (h1 : l ≤ 1048576) : szP n l = some (if (n : Int) ≤ l then l - n else -1) := if_pos ⟨h0, h1⟩
theorem toP_in {β : Type} {n : Nat} {x : β} (h : n ≤ 1048576) : toP n x = some x := if_pos h
theorem mkP_in {β : Type} {n : Nat} {k : Int} {x : β} (h0 : 0 ≤ k) (h : k + n ≤ 4611686018427387904) : mkP n k x = some (k + n, x) := if_pos ⟨h0, h⟩
theorem mkP0_in {n : Nat} {k : Int} (h0 : 0 ≤ k) (h : k + n ≤ 4611686018427387904) : mkP0 n k = some (k + n) := if_pos ⟨h0, h⟩
theorem hdP_in {n : Nat} {ok : Bool} {k : Int} (h0 : 0 ≤ k) (h : k + n ≤ 4611686018427387904) : hdP n ok k = some (if ok = true then k + n else -1) := if_pos ⟨h0, h⟩
theorem szP_get {α : Type} {n : Nat} {l : Int} {g : Int → Out α} {y : α} (h : (Out.get (szP n l) g).eval = some y) : (0 ≤ l ∧ l ≤ 1048576) ∧ (g (if (n : Int) ≤ l then l - n else -1)).eval = some y := by
  unfold szP at h
  split at h
  · exact ⟨‹_›, h⟩
  · cases h
theorem toP_get {α β : Type} {n : Nat} {x : β} {g : β → Out α} {y : α} (h : (Out.get (toP n x) g).eval = some y) : n ≤ 1048576 ∧ (g x).eval = some y := by
  unfold toP at h
  split at h
  · exact ⟨‹_›, h⟩
  · cases h
theorem mkP_get {α β : Type} {n : Nat} {k : Int} {x : β} {g : Int × β → Out α} {y : α} (h : (Out.get (mkP n k x) g).eval = some y) : 0 ≤ k ∧ k + n ≤ 4611686018427387904 ∧ (g (k + n, x)).eval = some y := by
  unfold mkP at h
  split at h
  · rename_i q; exact ⟨q.1, q.2, h⟩
  · cases h
theorem mkP0_get {α : Type} {n : Nat} {k : Int} {g : Int → Out α} {y : α} (h : (Out.get (mkP0 n k) g).eval = some y) : 0 ≤ k ∧ k + n ≤ 4611686018427387904 ∧ (g (k + n)).eval = some y := by
  unfold mkP0 at h
  split at h
  · rename_i q; exact ⟨q.1, q.2, h⟩
  · cases h
theorem hdP_get {α : Type} {n : Nat} {ok : Bool} {k : Int} {g : Int → Out α} {y : α} (h : (Out.get (hdP n ok k) g).eval = some y) : 0 ≤ k ∧ k + n ≤ 4611686018427387904 ∧ (g (if ok = true then k + n else -1)).eval = some y := by
  unfold hdP at h
  split at h
  · rename_i q; exact ⟨q.1, q.2, h⟩
  · cases h
theorem wrap_le {x : Int} (h0 : -9223372036854775808 ≤ x) (h1 : x ≤ 9223372036854775807) : IntKind.i64.wrap x = x := by
  rw [IntKind.wrap_i64]; omega
theorem wrap1 {k : Int} (h0 : 0 ≤ k) (h : k ≤ 4611686018427387904) : IntKind.i64.wrap (k + 1) = k + 1 := wrap_le (by omega) (by omega)
section
variable {α σ β γ : Type}
theorem sz_loop {f : σ → Out (Round σ β γ)} (a : List α) (c : α → Nat) (S : Int → Nat → σ) {y : Int → β} {z : γ}
    (hs : ∀ i (hi : i < a.length) (l : Int), 0 ≤ l → l ≤ 1048576 → (f (S l i)).eval = some (if (c a[i] : Int) ≤ l then .again (S (l - c a[i]) (i + 1)) else .ret z))
    (hy : ∀ l, (f (S l a.length)).eval = some (.out (y l))) (ha : a.length ≤ BIG) {l : Int} (h0 : 0 ≤ l) (h1 : l ≤ 1048576) :
    iter f FUEL (S l 0) = some (if (sumBy c a : Int) ≤ l then .inl (y (l - sumBy c a)) else .inr z) := by
  have key : ∀ (m : Nat) (l : Int) (i n : Nat), i + m = a.length → m < n → 0 ≤ l → l ≤ 1048576 → iter f n (S l i) = some (if (sumBy c (a.drop i) : Int) ≤ l then .inl (y (l - sumBy c (a.drop i))) else .inr z) := by
    intro m
    induction m with
    | zero =>
      intro l i n hi hn h0 _
      obtain rfl : i = a.length := by omega
      rw [iter_out' (hy l) hn, List.drop_length, sumBy, if_pos (by omega)]
      simp
    | succ m ih =>
      intro l i n hi hn h0 h1
      have hlt : i < a.length := by omega
      have hq := hs i hlt l h0 h1
      rw [List.drop_eq_getElem_cons hlt, sumBy]
      by_cases q : (c a[i] : Int) ≤ l
      · rw [if_pos q] at hq
        obtain ⟨n, rfl⟩ : ∃ n', n = n' + 1 := ⟨n - 1, by omega⟩
        rw [iter_again hq, ih (l - c a[i]) (i + 1) n (by omega) (by omega) (by omega) (by omega)]
        by_cases q2 : (sumBy c (a.drop (i + 1)) : Int) ≤ l - c a[i]
        · rw [if_pos q2, if_pos (by omega)]
          congr 3; omega
        · rw [if_neg q2, if_neg (by omega)]
      · rw [if_neg q] at hq
        rw [iter_ret' hq (by omega), if_neg (by omega)]
  simpa using key a.length l 0 FUEL (by omega) (lt_fuel ha) h0 h1
theorem hd_loop [DecidableEq α] {f : σ → Out (Round σ β γ)} (a : List α) (c : α → Nat) (d : Int → α → α) (S : Int → Nat → σ) {y : Int → β} {z : γ}
    (hs : ∀ i (hi : i < a.length) (k : Int), 0 ≤ k → k + c a[i] ≤ 4611686018427387904 → (f (S k i)).eval = some (if d k a[i] = a[i] then .again (S (k + c a[i]) (i + 1)) else .ret z))
    (hy : ∀ k, (f (S k a.length)).eval = some (.out (y k))) (ha : a.length ≤ BIG) {k : Int} (h0 : 0 ≤ k) (h : k + sumBy c a ≤ 4611686018427387904) :
    iter f FUEL (S k 0) = some (if mkdL c d k a = a then .inl (y (k + sumBy c a)) else .inr z) := by
  have key : ∀ (m : Nat) (k : Int) (i n : Nat), i + m = a.length → m < n → 0 ≤ k → k + sumBy c (a.drop i) ≤ 4611686018427387904 → iter f n (S k i) = some (if mkdL c d k (a.drop i) = a.drop i then .inl (y (k + sumBy c (a.drop i))) else .inr z) := by
    intro m
    induction m with
    | zero =>
      intro k i n hi hn _ _
      obtain rfl : i = a.length := by omega
      rw [iter_out' (hy k) hn, List.drop_length]
      simp [mkdL, sumBy]
    | succ m ih =>
      intro k i n hi hn h0 hk
      have hlt : i < a.length := by omega
      rw [List.drop_eq_getElem_cons hlt, sumBy] at hk
      have hq := hs i hlt k h0 (by omega)
      rw [List.drop_eq_getElem_cons hlt, sumBy, mkdL]
      by_cases q : d k a[i] = a[i]
      · rw [if_pos q] at hq
        obtain ⟨n, rfl⟩ : ∃ n', n = n' + 1 := ⟨n - 1, by omega⟩
        rw [iter_again hq, ih (k + c a[i]) (i + 1) n (by omega) (by omega) (by omega) (by omega), q, Int.natCast_add, ← Int.add_assoc]
        by_cases q2 : mkdL c d (k + c a[i]) (a.drop (i + 1)) = a.drop (i + 1)
        · rw [if_pos q2, if_pos (by rw [q2])]
        · rw [if_neg q2, if_neg fun e => q2 (List.cons.inj e).2]
      · rw [if_neg q] at hq
        rw [iter_ret' hq (by omega), if_neg (fun e => q (List.cons.inj e).1)]
  simpa using key a.length k 0 FUEL (by omega) (lt_fuel ha) h0 (by simpa using h)
theorem mk_loop {f : σ → Out (Round σ β Empty)} (a : List α) (c : α → Nat) (d : Int → α → α) (S : Int → List α → Nat → σ) (y : Int → List α → β)
    (hs : ∀ i (hi : i < a.length) (k : Int) (l : List α), l.length = a.length → l[i]? = some a[i] → 0 ≤ k → k + c a[i] ≤ 4611686018427387904 → (f (S k l i)).eval = some (.again (S (k + c a[i]) (l.set i (d k a[i])) (i + 1))))
    (hy : ∀ k (l : List α), l.length = a.length → (f (S k l a.length)).eval = some (.out (y k l))) (ha : a.length ≤ BIG) {k : Int} (h0 : 0 ≤ k) (h : k + sumBy c a ≤ 4611686018427387904) :
    iter1 f FUEL (S k a 0) = some (y (k + sumBy c a) (mkdL c d k a)) := by
  have key : ∀ (m i : Nat) (k : Int) (p : List α) (n : Nat), i + m = a.length → p.length = i → m < n → 0 ≤ k → k + sumBy c (a.drop i) ≤ 4611686018427387904 → iter1 f n (S k (p ++ a.drop i) i) = some (y (k + sumBy c (a.drop i)) (p ++ mkdL c d k (a.drop i))) := by
    intro m
    induction m with
    | zero =>
      intro i k p n hi hp hn _ _
      obtain rfl : i = a.length := by omega
      rw [List.drop_length, List.append_nil, iter1_out' (hy k p hp) hn]
      simp [mkdL, sumBy]
    | succ m ih =>
      intro i k p n hi hp hn h0 hk
      have hlt : i < a.length := by omega
      obtain ⟨n, rfl⟩ : ∃ n', n = n' + 1 := ⟨n - 1, by omega⟩
      have h1 : (p ++ a.drop i)[i]? = some a[i] := by
        rw [List.getElem?_append_right (by omega), hp, Nat.sub_self, List.getElem?_drop, Nat.add_zero, List.getElem?_eq_getElem hlt]
      have h2 : (p ++ a.drop i).set i (d k a[i]) = (p ++ [d k a[i]]) ++ a.drop (i + 1) := by
        rw [List.drop_eq_getElem_cons hlt, List.set_append_right _ _ (by omega), hp, Nat.sub_self, List.set_cons_zero, List.append_assoc]; rfl
      rw [List.drop_eq_getElem_cons hlt, sumBy] at hk
      rw [iter1_again (hs i hlt k _ (by simp; omega) h1 h0 (by omega)), h2, ih (i + 1) _ _ n (by omega) (by simp; omega) (by omega) (by omega) (by omega), List.drop_eq_getElem_cons hlt]
      simp [mkdL, sumBy, Int.add_assoc]
  simpa using key a.length 0 k [] FUEL (by omega) rfl (lt_fuel ha) h0 (by simpa using h)
end
abbrev mkcInt (_ : Int) : Nat := 1
abbrev mkdInt (k : Int) (_ : Int) : Int := k
abbrev mkcBool (_ : Bool) : Nat := 1
def mkdBool (k : Int) (_ : Bool) : Bool := decide (k.tmod 3 = 0)
theorem mkcInt_d (k : Int) (x : Int) : mkcInt (mkdInt k x) = mkcInt x := rfl
theorem mkdInt_d (j k : Int) (x : Int) : mkdInt j (mkdInt k x) = mkdInt j x := rfl
theorem mkcBool_d (k : Int) (x : Bool) : mkcBool (mkdBool k x) = mkcBool x := rfl
theorem mkdBool_d (j k : Int) (x : Bool) : mkdBool j (mkdBool k x) = mkdBool j x := rfl
section
variable {α δ σ β γ : Type}
/-- A loop that carries something along. -/
theorem foldl_loop {f : σ → Out (Round σ β Empty)} (a : List α) (g : δ → α → δ) (P : Nat → δ → Prop) (S : δ → Nat → σ) (y : δ → β) (hP : ∀ i (_ : i < a.length) d, P i d → P (i + 1) (g d a[i]))
    (hs : ∀ i (hi : i < a.length) d, P i d → (f (S d i)).eval = some (.again (S (g d a[i]) (i + 1)))) (hy : ∀ d, P a.length d → (f (S d a.length)).eval = some (.out (y d))) (ha : a.length ≤ BIG) {d : δ} (h0 : P 0 d) :
    iter1 f FUEL (S d 0) = some (y (a.foldl g d)) := by
  have key : ∀ (m i : Nat) (d : δ) (n : Nat), i + m = a.length → m < n → P i d → iter1 f n (S d i) = some (y ((a.drop i).foldl g d)) := by
    intro m
    induction m with
    | zero =>
      intro i d n hi hn hp
      obtain rfl : i = a.length := by omega
      rw [iter1_out' (hy d hp) hn, List.drop_length]; rfl
    | succ m ih =>
      intro i d n hi hn hp
      have hlt : i < a.length := by omega
      obtain ⟨n, rfl⟩ : ∃ n', n = n' + 1 := ⟨n - 1, by omega⟩
      rw [iter1_again (hs i hlt d hp), ih (i + 1) _ n (by omega) (by omega) (hP i hlt d hp), List.drop_eq_getElem_cons hlt]; rfl
  simpa using key a.length 0 d FUEL (by omega) (lt_fuel ha) h0
/-- A loop that looks for an item. -/
theorem any_loop {f : σ → Out (Round σ β γ)} (a : List α) (p : α → Bool) (S : Nat → σ) {y : β} {z : γ} (hs : ∀ i (hi : i < a.length), (f (S i)).eval = some (if p a[i] = true then .ret z else .again (S (i + 1))))
    (hy : (f (S a.length)).eval = some (.out y)) (ha : a.length ≤ BIG) : iter f FUEL (S 0) = some (if a.any p = true then .inr z else .inl y) := by
  have key : ∀ (m i n : Nat), i + m = a.length → m < n → iter f n (S i) = some (if (a.drop i).any p = true then .inr z else .inl y) := by
    intro m
    induction m with
    | zero =>
      intro i n hi hn
      obtain rfl : i = a.length := by omega
      rw [iter_out' hy hn, List.drop_length]; rfl
    | succ m ih =>
      intro i n hi hn
      have hlt : i < a.length := by omega
      have hq := hs i hlt
      rw [List.drop_eq_getElem_cons hlt, List.any_cons]
      cases q : p a[i] with
      | true => rw [q, if_pos rfl] at hq; rw [iter_ret' hq (by omega)]; simp
      | false =>
        rw [q, if_neg (by decide)] at hq
        obtain ⟨n, rfl⟩ : ∃ n', n = n' + 1 := ⟨n - 1, by omega⟩
        rw [iter_again hq, ih (i + 1) n (by omega) (by omega)]; simp
  simpa using key a.length 0 FUEL (by omega) (lt_fuel ha)
end
theorem sumBy_zero {α : Type} : ∀ a : List α, sumBy (fun _ => 0) a = 0
  | [] => rfl
  | _ :: r => by rw [sumBy, sumBy_zero r]
theorem mkcL_le {α : Type} {c s : α → Nat} (h : ∀ x, c x ≤ 64 + 64 * s x) : ∀ a : List α, sumBy c a ≤ 64 * (a.length + sumBy s a)
  | [] => Nat.le_refl _
  | x :: r => by
    have h1 := h x
    have h2 := mkcL_le h r
    simp only [sumBy, List.length_cons]
    omega
theorem mkcL_le0 {α : Type} {c : α → Nat} (h : ∀ x, c x ≤ 64) : ∀ a : List α, sumBy c a ≤ 64 * a.length
  | [] => Nat.le_refl _
  | x :: r => by
    have h1 := h x
    have h2 := mkcL_le0 h r
    simp only [sumBy, List.length_cons]
    omega

end Go.Proofs.Ytjcinikojcfebaa.Dm
