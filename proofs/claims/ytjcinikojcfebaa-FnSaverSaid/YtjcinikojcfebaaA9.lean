/- Functions of the program, and what they compute. -/
import Derived.Test.YtjcinikojcfebaaA8
namespace Go.Proofs.Ytjcinikojcfebaa.Dm
open Go Go.ChangeShapes Go.WideShapes Go.ChangeAt Go.RowKit

/-! ## Numbers read from texts -/
/-- The number that bytes stand for, the lowest first. -/
def decB : Str → Nat
  | [] => 0
  | b :: r => b.toNat % 128 + 128 * decB r
/-- Are these the bytes of a number? -/
def canonB : Str → Bool
  | [] => false
  | b :: r => if r = [] then decide (b.toNat < 128) else decide (128 ≤ b.toNat) && canonB r && !decide (r = [0])
theorem canonB_snoc : ∀ (p : Str) (b : UInt8), canonB (p ++ [b]) = true ↔ (∀ x ∈ p, 128 ≤ x.toNat) ∧ b.toNat < 128 ∧ (p = [] ∨ b ≠ 0)
  | [], b => by simp [canonB]
  | x :: p, b => by
    have ih := canonB_snoc p b
    rw [List.cons_append, canonB, if_neg (by simp)]
    simp only [Bool.and_eq_true, ih, decide_eq_true_eq, Bool.not_eq_true', decide_eq_false_iff_not, List.mem_cons, forall_eq_or_imp]
    constructor
    · rintro ⟨⟨h1, h2, h3, h4⟩, h5⟩
      refine ⟨⟨h1, h2⟩, h3, .inr fun e => ?_⟩
      rcases h4 with h4 | h4
      · subst h4; subst e; exact h5 rfl
      · exact h4 e
    · rintro ⟨⟨h1, h2⟩, h3, h4⟩
      rcases h4 with h4 | h4
      · cases h4
      · refine ⟨⟨h1, h2, h3, .inr h4⟩, fun e => ?_⟩
        cases p with
        | nil => simp at e; exact h4 e
        | cons y p => simp at e
theorem u8_of (b : UInt8) : UInt8.ofNat b.toNat = b := by simp
theorem varB_dec : ∀ (l : Str), l ≠ [] → (varB (decB l) = l ↔ canonB l = true)
  | [], h => absurd rfl h
  | [b], _ => by
    have hb := b.toNat_lt
    have e : decB [b] = b.toNat % 128 := by simp [decB]
    rw [e, varB_lt (by omega)]
    simp only [canonB, if_true, decide_eq_true_eq, List.cons.injEq, and_true]
    constructor
    · intro h
      have := congrArg UInt8.toNat h
      rw [UInt8.toNat_ofNat'] at this; omega
    · intro h
      rw [Nat.mod_eq_of_lt h]; simp
  | b :: c :: r, _ => by
    have ih := varB_dec (c :: r) (by simp)
    have hb := b.toNat_lt
    rw [canonB, if_neg (by simp)]
    rw [decB]
    generalize hd : decB (c :: r) = d at ih ⊢
    simp only [Bool.and_eq_true, ← ih, decide_eq_true_eq, Bool.not_eq_true', decide_eq_false_iff_not]
    constructor
    · intro h
      by_cases hn : b.toNat % 128 + 128 * d < 128
      · rw [varB_lt hn] at h; simp at h
      · rw [varB_ge hn] at h
        have e1 : (b.toNat % 128 + 128 * d) / 128 = d := by omega
        have e2 : (b.toNat % 128 + 128 * d) % 128 = b.toNat % 128 := by omega
        rw [e1, e2, List.cons.injEq] at h
        refine ⟨⟨?_, h.2⟩, fun e => ?_⟩
        · have := congrArg UInt8.toNat h.1
          rw [UInt8.toNat_ofNat'] at this; omega
        · rw [e] at hd
          have : d = 0 := by rw [← hd]; rfl
          omega
    · rintro ⟨⟨h1, h2⟩, h3⟩
      have hd0 : d ≠ 0 := by
        rintro rfl
        rw [varB_lt (by omega)] at h2
        exact h3 h2.symm
      rw [varB_ge (by omega)]
      have e1 : (b.toNat % 128 + 128 * d) / 128 = d := by omega
      have e2 : (b.toNat % 128 + 128 * d) % 128 = b.toNat % 128 := by omega
      rw [e1, e2, h2, show 128 + b.toNat % 128 = b.toNat by omega, u8_of]
theorem decB_lt : ∀ (l : Str), decB l < 128 ^ l.length
  | [] => by simp [decB]
  | b :: r => by
    have := decB_lt r
    simp only [decB, List.length_cons, Nat.pow_succ]
    omega
theorem decB_snoc : ∀ (l : Str) (b : UInt8), decB (l ++ [b]) = decB l + 128 ^ l.length * (b.toNat % 128)
  | [], b => by simp [decB]
  | x :: l, b => by
    rw [List.cons_append, decB, decB, decB_snoc l b, List.length_cons, Nat.pow_succ, Nat.mul_add, ← Nat.mul_assoc, Nat.mul_comm 128 (128 ^ l.length)]
    omega
/-- Where the first number of a text ends, if there is one: the place of its last byte. -/
def rvI (s : Str) : Option Nat := (List.range (min 7 s.length)).findIdx? fun i => canonB (s.take (i + 1))
def rvV (s : Str) : Int × Int := match rvI s with
  | some i => (((decB (s.take (i + 1)) : Nat) : Int), ((i + 1 : Nat) : Int))
  | none => (0, 0)
theorem rvI_some {s : Str} {i : Nat} : rvI s = some i ↔ i < min 7 s.length ∧ canonB (s.take (i + 1)) = true ∧ ∀ j, j < i → canonB (s.take (j + 1)) = false := by
  unfold rvI
  rw [List.findIdx?_eq_some_iff_getElem]
  constructor
  · rintro ⟨h, h1, h2⟩
    rw [List.length_range] at h
    rw [List.getElem_range] at h1
    refine ⟨h, h1, fun j hj => ?_⟩
    have := h2 j hj
    rw [List.getElem_range] at this
    simpa using this
  · rintro ⟨h, h1, h2⟩
    refine ⟨by rw [List.length_range]; exact h, by rw [List.getElem_range]; exact h1, fun j hj => by rw [List.getElem_range]; simpa using h2 j hj⟩
theorem rvI_none {s : Str} : rvI s = none ↔ ∀ i, i < min 7 s.length → canonB (s.take (i + 1)) = false := by
  unfold rvI
  rw [List.findIdx?_eq_none_iff]
  simp only [List.mem_range]
theorem take_snoc {s : Str} {i : Nat} (h : i < s.length) : s.take (i + 1) = s.take i ++ [s[i]] := List.take_succ_eq_append_getElem h
/-- The first byte below 128 ends the number, if any does. -/
theorem rv_scan {s : Str} {j : Nat} (hj : j < min 7 s.length) (hb : ∀ i (_ : i < j) (h : i < s.length), 128 ≤ s[i].toNat) (he : (s[j]'(by omega)).toNat < 128) :
    rvI s = if 0 < j ∧ s[j]'(by omega) = 0 then none else some j := by
  have hjl : j < s.length := by omega
  have no : ∀ i, i < j → canonB (s.take (i + 1)) = false := fun i hi => by
    rw [Bool.eq_false_iff, ne_eq, take_snoc (by omega), canonB_snoc]
    rintro ⟨_, h, _⟩
    have := hb i hi (by omega)
    omega
  have all : ∀ x ∈ s.take j, 128 ≤ x.toNat := fun x hx => by
    obtain ⟨i, hi, rfl⟩ := List.getElem_of_mem hx
    rw [List.length_take] at hi
    rw [List.getElem_take]
    exact hb i (by omega) (by omega)
  split
  · rename_i h
    refine rvI_none.2 fun i hi => ?_
    by_cases h1 : i < j
    · exact no i h1
    · rw [Bool.eq_false_iff, ne_eq, take_snoc (by omega), canonB_snoc]
      rintro ⟨q1, q2, q3⟩
      by_cases h2 : i = j
      · subst h2
        rcases q3 with q3 | q3
        · have := congrArg List.length q3
          rw [List.length_take, List.length_nil] at this; omega
        · exact q3 h.2
      · have := q1 (s[j]) (by
          have : j < (s.take i).length := by rw [List.length_take]; omega
          exact List.mem_of_getElem (i := j) (h := this) (by rw [List.getElem_take]))
        omega
  · rename_i h
    refine rvI_some.2 ⟨hj, ?_, no⟩
    rw [take_snoc hjl, canonB_snoc]
    refine ⟨all, he, ?_⟩
    by_cases h0 : j = 0
    · subst h0; exact .inl (by simp)
    · exact .inr fun e => h ⟨by omega, e⟩
theorem rv_all {s : Str} (hb : ∀ i (_ : i < min 7 s.length) (h : i < s.length), 128 ≤ s[i].toNat) : rvI s = none := by
  refine rvI_none.2 fun i hi => ?_
  rw [Bool.eq_false_iff, ne_eq, take_snoc (by omega), canonB_snoc]
  rintro ⟨_, h, _⟩
  have := hb i hi (by omega)
  omega
theorem rvV_bounds (s : Str) : (0 ≤ (rvV s).1 ∧ (rvV s).1 ≤ 562949953421311) ∧ 0 ≤ (rvV s).2 ∧ (rvV s).2 ≤ ((s.length : Nat) : Int) ∧ (rvV s).2 ≤ 7 := by
  unfold rvV
  split
  · rename_i i h
    have h := (rvI_some.1 h).1
    have h1 := decB_lt (s.take (i + 1))
    have h2 : 128 ^ (s.take (i + 1)).length ≤ 128 ^ 7 := Nat.pow_le_pow_right (by decide) (by rw [List.length_take]; omega)
    refine ⟨⟨by omega, ?_⟩, by omega, by omega, by omega⟩
    have : (128 : Nat) ^ 7 = 562949953421312 := by decide
    omega
  · simp
theorem rvI_lt {s : Str} {i : Nat} (h : rvI s = some i) : i < 7 ∧ i < s.length := by have := (rvI_some.1 h).1; omega
theorem rvI_varB {s : Str} {i : Nat} (h : rvI s = some i) : varB (decB (s.take (i + 1))) = s.take (i + 1) :=
  (varB_dec _ (by intro e; have := congrArg List.length e; rw [List.length_take, List.length_nil] at this; have := rvI_lt h; omega)).2 (rvI_some.1 h).2.1
theorem rvI_dec {s : Str} {i : Nat} (h : rvI s = some i) : decB (s.take (i + 1)) < 562949953421312 := by
  have h1 := decB_lt (s.take (i + 1))
  have h2 : 128 ^ (s.take (i + 1)).length ≤ 128 ^ 7 := Nat.pow_le_pow_right (by decide) (by rw [List.length_take]; have := rvI_lt h; omega)
  have : (128 : Nat) ^ 7 = 562949953421312 := by decide
  omega
theorem varV_nat {n : Nat} (h : n < 562949953421312) : varV ((n : Nat) : Int) = varB n := by
  unfold varV
  rw [if_pos (by unfold inV; rw [decide_eq_true (by omega), decide_eq_true (by omega)]; rfl)]
  rfl
theorem decB_varB : ∀ (n : Nat), decB (varB n) = n := by
  intro n
  induction n using Nat.strongRecOn with
  | _ n ih =>
    by_cases h : n < 128
    · rw [varB_lt h]; simp [decB]; omega
    · rw [varB_ge h, decB, ih (n / 128) (by omega), UInt8.toNat_ofNat']; omega
theorem varB_ne (n : Nat) : varB n ≠ [] := by
  by_cases h : n < 128
  · rw [varB_lt h]; simp
  · rw [varB_ge h]; simp
theorem canonB_varB (n : Nat) : canonB (varB n) = true := (varB_dec _ (varB_ne n)).1 (by rw [decB_varB])
/-- A number that stands first is read. -/
theorem rvI_cat {n : Nat} (h : n < 562949953421312) (r : Str) : rvI (varB n ++ r) = some ((varB n).length - 1) := by
  have hl := varB_len7 h
  have hp : 0 < (varB n).length := List.length_pos_iff.2 (varB_ne n)
  refine rvI_some.2 ⟨by rw [List.length_append]; omega, ?_, fun j hj => ?_⟩
  · rw [Nat.sub_add_cancel hp, List.take_left']
    · exact canonB_varB n
    · rfl
  · have hc := canonB_varB n
    have e : varB n = (varB n).dropLast ++ [(varB n).getLast (varB_ne n)] := (List.dropLast_concat_getLast (varB_ne n)).symm
    rw [e, canonB_snoc] at hc
    rw [Bool.eq_false_iff, ne_eq, List.take_append_of_le_length (by omega), take_snoc (by omega), canonB_snoc]
    rintro ⟨_, q, _⟩
    have := hc.1 ((varB n)[j]'(by omega)) (List.mem_of_getElem (i := j) (h := by rw [List.length_dropLast]; exact hj) (by rw [List.getElem_dropLast]))
    omega
theorem rv_take {n : Nat} (h : n < 562949953421312) (r : Str) : decB ((varB n ++ r).take ((varB n).length - 1 + 1)) = n := by
  have hp : 0 < (varB n).length := List.length_pos_iff.2 (varB_ne n)
  rw [Nat.sub_add_cancel hp, List.take_left' rfl, decB_varB]

/-- So many numbers, and how many bytes they take. -/
def numsP : Nat → Str → Option (List Int × Nat)
  | 0, _ => some ([], 0)
  | n + 1, s => match rvI s with
    | none => none
    | some i => match numsP n (s.drop (i + 1)) with
      | none => none
      | some (l, k) => some (((decB (s.take (i + 1)) : Nat) : Int) :: l, i + 1 + k)
theorem numsP_le : ∀ {n : Nat} {s : Str} {l : List Int} {k : Nat}, numsP n s = some (l, k) → k ≤ s.length ∧ l.length = n ∧ (∀ x ∈ l, 0 ≤ x ∧ x ≤ 562949953421311) ∧ s.take k = l.flatMap varV
  | 0, s, l, k, h => by simp only [numsP, Option.some.injEq, Prod.mk.injEq] at h; obtain ⟨rfl, rfl⟩ := h; simp
  | n + 1, s, l, k, h => by
    simp only [numsP] at h
    split at h
    · exact nomatch h
    · rename_i i hi
      split at h
      · exact nomatch h
      · rename_i l' k' hr
        simp only [Option.some.injEq, Prod.mk.injEq] at h
        obtain ⟨rfl, rfl⟩ := h
        have h1 := numsP_le hr
        have h2 := rvI_lt hi
        have h3 := rvI_dec hi
        rw [List.length_drop] at h1
        refine ⟨by omega, by rw [List.length_cons, h1.2.1], fun x hx => ?_, ?_⟩
        · rcases List.mem_cons.1 hx with rfl | hx
          · omega
          · exact h1.2.2.1 x hx
        · rw [List.flatMap_cons, varV_nat h3, rvI_varB hi, ← h1.2.2.2, List.take_add]
theorem numsP_cat : ∀ (l : List Nat) (r : Str), (∀ x ∈ l, x < 562949953421312) → numsP l.length (l.flatMap varB ++ r) = some (l.map fun x => ((x : Nat) : Int), (l.flatMap varB).length)
  | [], r, _ => rfl
  | x :: l, r, h => by
    have hx := h x (by simp)
    have ih := numsP_cat l r fun y hy => h y (by simp [hy])
    have hp : 0 < (varB x).length := List.length_pos_iff.2 (varB_ne x)
    rw [List.length_cons, numsP, List.flatMap_cons, List.append_assoc, rvI_cat hx]
    simp only
    rw [rv_take hx, Nat.sub_add_cancel hp, List.drop_left' rfl, ih]
    simp
theorem numsP_add : ∀ (m n : Nat) (s : Str), numsP (m + n) s = match numsP m s with
    | none => none
    | some (l, k) => match numsP n (s.drop k) with
      | none => none
      | some (l', k') => some (l ++ l', k + k')
  | 0, n, s => by
    simp only [numsP, Nat.zero_add, List.drop_zero, List.nil_append]
    cases numsP n s with
    | none => rfl
    | some x => rfl
  | m + 1, n, s => by
    rw [Nat.add_right_comm, numsP, numsP]
    cases h : rvI s with
    | none => rfl
    | some i =>
      simp only
      rw [numsP_add m n]
      cases h2 : numsP m (s.drop (i + 1)) with
      | none => rfl
      | some x =>
        obtain ⟨l, k⟩ := x
        simp only [List.drop_drop]
        cases h3 : numsP n (s.drop (i + 1 + k)) with
        | none => rfl
        | some y => obtain ⟨l', k'⟩ := y; simp [Nat.add_assoc]
/-- So many numbers from a place on, and where they end; -1 where one is none. -/
def varsAtV (s : Str) : Nat → Int → List Int → List Int × Int
  | 0, p, out => (out, p)
  | n + 1, p, out => if p < 0 ∨ ((s.length : Nat) : Int) < p then (out, -1) else if (rvV (s.drop p.toNat)).2 = 0 then (out, -1) else varsAtV s n (p + (rvV (s.drop p.toNat)).2) (out ++ [(rvV (s.drop p.toNat)).1])
theorem rvV_none {s : Str} (h : rvI s = none) : rvV s = (0, 0) := by unfold rvV; rw [h]
theorem rvV_some {s : Str} {i : Nat} (h : rvI s = some i) : rvV s = (((decB (s.take (i + 1)) : Nat) : Int), ((i + 1 : Nat) : Int)) := by unfold rvV; rw [h]
theorem varsAtV_eq (s : Str) : ∀ (n p : Nat) (out : List Int), p ≤ s.length → match numsP n (s.drop p) with
    | some (l, k) => varsAtV s n ((p : Nat) : Int) out = (out ++ l, ((p + k : Nat) : Int))
    | none => ∃ l, varsAtV s n ((p : Nat) : Int) out = (l, -1) ∧ l.length ≤ out.length + n
  | 0, p, out, _ => by simp [numsP, varsAtV]
  | n + 1, p, out, h => by
    have h1 : ¬ (((p : Nat) : Int) < 0 ∨ ((s.length : Nat) : Int) < ((p : Nat) : Int)) := by omega
    simp only [numsP, varsAtV, if_neg h1, Int.toNat_natCast]
    cases hi : rvI (s.drop p) with
    | none => simp only [rvV_none hi, if_true]; exact ⟨out, rfl, by omega⟩
    | some i =>
      have hl := rvI_lt hi
      rw [List.length_drop] at hl
      simp only [rvV_some hi]
      rw [if_neg (by omega), show ((p : Nat) : Int) + ((i + 1 : Nat) : Int) = ((p + (i + 1) : Nat) : Int) by omega]
      have ih := varsAtV_eq s n (p + (i + 1)) (out ++ [((decB ((s.drop p).take (i + 1)) : Nat) : Int)]) (by omega)
      rw [List.drop_drop]
      cases hr : numsP n (s.drop (p + (i + 1))) with
      | none =>
        rw [hr] at ih
        obtain ⟨l, e, hl⟩ := ih
        refine ⟨l, e, ?_⟩
        rw [List.length_append, List.length_cons, List.length_nil] at hl; omega
      | some x =>
        obtain ⟨l, k⟩ := x
        rw [hr] at ih
        simp only at ih ⊢
        rw [ih]
        simp [Nat.add_assoc]
theorem varsAtV_len (s : Str) : ∀ (n : Nat) (p : Int) (out : List Int), (varsAtV s n p out).1.length ≤ out.length + n
  | 0, _, _ => Nat.le_refl _
  | n + 1, p, out => by
    unfold varsAtV
    split
    · simp
    · split
      · simp
      · have := varsAtV_len s n (p + (rvV (s.drop p.toNat)).2) (out ++ [(rvV (s.drop p.toNat)).1])
        simp only [List.length_append, List.length_cons, List.length_nil] at this; omega
/-- Numbers read from the front, in turn; nothing more behind a fault. -/
def numV (s : Str) (bad : Bool) : Int × Str × Bool := if bad || (rvV s).2 == 0 then (0, s, true) else ((rvV s).1, s.drop (rvV s).2.toNat, false)
theorem numV_bad (s : Str) : numV s true = (0, s, true) := rfl
theorem numV_none {s : Str} (h : rvI s = none) : numV s false = (0, s, true) := by unfold numV; rw [rvV_none h]; rfl
theorem numV_some {s : Str} {i : Nat} (h : rvI s = some i) : numV s false = (((decB (s.take (i + 1)) : Nat) : Int), s.drop (i + 1), false) := by
  unfold numV
  rw [rvV_some h]
  have : ((((i + 1 : Nat) : Int)) == 0) = false := by simp; omega
  simp only [this, Bool.false_or]
  rfl
def numsV : Nat → Str → Bool → List Int × Str × Bool
  | 0, s, b => ([], s, b)
  | n + 1, s, b => ((numV s b).1 :: (numsV n (numV s b).2.1 (numV s b).2.2).1, (numsV n (numV s b).2.1 (numV s b).2.2).2)
theorem numsV_bad : ∀ (n : Nat) (s : Str), (numsV n s true).2 = (s, true)
  | 0, _ => rfl
  | n + 1, s => numsV_bad n s
theorem numsV_eq : ∀ (n : Nat) (s : Str), match numsP n s with
    | some (l, k) => numsV n s false = (l, s.drop k, false)
    | none => (numsV n s false).2.2 = true
  | 0, s => by simp [numsP, numsV]
  | n + 1, s => by
    simp only [numsP, numsV]
    cases hi : rvI s with
    | none => simp only [numV_none hi]; rw [numsV_bad]
    | some i =>
      simp only [numV_some hi]
      have ih := numsV_eq n (s.drop (i + 1))
      cases hr : numsP n (s.drop (i + 1)) with
      | none => rw [hr] at ih; exact ih
      | some x =>
        obtain ⟨l, k⟩ := x
        rw [hr] at ih
        simp only at ih ⊢
        rw [ih, List.drop_drop]
def manyV (s : Str) (bad : Bool) (most : Int) : Int × Str × Bool := if (numV s bad).1 > most then (0, (numV s bad).2.1, true) else numV s bad
/-- The number that a word is kept as. -/
def zigV (n : Int) : Int := if n < 0 then IntKind.i64.wrap (IntKind.i64.wrap ((-2) * n) - 1) else IntKind.i64.wrap (2 * n)
def zagV (n : Int) : Int := if (Int.tmod n 2 == 1) = true then IntKind.i64.wrap (Int.tdiv (IntKind.i64.wrap (0 - IntKind.i64.wrap (n + 1))) 2) else IntKind.i64.wrap (Int.tdiv n 2)
theorem zagV_odd {x : Int} (h0 : 0 ≤ x) (h1 : x ≤ 562949953421311) (ho : Int.tmod x 2 = 1) : zagV x = -((x + 1) / 2) := by
  unfold zagV
  rw [if_pos (by rw [ho]; rfl), wrap_id (n := x + 1) (by omega) (by omega), wrap_id (n := 0 - (x + 1)) (by omega) (by omega)]
  have hm : x % 2 = 1 := by rw [← Int.tmod_eq_emod_of_nonneg h0]; exact ho
  have e : 0 - (x + 1) = -(x + 1) := by omega
  rw [e, Int.neg_tdiv, Int.tdiv_eq_ediv_of_nonneg (by omega)]
  exact wrap_id (by omega) (by omega)
theorem zagV_even {x : Int} (h0 : 0 ≤ x) (h1 : x ≤ 562949953421311) (ho : ¬ Int.tmod x 2 = 1) : zagV x = x / 2 := by
  unfold zagV
  rw [if_neg (by simpa using ho), Int.tdiv_eq_ediv_of_nonneg h0]
  exact wrap_id (by omega) (by omega)
theorem zig_zag {x : Int} (h0 : 0 ≤ x) (h1 : x ≤ 562949953421311) : zigV (zagV x) = x := by
  have hm := Int.tmod_eq_emod_of_nonneg (b := 2) h0
  by_cases ho : Int.tmod x 2 = 1
  · rw [zagV_odd h0 h1 ho]
    unfold zigV
    rw [if_pos (by omega), wrap_id (n := (-2) * -((x + 1) / 2)) (by omega) (by omega), wrap_id (by omega) (by omega)]
    omega
  · rw [zagV_even h0 h1 ho]
    unfold zigV
    rw [if_neg (by omega), wrap_id (by omega) (by omega)]
    omega
theorem zigV_bounds {n : Int} (h : inV n (-1000000) 1000000 = true) : 0 ≤ zigV n ∧ zigV n ≤ 2000000 := by
  have h : -1000000 ≤ n ∧ n ≤ 1000000 := by simpa [inV] using h
  unfold zigV
  split
  · rw [wrap_id (n := (-2) * n) (by omega) (by omega), wrap_id (by omega) (by omega)]; omega
  · rw [wrap_id (by omega) (by omega)]; omega
theorem zag_zig {n : Int} (h : inV n (-1000000) 1000000 = true) : zagV (zigV n) = n := by
  have hb := zigV_bounds h
  have h : -1000000 ≤ n ∧ n ≤ 1000000 := by simpa [inV] using h
  have hm := Int.tmod_eq_emod_of_nonneg (b := 2) hb.1
  have e : zigV n = if n < 0 then -2 * n - 1 else 2 * n := by
    unfold zigV
    split
    · rw [wrap_id (n := (-2) * n) (by omega) (by omega), wrap_id (by omega) (by omega)]
    · rw [wrap_id (by omega) (by omega)]
  by_cases ho : Int.tmod (zigV n) 2 = 1
  · rw [zagV_odd hb.1 (by omega) ho, e]
    rw [e] at ho hm
    split at ho
    · rename_i q; rw [if_pos q] at hm ⊢; omega
    · rename_i q; rw [if_neg q] at hm ⊢; omega
  · rw [zagV_even hb.1 (by omega) ho, e]
    rw [e] at ho hm
    split at ho
    · rename_i q; rw [if_pos q] at hm ⊢; omega
    · rename_i q; rw [if_neg q] at hm ⊢; omega
def wordV (n : Int) : Bool := inV n (-1000000) 1000000
def wordsOkV (l : List Int) : Bool := l.all wordV
/-- Words, told. -/
def wordsS (l : List Int) : Str := varV ((l.length : Nat) : Int) ++ l.flatMap fun n => varV (zigV n)
/-- A list of at most so many numbers. -/
def listP (most : Nat) (s : Str) : Option (List Int × Nat) := match rvI s with
  | none => none
  | some i => if most < decB (s.take (i + 1)) then none else match numsP (decB (s.take (i + 1))) (s.drop (i + 1)) with
    | none => none
    | some (l, k) => some (l, i + 1 + k)
theorem listP_le {most : Nat} {s : Str} {l : List Int} {k : Nat} (h : listP most s = some (l, k)) : k ≤ s.length ∧ l.length ≤ most ∧ (∀ x ∈ l, 0 ≤ x ∧ x ≤ 562949953421311) ∧ s.take k = varV ((l.length : Nat) : Int) ++ l.flatMap varV := by
  unfold listP at h
  split at h
  · exact nomatch h
  · rename_i i hi
    split at h
    · exact nomatch h
    · rename_i hm
      split at h
      · exact nomatch h
      · rename_i l' k' hr
        simp only [Option.some.injEq, Prod.mk.injEq] at h
        obtain ⟨rfl, rfl⟩ := h
        have h1 := numsP_le hr
        have h2 := rvI_lt hi
        have h3 := rvI_dec hi
        rw [List.length_drop] at h1
        refine ⟨by omega, by omega, h1.2.2.1, ?_⟩
        rw [h1.2.1, varV_nat h3, rvI_varB hi, ← h1.2.2.2, List.take_add]
theorem zig_zags {l : List Int} (h : ∀ x ∈ l, 0 ≤ x ∧ x ≤ 562949953421311) : (l.map zagV).flatMap (fun n => varV (zigV n)) = l.flatMap varV := by
  induction l with
  | nil => rfl
  | cons x r ih =>
    have := h x (by simp)
    rw [List.map_cons, List.flatMap_cons, List.flatMap_cons, zig_zag this.1 this.2, ih fun y hy => h y (by simp [hy])]
theorem listP_words {most : Nat} {d : List Int} (hm : d.length ≤ most) (hs : most < 562949953421312) (hw : wordsOkV d = true) (r : Str) : listP most (wordsS d ++ r) = some (d.map zigV, (wordsS d).length) := by
  have hd : ∀ x ∈ d, 0 ≤ zigV x ∧ zigV x ≤ 2000000 := fun x hx => zigV_bounds (List.all_eq_true.1 hw x hx)
  have e : wordsS d = varB d.length ++ (d.map fun x => (zigV x).toNat).flatMap varB := by
    unfold wordsS
    rw [varV_nat (by omega)]
    congr 1
    clear hm hs hw
    induction d with
    | nil => rfl
    | cons x r ih =>
      have := hd x (by simp)
      obtain ⟨n, hn⟩ := Int.eq_ofNat_of_zero_le this.1
      rw [List.map_cons, List.flatMap_cons, List.flatMap_cons, ih (fun y hy => hd y (by simp [hy])), hn, varV_nat (by omega)]; rfl
  have hp : 0 < (varB d.length).length := List.length_pos_iff.2 (varB_ne _)
  have hc := numsP_cat (d.map fun x => (zigV x).toNat) r (fun x hx => by
    obtain ⟨y, hy, rfl⟩ := List.mem_map.1 hx
    have := hd y hy
    omega)
  rw [List.length_map] at hc
  unfold listP
  rw [e, List.append_assoc, rvI_cat (by omega)]
  simp only
  rw [rv_take (by omega), if_neg (by omega), Nat.sub_add_cancel hp, List.drop_left' rfl, hc]
  simp only [Option.some.injEq, Prod.mk.injEq, List.length_append, and_true, List.map_map]
  refine List.map_congr_left fun x hx => ?_
  have := hd x hx
  show ((zigV x).toNat : Int) = zigV x
  omega
/-! ## Files, as texts -/
def fileS (d : List Int) : Str := [102] ++ wordsS d
/-- A file that is read from its text. -/
def readFile (s : Str) : Option (List Int) := match s with
  | [] => none
  | b :: r => if b = 102 then match listP 8 r with
    | none => none
    | some (l, k) => if k = r.length ∧ wordsOkV (l.map zagV) = true then some (l.map zagV) else none
    else none
/-- What stands behind a text's first byte. -/
def fileAt (s : Str) : Option (List Int) := match listP 8 (s.drop 1) with
  | none => none
  | some (l, _) => some (l.map zagV)
theorem readFile_iff {s : Str} {d : List Int} : readFile s = some d ↔ fileAt s = some d ∧ (wordsOkV d = true ∧ d.length ≤ 8) ∧ fileS d = s := by
  constructor
  · intro h
    unfold readFile at h
    split at h
    · exact nomatch h
    · rename_i b r
      split at h
      · rename_i hb
        subst hb
        split at h
        · exact nomatch h
        · rename_i l k hl
          split at h
          · rename_i hk
            obtain ⟨hk, hw⟩ := hk
            obtain rfl := Option.some.inj h
            have h1 := listP_le hl
            refine ⟨by unfold fileAt; rw [List.drop_one, List.tail_cons, hl], ⟨hw, by rw [List.length_map]; exact h1.2.1⟩, ?_⟩
            unfold fileS wordsS
            rw [List.length_map, zig_zags h1.2.2.1, ← h1.2.2.2, hk, List.take_length]; rfl
          · exact nomatch h
      · exact nomatch h
  · rintro ⟨h1, ⟨h2, h3⟩, h4⟩
    subst h4
    unfold fileAt at h1
    rw [show (fileS d).drop 1 = wordsS d from rfl] at h1
    split at h1
    · exact nomatch h1
    · rename_i l k hl
      have e := Option.some.inj h1
      have hk := listP_le hl
      have : (wordsS d).take k = wordsS d := by
        rw [hk.2.2.2]
        conv => rhs; rw [← e]
        unfold wordsS
        rw [List.length_map, zig_zags hk.2.2.1]
      have hlen := congrArg List.length this
      rw [List.length_take] at hlen
      unfold readFile fileS
      rw [List.cons_append, List.nil_append]
      simp only [if_true, hl]
      rw [if_pos ⟨by omega, by rw [e]; exact h2⟩, e]
theorem readFile_file {d : List Int} (hw : wordsOkV d = true) (hl : d.length ≤ 8) : readFile (fileS d) = some d := by
  refine readFile_iff.2 ⟨?_, ⟨hw, hl⟩, rfl⟩
  unfold fileAt
  rw [show (fileS d).drop 1 = wordsS d ++ [] by rw [List.append_nil]; rfl, listP_words hl (by decide) hw]
  simp only [Option.some.injEq, List.map_map]
  refine (List.map_congr_left fun x hx => ?_).trans (List.map_id' d)
  exact zag_zig (List.all_eq_true.1 hw x hx)
/-! ## Files in blocks -/
/-- One block for each name: nothing, or a file. -/
def filesOf : Nat → List (Option (List Int)) → List FileD
  | _, [] => []
  | i, none :: r => filesOf (i + 1) r
  | i, some d :: r => (((i : Nat) : Int), (d, ())) :: filesOf (i + 1) r
def blkO : Option (List Int) → Str
  | none => []
  | some d => fileS d
def okO : Option (List Int) → Bool
  | none => true
  | some d => wordsOkV d && decide (d.length ≤ 8)
def allO {α β : Type} (g : α → Option β) : List α → Option (List β)
  | [] => some []
  | x :: r => match g x with
    | none => none
    | some y => match allO g r with
      | none => none
      | some l => some (y :: l)
def oneV (g : Str → Option (List Int)) (s : Str) : Option (Option (List Int)) := if s = [] then some none else match g s with
  | none => none
  | some d => some (some d)
theorem oneV_iff {s : Str} {x : Option (List Int)} : oneV readFile s = some x ↔ oneV fileAt s = some x ∧ okO x = true ∧ blkO x = s := by
  unfold oneV
  by_cases h : s = []
  · subst h
    simp only [if_true, Option.some.injEq]
    constructor
    · rintro rfl; exact ⟨rfl, rfl, rfl⟩
    · rintro ⟨rfl, _⟩; rfl
  · simp only [if_neg h]
    constructor
    · intro q
      split at q
      · exact nomatch q
      · rename_i d hd
        obtain rfl := Option.some.inj q
        obtain ⟨h1, ⟨h2, h3⟩, h4⟩ := readFile_iff.1 hd
        refine ⟨by rw [h1], by show (wordsOkV d && decide (d.length ≤ 8)) = true; rw [h2, decide_eq_true h3]; rfl, h4⟩
    · rintro ⟨q1, q2, q3⟩
      split at q1
      · exact nomatch q1
      · rename_i d hd
        obtain rfl := Option.some.inj q1
        have q2 : (wordsOkV d && decide (d.length ≤ 8)) = true := q2
        obtain ⟨h1, h2⟩ := Bool.and_eq_true_iff.1 q2
        rw [readFile_iff.2 ⟨hd, ⟨h1, of_decide_eq_true h2⟩, q3⟩]
theorem allO_iff : ∀ {l : List Str} {ds : List (Option (List Int))}, allO (oneV readFile) l = some ds ↔ allO (oneV fileAt) l = some ds ∧ ds.all okO = true ∧ ds.map blkO = l
  | [], ds => by
    simp only [allO, Option.some.injEq]
    constructor
    · rintro rfl; exact ⟨rfl, rfl, rfl⟩
    · rintro ⟨rfl, _⟩; rfl
  | s :: r, ds => by
    simp only [allO]
    constructor
    · intro h
      split at h
      · exact nomatch h
      · rename_i x hx
        split at h
        · exact nomatch h
        · rename_i l hl
          obtain rfl := Option.some.inj h
          obtain ⟨h1, h2, h3⟩ := oneV_iff.1 hx
          obtain ⟨g1, g2, g3⟩ := allO_iff.1 hl
          rw [h1, g1]
          exact ⟨rfl, by rw [List.all_cons, h2, g2]; rfl, by rw [List.map_cons, h3, g3]⟩
    · rintro ⟨h, h2, h3⟩
      split at h
      · exact nomatch h
      · rename_i x hx
        split at h
        · exact nomatch h
        · rename_i l hl
          obtain rfl := Option.some.inj h
          rw [List.all_cons, Bool.and_eq_true] at h2
          rw [List.map_cons, List.cons.injEq] at h3
          rw [oneV_iff.2 ⟨hx, h2.1, h3.1⟩, allO_iff.2 ⟨hl, h2.2, h3.2⟩]
theorem allO_len {α β : Type} {g : α → Option β} : ∀ {l : List α} {ds : List β}, allO g l = some ds → ds.length = l.length
  | [], _, h => by obtain rfl := Option.some.inj h; rfl
  | s :: r, _, h => by
    simp only [allO] at h
    split at h
    · exact nomatch h
    · split at h
      · exact nomatch h
      · rename_i l hl
        obtain rfl := Option.some.inj h
        rw [List.length_cons, List.length_cons, allO_len hl]
def setB (o : List Str) (x : FileD) : List Str := o.set x.1.toNat (fileS x.2.1)
theorem filesOf_set : ∀ (ds : List (Option (List Int))) (i : Nat) (p : List Str), p.length = i → (filesOf i ds).foldl setB (p ++ List.replicate ds.length []) = p ++ ds.map blkO
  | [], i, p, _ => by simp [filesOf]
  | none :: r, i, p, h => by
    have := filesOf_set r (i + 1) (p ++ [[]]) (by simp [h])
    simp only [filesOf, List.length_cons, List.map_cons, blkO]
    rw [List.replicate_succ, show p ++ [] :: List.replicate r.length [] = p ++ [[]] ++ List.replicate r.length [] by simp, this]
    simp
  | some d :: r, i, p, h => by
    have := filesOf_set r (i + 1) (p ++ [fileS d]) (by simp [h])
    simp only [filesOf, List.length_cons, List.map_cons, blkO, List.foldl_cons]
    have e : setB (p ++ List.replicate (r.length + 1) []) (((i : Nat) : Int), (d, ())) = p ++ [fileS d] ++ List.replicate r.length [] := by
      unfold setB
      rw [Int.toNat_natCast, List.replicate_succ, List.set_append_right _ _ (by omega), h, Nat.sub_self, List.set_cons_zero]; simp
    rw [e, this]
    simp
/-! ## Right files -/
def file1V (x : FileD) : Bool := inV x.1 0 5 && (decide (x.2.1.length ≤ 8) && wordsOkV x.2.1)
/-- Is this one right, and behind the one before? -/
def fileRowV (a : List FileD) (i : Nat) : Bool := match a[i]? with
  | none => true
  | some x => file1V x && (match i with | 0 => true | j + 1 => match a[j]? with | none => true | some z => decide (z.1 < x.1))
def filesOkV (a : List FileD) : Bool := decide (a.length ≤ 6) && (List.range a.length).all (fileRowV a)
theorem fileRowV_zero {a : List FileD} (h : 0 < a.length) : fileRowV a 0 = file1V a[0] := by
  unfold fileRowV
  rw [List.getElem?_eq_getElem h]
  simp
theorem fileRowV_succ {a : List FileD} {i : Nat} (h : i + 1 < a.length) : fileRowV a (i + 1) = (file1V a[i + 1] && decide (a[i].1 < a[i + 1].1)) := by
  unfold fileRowV
  rw [List.getElem?_eq_getElem h]
  simp only [List.getElem?_eq_getElem (show i < a.length by omega)]
/-- The same, from a least name on. -/
def filesFrom : Int → List FileD → Bool
  | _, [] => true
  | lo, x :: r => file1V x && (decide (lo ≤ x.1) && filesFrom (x.1 + 1) r)
theorem rows_from (a : List FileD) : ∀ (m i : Nat) (lo : Int), i + m = a.length → (∀ (h : i < a.length), fileRowV a i = (file1V a[i] && decide (lo ≤ a[i].1))) → ((∀ j, i ≤ j → j < a.length → fileRowV a j = true) ↔ filesFrom lo (a.drop i) = true)
  | 0, i, lo, hi, _ => by
    rw [List.drop_of_length_le (by omega)]
    exact ⟨fun _ => rfl, fun _ j h1 h2 => by omega⟩
  | m + 1, i, lo, hi, h => by
    have hlt : i < a.length := by omega
    have ih := rows_from a m (i + 1) (a[i].1 + 1) (by omega) (fun h' => by
      rw [fileRowV_succ h']
      congr 1)
    rw [List.drop_eq_getElem_cons hlt, filesFrom, Bool.and_eq_true, Bool.and_eq_true, ← ih]
    have h0 := h hlt
    constructor
    · intro q
      have q1 := q i (Nat.le_refl i) hlt
      rw [h0, Bool.and_eq_true] at q1
      exact ⟨q1.1, q1.2, fun j hj => q j (by omega)⟩
    · rintro ⟨q1, q2, q3⟩ j hj hl
      by_cases e : j = i
      · subst e; rw [h0, q1, q2]; rfl
      · exact q3 j (by omega) hl
theorem filesOkV_from (a : List FileD) : filesOkV a = (decide (a.length ≤ 6) && filesFrom 0 a) := by
  unfold filesOkV
  congr 1
  have := rows_from a a.length 0 0 (by omega) (fun h => by
    rw [fileRowV_zero h]
    cases hf : file1V a[0] with
    | false => rfl
    | true =>
      have : inV a[0].1 0 5 = true := (Bool.and_eq_true_iff.1 hf).1
      have : (0 : Int) ≤ a[0].1 ∧ a[0].1 ≤ (5 : Int) := by simpa [inV] using this
      have e : decide ((0 : Int) ≤ a[0].1) = true := decide_eq_true this.1
      exact (congrArg (fun b => (true && b)) e).symm)
  rw [Bool.eq_iff_iff, List.all_eq_true]
  rw [List.drop_zero] at this
  rw [← this]
  exact ⟨fun q j _ hj => q j (List.mem_range.2 hj), fun q j hj => q j (Nat.zero_le j) (List.mem_range.1 hj)⟩
theorem filesOf_from : ∀ (ds : List (Option (List Int))) (i : Nat) (lo : Int), lo ≤ i → i + ds.length ≤ 6 → filesFrom lo (filesOf i ds) = ds.all okO
  | [], _, _, _, _ => rfl
  | none :: r, i, lo, h1, h2 => by
    rw [filesOf, List.all_cons, filesOf_from r (i + 1) lo (by omega) (by rw [List.length_cons] at h2; omega)]; rfl
  | some d :: r, i, lo, h1, h2 => by
    rw [List.length_cons] at h2
    rw [filesOf, filesFrom, List.all_cons]
    simp only
    rw [filesOf_from r (i + 1) (((i : Nat) : Int) + 1) (by omega) (by omega), decide_eq_true h1, Bool.true_and]
    congr 1
    show (inV ((i : Nat) : Int) 0 5 && (decide (d.length ≤ 8) && wordsOkV d)) = (wordsOkV d && decide (d.length ≤ 8))
    have e : inV ((i : Nat) : Int) 0 5 = true := by unfold inV; rw [decide_eq_true (show (0 : Int) ≤ ((i : Nat) : Int) by omega), decide_eq_true (show ((i : Nat) : Int) ≤ 5 by omega)]; rfl
    rw [e, Bool.true_and, Bool.and_comm]
theorem filesOf_len : ∀ (ds : List (Option (List Int))) (i : Nat), (filesOf i ds).length ≤ ds.length
  | [], _ => Nat.le_refl _
  | none :: r, i => by have := filesOf_len r (i + 1); simp only [filesOf, List.length_cons]; omega
  | some d :: r, i => by have := filesOf_len r (i + 1); simp only [filesOf, List.length_cons]; omega
theorem filesOf_ok {ds : List (Option (List Int))} (h : ds.length ≤ 6) : filesOkV (filesOf 0 ds) = ds.all okO := by
  have := filesOf_len ds 0
  rw [filesOkV_from, decide_eq_true (by omega), filesOf_from ds 0 0 (by omega) (by omega)]; rfl
/-- Right files are those of a list with a place for each name. -/
theorem of_from : ∀ (m i : Nat) (lo : Int) (a : List FileD), lo = i → i + m = 6 → filesFrom lo a = true → ∃ ds : List (Option (List Int)), ds.length = m ∧ filesOf i ds = a
  | 0, i, lo, a, h1, h2, h => by
    cases a with
    | nil => exact ⟨[], rfl, rfl⟩
    | cons x r =>
      exfalso
      rw [filesFrom, Bool.and_eq_true, Bool.and_eq_true] at h
      have q : inV x.1 0 5 = true := (Bool.and_eq_true_iff.1 h.1).1
      have q : 0 ≤ x.1 ∧ x.1 ≤ 5 := by simpa [inV] using q
      have := of_decide_eq_true h.2.1
      omega
  | m + 1, i, lo, a, h1, h2, h => by
    cases a with
    | nil =>
      obtain ⟨ds, e1, e2⟩ := of_from m (i + 1) (((i + 1 : Nat) : Int)) [] rfl (by omega) rfl
      exact ⟨none :: ds, by simp [e1], e2⟩
    | cons x r =>
      have h' := h
      rw [filesFrom, Bool.and_eq_true, Bool.and_eq_true] at h
      have hl := of_decide_eq_true h.2.1
      by_cases e : x.1 = i
      · obtain ⟨ds, e1, e2⟩ := of_from m (i + 1) (((i + 1 : Nat) : Int)) r rfl (by omega) (by have := h.2.2; rw [e] at this; exact this)
        refine ⟨some x.2.1 :: ds, by simp [e1], ?_⟩
        rw [filesOf, e2, ← e]
      · obtain ⟨ds, e1, e2⟩ := of_from m (i + 1) (((i + 1 : Nat) : Int)) (x :: r) rfl (by omega) (by
          rw [filesFrom, h.1, h.2.2, decide_eq_true (by omega)]; rfl)
        exact ⟨none :: ds, by simp [e1], e2⟩
def fileBlocksV (a : List FileD) : List Str := if filesOkV a = true then a.foldl setB (List.replicate 6 []) else []
/-- The blocks of files are the texts of the places. -/
theorem places {a : List FileD} (h : filesOkV a = true) : ∃ ds : List (Option (List Int)), ds.length = 6 ∧ filesOf 0 ds = a ∧ ds.all okO = true ∧ fileBlocksV a = ds.map blkO := by
  have h2 := h
  rw [filesOkV_from, Bool.and_eq_true] at h2
  obtain ⟨ds, e1, e2⟩ := of_from 6 0 0 a rfl (by omega) h2.2
  refine ⟨ds, e1, e2, ?_, ?_⟩
  · rw [← filesOf_ok (by omega), e2]; exact h
  · unfold fileBlocksV
    rw [if_pos h, ← e2, ← e1]
    exact filesOf_set ds 0 [] rfl
theorem fileBlocksV_of {ds : List (Option (List Int))} (h : ds.length = 6) (hok : ds.all okO = true) : fileBlocksV (filesOf 0 ds) = ds.map blkO := by
  unfold fileBlocksV
  rw [if_pos (by rw [filesOf_ok (by omega)]; exact hok), ← h]
  exact filesOf_set ds 0 [] rfl
theorem fileBlocksV_len {a : List FileD} (h : filesOkV a = true) : (fileBlocksV a).length = 6 := by
  obtain ⟨ds, e1, _, _, e⟩ := places h
  rw [e, List.length_map, e1]
theorem fileBlocksV_not {a : List FileD} (h : ¬ filesOkV a = true) : fileBlocksV a = [] := if_neg h
/-- Files read from blocks. -/
def readBlocksV (l : List Str) : Option (List FileD) := if l.length = 6 then match allO (oneV readFile) l with
  | none => none
  | some ds => some (filesOf 0 ds)
  else none
/-- The same by trying. -/
theorem readBlocks_try {l : List Str} (h : l.length = 6) : readBlocksV l = match allO (oneV fileAt) l with
    | none => none
    | some ds => if fileBlocksV (filesOf 0 ds) = l then some (filesOf 0 ds) else none := by
  unfold readBlocksV
  rw [if_pos h]
  cases h1 : allO (oneV readFile) l with
  | some ds =>
    obtain ⟨g1, g2, g3⟩ := allO_iff.1 h1
    have hl := allO_len h1
    rw [g1]
    simp only
    rw [if_pos (by rw [fileBlocksV_of (by omega) g2, g3])]
  | none =>
    simp only
    cases h2 : allO (oneV fileAt) l with
    | none => rfl
    | some ds =>
      have hl := allO_len h2
      simp only
      rw [if_neg]
      intro e
      by_cases hok : filesOkV (filesOf 0 ds) = true
      · have hok' := hok
        rw [filesOf_ok (by omega)] at hok
        rw [fileBlocksV_of (by omega) hok] at e
        rw [allO_iff.2 ⟨h2, hok, e⟩] at h1
        exact nomatch h1
      · rw [fileBlocksV_not hok] at e
        rw [← e] at h
        exact nomatch h
/-- Files are read from the blocks that they are written as. -/
theorem readBlocks_file {a : List FileD} (h : filesOkV a = true) : readBlocksV (fileBlocksV a) = some a := by
  obtain ⟨ds, e1, e2, e3, e4⟩ := places h
  unfold readBlocksV
  rw [if_pos (fileBlocksV_len h), e4]
  have : allO (oneV readFile) (ds.map blkO) = some ds := by
    clear e1 e2 e4
    induction ds with
    | nil => rfl
    | cons x r ih =>
      rw [List.all_cons, Bool.and_eq_true] at e3
      rw [List.map_cons, allO, ih e3.2]
      have : oneV readFile (blkO x) = some x := by
        cases x with
        | none => rfl
        | some d =>
          have hd : (wordsOkV d && decide (d.length ≤ 8)) = true := e3.1
          obtain ⟨q1, q2⟩ := Bool.and_eq_true_iff.1 hd
          unfold oneV blkO
          rw [if_neg (by unfold fileS; simp)]
          simp only [readFile_file q1 (of_decide_eq_true q2)]
      rw [this]
  rw [this]
  exact congrArg some e2
/-! ## A sum tells texts apart that differ in one byte -/
theorem crcBit_inj {c d : Nat} (hc : c < 4294967296) (hd : d < 4294967296) (h : crcBit c = crcBit d) : c = d := by
  have top : ∀ x, x < 2147483648 → 2147483648 ≤ x ^^^ 2197175160 := fun x hx => by
    apply Nat.le_of_not_lt
    intro hlt
    have h1 : (x ^^^ 2197175160) ^^^ x < 2 ^ 31 := Nat.xor_lt_two_pow hlt hx
    rw [Nat.xor_comm x, Nat.xor_assoc, Nat.xor_self, Nat.xor_zero] at h1
    exact absurd h1 (by decide)
  have canc : ∀ x y : Nat, x ^^^ 2197175160 = y ^^^ 2197175160 → x = y := fun x y e => by
    have := congrArg (· ^^^ 2197175160) e
    simpa [Nat.xor_assoc] using this
  unfold crcBit at h
  split at h <;> split at h
  · have := canc _ _ h; omega
  · have := top (c / 2) (by omega); omega
  · have := top (d / 2) (by omega); omega
  · omega
theorem crcBits_inj {c d : Nat} (hc : c < 4294967296) (hd : d < 4294967296) : ∀ k, crcBits c k = crcBits d k → c = d
  | 0, h => h
  | k + 1, h => crcBits_inj hc hd k (crcBit_inj (crcBits_lt hc k) (crcBits_lt hd k) h)
theorem xor_canc {x y z : Nat} (e : x ^^^ z = y ^^^ z) : x = y := by
  have := congrArg (· ^^^ z) e
  simpa [Nat.xor_assoc] using this
theorem crcByte_inj {c d : Nat} {b : UInt8} (hc : c < 4294967296) (hd : d < 4294967296) (h : crcByte c b = crcByte d b) : c = d :=
  xor_canc (crcBits_inj (crcXor_lt hc) (crcXor_lt hd) 8 h)
theorem crcByte_byte {c : Nat} {b e : UInt8} (hc : c < 4294967296) (h : crcByte c b = crcByte c e) : b = e := by
  have := crcBits_inj (crcXor_lt hc) (crcXor_lt hc) 8 h
  rw [Nat.xor_comm c, Nat.xor_comm c] at this
  exact UInt8.toNat_inj.1 (xor_canc this)
theorem crcFold_lt : ∀ (s : Str) {c : Nat}, c < 4294967296 → s.foldl crcByte c < 4294967296
  | [], _, h => h
  | _ :: r, _, h => crcFold_lt r (crcByte_lt h)
theorem crcFold_inj : ∀ (s : Str) {c d : Nat}, c < 4294967296 → d < 4294967296 → s.foldl crcByte c = s.foldl crcByte d → c = d
  | [], _, _, _, _, h => h
  | _ :: r, _, _, hc, hd, h => crcByte_inj hc hd (crcFold_inj r (crcByte_lt hc) (crcByte_lt hd) h)
theorem crcN_turn {p r : Str} {x y : UInt8} (h : crcN (p ++ x :: r) = crcN (p ++ y :: r)) : x = y := by
  unfold crcN at h
  rw [List.foldl_append, List.foldl_append, List.foldl_cons, List.foldl_cons] at h
  have hp : p.foldl crcByte 4294967295 < 4294967296 := crcFold_lt p (by decide)
  exact crcByte_byte hp (crcFold_inj r (crcByte_lt hp) (crcByte_lt hp) h)
theorem fixB4_inj {m n : Nat} (hm : m < 4294967296) (hn : n < 4294967296) (h : fixB 4 m = fixB 4 n) : m = n := by
  simp only [fixB, List.cons.injEq, and_true] at h
  obtain ⟨h1, h2, h3, h4⟩ := h
  have e1 := congrArg UInt8.toNat h1
  have e2 := congrArg UInt8.toNat h2
  have e3 := congrArg UInt8.toNat h3
  have e4 := congrArg UInt8.toNat h4
  simp only [UInt8.toNat_ofNat'] at e1 e2 e3 e4
  omega
/-! ## Records of the log, read -/
def outsP : Nat → Str → Option (List WriteD × Nat)
  | 0, _ => some ([], 0)
  | n + 1, s => match numsP 2 s with
    | some ([b, z], k) => if k + z.toNat ≤ s.length then match outsP n (s.drop (k + z.toNat)) with
        | some (l, k') => some ((b, ((s.drop k).take z.toNat, ())) :: l, k + z.toNat + k')
        | none => none
      else none
    | _ => none
def txnP (s : Str) : Option (Int × List WriteD × Nat) := match numsP 2 s with
  | some ([q, n], k) => if n > 6 then none else match outsP n.toNat (s.drop k) with
    | some (l, k') => some (q, l, k + k')
    | none => none
  | _ => none
def readTxnV (s : Str) : Option (Int × List WriteD) := match txnP (s.drop 5) with
  | some (q, l, _) => if showTxnV q l = s then some (q, l) else none
  | none => none
theorem two_of {l : List Int} (h : l.length = 2) : ∃ a b, l = [a, b] := by
  rcases l with _ | ⟨a, _ | ⟨b, _ | ⟨c, r⟩⟩⟩
  · exact nomatch h
  · exact nomatch h
  · exact ⟨a, b, rfl⟩
  · simp at h
theorem outsP_le : ∀ {n : Nat} {s : Str} {l : List WriteD} {k : Nat}, outsP n s = some (l, k) → k ≤ s.length ∧ l.length = n ∧ s.take k = l.flatMap outS
  | 0, s, l, k, h => by simp only [outsP, Option.some.injEq, Prod.mk.injEq] at h; obtain ⟨rfl, rfl⟩ := h; simp
  | n + 1, s, l, k, h => by
    simp only [outsP] at h
    cases h2 : numsP 2 s with
    | none => rw [h2] at h; exact nomatch h
    | some x =>
      obtain ⟨v, k1⟩ := x
      have hv := numsP_le h2
      obtain ⟨b, z, rfl⟩ := two_of hv.2.1
      rw [h2] at h
      simp only at h
      split at h
      · rename_i hz
        split at h
        · rename_i l' k' hr
          simp only [Option.some.injEq, Prod.mk.injEq] at h
          obtain ⟨rfl, rfl⟩ := h
          have h1 := outsP_le hr
          rw [List.length_drop] at h1
          have hzn := (hv.2.2.1 z (by simp)).1
          refine ⟨by omega, by rw [List.length_cons, h1.2.1], ?_⟩
          rw [List.flatMap_cons, ← h1.2.2, List.take_add, List.take_add, hv.2.2.2]
          unfold outS
          simp only [List.flatMap_cons, List.flatMap_nil, List.append_nil, List.length_take, List.length_drop]
          rw [show ((min z.toNat (s.length - k1) : Nat) : Int) = z by omega]
          simp
        · exact nomatch h
      · exact nomatch h
theorem numsP_two {m n : Nat} (hm : m < 562949953421312) (hn : n < 562949953421312) (r : Str) : numsP 2 (varB m ++ (varB n ++ r)) = some ([((m : Nat) : Int), ((n : Nat) : Int)], (varB m).length + (varB n).length) := by
  have := numsP_cat [m, n] r (fun x hx => by
    rcases List.mem_cons.1 hx with rfl | hx
    · exact hm
    · rcases List.mem_cons.1 hx with rfl | hx
      · exact hn
      · exact nomatch hx)
  simpa using this
theorem varV_of {n : Int} (h0 : 0 ≤ n) (h1 : n < 562949953421312) : varV n = varB n.toNat := by
  obtain ⟨n, rfl⟩ := Int.eq_ofNat_of_zero_le h0
  exact varV_nat (by omega)
theorem outsP_cat : ∀ (a : List WriteD) (r : Str), (∀ x ∈ a, (0 ≤ x.1 ∧ x.1 ≤ 5) ∧ x.2.1.length ≤ 60) → outsP a.length (a.flatMap outS ++ r) = some (a, (a.flatMap outS).length)
  | [], r, _ => rfl
  | (b, (t, u)) :: a, r, h => by
    have hx := h (b, (t, u)) (by simp)
    simp only at hx
    obtain ⟨b, rfl⟩ := Int.eq_ofNat_of_zero_le hx.1.1
    have e : ((((b : Nat) : Int), (t, u)) :: a : List WriteD).flatMap outS ++ r = varB b ++ (varB t.length ++ (t ++ (a.flatMap outS ++ r))) := by
      rw [List.flatMap_cons]
      unfold outS
      dsimp only
      rw [varV_nat (by omega), varV_nat (by omega)]
      simp
    have e2 : (((((b : Nat) : Int), (t, u)) :: a : List WriteD).flatMap outS).length = (varB b).length + (varB t.length).length + t.length + (a.flatMap outS).length := by
      rw [List.flatMap_cons]
      unfold outS
      dsimp only
      rw [varV_nat (by omega), varV_nat (by omega)]
      simp only [List.length_append]; omega
    rw [List.length_cons, outsP, e, e2, numsP_two (by omega) (by omega)]
    simp only [Int.toNat_natCast]
    have d1 : (varB b ++ (varB t.length ++ (t ++ (a.flatMap outS ++ r)))).drop ((varB b).length + (varB t.length).length) = t ++ (a.flatMap outS ++ r) := by
      rw [← List.append_assoc, List.drop_left' (by rw [List.length_append])]
    rw [if_pos (by simp only [List.length_append]; omega), ← List.drop_drop, d1, List.drop_left' rfl, List.take_left' rfl, outsP_cat a r fun y hy => h y (by simp [hy])]
theorem txn_parts (q : Int) (a : List WriteD) (h : txnOkV q a = true) : txnS q a = [116] ++ (varB q.toNat ++ (varB a.length ++ a.flatMap outS)) := by
  obtain ⟨h1, h2, _⟩ := txnOkV_parts h
  unfold txnS
  rw [varV_of (by omega) (by omega), varV_nat (by omega)]
  simp
theorem showTxnV_ok {q : Int} {a : List WriteD} (h : txnOkV q a = true) : showTxnV q a = sumS (txnS q a) ++ txnS q a := if_pos h
theorem txnS_ne (q : Int) (a : List WriteD) : txnS q a ≠ [] := by unfold txnS; simp
theorem showTxnV_nil {q : Int} {a : List WriteD} : showTxnV q a = [] ↔ txnOkV q a = false := by
  unfold showTxnV
  cases h : txnOkV q a
  · simp
  · simp [txnS_ne]
/-- What is shown is read. -/
theorem readTxn_show {q : Int} {a : List WriteD} (h : txnOkV q a = true) : readTxnV (showTxnV q a) = some (q, a) := by
  obtain ⟨h1, h2, h3⟩ := txnOkV_parts h
  have d : (showTxnV q a).drop 5 = varB q.toNat ++ (varB a.length ++ (a.flatMap outS)) := by
    rw [showTxnV_ok h, txn_parts q a h, ← List.append_assoc, List.drop_left' (by rw [List.length_append, sumS_len]; rfl)]
  have hc := outsP_cat a [] h3
  rw [List.append_nil] at hc
  unfold readTxnV txnP
  rw [d, numsP_two (by omega) (by omega)]
  simp only
  have d2 : (varB q.toNat ++ (varB a.length ++ (a.flatMap outS))).drop ((varB q.toNat).length + (varB a.length).length) = a.flatMap outS := by
    rw [← List.append_assoc, List.drop_left' (by rw [List.length_append])]
  rw [if_neg (by omega), d2, Int.toNat_natCast, hc]
  simp only
  rw [Int.toNat_of_nonneg (by omega), if_pos rfl]
theorem readTxn_is {s : Str} {q : Int} {a : List WriteD} (h : readTxnV s = some (q, a)) : showTxnV q a = s := by
  unfold readTxnV at h
  split at h
  · split at h
    · rename_i e
      obtain ⟨rfl, rfl⟩ := Prod.mk.injEq .. ▸ Option.some.inj h
      exact e
    · exact nomatch h
  · exact nomatch h
/-- A text with one byte turned is no record. -/
theorem readTxn_turn {q : Int} {a : List WriteD} (h : txnOkV q a = true) {p r : Str} {x y : UInt8} (hs : showTxnV q a = p ++ x :: r) (hxy : x ≠ y) : readTxnV (p ++ y :: r) = none := by
  cases hr : readTxnV (p ++ y :: r) with
  | none => rfl
  | some z =>
    exfalso
    obtain ⟨q', a'⟩ := z
    have e := readTxn_is hr
    have h' : txnOkV q' a' = true := by
      cases hb : txnOkV q' a' with
      | true => rfl
      | false => rw [showTxnV_nil.2 hb] at e; simp at e
    rw [showTxnV_ok h] at hs
    rw [showTxnV_ok h'] at e
    have l1 := sumS_len (txnS q a)
    have l2 := sumS_len (txnS q' a')
    have c1 := crcN_lt (txnS q a)
    have c2 := crcN_lt (txnS q' a')
    by_cases hp : p.length < 4
    · have t1 := congrArg (List.drop 4) hs
      have t2 := congrArg (List.drop 4) e
      rw [List.drop_left' l1] at t1
      rw [List.drop_left' l2] at t2
      obtain ⟨j, hj⟩ : ∃ j, 4 = p.length + (j + 1) := ⟨3 - p.length, by omega⟩
      have d : ∀ w : UInt8, (p ++ w :: r).drop 4 = r.drop j := fun w => by rw [hj, ← List.drop_drop, List.drop_left' rfl]; rfl
      rw [d] at t1 t2
      rw [t2, ← t1] at e
      rw [e] at hs
      have := List.append_cancel_left hs
      exact hxy (List.cons.inj this).1.symm
    · obtain ⟨p1, p2, rfl, hp1⟩ : ∃ p1 p2, p = p1 ++ p2 ∧ p1.length = 4 := ⟨p.take 4, p.drop 4, (List.take_append_drop 4 p).symm, by rw [List.length_take]; omega⟩
      rw [List.append_assoc] at hs e
      have s1 := List.append_inj hs (by rw [l1, hp1])
      have s2 := List.append_inj e (by rw [l2, hp1])
      have c : crcN (txnS q a) = crcN (txnS q' a') := by
        have := s1.1.trans s2.1.symm
        have := fixB4_inj (by omega) (by omega) this
        omega
      rw [s1.2, s2.2] at c
      exact hxy (crcN_turn c)
/-! ## What is unlike between blocks -/
def diffF : Nat → List Str → List Str → List WriteD
  | i, x :: r, y :: t => if x = y then diffF (i + 1) r t else (((i : Nat) : Int), (y, ())) :: diffF (i + 1) r t
  | _, _, _ => []
/-- Each block is the one or the other. -/
def btw : List Str → List Str → List Str → Prop
  | [], [], [] => True
  | x :: r, y :: t, z :: u => (z = x ∨ z = y) ∧ btw r t u
  | _, _, _ => False
theorem btw_left : ∀ {r t : List Str}, r.length = t.length → btw r t r
  | [], [], _ => trivial
  | x :: r, y :: t, h => ⟨.inl rfl, btw_left (by simpa using h)⟩
theorem btw_right : ∀ {r t : List Str}, r.length = t.length → btw r t t
  | [], [], _ => trivial
  | x :: r, y :: t, h => ⟨.inr rfl, btw_right (by simpa using h)⟩
theorem btw_len : ∀ {r t u : List Str}, btw r t u → r.length = t.length ∧ u.length = t.length
  | [], [], [], _ => ⟨rfl, rfl⟩
  | x :: r, y :: t, z :: u, h => by have := btw_len h.2; simp [this.1, this.2]
  | [], [], _ :: _, h => h.elim
  | [], _ :: _, _, h => h.elim
  | _ :: _, [], _, h => h.elim
  | _ :: _, _ :: _, [], h => h.elim
theorem set_at {α : Type} (p : List α) (x y : α) (r : List α) : (p ++ x :: r).set p.length y = p ++ y :: r := by
  rw [List.set_append_right _ _ (Nat.le_refl _), Nat.sub_self]; rfl
/-- Some of the writes: each block is the one or the other. -/
theorem diff_some (p : Nat → Bool) : ∀ {r t u : List Str}, btw r t u → ∀ (i k : Nat) (pre : List Str), pre.length = i → ∃ u' k', (diffF i r t).foldl (stepD p) (pre ++ u, k) = (pre ++ u', k') ∧ btw r t u'
  | [], [], [], _, i, k, pre, _ => ⟨[], k, rfl, trivial⟩
  | x :: r, y :: t, z :: u, h, i, k, pre, hp => by
    unfold diffF
    split
    · rename_i e
      obtain ⟨u', k', e1, e2⟩ := diff_some p h.2 (i + 1) k (pre ++ [z]) (by simp [hp])
      exact ⟨z :: u', k', by rw [show pre ++ z :: u = pre ++ [z] ++ u by simp, e1]; simp, h.1, e2⟩
    · rw [List.foldl_cons]
      have hs : stepD p (pre ++ z :: u, k) (((i : Nat) : Int), (y, ())) = ((if p k = true then pre ++ y :: u else pre ++ z :: u), k + 1) := by
        unfold stepD
        simp only [Int.toNat_natCast]
        rw [← hp, set_at]
      rw [hs]
      split
      · obtain ⟨u', k', e1, e2⟩ := diff_some p h.2 (i + 1) (k + 1) (pre ++ [y]) (by simp [hp])
        exact ⟨y :: u', k', by rw [show pre ++ y :: u = pre ++ [y] ++ u by simp, e1]; simp, .inr rfl, e2⟩
      · obtain ⟨u', k', e1, e2⟩ := diff_some p h.2 (i + 1) (k + 1) (pre ++ [z]) (by simp [hp])
        exact ⟨z :: u', k', by rw [show pre ++ z :: u = pre ++ [z] ++ u by simp, e1]; simp, h.1, e2⟩
  | [], [], _ :: _, h, _, _, _, _ => h.elim
  | [], _ :: _, _, h, _, _, _, _ => h.elim
  | _ :: _, [], _, h, _, _, _, _ => h.elim
  | _ :: _, _ :: _, [], h, _, _, _, _ => h.elim
/-- All of the writes: the new blocks, whatever part of them was there. -/
theorem diff_all : ∀ {r t u : List Str}, btw r t u → ∀ (i k : Nat) (pre : List Str), pre.length = i → ∃ k', (diffF i r t).foldl (stepD fun _ => true) (pre ++ u, k) = (pre ++ t, k')
  | [], [], [], _, i, k, pre, _ => ⟨k, rfl⟩
  | x :: r, y :: t, z :: u, h, i, k, pre, hp => by
    unfold diffF
    split
    · rename_i e
      obtain ⟨k', e1⟩ := diff_all h.2 (i + 1) k (pre ++ [z]) (by simp [hp])
      have hz : z = y := by rcases h.1 with q | q <;> simp [q, e]
      exact ⟨k', by rw [show pre ++ z :: u = pre ++ [z] ++ u by simp, e1, hz]; simp⟩
    · rw [List.foldl_cons]
      have hs : stepD (fun _ => true) (pre ++ z :: u, k) (((i : Nat) : Int), (y, ())) = (pre ++ [y] ++ u, k + 1) := by
        unfold stepD
        simp only [Int.toNat_natCast, if_true]
        rw [← hp, set_at]; simp
      rw [hs]
      obtain ⟨k', e1⟩ := diff_all h.2 (i + 1) (k + 1) (pre ++ [y]) (by simp [hp])
      exact ⟨k', by rw [e1]; simp⟩
  | [], [], _ :: _, h, _, _, _, _ => h.elim
  | [], _ :: _, _, h, _, _, _, _ => h.elim
  | _ :: _, [], _, h, _, _, _, _ => h.elim
  | _ :: _, _ :: _, [], h, _, _, _, _ => h.elim
theorem applyV_some (p : Nat → Bool) {r t u : List Str} (h : btw r t u) : btw r t (applyV p u (diffF 0 r t)) := by
  obtain ⟨u', k', e1, e2⟩ := diff_some p h 0 0 [] rfl
  unfold applyV
  rw [List.nil_append] at e1
  rw [e1]; exact e2
theorem applyV_all_diff {r t u : List Str} (h : btw r t u) : applyV (fun _ => true) u (diffF 0 r t) = t := by
  obtain ⟨k', e1⟩ := diff_all h 0 0 [] rfl
  unfold applyV
  rw [List.nil_append] at e1
  rw [e1]; rfl
theorem diffF_mem : ∀ {r t : List Str} {i : Nat} {x : WriteD}, x ∈ diffF i r t → ((i : Nat) : Int) ≤ x.1 ∧ x.1 < ((i + t.length : Nat) : Int) ∧ x.2.1 ∈ t
  | [], _, _, _, h => by simp [diffF] at h
  | _ :: _, [], _, _, h => by simp [diffF] at h
  | a :: r, b :: t, i, x, h => by
    unfold diffF at h
    split at h
    · have := diffF_mem h
      rw [List.length_cons]
      exact ⟨by omega, by omega, by simp [this.2.2]⟩
    · rcases List.mem_cons.1 h with rfl | h
      · simp only [List.length_cons]
        exact ⟨by omega, by omega, by simp⟩
      · have := diffF_mem h
        rw [List.length_cons]
        exact ⟨by omega, by omega, by simp [this.2.2]⟩
theorem diffF_len : ∀ (r t : List Str) (i : Nat), (diffF i r t).length ≤ t.length
  | [], _, _ => by simp [diffF]
  | _ :: _, [], _ => by simp [diffF]
  | a :: r, b :: t, i => by
    have := diffF_len r t (i + 1)
    unfold diffF
    split
    · rw [List.length_cons]; omega
    · rw [List.length_cons, List.length_cons]; omega
theorem diffF_nil : ∀ {r t : List Str} {i : Nat}, r.length = t.length → diffF i r t = [] → r = t
  | [], [], _, _, _ => rfl
  | a :: r, b :: t, i, hl, h => by
    unfold diffF at h
    split at h
    · rename_i e
      rw [e, diffF_nil (by simpa using hl) h]
    · exact nomatch h
theorem diffF_rows : ∀ (r t : List Str) (i j : Nat) (h : j + 1 < (diffF i r t).length), (diffF i r t)[j].1 < (diffF i r t)[j + 1].1
  | [], _, _, _, h => by simp [diffF] at h
  | _ :: _, [], _, _, h => by simp [diffF] at h
  | a :: r, b :: t, i, j, h => by
    by_cases e : a = b
    · have q : diffF i (a :: r) (b :: t) = diffF (i + 1) r t := by simp only [diffF, if_pos e]
      simp only [q] at h ⊢
      exact diffF_rows r t (i + 1) j h
    · have q : diffF i (a :: r) (b :: t) = (((i : Nat) : Int), (b, ())) :: diffF (i + 1) r t := by simp only [diffF, if_neg e]
      simp only [q] at h ⊢
      cases j with
      | zero =>
        simp only [List.getElem_cons_zero, List.getElem_cons_succ]
        have := (diffF_mem (List.getElem_mem (l := diffF (i + 1) r t) (n := 0) (by simpa using h))).1
        omega
      | succ j =>
        simp only [List.getElem_cons_succ]
        exact diffF_rows r t (i + 1) j (by simpa using h)

end Go.Proofs.Ytjcinikojcfebaa.Dm
