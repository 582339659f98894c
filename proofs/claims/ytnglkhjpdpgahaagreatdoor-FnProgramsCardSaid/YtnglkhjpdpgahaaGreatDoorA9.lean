/- Functions of the program, and what they compute. -/
import Derived.Test.YtnglkhjpdpgahaaGreatDoorA8
namespace Go.Proofs.YtnglkhjpdpgahaaGreatDoor.Dm
open Go Go.ChangeShapes Go.WideShapes Go.ChangeAt Go.RowKit
def decB : Str → Nat
  | [] => 0
  | b :: r => b.toNat % 128 + 128 * decB r
def canonB : Str → Bool
  | [] => false
  | b :: r => if r = [] then decide (b.toNat < 128) else decide (128 ≤ b.toNat) && canonB r && !decide (r = [0])
theorem canonB_snoc : ∀ (p : Str) (b : UInt8), canonB (p ++ [b]) = true ↔ (∀ x ∈ p, 128 ≤ x.toNat) ∧ b.toNat < 128 ∧ (p = [] ∨ b ≠ 0)
  | [], b => by simp [canonB]
  | x :: p, b => by
    have ih := canonB_snoc p b
    rw [List.cons_append, canonB, if_neg (by simp)]
    simp only [Bool.and_eq_true, ih, decide_eq_true_eq, Bool.not_eq_true', decide_eq_false_iff_not, List.mem_cons, forall_eq_or_imp]
    constructor
    · rintro ⟨⟨h1, h2, h3, h4⟩, h5⟩
      refine ⟨⟨h1, h2⟩, h3, .inr fun e => ?_⟩
      rcases h4 with h4 | h4
      · subst h4; subst e; exact h5 rfl
      · exact h4 e
    · rintro ⟨⟨h1, h2⟩, h3, h4⟩
      rcases h4 with h4 | h4
      · cases h4
      · refine ⟨⟨h1, h2, h3, .inr h4⟩, fun e => ?_⟩
        cases p with
        | nil => simp at e; exact h4 e
        | cons y p => simp at e
theorem u8_of (b : UInt8) : UInt8.ofNat b.toNat = b := by simp
theorem varB_dec : ∀ (l : Str), l ≠ [] → (varB (decB l) = l ↔ canonB l = true)
  | [], h => absurd rfl h
  | [b], _ => by
    have hb := b.toNat_lt
    have e : decB [b] = b.toNat % 128 := by simp [decB]
    rw [e, varB_lt (by omega)]
    simp only [canonB, if_true, decide_eq_true_eq, List.cons.injEq, and_true]
    constructor
    · intro h
      have := congrArg UInt8.toNat h
      rw [UInt8.toNat_ofNat'] at this; omega
    · intro h
      rw [Nat.mod_eq_of_lt h]; simp
  | b :: c :: r, _ => by
    have ih := varB_dec (c :: r) (by simp)
    have hb := b.toNat_lt
    rw [canonB, if_neg (by simp)]
    rw [decB]
    generalize hd : decB (c :: r) = d at ih ⊢
    simp only [Bool.and_eq_true, ← ih, decide_eq_true_eq, Bool.not_eq_true', decide_eq_false_iff_not]
    constructor
    · intro h
      by_cases hn : b.toNat % 128 + 128 * d < 128
      · rw [varB_lt hn] at h; simp at h
      · rw [varB_ge hn] at h
        have e1 : (b.toNat % 128 + 128 * d) / 128 = d := by omega
        have e2 : (b.toNat % 128 + 128 * d) % 128 = b.toNat % 128 := by omega
        rw [e1, e2, List.cons.injEq] at h
        refine ⟨⟨?_, h.2⟩, fun e => ?_⟩
        · have := congrArg UInt8.toNat h.1
          rw [UInt8.toNat_ofNat'] at this; omega
        · rw [e] at hd
          have : d = 0 := by rw [← hd]; rfl
          omega
    · rintro ⟨⟨h1, h2⟩, h3⟩
      have hd0 : d ≠ 0 := by
        rintro rfl
        rw [varB_lt (by omega)] at h2
        exact h3 h2.symm
      rw [varB_ge (by omega)]
      have e1 : (b.toNat % 128 + 128 * d) / 128 = d := by omega
      have e2 : (b.toNat % 128 + 128 * d) % 128 = b.toNat % 128 := by omega
      rw [e1, e2, h2, show 128 + b.toNat % 128 = b.toNat by omega, u8_of]
theorem decB_lt : ∀ (l : Str), decB l < 128 ^ l.length
  | [] => by simp [decB]
  | b :: r => by
    have := decB_lt r
    simp only [decB, List.length_cons, Nat.pow_succ]
    omega
theorem decB_snoc : ∀ (l : Str) (b : UInt8), decB (l ++ [b]) = decB l + 128 ^ l.length * (b.toNat % 128)
  | [], b => by simp [decB]
  | x :: l, b => by
    rw [List.cons_append, decB, decB, decB_snoc l b, List.length_cons, Nat.pow_succ, Nat.mul_add, ← Nat.mul_assoc, Nat.mul_comm 128 (128 ^ l.length)]
    omega
def rvI (s : Str) : Option Nat := (List.range (min 7 s.length)).findIdx? fun i => canonB (s.take (i + 1))
def rvV (s : Str) : Int × Int := match rvI s with
  | some i => (((decB (s.take (i + 1)) : Nat) : Int), ((i + 1 : Nat) : Int))
  | none => (0, 0)
theorem rvI_some {s : Str} {i : Nat} : rvI s = some i ↔ i < min 7 s.length ∧ canonB (s.take (i + 1)) = true ∧ ∀ j, j < i → canonB (s.take (j + 1)) = false := by
  unfold rvI
  rw [List.findIdx?_eq_some_iff_getElem]
  constructor
  · rintro ⟨h, h1, h2⟩
    rw [List.length_range] at h
    rw [List.getElem_range] at h1
    refine ⟨h, h1, fun j hj => ?_⟩
    have := h2 j hj
    rw [List.getElem_range] at this
    simpa using this
  · rintro ⟨h, h1, h2⟩
    refine ⟨by rw [List.length_range]; exact h, by rw [List.getElem_range]; exact h1, fun j hj => by rw [List.getElem_range]; simpa using h2 j hj⟩
theorem rvI_none {s : Str} : rvI s = none ↔ ∀ i, i < min 7 s.length → canonB (s.take (i + 1)) = false := by
  unfold rvI
  rw [List.findIdx?_eq_none_iff]
  simp only [List.mem_range]
theorem take_snoc {s : Str} {i : Nat} (h : i < s.length) : s.take (i + 1) = s.take i ++ [s[i]] := List.take_succ_eq_append_getElem h
theorem rv_scan {s : Str} {j : Nat} (hj : j < min 7 s.length) (hb : ∀ i (_ : i < j) (h : i < s.length), 128 ≤ s[i].toNat) (he : (s[j]'(by omega)).toNat < 128) :
    rvI s = if 0 < j ∧ s[j]'(by omega) = 0 then none else some j := by
  have hjl : j < s.length := by omega
  have no : ∀ i, i < j → canonB (s.take (i + 1)) = false := fun i hi => by
    rw [Bool.eq_false_iff, ne_eq, take_snoc (by omega), canonB_snoc]
    rintro ⟨_, h, _⟩
    have := hb i hi (by omega)
    omega
  have all : ∀ x ∈ s.take j, 128 ≤ x.toNat := fun x hx => by
    obtain ⟨i, hi, rfl⟩ := List.getElem_of_mem hx
    rw [List.length_take] at hi
    rw [List.getElem_take]
    exact hb i (by omega) (by omega)
  split
  · rename_i h
    refine rvI_none.2 fun i hi => ?_
    by_cases h1 : i < j
    · exact no i h1
    · rw [Bool.eq_false_iff, ne_eq, take_snoc (by omega), canonB_snoc]
      rintro ⟨q1, q2, q3⟩
      by_cases h2 : i = j
      · subst h2
        rcases q3 with q3 | q3
        · have := congrArg List.length q3
          rw [List.length_take, List.length_nil] at this; omega
        · exact q3 h.2
      · have := q1 (s[j]) (by
          have : j < (s.take i).length := by rw [List.length_take]; omega
          exact List.mem_of_getElem (i := j) (h := this) (by rw [List.getElem_take]))
        omega
  · rename_i h
    refine rvI_some.2 ⟨hj, ?_, no⟩
    rw [take_snoc hjl, canonB_snoc]
    refine ⟨all, he, ?_⟩
    by_cases h0 : j = 0
    · subst h0; exact .inl (by simp)
    · exact .inr fun e => h ⟨by omega, e⟩
theorem rv_all {s : Str} (hb : ∀ i (_ : i < min 7 s.length) (h : i < s.length), 128 ≤ s[i].toNat) : rvI s = none := by
  refine rvI_none.2 fun i hi => ?_
  rw [Bool.eq_false_iff, ne_eq, take_snoc (by omega), canonB_snoc]
  rintro ⟨_, h, _⟩
  have := hb i hi (by omega)
  omega
theorem rvV_bounds (s : Str) : (0 ≤ (rvV s).1 ∧ (rvV s).1 ≤ 562949953421311) ∧ 0 ≤ (rvV s).2 ∧ (rvV s).2 ≤ ((s.length : Nat) : Int) ∧ (rvV s).2 ≤ 7 := by
  unfold rvV
  split
  · rename_i i h
    have h := (rvI_some.1 h).1
    have h1 := decB_lt (s.take (i + 1))
    have h2 : 128 ^ (s.take (i + 1)).length ≤ 128 ^ 7 := Nat.pow_le_pow_right (by decide) (by rw [List.length_take]; omega)
    refine ⟨⟨by omega, ?_⟩, by omega, by omega, by omega⟩
    have : (128 : Nat) ^ 7 = 562949953421312 := by decide
    omega
  · simp
theorem rvI_lt {s : Str} {i : Nat} (h : rvI s = some i) : i < 7 ∧ i < s.length := by have := (rvI_some.1 h).1; omega
theorem rvI_varB {s : Str} {i : Nat} (h : rvI s = some i) : varB (decB (s.take (i + 1))) = s.take (i + 1) :=
  (varB_dec _ (by intro e; have := congrArg List.length e; rw [List.length_take, List.length_nil] at this; have := rvI_lt h; omega)).2 (rvI_some.1 h).2.1
theorem rvI_dec {s : Str} {i : Nat} (h : rvI s = some i) : decB (s.take (i + 1)) < 562949953421312 := by
  have h1 := decB_lt (s.take (i + 1))
  have h2 : 128 ^ (s.take (i + 1)).length ≤ 128 ^ 7 := Nat.pow_le_pow_right (by decide) (by rw [List.length_take]; have := rvI_lt h; omega)
  have : (128 : Nat) ^ 7 = 562949953421312 := by decide
  omega
theorem varV_nat {n : Nat} (h : n < 562949953421312) : varV ((n : Nat) : Int) = varB n := by
  unfold varV
  rw [if_pos (by unfold inV; rw [decide_eq_true (by omega), decide_eq_true (by omega)]; rfl)]
  rfl
theorem decB_varB : ∀ (n : Nat), decB (varB n) = n := by
  intro n
  induction n using Nat.strongRecOn with
  | _ n ih =>
    by_cases h : n < 128
    · rw [varB_lt h]; simp [decB]; omega
    · rw [varB_ge h, decB, ih (n / 128) (by omega), UInt8.toNat_ofNat']; omega
theorem varB_ne (n : Nat) : varB n ≠ [] := by
  by_cases h : n < 128
  · rw [varB_lt h]; simp
  · rw [varB_ge h]; simp
theorem canonB_varB (n : Nat) : canonB (varB n) = true := (varB_dec _ (varB_ne n)).1 (by rw [decB_varB])
theorem rvI_cat {n : Nat} (h : n < 562949953421312) (r : Str) : rvI (varB n ++ r) = some ((varB n).length - 1) := by
  have hl := varB_len7 h
  have hp : 0 < (varB n).length := List.length_pos_iff.2 (varB_ne n)
  refine rvI_some.2 ⟨by rw [List.length_append]; omega, ?_, fun j hj => ?_⟩
  · rw [Nat.sub_add_cancel hp, List.take_left']
    · exact canonB_varB n
    · rfl
  · have hc := canonB_varB n
    have e : varB n = (varB n).dropLast ++ [(varB n).getLast (varB_ne n)] := (List.dropLast_concat_getLast (varB_ne n)).symm
    rw [e, canonB_snoc] at hc
    rw [Bool.eq_false_iff, ne_eq, List.take_append_of_le_length (by omega), take_snoc (by omega), canonB_snoc]
    rintro ⟨_, q, _⟩
    have := hc.1 ((varB n)[j]'(by omega)) (List.mem_of_getElem (i := j) (h := by rw [List.length_dropLast]; exact hj) (by rw [List.getElem_dropLast]))
    omega
theorem rv_take {n : Nat} (h : n < 562949953421312) (r : Str) : decB ((varB n ++ r).take ((varB n).length - 1 + 1)) = n := by
  have hp : 0 < (varB n).length := List.length_pos_iff.2 (varB_ne n)
  rw [Nat.sub_add_cancel hp, List.take_left' rfl, decB_varB]
def numsP : Nat → Str → Option (List Int × Nat)
  | 0, _ => some ([], 0)
  | n + 1, s => match rvI s with
    | none => none
    | some i => match numsP n (s.drop (i + 1)) with
      | none => none
      | some (l, k) => some (((decB (s.take (i + 1)) : Nat) : Int) :: l, i + 1 + k)
theorem numsP_le : ∀ {n : Nat} {s : Str} {l : List Int} {k : Nat}, numsP n s = some (l, k) → k ≤ s.length ∧ l.length = n ∧ (∀ x ∈ l, 0 ≤ x ∧ x ≤ 562949953421311) ∧ s.take k = l.flatMap varV
  | 0, s, l, k, h => by simp only [numsP, Option.some.injEq, Prod.mk.injEq] at h; obtain ⟨rfl, rfl⟩ := h; simp
  | n + 1, s, l, k, h => by
    simp only [numsP] at h
    split at h
    · exact nomatch h
    · rename_i i hi
      split at h
      · exact nomatch h
      · rename_i l' k' hr
        simp only [Option.some.injEq, Prod.mk.injEq] at h
        obtain ⟨rfl, rfl⟩ := h
        have h1 := numsP_le hr
        have h2 := rvI_lt hi
        have h3 := rvI_dec hi
        rw [List.length_drop] at h1
        refine ⟨by omega, by rw [List.length_cons, h1.2.1], fun x hx => ?_, ?_⟩
        · rcases List.mem_cons.1 hx with rfl | hx
          · omega
          · exact h1.2.2.1 x hx
        · rw [List.flatMap_cons, varV_nat h3, rvI_varB hi, ← h1.2.2.2, List.take_add]
theorem numsP_cat : ∀ (l : List Nat) (r : Str), (∀ x ∈ l, x < 562949953421312) → numsP l.length (l.flatMap varB ++ r) = some (l.map fun x => ((x : Nat) : Int), (l.flatMap varB).length)
  | [], r, _ => rfl
  | x :: l, r, h => by
    have hx := h x (by simp)
    have ih := numsP_cat l r fun y hy => h y (by simp [hy])
    have hp : 0 < (varB x).length := List.length_pos_iff.2 (varB_ne x)
    rw [List.length_cons, numsP, List.flatMap_cons, List.append_assoc, rvI_cat hx]
    simp only
    rw [rv_take hx, Nat.sub_add_cancel hp, List.drop_left' rfl, ih]
    simp
def varsAtV (s : Str) : Nat → Int → List Int → List Int × Int
  | 0, p, out => (out, p)
  | n + 1, p, out => if p < 0 ∨ ((s.length : Nat) : Int) < p then (out, -1) else if (rvV (s.drop p.toNat)).2 = 0 then (out, -1) else varsAtV s n (p + (rvV (s.drop p.toNat)).2) (out ++ [(rvV (s.drop p.toNat)).1])
theorem rvV_none {s : Str} (h : rvI s = none) : rvV s = (0, 0) := by unfold rvV; rw [h]
theorem rvV_some {s : Str} {i : Nat} (h : rvI s = some i) : rvV s = (((decB (s.take (i + 1)) : Nat) : Int), ((i + 1 : Nat) : Int)) := by unfold rvV; rw [h]
theorem varsAtV_eq (s : Str) : ∀ (n p : Nat) (out : List Int), p ≤ s.length → match numsP n (s.drop p) with
    | some (l, k) => varsAtV s n ((p : Nat) : Int) out = (out ++ l, ((p + k : Nat) : Int))
    | none => ∃ l, varsAtV s n ((p : Nat) : Int) out = (l, -1) ∧ l.length ≤ out.length + n
  | 0, p, out, _ => by simp [numsP, varsAtV]
  | n + 1, p, out, h => by
    have h1 : ¬ (((p : Nat) : Int) < 0 ∨ ((s.length : Nat) : Int) < ((p : Nat) : Int)) := by omega
    simp only [numsP, varsAtV, if_neg h1, Int.toNat_natCast]
    cases hi : rvI (s.drop p) with
    | none => simp only [rvV_none hi, if_true]; exact ⟨out, rfl, by omega⟩
    | some i =>
      have hl := rvI_lt hi
      rw [List.length_drop] at hl
      simp only [rvV_some hi]
      rw [if_neg (by omega), show ((p : Nat) : Int) + ((i + 1 : Nat) : Int) = ((p + (i + 1) : Nat) : Int) by omega]
      have ih := varsAtV_eq s n (p + (i + 1)) (out ++ [((decB ((s.drop p).take (i + 1)) : Nat) : Int)]) (by omega)
      rw [List.drop_drop]
      cases hr : numsP n (s.drop (p + (i + 1))) with
      | none =>
        rw [hr] at ih
        obtain ⟨l, e, hl⟩ := ih
        refine ⟨l, e, ?_⟩
        rw [List.length_append, List.length_cons, List.length_nil] at hl; omega
      | some x =>
        obtain ⟨l, k⟩ := x
        rw [hr] at ih
        simp only at ih ⊢
        rw [ih]
        simp [Nat.add_assoc]
def numV (s : Str) (bad : Bool) : Int × Str × Bool := if bad || (rvV s).2 == 0 then (0, s, true) else ((rvV s).1, s.drop (rvV s).2.toNat, false)
theorem numV_none {s : Str} (h : rvI s = none) : numV s false = (0, s, true) := by unfold numV; rw [rvV_none h]; rfl
theorem numV_some {s : Str} {i : Nat} (h : rvI s = some i) : numV s false = (((decB (s.take (i + 1)) : Nat) : Int), s.drop (i + 1), false) := by
  unfold numV
  rw [rvV_some h]
  have : ((((i + 1 : Nat) : Int)) == 0) = false := by simp; omega
  simp only [this, Bool.false_or]
  rfl
def numsV : Nat → Str → Bool → List Int × Str × Bool
  | 0, s, b => ([], s, b)
  | n + 1, s, b => ((numV s b).1 :: (numsV n (numV s b).2.1 (numV s b).2.2).1, (numsV n (numV s b).2.1 (numV s b).2.2).2)
theorem numsV_bad : ∀ (n : Nat) (s : Str), (numsV n s true).2 = (s, true)
  | 0, _ => rfl
  | n + 1, s => numsV_bad n s
theorem numsV_eq : ∀ (n : Nat) (s : Str), match numsP n s with
    | some (l, k) => numsV n s false = (l, s.drop k, false)
    | none => (numsV n s false).2.2 = true
  | 0, s => by simp [numsP, numsV]
  | n + 1, s => by
    simp only [numsP, numsV]
    cases hi : rvI s with
    | none => simp only [numV_none hi]; rw [numsV_bad]
    | some i =>
      simp only [numV_some hi]
      have ih := numsV_eq n (s.drop (i + 1))
      cases hr : numsP n (s.drop (i + 1)) with
      | none => rw [hr] at ih; exact ih
      | some x =>
        obtain ⟨l, k⟩ := x
        rw [hr] at ih
        simp only at ih ⊢
        rw [ih, List.drop_drop]
def manyV (s : Str) (bad : Bool) (most : Int) : Int × Str × Bool := if (numV s bad).1 > most then (0, (numV s bad).2.1, true) else numV s bad
def zigV (n : Int) : Int := if n < 0 then IntKind.i64.wrap (IntKind.i64.wrap ((-2) * n) - 1) else IntKind.i64.wrap (2 * n)
def zagV (n : Int) : Int := if (Int.tmod n 2 == 1) = true then IntKind.i64.wrap (Int.tdiv (IntKind.i64.wrap (0 - IntKind.i64.wrap (n + 1))) 2) else IntKind.i64.wrap (Int.tdiv n 2)
theorem zagV_odd {x : Int} (h0 : 0 ≤ x) (h1 : x ≤ 562949953421311) (ho : Int.tmod x 2 = 1) : zagV x = -((x + 1) / 2) := by
  unfold zagV
  rw [if_pos (by rw [ho]; rfl), wrap_id (n := x + 1) (by omega) (by omega), wrap_id (n := 0 - (x + 1)) (by omega) (by omega)]
  have hm : x % 2 = 1 := by rw [← Int.tmod_eq_emod_of_nonneg h0]; exact ho
  have e : 0 - (x + 1) = -(x + 1) := by omega
  rw [e, Int.neg_tdiv, Int.tdiv_eq_ediv_of_nonneg (by omega)]
  exact wrap_id (by omega) (by omega)
theorem zagV_even {x : Int} (h0 : 0 ≤ x) (h1 : x ≤ 562949953421311) (ho : ¬ Int.tmod x 2 = 1) : zagV x = x / 2 := by
  unfold zagV
  rw [if_neg (by simpa using ho), Int.tdiv_eq_ediv_of_nonneg h0]
  exact wrap_id (by omega) (by omega)
theorem zigV_bounds {n : Int} (h : inV n (-1000000) 1000000 = true) : 0 ≤ zigV n ∧ zigV n ≤ 2000000 := by
  have h : -1000000 ≤ n ∧ n ≤ 1000000 := by simpa [inV] using h
  unfold zigV
  split
  · rw [wrap_id (n := (-2) * n) (by omega) (by omega), wrap_id (by omega) (by omega)]; omega
  · rw [wrap_id (by omega) (by omega)]; omega
theorem zag_zig {n : Int} (h : inV n (-1000000) 1000000 = true) : zagV (zigV n) = n := by
  have hb := zigV_bounds h
  have h : -1000000 ≤ n ∧ n ≤ 1000000 := by simpa [inV] using h
  have hm := Int.tmod_eq_emod_of_nonneg (b := 2) hb.1
  have e : zigV n = if n < 0 then -2 * n - 1 else 2 * n := by
    unfold zigV
    split
    · rw [wrap_id (n := (-2) * n) (by omega) (by omega), wrap_id (by omega) (by omega)]
    · rw [wrap_id (by omega) (by omega)]
  by_cases ho : Int.tmod (zigV n) 2 = 1
  · rw [zagV_odd hb.1 (by omega) ho, e]
    rw [e] at ho hm
    split at ho
    · rename_i q; rw [if_pos q] at hm ⊢; omega
    · rename_i q; rw [if_neg q] at hm ⊢; omega
  · rw [zagV_even hb.1 (by omega) ho, e]
    rw [e] at ho hm
    split at ho
    · rename_i q; rw [if_pos q] at hm ⊢; omega
    · rename_i q; rw [if_neg q] at hm ⊢; omega
def wordV (n : Int) : Bool := inV n (-1000000) 1000000
def wordsOkV (l : List Int) : Bool := l.all wordV
def wordsS (l : List Int) : Str := varV ((l.length : Nat) : Int) ++ l.flatMap fun n => varV (zigV n)
def fileS (d : List Int) : Str := [102] ++ wordsS d
def filesOf : Nat → List (Option (List Int)) → List FileD
  | _, [] => []
  | i, none :: r => filesOf (i + 1) r
  | i, some d :: r => (((i : Nat) : Int), (d, ())) :: filesOf (i + 1) r
def blkO : Option (List Int) → Str
  | none => []
  | some d => fileS d
def okO : Option (List Int) → Bool
  | none => true
  | some d => wordsOkV d && decide (d.length ≤ 8)
def setB (o : List Str) (x : FileD) : List Str := o.set x.1.toNat (fileS x.2.1)
theorem filesOf_set : ∀ (ds : List (Option (List Int))) (i : Nat) (p : List Str), p.length = i → (filesOf i ds).foldl setB (p ++ List.replicate ds.length []) = p ++ ds.map blkO
  | [], i, p, _ => by simp [filesOf]
  | none :: r, i, p, h => by
    have := filesOf_set r (i + 1) (p ++ [[]]) (by simp [h])
    simp only [filesOf, List.length_cons, List.map_cons, blkO]
    rw [List.replicate_succ, show p ++ [] :: List.replicate r.length [] = p ++ [[]] ++ List.replicate r.length [] by simp, this]
    simp
  | some d :: r, i, p, h => by
    have := filesOf_set r (i + 1) (p ++ [fileS d]) (by simp [h])
    simp only [filesOf, List.length_cons, List.map_cons, blkO, List.foldl_cons]
    have e : setB (p ++ List.replicate (r.length + 1) []) (((i : Nat) : Int), (d, ())) = p ++ [fileS d] ++ List.replicate r.length [] := by
      unfold setB
      rw [Int.toNat_natCast, List.replicate_succ, List.set_append_right _ _ (by omega), h, Nat.sub_self, List.set_cons_zero]; simp
    rw [e, this]
    simp
def file1V (x : FileD) : Bool := inV x.1 0 5 && (decide (x.2.1.length ≤ 8) && wordsOkV x.2.1)
def fileRowV (a : List FileD) (i : Nat) : Bool := match a[i]? with
  | none => true
  | some x => file1V x && (match i with | 0 => true | j + 1 => match a[j]? with | none => true | some z => decide (z.1 < x.1))
def filesOkV (a : List FileD) : Bool := decide (a.length ≤ 6) && (List.range a.length).all (fileRowV a)
theorem fileRowV_zero {a : List FileD} (h : 0 < a.length) : fileRowV a 0 = file1V a[0] := by
  unfold fileRowV
  rw [List.getElem?_eq_getElem h]
  simp
theorem fileRowV_succ {a : List FileD} {i : Nat} (h : i + 1 < a.length) : fileRowV a (i + 1) = (file1V a[i + 1] && decide (a[i].1 < a[i + 1].1)) := by
  unfold fileRowV
  rw [List.getElem?_eq_getElem h]
  simp only [List.getElem?_eq_getElem (show i < a.length by omega)]
def filesFrom : Int → List FileD → Bool
  | _, [] => true
  | lo, x :: r => file1V x && (decide (lo ≤ x.1) && filesFrom (x.1 + 1) r)
theorem rows_from (a : List FileD) : ∀ (m i : Nat) (lo : Int), i + m = a.length → (∀ (h : i < a.length), fileRowV a i = (file1V a[i] && decide (lo ≤ a[i].1))) → ((∀ j, i ≤ j → j < a.length → fileRowV a j = true) ↔ filesFrom lo (a.drop i) = true)
  | 0, i, lo, hi, _ => by
    rw [List.drop_of_length_le (by omega)]
    exact ⟨fun _ => rfl, fun _ j h1 h2 => by omega⟩
  | m + 1, i, lo, hi, h => by
    have hlt : i < a.length := by omega
    have ih := rows_from a m (i + 1) (a[i].1 + 1) (by omega) (fun h' => by
      rw [fileRowV_succ h']
      congr 1)
    rw [List.drop_eq_getElem_cons hlt, filesFrom, Bool.and_eq_true, Bool.and_eq_true, ← ih]
    have h0 := h hlt
    constructor
    · intro q
      have q1 := q i (Nat.le_refl i) hlt
      rw [h0, Bool.and_eq_true] at q1
      exact ⟨q1.1, q1.2, fun j hj => q j (by omega)⟩
    · rintro ⟨q1, q2, q3⟩ j hj hl
      by_cases e : j = i
      · subst e; rw [h0, q1, q2]; rfl
      · exact q3 j (by omega) hl
theorem filesOkV_from (a : List FileD) : filesOkV a = (decide (a.length ≤ 6) && filesFrom 0 a) := by
  unfold filesOkV
  congr 1
  have := rows_from a a.length 0 0 (by omega) (fun h => by
    rw [fileRowV_zero h]
    cases hf : file1V a[0] with
    | false => rfl
    | true =>
      have : inV a[0].1 0 5 = true := (Bool.and_eq_true_iff.1 hf).1
      have : (0 : Int) ≤ a[0].1 ∧ a[0].1 ≤ (5 : Int) := by simpa [inV] using this
      have e : decide ((0 : Int) ≤ a[0].1) = true := decide_eq_true this.1
      exact (congrArg (fun b => (true && b)) e).symm)
  rw [Bool.eq_iff_iff, List.all_eq_true]
  rw [List.drop_zero] at this
  rw [← this]
  exact ⟨fun q j _ hj => q j (List.mem_range.2 hj), fun q j hj => q j (Nat.zero_le j) (List.mem_range.1 hj)⟩
theorem filesOf_from : ∀ (ds : List (Option (List Int))) (i : Nat) (lo : Int), lo ≤ i → i + ds.length ≤ 6 → filesFrom lo (filesOf i ds) = ds.all okO
  | [], _, _, _, _ => rfl
  | none :: r, i, lo, h1, h2 => by
    rw [filesOf, List.all_cons, filesOf_from r (i + 1) lo (by omega) (by rw [List.length_cons] at h2; omega)]; rfl
  | some d :: r, i, lo, h1, h2 => by
    rw [List.length_cons] at h2
    rw [filesOf, filesFrom, List.all_cons]
    simp only
    rw [filesOf_from r (i + 1) (((i : Nat) : Int) + 1) (by omega) (by omega), decide_eq_true h1, Bool.true_and]
    congr 1
    show (inV ((i : Nat) : Int) 0 5 && (decide (d.length ≤ 8) && wordsOkV d)) = (wordsOkV d && decide (d.length ≤ 8))
    have e : inV ((i : Nat) : Int) 0 5 = true := by unfold inV; rw [decide_eq_true (show (0 : Int) ≤ ((i : Nat) : Int) by omega), decide_eq_true (show ((i : Nat) : Int) ≤ 5 by omega)]; rfl
    rw [e, Bool.true_and, Bool.and_comm]
theorem filesOf_len : ∀ (ds : List (Option (List Int))) (i : Nat), (filesOf i ds).length ≤ ds.length
  | [], _ => Nat.le_refl _
  | none :: r, i => by have := filesOf_len r (i + 1); simp only [filesOf, List.length_cons]; omega
  | some d :: r, i => by have := filesOf_len r (i + 1); simp only [filesOf, List.length_cons]; omega
theorem filesOf_ok {ds : List (Option (List Int))} (h : ds.length ≤ 6) : filesOkV (filesOf 0 ds) = ds.all okO := by
  have := filesOf_len ds 0
  rw [filesOkV_from, decide_eq_true (by omega), filesOf_from ds 0 0 (by omega) (by omega)]; rfl
theorem of_from : ∀ (m i : Nat) (lo : Int) (a : List FileD), lo = i → i + m = 6 → filesFrom lo a = true → ∃ ds : List (Option (List Int)), ds.length = m ∧ filesOf i ds = a
  | 0, i, lo, a, h1, h2, h => by
    cases a with
    | nil => exact ⟨[], rfl, rfl⟩
    | cons x r =>
      exfalso
      rw [filesFrom, Bool.and_eq_true, Bool.and_eq_true] at h
      have q : inV x.1 0 5 = true := (Bool.and_eq_true_iff.1 h.1).1
      have q : 0 ≤ x.1 ∧ x.1 ≤ 5 := by simpa [inV] using q
      have := of_decide_eq_true h.2.1
      omega
  | m + 1, i, lo, a, h1, h2, h => by
    cases a with
    | nil =>
      obtain ⟨ds, e1, e2⟩ := of_from m (i + 1) (((i + 1 : Nat) : Int)) [] rfl (by omega) rfl
      exact ⟨none :: ds, by simp [e1], e2⟩
    | cons x r =>
      have h' := h
      rw [filesFrom, Bool.and_eq_true, Bool.and_eq_true] at h
      have hl := of_decide_eq_true h.2.1
      by_cases e : x.1 = i
      · obtain ⟨ds, e1, e2⟩ := of_from m (i + 1) (((i + 1 : Nat) : Int)) r rfl (by omega) (by have := h.2.2; rw [e] at this; exact this)
        refine ⟨some x.2.1 :: ds, by simp [e1], ?_⟩
        rw [filesOf, e2, ← e]
      · obtain ⟨ds, e1, e2⟩ := of_from m (i + 1) (((i + 1 : Nat) : Int)) (x :: r) rfl (by omega) (by
          rw [filesFrom, h.1, h.2.2, decide_eq_true (by omega)]; rfl)
        exact ⟨none :: ds, by simp [e1], e2⟩
def fileBlocksV (a : List FileD) : List Str := if filesOkV a = true then a.foldl setB (List.replicate 6 []) else []
theorem places {a : List FileD} (h : filesOkV a = true) : ∃ ds : List (Option (List Int)), ds.length = 6 ∧ filesOf 0 ds = a ∧ ds.all okO = true ∧ fileBlocksV a = ds.map blkO := by
  have h2 := h
  rw [filesOkV_from, Bool.and_eq_true] at h2
  obtain ⟨ds, e1, e2⟩ := of_from 6 0 0 a rfl (by omega) h2.2
  refine ⟨ds, e1, e2, ?_, ?_⟩
  · rw [← filesOf_ok (by omega), e2]; exact h
  · unfold fileBlocksV
    rw [if_pos h, ← e2, ← e1]
    exact filesOf_set ds 0 [] rfl
end Go.Proofs.YtnglkhjpdpgahaaGreatDoor.Dm
