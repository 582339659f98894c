/- Functions of the program, and what they compute. -/
import Derived.Test.YtnglkhjpdpgahaaGreatDoorA12
import Derived.Lib.SplitLaws
import Derived.Lib.AtoiAllCases
import Derived.Lib.ItoaLen
namespace Go.Proofs.YtnglkhjpdpgahaaGreatDoor.Dm
open Go Go.ChangeShapes Go.WideShapes Go.ChangeAt Go.RowKit
def splitOn (c : UInt8) : Str → List Str
  | [] => [[]]
  | b :: r => if b = c then [] :: splitOn c r else match splitOn c r with
    | [] => [[b]]
    | x :: l => (b :: x) :: l
theorem splitOn_ne (c : UInt8) : ∀ s : Str, splitOn c s ≠ []
  | [] => by simp [splitOn]
  | b :: r => by
    unfold splitOn
    split
    · simp
    · split <;> simp
theorem splitOn_miss {c : UInt8} : ∀ {s : Str}, c ∉ s → splitOn c s = [s]
  | [], _ => rfl
  | b :: r, h => by
    have h1 : b ≠ c := fun e => h (by simp [e])
    rw [splitOn, if_neg h1, splitOn_miss (s := r) (fun e => h (by simp [e]))]
theorem splitOn_hit {c : UInt8} : ∀ {p : Str} {r : Str}, c ∉ p → splitOn c (p ++ c :: r) = p :: splitOn c r
  | [], r, _ => by simp [splitOn]
  | b :: p, r, h => by
    have h1 : b ≠ c := fun e => h (by simp [e])
    rw [List.cons_append, splitOn, if_neg h1, splitOn_hit (p := p) (fun e => h (by simp [e]))]
theorem occ_one {s : Str} {c : UInt8} {j : Nat} : Lib.occAt s [c] j = decide (s[j]? = some c) := by
  unfold Lib.occAt
  rw [← List.head?_drop]
  cases h : s.drop j with
  | nil => simp [List.isPrefixOf]
  | cons b r => simp [List.isPrefixOf, eq_comm]; rfl
theorem index_hit {p r : Str} {c : UInt8} (h : c ∉ p) : Lib.index (p ++ c :: r) [c] = ((p.length : Nat) : Int) :=
  Lib.index_first (by simp) (by rw [occ_one]; simp) fun j hj => by
    rw [occ_one]
    refine decide_eq_false fun e => ?_
    rw [List.getElem?_append_left hj] at e
    exact h (List.mem_of_getElem? e)
theorem cut_at {c : UInt8} : ∀ {s : Str}, c ∈ s → ∃ p r, s = p ++ c :: r ∧ c ∉ p
  | b :: s, h => by
    by_cases e : b = c
    · exact ⟨[], s, by rw [e]; rfl, by simp⟩
    · have h : c ∈ s := by
        rcases List.mem_cons.1 h with h | h
        · exact absurd h.symm e
        · exact h
      obtain ⟨p, r, e1, e2⟩ := cut_at h
      exact ⟨b :: p, r, by rw [e1]; rfl, fun h => by
        rcases List.mem_cons.1 h with h | h
        · exact e h.symm
        · exact e2 h⟩
theorem split_one {c : UInt8} : ∀ (k : Nat) (s : Str), s.count c = k → Lib.splitK [c] 0 k s = splitOn c s
  | 0, s, h => by
    rw [splitOn_miss (List.count_eq_zero.1 h)]
    rfl
  | k + 1, s, h => by
    have hm : c ∈ s := List.count_pos_iff.1 (by omega)
    obtain ⟨p, r, rfl, hp⟩ := cut_at hm
    rw [List.count_append, List.count_cons_self, List.count_eq_zero.2 hp] at h
    have e := index_hit (r := r) hp
    rw [splitOn_hit hp, Lib.splitK, e, if_neg (by rw [beq_iff_eq]; omega)]
    simp only [Int.toNat_natCast, List.length_cons, List.length_nil, Nat.add_zero]
    rw [List.take_append_of_le_length (Nat.le_refl _), List.take_length, show p.length + (0 + 1) = p.length + 1 from rfl, List.drop_append, List.drop_eq_nil_of_le (by omega)]
    simp only [Nat.add_sub_cancel_left, List.drop_succ_cons, List.drop_zero, List.nil_append]
    rw [split_one k r (by omega)]
theorem splitOn_len {c : UInt8} : ∀ (s : Str), (splitOn c s).length = s.count c + 1
  | [] => rfl
  | b :: r => by
    have ih := splitOn_len (c := c) r
    unfold splitOn
    by_cases e : b = c
    · rw [if_pos e, List.length_cons, ih, e, List.count_cons_self]
    · rw [if_neg e, List.count_cons_of_ne e]
      cases h : splitOn c r with
      | nil => exact absurd h (splitOn_ne c r)
      | cons x l => rw [h] at ih; simpa using ih
def linesV (t : Str) : List Str := if (splitOn 10 t).getLast? = some [] then (splitOn 10 t).dropLast else splitOn 10 t
theorem dig_val {d : Nat} (h : d < 10) : (UInt8.ofNat (48 + d)).toNat = 48 + d := by
  rw [UInt8.toNat_ofNat']
  omega
theorem digits_dig : ∀ (u : Nat), ∀ b ∈ Lib.decDigits u, 48 ≤ b.toNat ∧ b.toNat ≤ 57 := by
  intro u
  induction u using Nat.strongRecOn with
  | _ u ih =>
    intro b hb
    rw [Lib.decDigits] at hb
    split at hb
    · rename_i h
      obtain rfl := List.mem_singleton.1 hb
      rw [dig_val h]; omega
    · rename_i h
      rcases List.mem_append.1 hb with hb | hb
      · exact ih (u / 10) (by omega) b hb
      · obtain rfl := List.mem_singleton.1 hb
        rw [dig_val (Nat.mod_lt _ (by decide))]
        have := Nat.mod_lt u (show 10 > 0 by decide)
        omega
theorem digits_ne (u : Nat) : Lib.decDigits u ≠ [] := by
  rw [Lib.decDigits]
  split <;> simp
theorem itoa_bytes (n : Int) : ∀ b ∈ Lib.itoa n, b = 45 ∨ 48 ≤ b.toNat ∧ b.toNat ≤ 57 := by
  intro b hb
  unfold Lib.itoa at hb
  split at hb
  · rcases List.mem_cons.1 hb with hb | hb
    · exact .inl hb
    · exact .inr (digits_dig _ b hb)
  · exact .inr (digits_dig _ b hb)
def numOf (s : Str) : Nat := s.foldl (fun n b => n * 10 + (b.toNat - 48)) 0
theorem numOf_snoc (s : Str) (b : UInt8) : numOf (s ++ [b]) = numOf s * 10 + (b.toNat - 48) := by
  unfold numOf
  rw [List.foldl_append]
  rfl
theorem numOf_digits : ∀ (u : Nat), numOf (Lib.decDigits u) = u := by
  intro u
  induction u using Nat.strongRecOn with
  | _ u ih =>
    rw [Lib.decDigits]
    split
    · rename_i h
      show 0 * 10 + ((UInt8.ofNat (48 + u)).toNat - 48) = u
      rw [dig_val h]; omega
    · rename_i h
      rw [numOf_snoc, ih (u / 10) (by omega), dig_val (Nat.mod_lt _ (by decide))]
      omega
theorem parse_snoc : ∀ (s : Str) (acc : Nat) (b : UInt8) (u : Nat), Lib.parseUint10 acc s = .ok u → 48 ≤ b.toNat → b.toNat ≤ 57 → u < 1000000000 → Lib.parseUint10 acc (s ++ [b]) = .ok (u * 10 + (b.toNat - 48))
  | [], acc, b, u, h, h1, h2, hu => by
    obtain rfl : acc = u := by simpa [Lib.parseUint10] using h
    rw [List.nil_append, Lib.parseUint10, if_pos ⟨h1, h2⟩, if_neg (by omega), if_neg (by omega)]
    rfl
  | c :: s, acc, b, u, h, h1, h2, hu => by
    rw [Lib.parseUint10] at h
    rw [List.cons_append, Lib.parseUint10]
    split at h
    · rename_i q
      rw [if_pos q]
      split at h
      · cases h
      · rename_i q1
        rw [if_neg q1]
        split at h
        · cases h
        · rename_i q2
          rw [if_neg q2]
          exact parse_snoc s _ b u h h1 h2 hu
    · cases h
theorem parse_digits : ∀ (u : Nat), u < 10000000000 → Lib.parseUint10 0 (Lib.decDigits u) = .ok u := by
  intro u
  induction u using Nat.strongRecOn with
  | _ u ih =>
    intro hu
    rw [Lib.decDigits]
    split
    · rename_i h
      rw [Lib.parseUint10, dig_val h, if_pos (by omega), if_neg (by omega), if_neg (by omega), Lib.parseUint10]
      congr 1
      omega
    · rename_i h
      have hm := Nat.mod_lt u (show 10 > 0 by decide)
      rw [parse_snoc _ _ _ _ (ih (u / 10) (by omega) (by omega)) (by rw [dig_val hm]; omega) (by rw [dig_val hm]; omega) (by omega), dig_val hm]
      congr 1
      omega
theorem head_digit (u : Nat) : ∃ b r, Lib.decDigits u = b :: r ∧ 48 ≤ b.toNat ∧ b.toNat ≤ 57 := by
  cases h : Lib.decDigits u with
  | nil => exact absurd h (digits_ne u)
  | cons b r => exact ⟨b, r, rfl, digits_dig u b (by rw [h]; simp)⟩
abbrev In9 (n : Int) : Prop := -999999999 ≤ n ∧ n ≤ 999999999
theorem atoi_itoa {n : Int} (h : In9 n) : Lib.atoiAll (Lib.itoa n) = .ok n := by
  unfold Lib.itoa
  split
  · rename_i hn
    rw [Lib.atoiAll_minus, Lib.parseMag, if_neg (digits_ne _), parse_digits _ (by omega)]
    simp only [Lib.signed]
    rw [if_neg (by omega)]
    congr 1
    omega
  · rename_i hn
    obtain ⟨b, r, e, h1, h2⟩ := head_digit n.toNat
    have hp := parse_digits n.toNat (by omega)
    rw [e] at hp ⊢
    rw [Lib.atoiAll_plain _ _ (by omega) (by omega), Lib.parseMag, if_neg (by simp), hp]
    simp only [Lib.signless]
    rw [if_neg (by omega)]
    congr 1
    omega
def decNum (s : Str) : Int := if s.head? = some 45 then -((numOf (s.drop 1) : Nat) : Int) else ((numOf s : Nat) : Int)
theorem decNum_itoa (n : Int) : decNum (Lib.itoa n) = n := by
  unfold decNum Lib.itoa
  by_cases hn : n < 0
  · rw [if_pos hn, if_pos (show (45 :: Lib.decDigits n.natAbs).head? = some 45 from rfl), List.drop_one, List.tail_cons, numOf_digits]
    omega
  · rw [if_neg hn]
    obtain ⟨b, r, e, h1, h2⟩ := head_digit n.toNat
    have hb : b ≠ 45 := fun e => by rw [e] at h1; exact absurd h1 (by decide)
    rw [if_neg (by rw [e]; simpa using hb), numOf_digits]
    omega
def readDecV (s : Str) : Option Int := if In9 (decNum s) ∧ Lib.itoa (decNum s) = s then some (decNum s) else none
theorem readDec_some {s : Str} {n : Int} (h : readDecV s = some n) : In9 n ∧ Lib.itoa n = s := by
  unfold readDecV at h
  split at h
  · rename_i q
    obtain rfl := Option.some.inj h
    exact q
  · cases h
theorem readDec_itoa {n : Int} (h : In9 n) : readDecV (Lib.itoa n) = some n := by
  unfold readDecV
  rw [decNum_itoa, if_pos ⟨h, rfl⟩]
theorem readDec_atoi {s : Str} {v : Int} (h : Lib.atoiAll s = .ok v) : readDecV s = if In9 v ∧ Lib.itoa v = s then some v else none := by
  by_cases q : In9 v ∧ Lib.itoa v = s
  · rw [if_pos q, ← q.2]
    exact readDec_itoa q.1
  · rw [if_neg q]
    cases e : readDecV s with
    | none => rfl
    | some m =>
      obtain ⟨h1, h2⟩ := readDec_some e
      have := atoi_itoa h1
      rw [h2, h] at this
      have : v = m := by simpa using this
      exact absurd ⟨this ▸ h1, this ▸ h2⟩ q
theorem readDec_not {s : Str} (h : ∀ v, Lib.atoiAll s ≠ .ok v) : readDecV s = none := by
  cases e : readDecV s with
  | none => rfl
  | some m =>
    obtain ⟨h1, h2⟩ := readDec_some e
    have := atoi_itoa h1
    rw [h2] at this
    exact absurd this (h m)
def isDig (b : UInt8) : Bool := decide (48 ≤ b) && decide (b ≤ 57)
theorem isDig_nat {b : UInt8} : isDig b = true ↔ 48 ≤ b.toNat ∧ b.toNat ≤ 57 := by
  unfold isDig
  simp only [Bool.and_eq_true, decide_eq_true_eq, UInt8.le_iff_toNat_le]
  rfl
theorem numOf_lt : ∀ (k : Nat) (s : Str), s.length = k → (∀ b ∈ s, isDig b = true) → numOf s < 10 ^ k := by
  intro k
  induction k with
  | zero => intro s hs _; obtain rfl := List.eq_nil_of_length_eq_zero hs; decide
  | succ k ih =>
    intro s hs hd
    obtain ⟨t, b, rfl⟩ : ∃ t b, s = t ++ [b] := ⟨s.dropLast, s.getLast (fun e => by rw [e] at hs; simp at hs), (List.dropLast_concat_getLast _).symm⟩
    have h1 := ih t (by simpa using hs) fun x hx => hd x (by simp [hx])
    have h2 := isDig_nat.1 (hd b (by simp))
    rw [numOf_snoc, Nat.pow_succ]
    omega
theorem digits_len : ∀ (k u : Nat), u < 10 ^ (k + 1) → (Lib.decDigits u).length ≤ k + 1 := by
  intro k
  induction k with
  | zero => intro u h; rw [Lib.decDigits, dif_pos (by simpa using h)]; simp
  | succ k ih =>
    intro u h
    rw [Lib.decDigits]
    split
    · simp
    · have : 10 ^ (k + 1 + 1) = 10 ^ (k + 1) * 10 := Nat.pow_succ ..
      have := ih (u / 10) (by omega)
      rw [List.length_append]
      simp only [List.length_cons, List.length_nil]
      omega
def digsOf (s : Str) : Str := (s.take 11).filter isDig
def signedOf (s : Str) : Int := if s.head? = some 45 then -((numOf (digsOf s) : Nat) : Int) else ((numOf (digsOf s) : Nat) : Int)
theorem filter_digits (u : Nat) : (Lib.decDigits u).filter isDig = Lib.decDigits u := List.filter_eq_self.2 fun b hb => isDig_nat.2 (digits_dig u b hb)
theorem digs_itoa {n : Int} (h : In9 n) : digsOf (Lib.itoa n) = Lib.decDigits n.natAbs ∧ (Lib.itoa n).length ≤ 10 ∧ (Lib.decDigits n.natAbs).length ≤ 9 := by
  have hl := digits_len 8 n.natAbs (by omega)
  unfold digsOf Lib.itoa
  by_cases hn : n < 0
  · rw [if_pos hn, List.take_of_length_le (by simp only [List.length_cons]; omega), List.filter_cons_of_neg (by decide), filter_digits]
    exact ⟨rfl, by simp only [List.length_cons]; omega, hl⟩
  · rw [if_neg hn, show n.toNat = n.natAbs by omega, List.take_of_length_le (by omega), filter_digits]
    exact ⟨rfl, by omega, hl⟩
theorem readDec_ref (s : Str) : readDecV s = if (digsOf s).length ≤ 9 ∧ s.length ≤ 10 ∧ Lib.itoa (signedOf s) = s then some (signedOf s) else none := by
  by_cases q : (digsOf s).length ≤ 9 ∧ s.length ≤ 10 ∧ Lib.itoa (signedOf s) = s
  · rw [if_pos q]
    have hd : ∀ b ∈ digsOf s, isDig b = true := fun b hb => (List.mem_filter.1 hb).2
    have h1 := numOf_lt _ (digsOf s) rfl hd
    have h2 : 10 ^ (digsOf s).length ≤ 10 ^ 9 := Nat.pow_le_pow_right (by decide) q.1
    have h3 : In9 (signedOf s) := by
      unfold signedOf
      split <;> omega
    have := readDec_itoa h3
    rwa [q.2.2] at this
  · rw [if_neg q]
    cases e : readDecV s with
    | none => rfl
    | some m =>
      obtain ⟨h1, h2⟩ := readDec_some e
      obtain ⟨d1, d2, d3⟩ := digs_itoa h1
      rw [h2] at d1 d2
      have hs : signedOf s = m := by
        have hh : s.head? = some 45 ↔ m < 0 := by
          rw [← h2]
          unfold Lib.itoa
          by_cases hn : m < 0
          · rw [if_pos hn]; simp [hn]
          · rw [if_neg hn]
            obtain ⟨b, r, e, g1, g2⟩ := head_digit m.toNat
            rw [e]
            simp only [List.head?_cons, Option.some.injEq, hn, iff_false]
            intro e
            rw [e] at g1
            exact absurd g1 (by decide)
        unfold signedOf
        rw [d1, numOf_digits]
        by_cases hn : m < 0
        · rw [if_pos (hh.2 hn)]; omega
        · rw [if_neg (fun e => hn (hh.1 e))]; omega
      exact absurd ⟨d1 ▸ d3, d2, hs ▸ h2⟩ q
end Go.Proofs.YtnglkhjpdpgahaaGreatDoor.Dm
