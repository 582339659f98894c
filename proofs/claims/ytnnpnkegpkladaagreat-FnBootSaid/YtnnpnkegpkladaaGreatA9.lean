/- Functions of the program, and what they compute. -/
import Derived.Test.YtnnpnkegpkladaaGreatA8
namespace Go.Proofs.YtnnpnkegpkladaaGreat.Dm
open Go Go.ChangeShapes Go.WideShapes Go.ChangeAt Go.RowKit
def zigV (n : Int) : Int := if n < 0 then IntKind.i64.wrap (IntKind.i64.wrap ((-2) * n) - 1) else IntKind.i64.wrap (2 * n)
def wordV (n : Int) : Bool := inV n (-1000000) 1000000
def wordsOkV (l : List Int) : Bool := l.all wordV
def wordsS (l : List Int) : Str := varV ((l.length : Nat) : Int) ++ l.flatMap fun n => varV (zigV n)
def fileS (d : List Int) : Str := [102] ++ wordsS d
def filesOf : Nat → List (Option (List Int)) → List FileD
  | _, [] => []
  | i, none :: r => filesOf (i + 1) r
  | i, some d :: r => (((i : Nat) : Int), (d, ())) :: filesOf (i + 1) r
def blkO : Option (List Int) → Str
  | none => []
  | some d => fileS d
def okO : Option (List Int) → Bool
  | none => true
  | some d => wordsOkV d && decide (d.length ≤ 8)
def setB (o : List Str) (x : FileD) : List Str := o.set x.1.toNat (fileS x.2.1)
theorem filesOf_set : ∀ (ds : List (Option (List Int))) (i : Nat) (p : List Str), p.length = i → (filesOf i ds).foldl setB (p ++ List.replicate ds.length []) = p ++ ds.map blkO
  | [], i, p, _ => by simp [filesOf]
  | none :: r, i, p, h => by
    have := filesOf_set r (i + 1) (p ++ [[]]) (by simp [h])
    simp only [filesOf, List.length_cons, List.map_cons, blkO]
    rw [List.replicate_succ, show p ++ [] :: List.replicate r.length [] = p ++ [[]] ++ List.replicate r.length [] by simp, this]
    simp
  | some d :: r, i, p, h => by
    have := filesOf_set r (i + 1) (p ++ [fileS d]) (by simp [h])
    simp only [filesOf, List.length_cons, List.map_cons, blkO, List.foldl_cons]
    have e : setB (p ++ List.replicate (r.length + 1) []) (((i : Nat) : Int), (d, ())) = p ++ [fileS d] ++ List.replicate r.length [] := by
      unfold setB
      rw [Int.toNat_natCast, List.replicate_succ, List.set_append_right _ _ (by omega), h, Nat.sub_self, List.set_cons_zero]; simp
    rw [e, this]
    simp
def file1V (x : FileD) : Bool := inV x.1 0 5 && (decide (x.2.1.length ≤ 8) && wordsOkV x.2.1)
def fileRowV (a : List FileD) (i : Nat) : Bool := match a[i]? with
  | none => true
  | some x => file1V x && (match i with | 0 => true | j + 1 => match a[j]? with | none => true | some z => decide (z.1 < x.1))
def filesOkV (a : List FileD) : Bool := decide (a.length ≤ 6) && (List.range a.length).all (fileRowV a)
theorem fileRowV_zero {a : List FileD} (h : 0 < a.length) : fileRowV a 0 = file1V a[0] := by
  unfold fileRowV
  rw [List.getElem?_eq_getElem h]
  simp
theorem fileRowV_succ {a : List FileD} {i : Nat} (h : i + 1 < a.length) : fileRowV a (i + 1) = (file1V a[i + 1] && decide (a[i].1 < a[i + 1].1)) := by
  unfold fileRowV
  rw [List.getElem?_eq_getElem h]
  simp only [List.getElem?_eq_getElem (show i < a.length by omega)]
def filesFrom : Int → List FileD → Bool
  | _, [] => true
  | lo, x :: r => file1V x && (decide (lo ≤ x.1) && filesFrom (x.1 + 1) r)
theorem rows_from (a : List FileD) : ∀ (m i : Nat) (lo : Int), i + m = a.length → (∀ (h : i < a.length), fileRowV a i = (file1V a[i] && decide (lo ≤ a[i].1))) → ((∀ j, i ≤ j → j < a.length → fileRowV a j = true) ↔ filesFrom lo (a.drop i) = true)
  | 0, i, lo, hi, _ => by
    rw [List.drop_of_length_le (by omega)]
    exact ⟨fun _ => rfl, fun _ j h1 h2 => by omega⟩
  | m + 1, i, lo, hi, h => by
    have hlt : i < a.length := by omega
    have ih := rows_from a m (i + 1) (a[i].1 + 1) (by omega) (fun h' => by
      rw [fileRowV_succ h']
      congr 1)
    rw [List.drop_eq_getElem_cons hlt, filesFrom, Bool.and_eq_true, Bool.and_eq_true, ← ih]
    have h0 := h hlt
    constructor
    · intro q
      have q1 := q i (Nat.le_refl i) hlt
      rw [h0, Bool.and_eq_true] at q1
      exact ⟨q1.1, q1.2, fun j hj => q j (by omega)⟩
    · rintro ⟨q1, q2, q3⟩ j hj hl
      by_cases e : j = i
      · subst e; rw [h0, q1, q2]; rfl
      · exact q3 j (by omega) hl
theorem filesOkV_from (a : List FileD) : filesOkV a = (decide (a.length ≤ 6) && filesFrom 0 a) := by
  unfold filesOkV
  congr 1
  have := rows_from a a.length 0 0 (by omega) (fun h => by
    rw [fileRowV_zero h]
    cases hf : file1V a[0] with
    | false => rfl
    | true =>
      have : inV a[0].1 0 5 = true := (Bool.and_eq_true_iff.1 hf).1
      have : (0 : Int) ≤ a[0].1 ∧ a[0].1 ≤ (5 : Int) := by simpa [inV] using this
      have e : decide ((0 : Int) ≤ a[0].1) = true := decide_eq_true this.1
      exact (congrArg (fun b => (true && b)) e).symm)
  rw [Bool.eq_iff_iff, List.all_eq_true]
  rw [List.drop_zero] at this
  rw [← this]
  exact ⟨fun q j _ hj => q j (List.mem_range.2 hj), fun q j hj => q j (Nat.zero_le j) (List.mem_range.1 hj)⟩
theorem filesOf_from : ∀ (ds : List (Option (List Int))) (i : Nat) (lo : Int), lo ≤ i → i + ds.length ≤ 6 → filesFrom lo (filesOf i ds) = ds.all okO
  | [], _, _, _, _ => rfl
  | none :: r, i, lo, h1, h2 => by
    rw [filesOf, List.all_cons, filesOf_from r (i + 1) lo (by omega) (by rw [List.length_cons] at h2; omega)]; rfl
  | some d :: r, i, lo, h1, h2 => by
    rw [List.length_cons] at h2
    rw [filesOf, filesFrom, List.all_cons]
    simp only
    rw [filesOf_from r (i + 1) (((i : Nat) : Int) + 1) (by omega) (by omega), decide_eq_true h1, Bool.true_and]
    congr 1
    show (inV ((i : Nat) : Int) 0 5 && (decide (d.length ≤ 8) && wordsOkV d)) = (wordsOkV d && decide (d.length ≤ 8))
    have e : inV ((i : Nat) : Int) 0 5 = true := by unfold inV; rw [decide_eq_true (show (0 : Int) ≤ ((i : Nat) : Int) by omega), decide_eq_true (show ((i : Nat) : Int) ≤ 5 by omega)]; rfl
    rw [e, Bool.true_and, Bool.and_comm]
theorem filesOf_len : ∀ (ds : List (Option (List Int))) (i : Nat), (filesOf i ds).length ≤ ds.length
  | [], _ => Nat.le_refl _
  | none :: r, i => by have := filesOf_len r (i + 1); simp only [filesOf, List.length_cons]; omega
  | some d :: r, i => by have := filesOf_len r (i + 1); simp only [filesOf, List.length_cons]; omega
theorem filesOf_ok {ds : List (Option (List Int))} (h : ds.length ≤ 6) : filesOkV (filesOf 0 ds) = ds.all okO := by
  have := filesOf_len ds 0
  rw [filesOkV_from, decide_eq_true (by omega), filesOf_from ds 0 0 (by omega) (by omega)]; rfl
theorem of_from : ∀ (m i : Nat) (lo : Int) (a : List FileD), lo = i → i + m = 6 → filesFrom lo a = true → ∃ ds : List (Option (List Int)), ds.length = m ∧ filesOf i ds = a
  | 0, i, lo, a, h1, h2, h => by
    cases a with
    | nil => exact ⟨[], rfl, rfl⟩
    | cons x r =>
      exfalso
      rw [filesFrom, Bool.and_eq_true, Bool.and_eq_true] at h
      have q : inV x.1 0 5 = true := (Bool.and_eq_true_iff.1 h.1).1
      have q : 0 ≤ x.1 ∧ x.1 ≤ 5 := by simpa [inV] using q
      have := of_decide_eq_true h.2.1
      omega
  | m + 1, i, lo, a, h1, h2, h => by
    cases a with
    | nil =>
      obtain ⟨ds, e1, e2⟩ := of_from m (i + 1) (((i + 1 : Nat) : Int)) [] rfl (by omega) rfl
      exact ⟨none :: ds, by simp [e1], e2⟩
    | cons x r =>
      have h' := h
      rw [filesFrom, Bool.and_eq_true, Bool.and_eq_true] at h
      have hl := of_decide_eq_true h.2.1
      by_cases e : x.1 = i
      · obtain ⟨ds, e1, e2⟩ := of_from m (i + 1) (((i + 1 : Nat) : Int)) r rfl (by omega) (by have := h.2.2; rw [e] at this; exact this)
        refine ⟨some x.2.1 :: ds, by simp [e1], ?_⟩
        rw [filesOf, e2, ← e]
      · obtain ⟨ds, e1, e2⟩ := of_from m (i + 1) (((i + 1 : Nat) : Int)) (x :: r) rfl (by omega) (by
          rw [filesFrom, h.1, h.2.2, decide_eq_true (by omega)]; rfl)
        exact ⟨none :: ds, by simp [e1], e2⟩
def fileBlocksV (a : List FileD) : List Str := if filesOkV a = true then a.foldl setB (List.replicate 6 []) else []
theorem places {a : List FileD} (h : filesOkV a = true) : ∃ ds : List (Option (List Int)), ds.length = 6 ∧ filesOf 0 ds = a ∧ ds.all okO = true ∧ fileBlocksV a = ds.map blkO := by
  have h2 := h
  rw [filesOkV_from, Bool.and_eq_true] at h2
  obtain ⟨ds, e1, e2⟩ := of_from 6 0 0 a rfl (by omega) h2.2
  refine ⟨ds, e1, e2, ?_, ?_⟩
  · rw [← filesOf_ok (by omega), e2]; exact h
  · unfold fileBlocksV
    rw [if_pos h, ← e2, ← e1]
    exact filesOf_set ds 0 [] rfl
end Go.Proofs.YtnnpnkegpkladaaGreat.Dm
