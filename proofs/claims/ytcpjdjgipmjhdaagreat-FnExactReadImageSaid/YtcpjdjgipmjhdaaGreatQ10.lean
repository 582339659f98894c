/- Functions of the program, and what they compute. -/
import Derived.Test.YtcpjdjgipmjhdaaGreatQ9
import Derived.Test.YtcpjdjgipmjhdaaGreatQ8
namespace Go.Proofs.YtcpjdjgipmjhdaaGreat.Dm
open Go Go.ChangeShapes Go.WideShapes Go.ChangeAt Go.RowKit
section
variable {α β γ : Type}
def Ats (f : Int → Option (α × Int)) (P : Str → Option (α × Nat)) (s : Str) : Prop :=
  (∀ p : Nat, p ≤ s.length → ∀ a k, P (s.drop p) = some (a, k) → f ((p : Nat) : Int) = some (a, ((p + k : Nat) : Int)) ∧ p + k ≤ s.length) ∧
  (∀ p : Nat, p ≤ s.length → P (s.drop p) = none → ∃ z, f ((p : Nat) : Int) = some (z, -1)) ∧ ∃ z, f (-1) = some (z, -1)
def seqA (f : Int → Option (α × Int)) (g : Int → Option (β × Int)) : Int → Option ((α × β) × Int) := fun p => (f p).bind fun a => (g a.2).bind fun b => some ((a.1, b.1), b.2)
theorem seqA_ats {f : Int → Option (α × Int)} {g : Int → Option (β × Int)} {P : Str → Option (α × Nat)} {Q : Str → Option (β × Nat)} {s : Str} (hf : Ats f P s) (hg : Ats g Q s) : Ats (seqA f g) (seqP P Q) s := by
  have bad : ∀ p, (∃ z, f p = some (z, -1)) → ∃ z, seqA f g p = some (z, -1) := fun p ⟨z, hz⟩ => by
    obtain ⟨z', hz'⟩ := hg.2.2
    exact ⟨(z, z'), by unfold seqA; rw [hz]; simp [hz']⟩
  refine ⟨fun p hp x k h => ?_, fun p hp h => ?_, bad _ hf.2.2⟩
  · unfold seqP at h
    split at h
    · exact nomatch h
    · rename_i a i ha
      split at h
      · exact nomatch h
      · rename_i b j hb
        simp only [Option.some.injEq, Prod.mk.injEq] at h
        obtain ⟨rfl, rfl⟩ := h
        have h1 := hf.1 p hp a i ha
        rw [List.drop_drop] at hb
        have h2 := hg.1 (p + i) h1.2 b j hb
        refine ⟨?_, by omega⟩
        unfold seqA
        rw [h1.1, ← Nat.add_assoc]
        show (g ((p + i : Nat) : Int)).bind _ = _
        rw [h2.1]; rfl
  · unfold seqP at h
    split at h
    · rename_i ha
      exact bad _ (hf.2.1 p hp ha)
    · rename_i a i ha
      split at h
      · rename_i hb
        have h1 := hf.1 p hp a i ha
        rw [List.drop_drop] at hb
        obtain ⟨z, hz⟩ := hg.2.1 (p + i) h1.2 hb
        exact ⟨(a, z), by unfold seqA; rw [h1.1]; show (g ((p + i : Nat) : Int)).bind _ = _; rw [hz]; rfl⟩
      · exact nomatch h
theorem seqP_map2 {P : Str → Option (α × Nat)} {Q : Str → Option (β × Nat)} {g : β → Option γ} : seqP P (mapP g Q) = mapP (fun x => (g x.2).map fun b => (x.1, b)) (seqP P Q) := by
  funext s
  simp only [seqP, mapP]
  cases P s with
  | none => rfl
  | some x =>
    obtain ⟨a, k⟩ := x
    simp only
    cases Q (s.drop k) with
    | none => rfl
    | some y =>
      obtain ⟨b, j⟩ := y
      simp only
      cases g b <;> rfl
theorem mapP_mapP {P : Str → Option (α × Nat)} {f : α → Option β} {g : β → Option γ} : mapP g (mapP f P) = mapP (fun a => (f a).bind g) P := by
  funext s
  simp only [mapP]
  cases P s with
  | none => rfl
  | some x =>
    obtain ⟨a, k⟩ := x
    simp only
    cases f a with
    | none => rfl
    | some b => rfl
end
def headO : List Int → Option Int
  | x :: _ => some x
  | [] => none
theorem oneP_nums : oneP = mapP headO (numsP 1) := by
  funext s
  unfold oneP mapP
  simp only [numsP]
  cases rvI s <;> rfl
theorem vars_ats (s : Str) {n : Nat} (h1 : 1 ≤ n) (h2 : n ≤ 1000) : Ats (fun p => l3VarsV s p ((n : Nat) : Int)) (numsP n) s := by
  refine ⟨fun p hp a k h => ?_, fun p hp h => ?_, ?_⟩
  · have h3 := varsAtV_eq s n p [] hp
    have h4 := numsP_le h
    rw [List.length_drop] at h4
    rw [h] at h3
    refine ⟨?_, by omega⟩
    show l3VarsV s ((p : Nat) : Int) ((n : Nat) : Int) = _
    rw [l3VarsV_some s _ h2]
    simp only at h3
    rw [h3]; rfl
  · have h3 := varsAtV_eq s n p [] hp
    rw [h] at h3
    obtain ⟨l, e, _⟩ := h3
    exact ⟨l, by show l3VarsV s ((p : Nat) : Int) ((n : Nat) : Int) = _; rw [l3VarsV_some s _ h2, e]⟩
  · refine ⟨[], ?_⟩
    show l3VarsV s (-1) ((n : Nat) : Int) = _
    rw [l3VarsV_some s _ h2]
    obtain ⟨m, rfl⟩ : ∃ m, n = m + 1 := ⟨n - 1, by omega⟩
    unfold varsAtV
    rw [if_pos (.inl (by decide))]
theorem nums_one (s : Str) : numsP 1 s = match rvI s with | none => none | some i => some ([((decB (s.take (i + 1)) : Nat) : Int)], i + 1) := by
  simp only [numsP]
  cases rvI s <;> rfl
theorem list_ats (s : Str) {m : Nat} (hm : m ≤ 1000) : Ats (fun p => l20ListV s p ((m : Nat) : Int)) (listP m) s := by
  have v1 : ∀ p : Nat, p ≤ s.length → match rvI (s.drop p) with | none => ∃ l, varsAtV s 1 ((p : Nat) : Int) [] = (l, -1) | some i => varsAtV s 1 ((p : Nat) : Int) [] = ([((decB ((s.drop p).take (i + 1)) : Nat) : Int)], ((p + (i + 1) : Nat) : Int)) := fun p hp => by
    have h := varsAtV_eq s 1 p [] hp
    rw [nums_one] at h
    cases hi : rvI (s.drop p) with
    | none => rw [hi] at h; obtain ⟨l, e, _⟩ := h; exact ⟨l, e⟩
    | some i => rw [hi] at h; exact h
  have hm' : ((m : Nat) : Int) ≤ 1000 := by omega
  refine ⟨fun p hp l k h => ?_, fun p hp h => ?_, ?_⟩
  · have h3 := listP_le h
    rw [List.length_drop] at h3
    refine ⟨?_, by omega⟩
    unfold listP at h
    split at h
    · exact nomatch h
    · rename_i i hi
      have hil := rvI_lt hi
      rw [List.length_drop] at hil
      split at h
      · exact nomatch h
      · rename_i hn
        split at h
        · exact nomatch h
        · rename_i l' k' hr
          simp only [Option.some.injEq, Prod.mk.injEq] at h
          obtain ⟨rfl, rfl⟩ := h
          have e := v1 p hp
          rw [hi] at e
          have e : varsAtV s 1 ((p : Nat) : Int) [] = ([((decB ((s.drop p).take (i + 1)) : Nat) : Int)], ((p + (i + 1) : Nat) : Int)) := e
          show l20ListV s ((p : Nat) : Int) ((m : Nat) : Int) = _
          unfold l20ListV
          rw [if_pos hm', e]
          generalize decB ((s.drop p).take (i + 1)) = n at hn hr
          have hq : ¬ (((p + (i + 1) : Nat) : Int) < 0) := by omega
          have hq2 : ¬ ((n : Nat) : Int) > ((m : Nat) : Int) := by omega
          simp only [if_neg hq, if_neg hq2, Int.toNat_natCast]
          have h2 := varsAtV_eq s n (p + (i + 1)) [] (by omega)
          rw [List.drop_drop] at hr
          rw [hr] at h2
          simp only at h2
          rw [h2]
          simp only [List.nil_append, Nat.add_assoc]
  · show ∃ z, l20ListV s ((p : Nat) : Int) ((m : Nat) : Int) = some (z, -1)
    unfold l20ListV
    rw [if_pos hm']
    unfold listP at h
    split at h
    · rename_i hi
      have e := v1 p hp
      rw [hi] at e
      obtain ⟨l, e⟩ : ∃ l, varsAtV s 1 ((p : Nat) : Int) [] = (l, -1) := e
      rw [e]
      exact ⟨[], if_pos (show (-1 : Int) < 0 by decide)⟩
    · rename_i i hi
      have hil := rvI_lt hi
      rw [List.length_drop] at hil
      have e := v1 p hp
      rw [hi] at e
      have e : varsAtV s 1 ((p : Nat) : Int) [] = ([((decB ((s.drop p).take (i + 1)) : Nat) : Int)], ((p + (i + 1) : Nat) : Int)) := e
      rw [e]
      generalize decB ((s.drop p).take (i + 1)) = n at h
      have hq : ¬ (((p + (i + 1) : Nat) : Int) < 0) := by omega
      simp only [if_neg hq]
      split at h
      · rename_i hn
        have hq2 : ((n : Nat) : Int) > ((m : Nat) : Int) := by omega
        simp only [if_pos hq2]
        exact ⟨_, rfl⟩
      · rename_i hn
        have hq2 : ¬ ((n : Nat) : Int) > ((m : Nat) : Int) := by omega
        simp only [if_neg hq2, Int.toNat_natCast]
        have h2 := varsAtV_eq s n (p + (i + 1)) [] (by omega)
        split at h
        · rename_i hr
          rw [List.drop_drop] at hr
          rw [hr] at h2
          obtain ⟨l, e2, _⟩ := h2
          exact ⟨l, by rw [e2]⟩
        · exact nomatch h
  · refine ⟨[], ?_⟩
    show l20ListV s (-1) ((m : Nat) : Int) = _
    unfold l20ListV
    rw [if_pos hm']
    have e : varsAtV s 1 (-1) [] = ([], -1) := by
      unfold varsAtV
      rw [if_pos (.inl (by decide))]
    rw [e]
    exact if_pos (show (-1 : Int) < 0 by decide)
theorem at_loop {α τ σ β : Type} {f : σ → Out (Round σ β Empty)} {C : Int → Option (α × Int)} {P : Str → Option (α × Nat)} {s : Str} (hC : Ats C P s) (g : α → τ) (S : Nat → Int → List τ → σ) (y : Int → List τ → β) {n : Nat} (hn : n ≤ 1000)
    (hs : ∀ i p l a e, i < n → l.length = i → 0 ≤ p → C p = some (a, e) → ∃ t, (f (S i p l)).eval = some (.again (S (i + 1) e (l ++ [t]))) ∧ (0 ≤ e → t = g a)) (hy : ∀ p l, (f (S n p l)).eval = some (.out (y p l)))
    (hb : ∀ i p l, i < n → p < 0 → (f (S i p l)).eval = some (.out (y p l))) {p : Nat} (hp : p ≤ s.length) :
    (∀ l k, repP P n (s.drop p) = some (l, k) → iter1 f FUEL (S 0 ((p : Nat) : Int) []) = some (y ((p + k : Nat) : Int) (l.map g)) ∧ p + k ≤ s.length) ∧
      (repP P n (s.drop p) = none → ∃ l, iter1 f FUEL (S 0 ((p : Nat) : Int) []) = some (y (-1) l)) := by
  have key : ∀ (m i N p : Nat) (l : List τ), i + m = n → m < N → l.length = i → p ≤ s.length →
      (∀ l' k, repP P m (s.drop p) = some (l', k) → iter1 f N (S i ((p : Nat) : Int) l) = some (y ((p + k : Nat) : Int) (l ++ l'.map g)) ∧ p + k ≤ s.length) ∧ (repP P m (s.drop p) = none → ∃ l', iter1 f N (S i ((p : Nat) : Int) l) = some (y (-1) l')) := by
    intro m
    induction m with
    | zero =>
      intro i N p l hi hN hl hp
      obtain rfl : i = n := by omega
      refine ⟨fun l' k h => ?_, fun h => nomatch h⟩
      simp only [repP, Option.some.injEq, Prod.mk.injEq] at h
      obtain ⟨rfl, rfl⟩ := h
      refine ⟨?_, by omega⟩
      rw [iter1_out' (hy _ l) hN]
      simp
    | succ m ih =>
      intro i N p l hi hN hl hp
      obtain ⟨N, rfl⟩ : ∃ N', N = N' + 1 := ⟨N - 1, by omega⟩
      obtain ⟨N, rfl⟩ : ∃ N', N = N' + 1 := ⟨N - 1, by omega⟩
      simp only [repP]
      cases ha : P (s.drop p) with
      | none =>
        refine ⟨fun l' k h => (nomatch h), fun _ => ?_⟩
        obtain ⟨z, hz⟩ := hC.2.1 p hp ha
        obtain ⟨t, ht, _⟩ := hs i _ l z (-1) (by omega) hl (by omega) hz
        refine ⟨l ++ [t], ?_⟩
        rw [iter1_again ht]
        by_cases hin : i + 1 < n
        · exact iter1_out' (hb (i + 1) (-1) _ hin (by decide)) (by omega)
        · obtain rfl : i + 1 = n := by omega
          exact iter1_out' (hy (-1) _) (by omega)
      | some x =>
        obtain ⟨a, k⟩ := x
        have h1 := hC.1 p hp a k ha
        obtain ⟨t, ht, hg⟩ := hs i _ l a _ (by omega) hl (by omega) h1.1
        obtain rfl := hg (by omega)
        have ih := ih (i + 1) (N + 1) (p + k) (l ++ [g a]) (by omega) (by omega) (by simp; omega) h1.2
        rw [iter1_again ht]
        simp only
        rw [List.drop_drop]
        cases hr : repP P m (s.drop (p + k)) with
        | none =>
          refine ⟨fun l' k h => (nomatch h), fun _ => ih.2 hr⟩
        | some y =>
          obtain ⟨r, j⟩ := y
          refine ⟨fun l' k' h => ?_, fun h => nomatch h⟩
          simp only [Option.some.injEq, Prod.mk.injEq] at h
          obtain ⟨rfl, rfl⟩ := h
          have := ih.1 r j hr
          rw [this.1]
          refine ⟨?_, by omega⟩
          simp [Nat.add_assoc]
  have := key n 0 FUEL p [] (by omega) (Nat.lt_of_le_of_lt (show n ≤ 1000 from hn) (by decide)) rfl hp
  simpa using this
theorem at_loopR {α τ σ β γ : Type} {f : σ → Out (Round σ β γ)} {C : Int → Option (α × Int)} {P : Str → Option (α × Nat)} {s : Str} (hC : Ats C P s) (g : α → τ) (S : Nat → Int → List τ → σ) (y : Int → List τ → β) (z : List τ → γ) {n : Nat} (hn : n ≤ 1000)
    (hs : ∀ i p l a e, i < n → l.length = i → 0 ≤ p → C p = some (a, e) → 0 ≤ e → (∃ k, P (s.drop p.toNat) = some (a, k)) → (f (S i p l)).eval = some (.again (S (i + 1) e (l ++ [g a]))))
    (hr : ∀ i p l a, i < n → l.length = i → 0 ≤ p → C p = some (a, -1) → (f (S i p l)).eval = some (.ret (z l))) (hy : ∀ p l, (f (S n p l)).eval = some (.out (y p l))) {p : Nat} (hp : p ≤ s.length) :
    (∀ l k, repP P n (s.drop p) = some (l, k) → iter f FUEL (S 0 ((p : Nat) : Int) []) = some (.inl (y ((p + k : Nat) : Int) (l.map g))) ∧ p + k ≤ s.length) ∧
      (repP P n (s.drop p) = none → ∃ l, iter f FUEL (S 0 ((p : Nat) : Int) []) = some (.inr (z l))) := by
  have key : ∀ (m i N p : Nat) (l : List τ), i + m = n → m < N → l.length = i → p ≤ s.length →
      (∀ l' k, repP P m (s.drop p) = some (l', k) → iter f N (S i ((p : Nat) : Int) l) = some (.inl (y ((p + k : Nat) : Int) (l ++ l'.map g))) ∧ p + k ≤ s.length) ∧ (repP P m (s.drop p) = none → ∃ l', iter f N (S i ((p : Nat) : Int) l) = some (.inr (z l'))) := by
    intro m
    induction m with
    | zero =>
      intro i N p l hi hN hl hp
      obtain rfl : i = n := by omega
      refine ⟨fun l' k h => ?_, fun h => nomatch h⟩
      simp only [repP, Option.some.injEq, Prod.mk.injEq] at h
      obtain ⟨rfl, rfl⟩ := h
      refine ⟨?_, by omega⟩
      rw [iter_out' (hy _ l) hN]
      simp
    | succ m ih =>
      intro i N p l hi hN hl hp
      obtain ⟨N, rfl⟩ : ∃ N', N = N' + 1 := ⟨N - 1, by omega⟩
      simp only [repP]
      cases ha : P (s.drop p) with
      | none =>
        refine ⟨fun l' k h => (nomatch h), fun _ => ?_⟩
        obtain ⟨w, hw⟩ := hC.2.1 p hp ha
        exact ⟨l, iter_ret' (hr i _ l w (by omega) hl (by omega) hw) (by omega)⟩
      | some x =>
        obtain ⟨a, k⟩ := x
        have h1 := hC.1 p hp a k ha
        have ih := ih (i + 1) N (p + k) (l ++ [g a]) (by omega) (by omega) (by simp; omega) h1.2
        rw [iter_again (hs i _ l a _ (by omega) hl (by omega) h1.1 (by omega) ⟨k, by rw [Int.toNat_natCast]; exact ha⟩)]
        simp only
        rw [List.drop_drop]
        cases hr2 : repP P m (s.drop (p + k)) with
        | none => exact ⟨fun l' k h => (nomatch h), fun _ => ih.2 hr2⟩
        | some y =>
          obtain ⟨r, j⟩ := y
          refine ⟨fun l' k' h => ?_, fun h => nomatch h⟩
          simp only [Option.some.injEq, Prod.mk.injEq] at h
          obtain ⟨rfl, rfl⟩ := h
          have := ih.1 r j hr2
          rw [this.1]
          refine ⟨?_, by omega⟩
          simp [Nat.add_assoc]
  have := key n 0 FUEL p [] (by omega) (Nat.lt_of_le_of_lt (show n ≤ 1000 from hn) (by decide)) rfl hp
  simpa using this
end Go.Proofs.YtcpjdjgipmjhdaaGreat.Dm
