/- Functions of the program, and what they compute. -/
import Derived.Test.YtcpjdjgipmjhdaaGreatQ7
import Derived.Test.YtcpjdjgipmjhdaaGreatA14
namespace Go.Proofs.YtcpjdjgipmjhdaaGreat.Dm
open Go Go.ChangeShapes Go.WideShapes Go.ChangeAt Go.RowKit
section
variable {α β : Type}
abbrev Rd (α : Type) := Str → Bool → α × Str × Bool
def Reads (R : Rd α) (P : Str → Option (α × Nat)) : Prop :=
  (∀ s a k, P s = some (a, k) → R s false = (a, s.drop k, false)) ∧ (∀ s, P s = none → (R s false).2.2 = true) ∧ ∀ s, (R s true).2.2 = true
theorem Reads.good {R : Rd α} {P : Str → Option (α × Nat)} (h : Reads R P) {s : Str} {a : α} {k : Nat} (e : P s = some (a, k)) : R s false = (a, s.drop k, false) := h.1 s a k e
theorem Reads.fail {R : Rd α} {P : Str → Option (α × Nat)} (h : Reads R P) {s : Str} (e : P s = none) : (R s false).2.2 = true := h.2.1 s e
theorem Reads.stay {R : Rd α} {P : Str → Option (α × Nat)} (h : Reads R P) {s : Str} {b : Bool} (hb : b = true) : (R s b).2.2 = true := by subst hb; exact h.2.2 s
def thenR (R : Rd α) (Q : Rd β) : Rd (α × β) := fun s b => (((R s b).1, (Q (R s b).2.1 (R s b).2.2).1), (Q (R s b).2.1 (R s b).2.2).2)
theorem thenR_reads {R : Rd α} {Q : Rd β} {P : Str → Option (α × Nat)} {P' : Str → Option (β × Nat)} (hR : Reads R P) (hQ : Reads Q P') : Reads (thenR R Q) (seqP P P') := by
  refine ⟨fun s x k h => ?_, fun s h => ?_, fun s => hQ.stay (hR.2.2 s)⟩
  · unfold seqP at h
    split at h
    · exact nomatch h
    · rename_i a i ha
      split at h
      · exact nomatch h
      · rename_i b j hb
        simp only [Option.some.injEq, Prod.mk.injEq] at h
        obtain ⟨rfl, rfl⟩ := h
        unfold thenR
        rw [hR.good ha]
        simp only
        rw [hQ.good hb, List.drop_drop]
  · unfold seqP at h
    unfold thenR
    split at h
    · rename_i ha
      exact hQ.stay (hR.fail ha)
    · rename_i a i ha
      split at h
      · rename_i hb
        rw [hR.good ha]
        exact hQ.fail hb
      · exact nomatch h
def mapR (f : α → Option β) (z : β) (R : Rd α) : Rd β := fun s b => match f (R s b).1 with
  | some x => (x, (R s b).2)
  | none => (z, (R s b).2.1, true)
theorem mapR_bad {f : α → Option β} {z : β} {R : Rd α} {s : Str} {b : Bool} (h : (R s b).2.2 = true) : (mapR f z R s b).2.2 = true := by
  unfold mapR
  split
  · exact h
  · rfl
theorem mapR_reads {f : α → Option β} {z : β} {R : Rd α} {P : Str → Option (α × Nat)} (hR : Reads R P) : Reads (mapR f z R) (mapP f P) := by
  refine ⟨fun s x k h => ?_, fun s h => ?_, fun s => mapR_bad (hR.2.2 s)⟩
  · unfold mapP at h
    split at h
    · exact nomatch h
    · rename_i a i ha
      split at h
      · exact nomatch h
      · rename_i b hb
        simp only [Option.some.injEq, Prod.mk.injEq] at h
        obtain ⟨rfl, rfl⟩ := h
        unfold mapR
        rw [hR.good ha]
        simp only [hb]
  · unfold mapP at h
    split at h
    · rename_i ha
      exact mapR_bad (hR.fail ha)
    · rename_i a i ha
      split at h
      · rename_i hb
        unfold mapR
        rw [hR.good ha]
        simp only [hb]
      · exact nomatch h
def mapT (g : α → β) (R : Rd α) : Rd β := fun s b => (g (R s b).1, (R s b).2)
theorem mapT_reads {g : α → β} {R : Rd α} {P : Str → Option (α × Nat)} (hR : Reads R P) : Reads (mapT g R) (mapP (fun a => some (g a)) P) := by
  refine ⟨fun s x k h => ?_, fun s h => ?_, fun s => hR.2.2 s⟩
  · unfold mapP at h
    split at h
    · exact nomatch h
    · rename_i a i ha
      simp only [Option.some.injEq, Prod.mk.injEq] at h
      obtain ⟨rfl, rfl⟩ := h
      unfold mapT
      rw [hR.good ha]
  · unfold mapP at h
    split at h
    · rename_i ha
      exact hR.fail ha
    · exact nomatch h
def okR (ok : α → Bool) (R : Rd α) : Rd α := fun s b => ((R s b).1, (R s b).2.1, (R s b).2.2 || !ok (R s b).1)
theorem okR_reads {ok : α → Bool} {R : Rd α} {P : Str → Option (α × Nat)} (hR : Reads R P) : Reads (okR ok R) (mapP (fun a => if ok a = true then some a else none) P) := by
  refine ⟨fun s x k h => ?_, fun s h => ?_, fun s => by unfold okR; rw [hR.2.2 s]; rfl⟩
  · unfold mapP at h
    split at h
    · exact nomatch h
    · rename_i a i ha
      split at h
      · exact nomatch h
      · rename_i b hb
        simp only at hb
        split at hb
        · rename_i hk
          simp only [Option.some.injEq, Prod.mk.injEq] at h hb
          obtain ⟨rfl, rfl⟩ := h
          subst hb
          unfold okR
          rw [hR.good ha]
          simp [hk]
        · exact nomatch hb
  · unfold mapP at h
    unfold okR
    split at h
    · rename_i ha
      rw [hR.fail ha]; rfl
    · rename_i a i ha
      split at h
      · rename_i hb
        rw [hR.good ha]
        simp only at hb
        split at hb
        · exact nomatch hb
        · rename_i hk; simp [hk]
      · exact nomatch h
def repR (R : Rd α) : Nat → Str → Bool → List α → List α × Str × Bool
  | 0, s, b, l => (l, s, b)
  | n + 1, s, b, l => repR R n (R s b).2.1 (R s b).2.2 (l ++ [(R s b).1])
theorem repR_bad {R : Rd α} {P : Str → Option (α × Nat)} (hR : Reads R P) : ∀ (n : Nat) (s : Str) (l : List α), (repR R n s true l).2.2 = true
  | 0, _, _ => rfl
  | n + 1, s, l => by
    unfold repR
    rw [hR.2.2 s]
    exact repR_bad hR n _ _
theorem repR_good {R : Rd α} {P : Str → Option (α × Nat)} (hR : Reads R P) : ∀ (n : Nat) (s : Str) (l a : List α) (k : Nat), repP P n s = some (a, k) → repR R n s false l = (l ++ a, s.drop k, false)
  | 0, s, l, a, k, h => by
    simp only [repP, Option.some.injEq, Prod.mk.injEq] at h
    obtain ⟨rfl, rfl⟩ := h
    simp [repR]
  | n + 1, s, l, a, k, h => by
    simp only [repP] at h
    split at h
    · exact nomatch h
    · rename_i x i hx
      split at h
      · exact nomatch h
      · rename_i r j hr
        simp only [Option.some.injEq, Prod.mk.injEq] at h
        obtain ⟨rfl, rfl⟩ := h
        unfold repR
        rw [hR.good hx]
        simp only
        rw [repR_good hR n _ _ _ _ hr, List.drop_drop]
        simp
theorem repR_fail {R : Rd α} {P : Str → Option (α × Nat)} (hR : Reads R P) : ∀ (n : Nat) (s : Str) (l : List α), repP P n s = none → (repR R n s false l).2.2 = true
  | 0, s, l, h => nomatch h
  | n + 1, s, l, h => by
    simp only [repP] at h
    unfold repR
    split at h
    · rename_i hx
      rw [hR.fail hx]
      exact repR_bad hR n _ _
    · rename_i x i hx
      split at h
      · rename_i hr
        rw [hR.good hx]
        exact repR_fail hR n _ _ hr
      · exact nomatch h
theorem manyV_good {m : Nat} {s : Str} {n k : Nat} (h : cntP m s = some (n, k)) : manyV s false (m : Int) = (((n : Nat) : Int), s.drop k, false) := by
  unfold cntP at h
  split at h
  · exact nomatch h
  · rename_i i hi
    split at h
    · exact nomatch h
    · simp only [Option.some.injEq, Prod.mk.injEq] at h
      obtain ⟨rfl, rfl⟩ := h
      unfold manyV
      rw [numV_some hi, if_neg (by omega)]
theorem manyV_fail {m : Nat} {s : Str} (h : cntP m s = none) : (manyV s false (m : Int)).2.2 = true := by
  unfold cntP at h
  unfold manyV
  split at h
  · rename_i hi
    rw [numV_none hi]
    split <;> rfl
  · rename_i i hi
    split at h
    · rw [numV_some hi, if_pos (by omega)]
    · exact nomatch h
theorem manyV_bad (m : Int) (s : Str) : (manyV s true m).2.2 = true := by
  unfold manyV
  rw [numV_bad]
  split <;> rfl
def manyR (m : Int) (R : Rd α) : Rd (List α) := fun s b => repR R (manyV s b m).1.toNat (manyV s b m).2.1 (manyV s b m).2.2 []
theorem manyR_reads {R : Rd α} {P : Str → Option (α × Nat)} (m : Nat) (hR : Reads R P) : Reads (manyR (m : Int) R) (manyP m P) := by
  refine ⟨fun s x k h => ?_, fun s h => ?_, fun s => ?_⟩
  · unfold manyP at h
    split at h
    · exact nomatch h
    · rename_i n i hn
      split at h
      · exact nomatch h
      · rename_i l j hr
        simp only [Option.some.injEq, Prod.mk.injEq] at h
        obtain ⟨rfl, rfl⟩ := h
        unfold manyR
        rw [manyV_good hn]
        simp only [Int.toNat_natCast]
        rw [repR_good hR _ _ _ _ _ hr, List.drop_drop, List.nil_append]
  · unfold manyP at h
    unfold manyR
    split at h
    · rename_i hn
      rw [manyV_fail hn]
      exact repR_bad hR _ _ _
    · rename_i n i hn
      split at h
      · rename_i hr
        rw [manyV_good hn]
        simp only [Int.toNat_natCast]
        exact repR_fail hR _ _ _ hr
      · exact nomatch h
  · unfold manyR
    rw [manyV_bad]
    exact repR_bad hR _ _ _
theorem mapP_id {P : Str → Option (α × Nat)} {f : α → α} (h : ∀ s a k, P s = some (a, k) → f a = a) : mapP (fun a => some (f a)) P = P := by
  funext s
  unfold mapP
  split
  · rename_i e; exact e.symm
  · rename_i a k e
    show some (f a, k) = P s
    rw [e, h s a k e]
theorem repP_map {P : Str → Option (α × Nat)} {g : α → β} : ∀ (n : Nat) (s : Str), repP (mapP (fun a => some (g a)) P) n s = match repP P n s with
    | none => none
    | some (l, k) => some (l.map g, k)
  | 0, _ => rfl
  | n + 1, s => by
    simp only [repP]
    have e : mapP (fun a => some (g a)) P s = match P s with | none => none | some (a, k) => some (g a, k) := by
      unfold mapP
      cases P s <;> rfl
    rw [e]
    cases P s with
    | none => rfl
    | some x =>
      obtain ⟨a, k⟩ := x
      simp only
      rw [repP_map n (s.drop k)]
      cases repP P n (s.drop k) with
      | none => rfl
      | some y => rfl
theorem manyP_map {P : Str → Option (α × Nat)} {g : α → β} (m : Nat) : manyP m (mapP (fun a => some (g a)) P) = mapP (fun l => some (l.map g)) (manyP m P) := by
  funext s
  have e : mapP (fun l => some (l.map g)) (manyP m P) s = match manyP m P s with | none => none | some (l, k) => some (l.map g, k) := by
    unfold mapP
    cases manyP m P s <;> rfl
  rw [e]
  unfold manyP
  cases cntP m s with
  | none => rfl
  | some x =>
    obtain ⟨n, k⟩ := x
    simp only
    rw [repP_map]
    cases repP P n (s.drop k) with
    | none => rfl
    | some y => rfl
end
theorem repP_one : ∀ (n : Nat) (s : Str), repP oneP n s = numsP n s
  | 0, _ => rfl
  | n + 1, s => by
    simp only [repP, numsP, oneP]
    cases rvI s with
    | none => rfl
    | some i =>
      simp only
      rw [repP_one n]
      cases numsP n (s.drop (i + 1)) with
      | none => rfl
      | some y => rfl
theorem listP_many (m : Nat) : manyP m oneP = listP m := by
  funext s
  unfold manyP listP cntP
  cases rvI s with
  | none => rfl
  | some i =>
    simp only
    by_cases h : m < decB (s.take (i + 1))
    · simp only [if_pos h]
    · simp only [if_neg h]
      rw [repP_one]
      cases numsP (decB (s.take (i + 1))) (s.drop (i + 1)) with
      | none => rfl
      | some y => rfl
theorem numV_reads : Reads numV oneP := by
  refine ⟨fun s a k h => ?_, fun s h => ?_, fun s => rfl⟩
  · unfold oneP at h
    split at h
    · exact nomatch h
    · rename_i i hi
      simp only [Option.some.injEq, Prod.mk.injEq] at h
      obtain ⟨rfl, rfl⟩ := h
      exact numV_some hi
  · unfold oneP at h
    split at h
    · rename_i hi; rw [numV_none hi]
    · exact nomatch h
theorem numsV_reads (n : Nat) : Reads (numsV n) (numsP n) := by
  refine ⟨fun s a k h => ?_, fun s h => ?_, fun s => by rw [numsV_bad]⟩
  · have := numsV_eq n s
    rw [h] at this
    exact this
  · have := numsV_eq n s
    rw [h] at this
    exact this
def wordsR (m : Int) : Rd (List Int) := manyR m (mapT zagV numV)
def plainR (m less : Int) : Rd (List Int) := manyR m (mapT (fun x => IntKind.i64.wrap (x - less)) numV)
theorem wordsR_reads (m : Nat) : Reads (wordsR m) (zagsP m) := by
  have := manyR_reads m (mapT_reads (g := zagV) numV_reads)
  rw [manyP_map, listP_many] at this
  exact this
theorem downsR_reads (m : Nat) : Reads (plainR m 1) (downsP m) := by
  have := manyR_reads m (mapT_reads (g := downV) numV_reads)
  rw [manyP_map, listP_many] at this
  exact this
theorem listR_reads (m : Nat) : Reads (plainR m 0) (listP m) := by
  have := manyR_reads m (mapT_reads (g := fun x => IntKind.i64.wrap (x - 0)) numV_reads)
  rw [manyP_map, listP_many, mapP_id] at this
  · exact this
  · intro s l k h
    have h1 := (listP_le h).2.2.1
    have : ∀ x ∈ l, IntKind.i64.wrap (x - 0) = x := fun x hx => by
      have := h1 x hx
      rw [Int.sub_zero]
      exact wrap_id (by omega) (by omega)
    rw [List.map_congr_left this, List.map_id']
theorem wordsL_rep : ∀ (n : Nat) (s : Str) (b : Bool) (l : List Int), wordsL n s b l = repR (mapT zagV numV) n s b l
  | 0, _, _, _ => rfl
  | n + 1, s, b, l => by unfold wordsL repR; exact wordsL_rep n _ _ _
theorem wordsRV_some {m : Int} (h : 0 ≤ m ∧ m ≤ 1000) (s : Str) (b : Bool) : wordsRV s b m = some (wordsR m s b) := by
  unfold wordsRV
  rw [if_pos h, wordsL_rep]
  rfl
def codeR : Rd Int := mapR oneO 0 (wordsR 1)
theorem codeR_reads : Reads codeR codeP := mapR_reads (wordsR_reads 1)
def procZ : ProcD := (0, (0, (0, (0, ((0, ([], ())), ([], ([], (0, (0, ())))))))))
def procR : Rd ProcD := mapR procO procZ (thenR (numsV 5) (thenR (wordsR 4) (thenR (wordsR 12) (thenR (plainR 4 1) (thenR numV codeR)))))
theorem procR_reads : Reads procR procQ := mapR_reads (thenR_reads (numsV_reads 5) (thenR_reads (wordsR_reads 4) (thenR_reads (wordsR_reads 12) (thenR_reads (downsR_reads 4) (thenR_reads numV_reads codeR_reads)))))
def openR : Rd OpenD := mapR openO (0, (0, (0, (0, (0, ()))))) (numsV 5)
theorem openR_reads : Reads openR openQ := mapR_reads (numsV_reads 5)
def dataR (m : Int) : Rd FileD := mapT (fun x => (x.1, (x.2, ()))) (thenR numV (wordsR m))
theorem dataR_reads (m : Nat) : Reads (dataR m) (dataQ m) := mapT_reads (thenR_reads numV_reads (wordsR_reads m))
theorem insO_same : mapP insO (numsP 4) = mapP (fun l => some (insL l)) (numsP 4) := by
  funext s
  unfold mapP
  cases h : numsP 4 s with
  | none => rfl
  | some x =>
    obtain ⟨l, k⟩ := x
    obtain ⟨a, b, c, d, rfl⟩ := four_of (numsP_le h).2.1
    rfl
theorem progL_rep : ∀ (n : Nat) (s : Str) (b : Bool) (l : List InsD), progL n s b l = repR (mapT insL (numsV 4)) n s b l
  | 0, _, _, _ => rfl
  | n + 1, s, b, l => by unfold progL repR; exact progL_rep n _ _ _
theorem progV_reads : Reads progV progQ := by
  have h := okR_reads (ok := progOkV) (manyR_reads 40 (mapT_reads (g := insL) (numsV_reads 4)))
  rw [← insO_same] at h
  have e : progV = okR progOkV (manyR ((40 : Nat) : Int) (mapT insL (numsV 4))) := by
    funext s b
    unfold progV okR manyR
    rw [progL_rep]
    rfl
  rw [e]
  exact h
def unixR : Rd UnixP := thenR (numsV 2) (thenR (manyR 4 progV) (thenR (manyR 6 procR) (thenR (manyR 8 openR) (thenR (manyR 3 (dataR 4)) (thenR (manyR 6 (dataR 8)) (thenR (plainR 6 0) (wordsR 60)))))))
theorem unixR_reads : Reads unixR unixQ :=
  thenR_reads (numsV_reads 2) (thenR_reads (manyR_reads 4 progV_reads) (thenR_reads (manyR_reads 6 procR_reads) (thenR_reads (manyR_reads 8 openR_reads) (thenR_reads (manyR_reads 3 (dataR_reads 4)) (thenR_reads (manyR_reads 6 (dataR_reads 8)) (thenR_reads (listR_reads 6) (wordsR_reads 60)))))))
theorem read_loop {α σ β : Type} {f : σ → Out (Round σ β Empty)} (R : Rd α) (S : Nat → Str → Bool → List α → σ) (y : Str → Bool → List α → β) (n : Nat) (hn : n ≤ 1000)
    (hs : ∀ i s b l, i < n → l.length = i → (f (S i s b l)).eval = some (.again (S (i + 1) (R s b).2.1 (R s b).2.2 (l ++ [(R s b).1])))) (hy : ∀ s b l, (f (S n s b l)).eval = some (.out (y s b l))) (s : Str) (b : Bool) :
    iter1 f FUEL (S 0 s b []) = some (y (repR R n s b []).2.1 (repR R n s b []).2.2 (repR R n s b []).1) := by
  have key : ∀ (m i N : Nat) (s : Str) (b : Bool) (l : List α), i + m = n → m < N → l.length = i → iter1 f N (S i s b l) = some (y (repR R m s b l).2.1 (repR R m s b l).2.2 (repR R m s b l).1) := by
    intro m
    induction m with
    | zero =>
      intro i N s b l hi hN hl
      obtain rfl : i = n := by omega
      exact iter1_out' (hy s b l) hN
    | succ m ih =>
      intro i N s b l hi hN hl
      obtain ⟨N, rfl⟩ : ∃ N', N = N' + 1 := ⟨N - 1, by omega⟩
      rw [iter1_again (hs i s b l (by omega) hl)]
      exact ih (i + 1) N _ _ _ (by omega) (by omega) (by simp; omega)
  exact key n 0 FUEL s b [] (by omega) (Nat.lt_of_le_of_lt hn (by decide)) rfl
end Go.Proofs.YtcpjdjgipmjhdaaGreat.Dm
