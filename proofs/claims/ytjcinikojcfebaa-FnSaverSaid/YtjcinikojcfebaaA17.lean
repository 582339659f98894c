/- Functions of the program, and what they compute. -/
import Derived.Test.YtjcinikojcfebaaA16
namespace Go.Proofs.Ytjcinikojcfebaa.Dm
open Go Go.ChangeShapes Go.WideShapes Go.ChangeAt Go.RowKit

/-! ## Writes on blocks -/
theorem btw_get : ∀ {r t u : List Str}, btw r t u → r.length = t.length := fun h => (btw_len h).1
theorem step_tail (p : Nat → Bool) : ∀ (o : List WriteD) (X t : List Str) (k : Nat), (∀ x ∈ o, 0 ≤ x.1 ∧ x.1 < ((X.length : Nat) : Int)) → (o.foldl (stepD p) (X ++ t, k)).1 = (o.foldl (stepD p) (X, k)).1 ++ t
  | [], _, _, _, _ => rfl
  | x :: r, X, t, k, h => by
    have hx := h x (by simp)
    rw [List.foldl_cons, List.foldl_cons]
    have e : stepD p (X ++ t, k) x = ((if p k = true then X.set x.1.toNat x.2.1 else X) ++ t, k + 1) := by
      unfold stepD
      simp only
      split
      · rw [List.set_append_left _ _ (by omega)]
      · rfl
    have e2 : stepD p (X, k) x = (if p k = true then X.set x.1.toNat x.2.1 else X, k + 1) := rfl
    rw [e, e2]
    refine step_tail p r _ t (k + 1) fun y hy => ?_
    have := h y (by simp [hy])
    have hl : (if p k = true then X.set x.1.toNat x.2.1 else X).length = X.length := by split <;> simp
    rw [hl]; exact this
theorem applyV_tail (p : Nat → Bool) {o : List WriteD} {X t : List Str} (h : ∀ x ∈ o, 0 ≤ x.1 ∧ x.1 < ((X.length : Nat) : Int)) : applyV p (X ++ t) o = applyV p X o ++ t := step_tail p o X t 0 h
theorem putAll_tail {o : List WriteD} {X t : List Str} (h : ∀ x ∈ o, 0 ≤ x.1 ∧ x.1 < ((X.length : Nat) : Int)) : putAll (X ++ t) o = putAll X o ++ t := by
  rw [← applyV_putAll, ← applyV_putAll, applyV_tail _ h]
/-- Alike but where is written: then alike behind the writes. -/
theorem putAll_same : ∀ (o : List WriteD) (X Y : List Str), X.length = Y.length → (∀ j, (∀ x ∈ o, x.1.toNat ≠ j) → X[j]? = Y[j]?) → putAll X o = putAll Y o
  | [], X, Y, _, h => List.ext_getElem? fun j => h j (by simp)
  | x :: r, X, Y, hl, h => by
    show putAll (setW X x) r = putAll (setW Y x) r
    refine putAll_same r _ _ (by unfold setW; simp [hl]) fun j hj => ?_
    unfold setW
    rw [List.getElem?_set, List.getElem?_set, hl]
    by_cases e : x.1.toNat = j
    · rw [if_pos e, if_pos e]
    · rw [if_neg e, if_neg e]
      refine h j fun y hy => ?_
      rcases List.mem_cons.1 hy with rfl | hy
      · exact e
      · exact hj y hy
theorem applyV_other (p : Nat → Bool) : ∀ (o : List WriteD) (s : List Str × Nat) (j : Nat), (∀ x ∈ o, x.1.toNat ≠ j) → (o.foldl (stepD p) s).1[j]? = s.1[j]?
  | [], _, _, _ => rfl
  | x :: r, s, j, h => by
    rw [List.foldl_cons, applyV_other p r _ j fun y hy => h y (by simp [hy])]
    unfold stepD
    simp only
    split
    · rw [List.getElem?_set, if_neg (h x (by simp))]
    · rfl
theorem putAll_part (p : Nat → Bool) (o : List WriteD) (X : List Str) : putAll (applyV p X o) o = putAll X o :=
  putAll_same o _ _ (applyV_len p X o) fun j hj => applyV_other p o (X, 0) j hj
/-! ## Savers stay right -/
theorem diskOkV_putAll {a : List Str} {o : List WriteD} (h : diskOkV a [] = true) (ho : ∀ x ∈ o, x.2.1.length ≤ 600) : diskOkV (putAll a o) [] = true := by
  obtain ⟨h1, _, h3, _⟩ := diskOkV_parts h
  rw [← applyV_putAll]
  exact diskOkV_of (by rw [applyV_len]; exact h1) (by simp) (applyV_all h3 ho) (by simp)
theorem fits_disk {a : List Str} {b l : List WriteD} (h : diskOkV a b = true) (hf : fitsB b l = true) : diskOkV a (b ++ l) = true := by
  obtain ⟨h1, _, h3, _⟩ := diskOkV_parts h
  obtain ⟨f1, f2⟩ := Bool.and_eq_true_iff.1 hf
  refine diskOkV_of h1 (by rw [List.length_append]; exact of_decide_eq_true f1) h3 fun x hx => ?_
  rcases List.mem_append.1 hx with hx | hx
  · exact diskOkV_writes h x hx
  · exact List.all_eq_true.1 f2 x hx
theorem filesOk_nil : filesOkV [] = true := rfl
def okS (r : List Str × List WriteD × List FileD × List FileD × Int × Int × Bool) : Bool := saverOkV r.1 r.2.1 r.2.2.1 r.2.2.2.1 r.2.2.2.2.1 r.2.2.2.2.2.1
theorem show_ok {q : Int} {a : List WriteD} (h : showTxnV q a ≠ []) : txnOkV q a = true := by
  cases hb : txnOkV q a with
  | true => rfl
  | false => exact absurd (showTxnV_nil.2 hb) h
theorem begin_ok {a : List Str} {b : List WriteD} {c d : List FileD} {q p : Int} {f : List FileD} (h : saverOkV a b c d q p = true) : okS (saveBeginV a b c d q p f) = true := by
  unfold saveBeginV
  rw [if_pos h]
  split
  · rename_i w
    obtain ⟨h1, h2, h3, h4, h5, h6⟩ := saverOkV_parts h
    exact (saverOkV_of h1 h2 w.2.1 h4 (by decide) (fun e => absurd e (by decide)) : saverOkV a b c f q 1 = true)
  · exact h
theorem step_ok {a : List Str} {b : List WriteD} {c d : List FileD} {q p : Int} (h : saverOkV a b c d q p = true) : okS (saveStepV a b c d q p) = true := by
  unfold saveStepV
  rw [if_pos h]
  obtain ⟨h1, h2, h3, h4, h5, h6⟩ := saverOkV_parts h
  split
  · split
    · rename_i w
      have := (txnOkV_parts (show_ok w.1)).1
      exact (saverOkV_of (fits_disk h1 w.2) h2 h3 (by omega) (by decide) (fun e => absurd e (by decide)) : saverOkV a (b ++ [((6 : Int), (logV c d q, ()))]) c d (q + 1) 2 = true)
    · exact h
  · split
    · exact (saverOkV_of (diskOkV_apply _ h1) h2 h3 h4 (by decide) (fun e => absurd e (by decide)) : saverOkV (applyV (fun _ => true) a b) [] c d q 3 = true)
    · split
      · split
        · rename_i w
          exact (saverOkV_of (fits_disk h1 w) h2 h3 h4 (by decide) (fun e => absurd e (by decide)) : saverOkV a (b ++ diffV c d) c d q 4 = true)
        · exact h
      · split
        · exact (saverOkV_of (diskOkV_apply _ h1) h3 filesOk_nil h4 (by decide) (fun _ => rfl) : saverOkV (applyV (fun _ => true) a b) [] d [] q 0 = true)
        · exact h
theorem fall_ok {a : List Str} {b : List WriteD} {c d : List FileD} {q p : Int} {m : Int} (h : saverOkV a b c d q p = true) : okS (saveFallV a b c d q p m) = true := by
  unfold saveFallV
  rw [if_pos h]
  obtain ⟨h1, h2, h3, h4, h5, h6⟩ := saverOkV_parts h
  split
  · exact h
  · rename_i f o s hm
    have hp := mountP_ok hm
    exact (saverOkV_of (diskOkV_putAll (diskOkV_apply _ h1) fun x hx => by have := (hp.2.2.2.2.1 x hx).2; omega) hp.2.1 filesOk_nil hp.2.2.1 (by decide) (fun _ => rfl) : saverOkV (putAll (applyV (fun i => bitE i m) a b) o) [] f [] s 0 = true)
/-! ## Where power falls -/
/-- The log's record is on the blocks, if there is one. -/
def LogOk (X : List Str) (log : Str) : Prop := ∃ q o, logP log = some (q, o) ∧ putAll X o = X
/-- The record of the save that is under way. -/
def recV (c d : List FileD) (q : Int) : Str := showTxnV q (diffV c d)
inductive Stage (a : List Str) (b : List WriteD) (c d : List FileD) (q p : Int) : Prop
  | calm (log : Str) (hp : p = 0 ∨ p = 1) (hb : b = []) (ha : a = fileBlocksV c ++ [log]) (hl : LogOk (fileBlocksV c) log)
  | logging (log : Str) (hp : p = 2) (hb : b = [((6 : Int), (recV c d q, ()))]) (ha : a = fileBlocksV c ++ [log]) (hl : LogOk (fileBlocksV c) log) (ht : txnOkV q (diffV c d) = true)
  | logged (hp : p = 3) (hb : b = []) (ha : a = fileBlocksV c ++ [recV c d q]) (ht : txnOkV q (diffV c d) = true)
  | homing (hp : p = 4) (hb : b = diffV c d) (ha : a = fileBlocksV c ++ [recV c d q]) (ht : txnOkV q (diffV c d) = true)
theorem diffV_range {c d : List FileD} (hd : filesOkV d = true) : ∀ x ∈ diffV c d, 0 ≤ x.1 ∧ x.1 < 6 := fun x hx => by
  have := diffF_mem hx
  rw [fileBlocksV_len hd] at this
  omega
theorem rec_log {c d : List FileD} {q : Int} (ht : txnOkV q (diffV c d) = true) : logP (recV c d q) = some (q, diffV c d) := by
  have hne : recV c d q ≠ [] := fun e => by
    have := showTxnV_nil.1 e
    rw [ht] at this; exact nomatch this
  rw [log_read hne]
  exact readTxn_show ht
theorem blocks_same {c d : List FileD} (hc : filesOkV c = true) (hd : filesOkV d = true) : (fileBlocksV c).length = (fileBlocksV d).length := by rw [fileBlocksV_len hc, fileBlocksV_len hd]
theorem rec_ok {c d : List FileD} {q : Int} (hc : filesOkV c = true) (hd : filesOkV d = true) (ht : txnOkV q (diffV c d) = true) : LogOk (fileBlocksV d) (recV c d q) :=
  ⟨q, diffV c d, rec_log ht, by rw [← applyV_putAll]; exact applyV_all_diff (btw_right (blocks_same hc hd))⟩
theorem getD_last {X : List Str} {l : Str} (h : X.length = 6) : (X ++ [l]).getD 6 [] = l := by
  rw [List.getD_eq_getElem?_getD, List.getElem?_append_right (by omega), h]; rfl
theorem take_first {X : List Str} {l : Str} (h : X.length = 6) : (X ++ [l]).take 6 = X := List.take_left' h
theorem mount_of {X : List Str} {log : Str} {f : List FileD} {o : List WriteD} {q : Int} (hX : X.length = 6) (hl : logP log = some (q, o)) (hf : filesOkV f = true) (hp : putAll X o = fileBlocksV f) : mountP (X ++ [log]) = some (f, o, q) := by
  unfold mountP
  rw [if_pos (by simp [hX]), getD_last hX, take_first hX, hl]
  simp only
  rw [hp, readBlocks_file hf]
theorem logP_range {s : Str} {q : Int} {o : List WriteD} (h : logP s = some (q, o)) {n : Nat} (hn : n = 6) : ∀ x ∈ o, 0 ≤ x.1 ∧ x.1 < ((n : Nat) : Int) := fun x hx => by
  have := ((logP_ok h).2.2 x hx).1
  omega
/-- Behind a fall, the files are the old ones or the new ones. -/
theorem fall_stage {a : List Str} {b : List WriteD} {c d : List FileD} {q p m : Int} (h : saverOkV a b c d q p = true) (hs : Stage a b c d q p) :
    ∃ a' f s, saveFallV a b c d q p m = (a', [], f, [], s, 0, true) ∧ Stage a' [] f [] s 0 ∧ (f = c ∨ (p ≠ 0 ∧ f = d)) ∧ (3 ≤ p → f = d) := by
  obtain ⟨h1, h2, h3, h4, h5, h6⟩ := saverOkV_parts h
  have l6 := fileBlocksV_len h2
  have g6 := fileBlocksV_len h3
  have calm : ∀ log, applyV (fun i => bitE i m) a b = fileBlocksV c ++ [log] → LogOk (fileBlocksV c) log → ∃ a' f s, saveFallV a b c d q p m = (a', [], f, [], s, 0, true) ∧ Stage a' [] f [] s 0 ∧ f = c := fun log e hl => by
    obtain ⟨q0, o, e1, e2⟩ := hl
    have hm := mount_of l6 e1 h2 e2
    refine ⟨fileBlocksV c ++ [log], c, q0, ?_, .calm log (.inl rfl) rfl rfl ⟨q0, o, e1, e2⟩, rfl⟩
    unfold saveFallV
    rw [if_pos h, e, hm]
    simp only
    rw [putAll_tail (logP_range e1 l6), e2]
  have new : ∀ X, applyV (fun i => bitE i m) a b = X ++ [recV c d q] → btw (fileBlocksV c) (fileBlocksV d) X → txnOkV q (diffV c d) = true → ∃ a' f s, saveFallV a b c d q p m = (a', [], f, [], s, 0, true) ∧ Stage a' [] f [] s 0 ∧ f = d := fun X e hX ht => by
    have e1 := rec_log ht
    have e2 : putAll X (diffV c d) = fileBlocksV d := by rw [← applyV_putAll]; exact applyV_all_diff hX
    have x6 : X.length = 6 := by rw [(btw_len hX).2]; exact g6
    have hm := mount_of x6 e1 h3 e2
    refine ⟨fileBlocksV d ++ [recV c d q], d, q, ?_, .calm (recV c d q) (.inl rfl) rfl rfl (rec_ok h2 h3 ht), rfl⟩
    unfold saveFallV
    rw [if_pos h, e, hm]
    simp only
    rw [putAll_tail (logP_range e1 x6), e2]
  cases hs with
  | calm log hp hb ha hl =>
    subst hb
    obtain ⟨a', f, s, w1, w2, w3⟩ := calm log (by rw [ha]; rfl) hl
    exact ⟨a', f, s, w1, w2, .inl w3, fun _ => by omega⟩
  | logging log hp hb ha hl ht =>
    have e : applyV (fun i => bitE i m) a b = fileBlocksV c ++ [if bitE 0 m = true then recV c d q else log] := by
      rw [ha, hb]
      unfold applyV
      simp only [List.foldl_cons, List.foldl_nil, stepD]
      split
      · show (fileBlocksV c ++ [log]).set 6 _ = _
        rw [List.set_append_right _ _ (by omega), l6]; rfl
      · rfl
    by_cases hbit : bitE 0 m = true
    · rw [if_pos hbit] at e
      obtain ⟨a', f, s, w1, w2, w3⟩ := new _ e (btw_left (blocks_same h2 h3)) ht
      exact ⟨a', f, s, w1, w2, .inr ⟨by omega, w3⟩, fun _ => w3⟩
    · rw [if_neg hbit] at e
      obtain ⟨a', f, s, w1, w2, w3⟩ := calm log e hl
      exact ⟨a', f, s, w1, w2, .inl w3, fun _ => by omega⟩
  | logged hp hb ha ht =>
    subst hb
    obtain ⟨a', f, s, w1, w2, w3⟩ := new _ (by rw [ha]; rfl) (btw_left (blocks_same h2 h3)) ht
    exact ⟨a', f, s, w1, w2, .inr ⟨by omega, w3⟩, fun _ => w3⟩
  | homing hp hb ha ht =>
    have e : applyV (fun i => bitE i m) a b = applyV (fun i => bitE i m) (fileBlocksV c) (diffV c d) ++ [recV c d q] := by
      rw [ha, hb, applyV_tail _ (by rw [l6]; exact diffV_range h3)]
    obtain ⟨a', f, s, w1, w2, w3⟩ := new _ e (applyV_some _ (btw_left (blocks_same h2 h3))) ht
    exact ⟨a', f, s, w1, w2, .inr ⟨by omega, w3⟩, fun _ => w3⟩
theorem begin_stage {a : List Str} {b : List WriteD} {c d : List FileD} {q p : Int} {f : List FileD} (h : saverOkV a b c d q p = true) (hs : Stage a b c d q p) (hok : (saveBeginV a b c d q p f).2.2.2.2.2.2 = true) :
    saveBeginV a b c d q p f = (a, b, c, f, q, 1, true) ∧ Stage a b c f q 1 := by
  unfold saveBeginV at hok ⊢
  rw [if_pos h] at hok ⊢
  split at hok
  · rename_i w
    rw [if_pos w]
    refine ⟨rfl, ?_⟩
    cases hs with
    | calm log hp hb ha hl => exact .calm log (.inr rfl) hb ha hl
    | logging log hp => have := w.1; omega
    | logged hp => have := w.1; omega
    | homing hp => have := w.1; omega
  · exact nomatch hok
theorem step_stage {a : List Str} {b : List WriteD} {c d : List FileD} {q p : Int} (h : saverOkV a b c d q p = true) (hs : Stage a b c d q p) (hok : (saveStepV a b c d q p).2.2.2.2.2.2 = true) :
    Stage (saveStepV a b c d q p).1 (saveStepV a b c d q p).2.1 (saveStepV a b c d q p).2.2.1 (saveStepV a b c d q p).2.2.2.1 (saveStepV a b c d q p).2.2.2.2.1 (saveStepV a b c d q p).2.2.2.2.2.1 := by
  obtain ⟨h1, h2, h3, h4, h5, h6⟩ := saverOkV_parts h
  have l6 := fileBlocksV_len h2
  unfold saveStepV at hok ⊢
  rw [if_pos h] at hok ⊢
  cases hs with
  | calm log hp hb ha hl =>
    rcases hp with hp | hp
    · subst hp
      exact nomatch hok
    · subst hp
      rw [if_pos rfl] at hok ⊢
      split at hok
      · rename_i w
        rw [if_pos w]
        exact .logging log rfl (by rw [hb]; rfl) ha hl (show_ok w.1)
      · exact nomatch hok
  | logging log hp hb ha hl ht =>
    subst hp
    refine .logged rfl rfl ?_ ht
    show applyV (fun _ => true) a b = fileBlocksV c ++ [recV c d q]
    rw [ha, hb]
    unfold applyV
    simp only [List.foldl_cons, List.foldl_nil, stepD, if_true]
    show (fileBlocksV c ++ [log]).set 6 _ = _
    rw [List.set_append_right _ _ (by omega), l6]; rfl
  | logged hp hb ha ht =>
    subst hp
    have hok : (if fitsB b (diffV c d) = true then (a, b ++ diffV c d, c, d, q, (4 : Int), true) else (a, b, c, d, q, (3 : Int), false)).2.2.2.2.2.2 = true := hok
    show Stage (if fitsB b (diffV c d) = true then (a, b ++ diffV c d, c, d, q, (4 : Int), true) else (a, b, c, d, q, (3 : Int), false)).1 (if fitsB b (diffV c d) = true then (a, b ++ diffV c d, c, d, q, (4 : Int), true) else (a, b, c, d, q, (3 : Int), false)).2.1 (if fitsB b (diffV c d) = true then (a, b ++ diffV c d, c, d, q, (4 : Int), true) else (a, b, c, d, q, (3 : Int), false)).2.2.1 (if fitsB b (diffV c d) = true then (a, b ++ diffV c d, c, d, q, (4 : Int), true) else (a, b, c, d, q, (3 : Int), false)).2.2.2.1 (if fitsB b (diffV c d) = true then (a, b ++ diffV c d, c, d, q, (4 : Int), true) else (a, b, c, d, q, (3 : Int), false)).2.2.2.2.1 (if fitsB b (diffV c d) = true then (a, b ++ diffV c d, c, d, q, (4 : Int), true) else (a, b, c, d, q, (3 : Int), false)).2.2.2.2.2.1
    split at hok
    · rename_i w
      rw [if_pos w]
      exact .homing rfl (by rw [hb]; rfl) ha ht
    · exact nomatch hok
  | homing hp hb ha ht =>
    subst hp
    refine .calm (recV c d q) (.inl rfl) rfl ?_ (rec_ok h2 h3 ht)
    show applyV (fun _ => true) a b = fileBlocksV d ++ [recV c d q]
    rw [ha, hb, applyV_tail _ (by rw [l6]; exact diffV_range h3)]
    have e : applyV (fun _ => true) (fileBlocksV c) (diffV c d) = fileBlocksV d := applyV_all_diff (btw_left (blocks_same h2 h3))
    rw [e]
theorem new_stage : Stage newSaverV.1 newSaverV.2.1 newSaverV.2.2.1 newSaverV.2.2.2.1 newSaverV.2.2.2.2.1 newSaverV.2.2.2.2.2 :=
  .calm [] (.inl rfl) rfl rfl ⟨0, [], rfl, rfl⟩
theorem new_ok : saverOkV newSaverV.1 newSaverV.2.1 newSaverV.2.2.1 newSaverV.2.2.2.1 newSaverV.2.2.2.2.1 newSaverV.2.2.2.2.2 = true := rfl
/-! ## Bytes of a code -/
def f92_tree (a0 : List Int) (a1 : Int) : Out (((Int × Unit) × Unit) × (Unit × Unit × Unit)) :=
 .ite (decide (a1 < ((List.length a0 : Nat) : Int)))
 (.ite (decide (0 ≤ a1))
 (.get (nth a0 (Int.toNat a1)) fun y1 =>
 .ret ((((IntKind.i64.wrap y1), ()), ()), ((), (), ())))
 .fail)
 (.ite ((256 : Int) == 0)
 .fail
 (.ret ((((Int.tmod (IntKind.i64.wrap ((IntKind.i64.wrap (a1 * (37 : Int))) + (IntKind.i64.wrap (((List.length a0 : Nat) : Int) * (11 : Int))))) (256 : Int)), ()), ()), ((), (), ()))))
def atV (c : List Int) (i : Int) : Option Int := if i < ((c.length : Nat) : Int) then (if 0 ≤ i then (nth c i.toNat).map fun y => IntKind.i64.wrap y else none)
  else some (Int.tmod (IntKind.i64.wrap (IntKind.i64.wrap (i * 37) + IntKind.i64.wrap (((c.length : Nat) : Int) * 11))) 256)
def k92 : Con := { f := 92, lend := true, its := [⟨false, false, [.ro (.int .u8)]⟩, ⟨false, false, [.i .i64]⟩], lay := [none, none], rs := [⟨false, false, [.i .i64]⟩], F := fun x => .get (atV x.1.1 x.2.1.1) fun y => .ret (((y, ()), ()), ((), (), ())) }
theorem f92_eq (x : itemsD k92.its) : bodyOut (cxOf []) (fun _ => none) (codeOf Try.f92) k92.its k92.lay Try.f92.ntmps k92.rs [.tmp 4] x = f92_tree x.1.1 x.2.1.1 := by kernel_rfl
theorem f92_ok (hr : ∀ x : (List Int × Unit) × (Int × Unit) × Unit, itemsWF k92.its x → (f92_tree x.1.1 x.2.1.1).eval = (k92.F x).eval) : k92.Ok Try.prog :=
  con_fn [] trivial (by kernel_rfl) (codeOf_eq (by kernel_rfl)) (by kernel_rfl) (by kernel_rfl) (by kernel_rfl) f92_eq fun x hw _ hy => (hr x hw).trans hy
theorem k92_ok : k92.Ok Try.prog := by
  refine f92_ok fun x _ => ?_
  obtain ⟨⟨c, _⟩, ⟨i, _⟩, _⟩ := x
  show (f92_tree c i).eval = (Out.get (atV c i) fun y => Out.ret (((y, ()), ()), ((), ((), ())))).eval
  unfold f92_tree atV
  by_cases h : i < ((c.length : Nat) : Int)
  · rw [eval_ite_t (decide_eq_true h), if_pos h]
    by_cases h0 : 0 ≤ i
    · rw [eval_ite_t (decide_eq_true h0), if_pos h0]
      cases nth c i.toNat <;> rfl
    · rw [eval_ite_f (decide_eq_false h0), if_neg h0]; rfl
  · rw [eval_ite_f (decide_eq_false h), if_neg h]; rfl
theorem at_some (c : List Int) {i : Int} (h : 0 ≤ i) : TotV (atV c i) fun _ => True := by
  unfold atV
  split
  · have : nth c i.toNat = some (c[i.toNat]'(by omega)) := List.getElem?_eq_getElem _
    rw [this]
    exact ⟨_, rfl, trivial⟩
  · exact ⟨_, rfl, trivial⟩
abbrev f105_S0 := (List (Int) × Int × Int × Unit) × (List (Int) × Unit)
def f105_L0 (x : f105_S0) : Out (Round f105_S0 ((Unit) × (List (Int) × Unit)) Empty) :=
 .ite ((decide (x.1.2.2.1 < ((List.length x.1.1 : Nat) : Int))) == true)
 (.ite (decide (x.1.2.2.1 < (600 : Int)))
 (.ite (decide (0 ≤ x.1.2.2.1))
 (.get (nth x.1.1 (Int.toNat x.1.2.2.1)) fun y1 =>
 .ite ((7 : Int) == 0)
 .fail
 (.ite (decide (List.length x.2.1 + List.length ([(IntKind.u8.wrap (IntKind.i64.wrap ((IntKind.i64.wrap ((IntKind.i64.wrap y1) * (3 : Int))) + (IntKind.i64.wrap (x.1.2.1 * (IntKind.i64.wrap ((Int.tmod x.1.2.2.1 (7 : Int)) + (1 : Int))))))))] : List (Int)) ≤ LIM))
 (.ret (.again ((x.1.1, x.1.2.1, (IntKind.i64.wrap (x.1.2.2.1 + (1 : Int))), ()), ((x.2.1 ++ ([(IntKind.u8.wrap (IntKind.i64.wrap ((IntKind.i64.wrap ((IntKind.i64.wrap y1) * (3 : Int))) + (IntKind.i64.wrap (x.1.2.1 * (IntKind.i64.wrap ((Int.tmod x.1.2.2.1 (7 : Int)) + (1 : Int))))))))] : List (Int))), ()))))
 .fail))
 .fail)
 (.ret (.out ((), (x.2.1, ())))))
 (.ret (.out ((), (x.2.1, ()))))
def f105_tree (a0 : List Int) (a1 : Int) : Out (((List Int × Unit) × Unit) × (Unit × Unit × Unit)) :=
 .get (iter1 f105_L0 FUEL ((a0, a1, (0 : Int), ()), (([(IntKind.u8.wrap a1)] : List (Int)), ()))) fun y1 =>
 .ret (((y1.2.1, ()), ()), ((), (), ()))
def f105_A : Nat → Option LoopAnn := fun n => annOf [(0, { head := { t := [.ro (.int .u8) (some 0), .i .i64, .dead, .dead, .dead, .srf 64000000, .i .i64, .dead, .dead, .dead, .dead, .dead, .dead, .dead, .dead, .dead, .dead, .dead, .dead, .dead, .dead, .dead, .dead, .dead, .dead, .dead, .dead, .dead, .dead, .dead, .dead, .dead, .dead, .dead, .dead, .dead, .dead], v := [(64000000, .arr (.int .u8))] }, out := { t := [.dead, .dead, .dead, .dead, .dead, .srf 64000256, .dead, .dead, .dead, .dead, .dead, .dead, .dead, .dead, .dead, .dead, .dead, .dead, .dead, .dead, .dead, .dead, .dead, .dead, .dead, .dead, .dead, .dead, .dead, .dead, .dead, .dead, .dead, .dead, .dead, .dead, .dead], v := [(64000256, .arr (.int .u8))] }, ret := none })] n
def k105_V (a0 : List Int) (a1 : Int) : Option (((List Int × Unit) × Unit) × (Unit × Unit × Unit)) := (f105_tree a0 a1).eval
def k105 : Con := { f := 105, lend := true, its := [⟨false, false, [.ro (.int .u8)]⟩, ⟨false, false, [.i .i64]⟩], lay := [none, none], rs := [⟨false, false, [.own (.int .u8)]⟩], F := fun x => .get (k105_V x.1.1 x.2.1.1) fun y => .ret y }
theorem f105_eq (x : itemsD k105.its) : bodyOut (cxOf []) (f105_A) (codeOf Try.f105) k105.its k105.lay Try.f105.ntmps k105.rs [.tmp 4] x = f105_tree x.1.1 x.2.1.1 := by kernel_rfl
theorem f105_ok (hr : ∀ x : (List Int × Unit) × (Int × Unit) × Unit, itemsWF k105.its x → (f105_tree x.1.1 x.2.1.1).eval = (k105.F x).eval) : k105.Ok Try.prog :=
  con_fn [] trivial (by kernel_rfl) (codeOf_eq (by kernel_rfl)) (by kernel_rfl) (by kernel_rfl) (by kernel_rfl) f105_eq fun x hw _ hy => (hr x hw).trans hy
theorem k105_ok : k105.Ok Try.prog := f105_ok fun x _ => (eval_get_ret _).symm
theorem fresh_tot {b : List Int} {n : Int} : TotV (k105_V b n) fun y => y.1.1.1.length ≤ 601 := by
  unfold k105_V f105_tree
  refine tot_get (P := fun x => x.2.1.length ≤ 601) (tot_iter1 (fun x => 0 ≤ x.1.2.2.1 ∧ x.1.2.2.1 ≤ 600 ∧ (x.2.1.length : Int) = x.1.2.2.1 + 1) (fun x => 600 - x.1.2.2.1.toNat) _ (fun x hx => ?_) _ _ ⟨by simp, by simp, by simp⟩ (by simp; decide)) fun x hx => tot_ret hx
  obtain ⟨⟨c, s, i, _⟩, out, _⟩ := x
  obtain ⟨h1, h2, h3⟩ := hx
  simp only at h1 h2 h3
  unfold f105_L0
  refine tot_ite (fun g1 => tot_ite (fun g2 => ?_) fun _ => tot_ret (show out.length ≤ 601 by omega)) fun _ => tot_ret (show out.length ≤ 601 by omega)
  have g1 : i < ((c.length : Nat) : Int) := of_decide_eq_true (by simpa using g1)
  have g2 : i < 600 := of_decide_eq_true g2
  have w : IntKind.i64.wrap (i + 1) = i + 1 := wrap_id (by omega) (by omega)
  refine tot_t (decide_eq_true h1) (tot_get (P := fun _ => True) ⟨_, List.getElem?_eq_getElem (show i.toNat < c.length by omega), trivial⟩ fun y _ => tot_f rfl (tot_t (decide_eq_true (by rw [LIM_eq]; simp; omega)) (tot_ret ⟨⟨by simp only [w]; omega, by simp only [w]; omega, by simp only [w]; simp; omega⟩, by simp only [w]; omega⟩)))
theorem showTxn_len (q : Int) (a : List WriteD) : (showTxnV q a).length ≤ 463 := by
  by_cases h : txnOkV q a = true
  · have := txnS_len h
    rw [showTxnV_ok h, List.length_append, sumS_len]
    unfold txnS
    rw [List.length_append]; omega
  · rw [showTxnV_nil.2 (Bool.eq_false_iff.2 h)]; simp
abbrev f110_S0 := (List UInt8 × Int × Unit) × ((List (Int) × Int × Int × Unit) × List (List UInt8) × List ((Int × List UInt8 × Unit)) × Unit)
def f110_L0 (x : f110_S0) : Out (Round f110_S0 ((List UInt8 × Unit) × ((List (Int) × Int × Int × Unit) × List (List UInt8) × Unit)) Empty) :=
 .ite ((decide (x.1.2.1 < ((List.length x.2.2.2.1 : Nat) : Int))) == true)
 (.ite (x.1.1 != ([] : List UInt8))
 (.get (k140_V x.2.1.1 x.2.1.2.1 x.2.1.2.2.1 (3 : Int)) fun y1 =>
 .ite y1.1.1.1
 (.ite (decide (0 ≤ x.1.2.1 ∧ x.1.2.1 < ((List.length x.2.2.2.1 : Nat) : Int)))
 (.get (nth x.2.2.2.1 (Int.toNat x.1.2.1)) fun y2 =>
 .ite (decide (0 ≤ x.1.2.1 ∧ x.1.2.1 < ((List.length x.2.2.2.1 : Nat) : Int)))
 (.get (nth x.2.2.2.1 (Int.toNat x.1.2.1)) fun y3 =>
 .ite (decide (0 ≤ y2.1 ∧ y2.1 < ((List.length x.2.2.1 : Nat) : Int)))
 (.get (nth x.2.2.1 (Int.toNat y2.1)) fun y4 =>
 .ret (.again ((x.1.1, (IntKind.i64.wrap (x.1.2.1 + (1 : Int))), ()), ((x.2.1.1, y1.2.1.1, y1.2.1.2.1, ()), (List.set x.2.2.1 (Int.toNat y2.1) y3.2.1), x.2.2.2.1, ()))))
 .fail)
 .fail)
 .fail)
 (.ret (.again ((x.1.1, (IntKind.i64.wrap (x.1.2.1 + (1 : Int))), ()), ((x.2.1.1, y1.2.1.1, y1.2.1.2.1, ()), x.2.2.1, x.2.2.2.1, ())))))
 (.ret (.out ((x.1.1, ()), ((x.2.1.1, x.2.1.2.1, x.2.1.2.2.1, ()), x.2.2.1, ())))))
 (.ret (.out ((x.1.1, ()), ((x.2.1.1, x.2.1.2.1, x.2.1.2.2.1, ()), x.2.2.1, ()))))
def f110_tree (a0 : List Int) : Out (((List (List UInt8) × Unit) × Unit) × (Unit × Unit)) :=
 .get (k138_V a0) fun y1 =>
 .get (k181_V y1.1.1.1 y1.1.1.2.1 y1.1.1.2.2.1) fun y2 =>
 .get (k181_V y1.1.1.1 y2.2.1.1 y2.2.1.2.1) fun y3 =>
 .get (l25DiffV (fileBlocksV y2.1.1.1) (fileBlocksV y3.1.1.1)) fun y4 =>
 .get (k139_V y1.1.1.1 y3.2.1.1 y3.2.1.2.1 (9 : Int)) fun y5 =>
 .get (iter1 f110_L0 FUEL (((showTxnV (IntKind.i64.wrap ((1 : Int) + y5.1.1.1)) y4), (0 : Int), ()), ((y1.1.1.1, y5.2.1.1, y5.2.1.2.1, ()), (fileBlocksV y2.1.1.1), y4, ()))) fun y6 =>
 .ite (decide (List.length y6.2.2.1 + List.length ([y6.1.1] : List (List UInt8)) ≤ LIM))
 (.get (k140_V y6.2.1.1 y6.2.1.2.1 y6.2.1.2.2.1 (5 : Int)) fun y7 =>
 .ite y7.1.1.1
 (.get (k139_V y6.2.1.1 y7.2.1.1 y7.2.1.2.1 ((List.length (y6.2.2.1 ++ ([y6.1.1] : List (List UInt8))) : Nat) : Int)) fun y8 =>
 .ite (decide (0 ≤ y8.1.1.1 ∧ y8.1.1.1 < ((List.length (y6.2.2.1 ++ ([y6.1.1] : List (List UInt8))) : Nat) : Int)))
 (.get (nth (y6.2.2.1 ++ ([y6.1.1] : List (List UInt8))) (Int.toNat y8.1.1.1)) fun y9 =>
 .get (k178_V y6.2.1.1 y8.2.1.1 y8.2.1.2.1 y9) fun y10 =>
 .ite (decide (0 ≤ y8.1.1.1 ∧ y8.1.1.1 < ((List.length (y6.2.2.1 ++ ([y6.1.1] : List (List UInt8))) : Nat) : Int)))
 (.get (nth (y6.2.2.1 ++ ([y6.1.1] : List (List UInt8))) (Int.toNat y8.1.1.1)) fun y11 =>
 .get (k140_V y6.2.1.1 y10.2.1.1 y10.2.1.2.1 (20 : Int)) fun y12 =>
 .ite y12.1.1.1
 (.ite (decide (0 ≤ (0 : Int) ∧ (0 : Int) ≤ (6 : Int) ∧ (6 : Int) ≤ ((List.length (List.set (y6.2.2.1 ++ ([y6.1.1] : List (List UInt8))) (Int.toNat y8.1.1.1) y10.1.1.1) : Nat) : Int)))
 (.ret ((((List.take (Int.toNat (6 : Int) - Int.toNat (0 : Int)) (List.drop (0 + Int.toNat (0 : Int)) (List.set (y6.2.2.1 ++ ([y6.1.1] : List (List UInt8))) (Int.toNat y8.1.1.1) y10.1.1.1))), ()), ()), ((), ())))
 .fail)
 (.ret ((((List.set (y6.2.2.1 ++ ([y6.1.1] : List (List UInt8))) (Int.toNat y8.1.1.1) y10.1.1.1), ()), ()), ((), ()))))
 .fail)
 .fail)
 (.get (k140_V y6.2.1.1 y7.2.1.1 y7.2.1.2.1 (20 : Int)) fun y13 =>
 .ite y13.1.1.1
 (.ite (decide (0 ≤ (0 : Int) ∧ (0 : Int) ≤ (6 : Int) ∧ (6 : Int) ≤ ((List.length (y6.2.2.1 ++ ([y6.1.1] : List (List UInt8))) : Nat) : Int)))
 (.ret ((((List.take (Int.toNat (6 : Int) - Int.toNat (0 : Int)) (List.drop (0 + Int.toNat (0 : Int)) (y6.2.2.1 ++ ([y6.1.1] : List (List UInt8))))), ()), ()), ((), ())))
 .fail)
 (.ret ((((y6.2.2.1 ++ ([y6.1.1] : List (List UInt8))), ()), ()), ((), ())))))
 .fail
def f110_A : Nat → Option LoopAnn := fun n => annOf [(0, { head := { t := [.dead, .dead, .dead, .vptr 64000000 0, .srf 64000001, .srf 64000002, .s, .i .i64, .dead, .dead, .dead, .dead, .dead, .dead, .dead, .dead, .dead, .dead, .dead, .dead, .dead, .dead, .dead, .dead, .dead, .dead, .dead, .dead, .dead, .dead, .dead, .dead, .dead, .dead, .dead, .dead, .dead, .dead, .dead, .dead, .dead, .dead, .dead, .dead, .dead, .dead, .dead, .dead, .dead, .dead, .dead, .dead, .dead, .dead, .dead, .dead, .dead, .dead, .dead, .dead, .dead, .dead, .dead, .dead, .dead, .dead, .dead, .dead, .dead, .dead, .dead, .dead, .dead, .dead], v := [(64000000, .var [.ro (.int .u8) none, .i .i64, .i .i64]), (64000001, .arr .str), (64000002, .arr (.st (.cons (.int .i64) (.cons .str .nil))))] }, out := { t := [.dead, .dead, .dead, .vptr 64000256 0, .srf 64000257, .dead, .s, .dead, .dead, .dead, .dead, .dead, .dead, .dead, .dead, .dead, .dead, .dead, .dead, .dead, .dead, .dead, .dead, .dead, .dead, .dead, .dead, .dead, .dead, .dead, .dead, .dead, .dead, .dead, .dead, .dead, .dead, .dead, .dead, .dead, .dead, .dead, .dead, .dead, .dead, .dead, .dead, .dead, .dead, .dead, .dead, .dead, .dead, .dead, .dead, .dead, .dead, .dead, .dead, .dead, .dead, .dead, .dead, .dead, .dead, .dead, .dead, .dead, .dead, .dead, .dead, .dead, .dead, .dead], v := [(64000256, .var [.ro (.int .u8) none, .i .i64, .i .i64]), (64000257, .arr .str)] }, ret := none })] n
def k110_V (a0 : List Int) : Option (((List (List UInt8) × Unit) × Unit) × (Unit × Unit)) := (f110_tree a0).eval
def k110 : Con := { f := 110, lend := true, its := [⟨false, false, [.ro (.int .u8)]⟩], lay := [none], rs := [⟨false, false, [.own .str]⟩], F := fun x => .get (k110_V x.1.1) fun y => .ret y }
theorem f110_eq (x : itemsD k110.its) : bodyOut (cxOf [k138, k181, k56, k195, k139, k41, k140, k178]) (f110_A) (codeOf Try.f110) k110.its k110.lay Try.f110.ntmps k110.rs [.tmp 2] x = f110_tree x.1.1 := by kernel_rfl
theorem f110_ok (hr : ∀ x : (List Int × Unit) × Unit, itemsWF k110.its x → (f110_tree x.1.1).eval = (k110.F x).eval) : k110.Ok Try.prog :=
  con_fn [k138, k181, k56, k195, k139, k41, k140, k178] ⟨k138_ok, k181_ok, k56_ok, k195_ok, k139_ok, k41_ok, k140_ok, k178_ok, trivial⟩ (by kernel_rfl) (codeOf_eq (by kernel_rfl)) (by kernel_rfl) (by kernel_rfl) (by kernel_rfl) f110_eq fun x hw _ hy => (hr x hw).trans hy
theorem k110_ok : k110.Ok Try.prog := f110_ok fun x _ => (eval_get_ret _).symm
theorem drawMount_tot {b : List Int} (hb : b.length ≤ BIG) : TotV (k110_V b) fun y => y.1.1.1.length ≤ 7 := by
  unfold k110_V f110_tree
  refine tot_get (newCur_tot hb) fun c hc => ?_
  have hb' : c.1.1.1.length ≤ BIG := by rw [hc.1]; exact hb
  refine tot_get (files_tot hb' (Int.le_of_eq hc.2.symm)) fun y hy => tot_get (files_tot hb' hy.2) fun z hz => ?_
  have h6 := fileBlocksV_len hy.1
  have hm := fileBlocks_mem hy.1
  have hm2 := fileBlocks_mem hz.1
  have hr := diffV_range (c := y.1.1.1) hz.1
  have hd := diffV_len (c := y.1.1.1) hz.1
  have hdm : ∀ x ∈ diffV y.1.1.1 z.1.1.1, x.2.1.length ≤ 64 := fun x hx => hm2 _ (diffF_mem hx).2.2
  refine tot_get (P := fun o => o = diffV y.1.1.1 z.1.1.1) ⟨_, if_pos (by rw [h6]; decide), rfl⟩ fun o ho => ?_
  subst ho
  generalize diffV y.1.1.1 z.1.1.1 = o at hr hd hdm ⊢
  generalize fileBlocksV y.1.1.1 = X at h6 hm ⊢
  refine tot_get (below_tot hb' hz.2) fun u hu => ?_
  have hL := showTxn_len (IntKind.i64.wrap ((1 : Int) + u.1.1.1)) o
  generalize showTxnV (IntKind.i64.wrap ((1 : Int) + u.1.1.1)) o = log at hL ⊢
  refine tot_get (P := fun x => (x.1.1 = log ∧ x.2.1.1 = c.1.1.1 ∧ 0 ≤ x.2.1.2.1) ∧ x.2.2.1.length = 6 ∧ ∀ t ∈ x.2.2.1, t.length ≤ 64)
    (tot_iter1 (fun x => (x.1.1 = log ∧ x.2.1.1 = c.1.1.1 ∧ 0 ≤ x.2.1.2.1) ∧ (x.2.2.1.length = 6 ∧ ∀ t ∈ x.2.2.1, t.length ≤ 64) ∧ x.2.2.2.1 = o ∧ 0 ≤ x.1.2.1 ∧ x.1.2.1 ≤ (o.length : Int)) (fun x => o.length - x.1.2.1.toNat) _ (fun x hx => ?_) _ _ ⟨⟨rfl, rfl, hu.2⟩, ⟨h6, hm⟩, rfl, by simp, by simp⟩ (Nat.lt_of_le_of_lt (Nat.sub_le _ _) (Nat.lt_of_le_of_lt hd (by decide)))) fun x hx => ?_
  · obtain ⟨⟨lg, i, _⟩, ⟨b2, i2, hh, _⟩, Y, o', _⟩ := x
    obtain ⟨⟨q1, q2, q3⟩, ⟨q4, q5⟩, q6, q7, q8⟩ := hx
    simp only at q1 q2 q3 q4 q5 q6 q7 q8
    subst q1; subst q6
    have w : ∀ _ : i < (o'.length : Int), IntKind.i64.wrap (i + 1) = i + 1 := fun _ => wrap_id (by omega) (by omega)
    unfold f110_L0
    refine tot_ite (fun g1 => tot_ite (fun _ => ?_) fun _ => tot_ret ⟨⟨rfl, q2, q3⟩, q4, q5⟩) fun _ => tot_ret ⟨⟨rfl, q2, q3⟩, q4, q5⟩
    have g1 : i < ((o'.length : Nat) : Int) := of_decide_eq_true (by simpa using g1)
    refine tot_get (once_tot (by rw [q2]; exact hb') q3) fun v hv => tot_ite (fun _ => ?_) fun _ => tot_ret ⟨⟨⟨rfl, q2, hv⟩, ⟨q4, q5⟩, rfl, by simp only [w g1]; omega, by simp only [w g1]; omega⟩, by simp only [w g1]; omega⟩
    have hx : ∃ e, nth o' (Int.toNat i) = some e ∧ e ∈ o' := ⟨_, List.getElem?_eq_getElem (show i.toNat < o'.length by omega), List.getElem_mem _⟩
    refine tot_t (decide_eq_true ⟨q7, g1⟩) (tot_get hx fun e he => tot_t (decide_eq_true ⟨q7, g1⟩) (tot_get hx fun e2 he2 => ?_))
    have hre := hr e he
    refine tot_t (decide_eq_true (by rw [q4]; exact hre)) (tot_get (P := fun _ => True) ⟨_, List.getElem?_eq_getElem (show e.1.toNat < Y.length by omega), trivial⟩ fun _ _ => tot_ret ⟨⟨⟨rfl, q2, hv⟩, ⟨by simp only [List.length_set]; exact q4, ?_⟩, rfl, by simp only [w g1]; omega, by simp only [w g1]; omega⟩, by simp only [w g1]; omega⟩)
    intro t ht
    rcases List.mem_or_eq_of_mem_set ht with ht | ht
    · exact q5 t ht
    · subst ht; exact hdm e2 he2
  · obtain ⟨⟨p1, p2, p3⟩, p4, p5⟩ := hx
    have hlen : (x.2.2.1 ++ [x.1.1]).length = 7 := by rw [List.length_append, p4]; rfl
    have hall : ∀ t ∈ x.2.2.1 ++ [x.1.1], t.length ≤ 463 := fun t ht => by
      rcases List.mem_append.1 ht with ht | ht
      · have := p5 t ht; omega
      · rw [List.mem_singleton] at ht; subst ht; rw [p1]; exact hL
    rw [p2]
    generalize x.2.2.1 ++ [x.1.1] = Z at hlen hall ⊢
    refine tot_t (decide_eq_true (by rw [LIM_eq, p4]; simp)) (tot_get (once_tot hb' p3) fun v hv => tot_ite (fun _ => ?_) fun _ => ?_)
    · refine tot_get (below_tot hb' hv) fun s hs => ?_
      have k0 := hs.1.1
      have k1 := hs.1.2.1 (by omega)
      have hx : ∃ e, nth Z (Int.toNat s.1.1.1) = some e ∧ e ∈ Z := ⟨_, List.getElem?_eq_getElem (show Int.toNat s.1.1.1 < Z.length by omega), List.getElem_mem _⟩
      refine tot_t (decide_eq_true (by omega)) (tot_get hx fun e he => tot_get (spoil_tot hb' hs.2 (by have := hall e he; omega)) fun t ht => tot_t (decide_eq_true (by omega)) (tot_get hx fun _ _ => tot_get (once_tot hb' ht.2) fun r _ => tot_ite (fun _ => ?_) fun _ => tot_ret (by simp only [List.length_set]; omega)))
      exact tot_t (decide_eq_true (by rw [List.length_set]; omega)) (tot_ret (by simp only [List.length_take, List.length_drop, List.length_set]; omega))
    · exact tot_get (once_tot hb' hv) fun r _ => tot_ite (fun _ => tot_t (decide_eq_true (by omega)) (tot_ret (by simp only [List.length_take, List.length_drop]; omega))) fun _ => tot_ret (by simp only; omega)
theorem tot_iter {α β γ : Type} {f : α → Out (Round α β γ)} (I : α → Prop) (m : α → Nat) (O : β → Prop) (h : ∀ x, I x → TotV (f x).eval (RoundP (fun x' => I x' ∧ m x' < m x) O fun _ => False)) :
    ∀ (n : Nat) (x : α), I x → m x < n → ∃ y, iter f n x = some (.inl y) ∧ O y
  | 0, x, _, hn => absurd hn (Nat.not_lt_zero _)
  | n + 1, x, hx, hn => by
    obtain ⟨r, e, hr⟩ := h x hx
    cases r with
    | again x' => rw [iter_again e]; exact tot_iter I m O h n x' hr.1 (by have := hr.2; omega)
    | out y => exact ⟨y, iter_out' e (by omega), hr⟩
    | ret z => exact hr.elim
end Go.Proofs.Ytjcinikojcfebaa.Dm
