/- The data machine, part 26: a region, in every order that its edges allow. -/
import Derived.Test.YtjcinikojcfebaaDm25
namespace Go.Proofs.Ytjcinikojcfebaa.Dm
open Go

theorem bits_fold (l : List Nat) : ∀ (after : List Edge) (s0 x : Nat), (after.foldl (fun s e => if Region.binds .any e then s ||| 2 ^ e.on ||| l.getD e.on 0 else s) s0).testBit x = true →
    s0.testBit x = true ∨ ∃ e ∈ after, Region.binds .any e = true ∧ (x = e.on ∨ (l.getD e.on 0).testBit x = true)
  | [], s0, x, h => .inl h
  | e :: r, s0, x, h => by
    simp only [List.foldl_cons] at h
    rcases bits_fold l r _ x h with h | ⟨e', h1, h2⟩
    · split at h
      · rename_i hb
        simp only [Nat.testBit_or, Bool.or_eq_true] at h
        rcases h with (h | h) | h
        · exact .inl h
        · rw [Nat.testBit_two_pow] at h
          exact .inr ⟨e, by simp, hb, .inl (by have := of_decide_eq_true h; omega)⟩
        · exact .inr ⟨e, by simp, hb, .inr h⟩
      · exact .inl h
    · exact .inr ⟨e', by simp [h1], h2⟩
theorem bits_mem {l : List Nat} {after : List Edge} {x : Nat} (h : (bits l after).testBit x = true) : ∃ e ∈ after, Region.binds .any e = true ∧ (x = e.on ∨ (l.getD e.on 0).testBit x = true) := by
  rcases bits_fold l after 0 x h with h | h
  · simp at h
  · exact h

theorem befores_get : ∀ (r : List Oper) (acc : List Nat), (befores r acc).take acc.length = acc ∧
    ∀ (k : Nat) (o : Oper), r[k]? = some o → (befores r acc).getD (acc.length + k) 0 = bits ((befores r acc).take (acc.length + k)) o.after.toList
  | [], acc => by simp [befores]
  | o :: r, acc => by
    obtain ⟨h1, h2⟩ := befores_get r (acc ++ [bits acc o.after.toList])
    simp only [List.length_append, List.length_singleton] at h1 h2
    have ht : (befores (o :: r) acc).take acc.length = acc := by
      show (befores r (acc ++ [bits acc o.after.toList])).take acc.length = acc
      have : (befores r (acc ++ [bits acc o.after.toList])).take acc.length = ((befores r (acc ++ [bits acc o.after.toList])).take (acc.length + 1)).take acc.length := by
        rw [List.take_take, Nat.min_eq_left (by omega)]
      rw [this, h1]; simp
    refine ⟨ht, fun k o' hk => ?_⟩
    cases k with
    | zero =>
      simp only [List.getElem?_cons_zero, Option.some.injEq] at hk
      subst hk
      rw [Nat.add_zero, ht]
      show (befores r (acc ++ [bits acc o.after.toList])).getD acc.length 0 = _
      have : (befores r (acc ++ [bits acc o.after.toList]))[acc.length]? = ((befores r (acc ++ [bits acc o.after.toList])).take (acc.length + 1))[acc.length]? := by
        rw [List.getElem?_take_of_lt (by omega)]
      rw [List.getD_eq_getElem?_getD, this, h1]; simp
    | succ k =>
      have := h2 k o' (by simpa using hk)
      rw [show acc.length + (k + 1) = acc.length + 1 + k by omega]
      exact this

/-- What is done ahead of an operation: what its edges name, and what is done ahead of that. -/
theorem before_mem {ops : List Oper} {i : Nat} {o : Oper} (ho : ops[i]? = some o) {x : Nat} (h : ((befores ops []).getD i 0).testBit x = true) :
    ∃ e ∈ o.after.toList, Region.binds .any e = true ∧ (x = e.on ∨ (e.on < i ∧ ((befores ops []).getD e.on 0).testBit x = true)) := by
  have := (befores_get ops []).2 i o ho
  simp only [List.length_nil, Nat.zero_add] at this
  rw [this] at h
  obtain ⟨e, h1, h2, h3⟩ := bits_mem h
  refine ⟨e, h1, h2, h3.imp id fun h3 => ?_⟩
  rw [List.getD_eq_getElem?_getD, List.getElem?_take] at h3
  split at h3
  · rename_i hlt; exact ⟨hlt, by rw [List.getD_eq_getElem?_getD]; exact h3⟩
  · simp at h3

theorem back_get : ∀ (r : List Oper) (n : Nat), backB n r = true → ∀ (k : Nat) (o : Oper), r[k]? = some o → ∀ e ∈ o.after.toList, Region.binds .any e = true → e.on < n + k
  | [], _, _, k, o, hk => by simp at hk
  | o :: r, n, h, k, o', hk => by
    simp only [backB, Bool.and_eq_true, List.all_eq_true] at h
    cases k with
    | zero =>
      simp only [List.getElem?_cons_zero, Option.some.injEq] at hk
      subst hk
      intro e he hb
      have := h.1 e he
      simpa [hb] using this
    | succ k =>
      intro e he hb
      have := back_get r (n + 1) h.2 k o' (by simpa using hk) e he hb
      omega

theorem indepAll_pairs (B : List Nat) : ∀ (l : List Log), indepAll B l = true → l.Pairwise fun b a => (B.getD b.i 0).testBit a.i = true ∨ indep a b = true
  | [], _ => List.Pairwise.nil
  | b :: r, h => by
    simp only [indepAll, Bool.and_eq_true, List.all_eq_true, Bool.or_eq_true] at h
    exact List.Pairwise.cons (fun a ha => h.1 a ha) (indepAll_pairs B r h.2)

section
variable {c : Ctx} {n : Nat} {C : Cx}

/-- One behind the other. -/
theorem seq_sound (hC : CxOk C c.P) (hF : CallsOk C c.P) {ops : Array Oper} {Q : Exit → Act → World → Prop} {sf : FSt} (hQ : ∀ μ fp a w, RelX c μ fp sf n a w → Q .normal a w) :
    ∀ (L : List Did) (s : FSt) (μ : Nat → Loc) (fp : Nat → List Nat) (a : Act) (w : World), Seq C n L s sf → (∀ d ∈ L, ops[d.i]? = some d.o ∧ GdIs ops.toList d.o d.gd) → RelX c μ fp s n a w → wpOps c.P ops Q (L.map (·.i)) a w
  | [], s, μ, fp, a, w, hs, _, h => by
    simp only [Seq] at hs; subst hs
    exact hQ μ fp a w h
  | d :: L, s, μ, fp, a, w, hs, hL, h => by
    rw [List.map_cons, wpOps_cons]
    exact did_sound hC hF h hs.1 (hL d (by simp)).1 (hL d (by simp)).2 fun a' w' μ' fp' h' => seq_sound hC hF hQ L _ μ' fp' a' w' hs.2 (fun x hx => hL x (by simp [hx])) h'

theorem ready_mem {ops : Array Oper} {listed : Array Bool} {i : Nat} (h : i ∈ Region.ready .any ops listed) :
    i < ops.size ∧ listed.getD i true = false ∧ ∃ o, ops[i]? = some o ∧ ∀ e ∈ o.after.toList, Region.binds .any e = true → listed.getD e.on false = true := by
  unfold Region.ready at h
  simp only [List.mem_filter, List.mem_range, Bool.and_eq_true, Bool.not_eq_true'] at h
  obtain ⟨h1, h2, h3⟩ := h
  cases ho : ops[i]? with
  | none => rw [ho] at h3; simp at h3
  | some o =>
    rw [ho] at h3
    simp only [Option.map_some, Option.getD_some] at h3
    refine ⟨h1, h2, o, rfl, fun e he hb => ?_⟩
    have := Array.all_eq_true_iff_forall_mem.1 h3 e (by simpa using he)
    simpa [hb] using this
theorem ready_of {ops : Array Oper} {listed : Array Bool} {i : Nat} {o : Oper} (h1 : i < ops.size) (h2 : listed.getD i true = false) (ho : ops[i]? = some o) (h : ∀ e ∈ o.after.toList, Region.binds .any e = true → listed.getD e.on false = true) :
    i ∈ Region.ready .any ops listed := by
  unfold Region.ready
  simp only [List.mem_filter, List.mem_range, Bool.and_eq_true, Bool.not_eq_true']
  refine ⟨h1, h2, ?_⟩
  rw [ho]
  simp only [Option.map_some, Option.getD_some]
  refine Array.all_eq_true_iff_forall_mem.2 fun e he => ?_
  cases hb : Region.binds .any e with
  | false => rfl
  | true => simp [h e (by simpa using he) hb]

/-- What is still to be done, in an order of its own. -/
structure Left (C : Cx) (n : Nat) (ops : Array Oper) (base : Nat) (listed : Array Bool) (R : List Did) (s sf : FSt) : Prop where
  size : listed.size = ops.size
  left : ∀ i, i < ops.size → (listed.getD i true = false ↔ ∃ d ∈ R, d.i = i)
  sorted : R.Pairwise fun a b => a.i < b.i
  inv : ∀ j, j < ops.size → listed.getD j true = true → ∀ x, ((befores ops.toList []).getD j 0).testBit x = true → listed.getD x false = true
  indep : R.Pairwise fun a b => ((befores ops.toList []).getD b.i 0).testBit a.i = true ∨ indep a.log b.log = true
  all : ∀ d ∈ R, ops[d.i]? = some d.o ∧ GdIs ops.toList d.o d.gd ∧ d.g = base + d.i
  seq : Seq C n R s sf

theorem getD_same {l : Array Bool} {i : Nat} (h : i < l.size) : l.getD i false = l.getD i true := by simp [Array.getD, h]

theorem Left.done {ops : Array Oper} {base : Nat} {listed : Array Bool} {R : List Did} {s sf : FSt} (h : Left C n ops base listed R s sf) (hb : backB 0 ops.toList = true) (hr : Region.ready .any ops listed = []) : s = sf := by
  cases R with
  | nil => exact h.seq
  | cons d R =>
    exfalso
    obtain ⟨ho, _, _⟩ := h.all d (by simp)
    have hi : d.i < ops.size := (Array.getElem?_eq_some_iff.1 ho).1
    have : d.i ∈ Region.ready .any ops listed := by
      refine ready_of hi ((h.left d.i hi).2 ⟨d, by simp, rfl⟩) ho fun e he hbe => ?_
      have hlt := back_get ops.toList 0 hb d.i d.o (by simpa using ho) e he hbe
      rw [Nat.zero_add] at hlt
      rw [getD_same (by rw [h.size]; omega)]
      cases hl : listed.getD e.on true with
      | true => rfl
      | false =>
        obtain ⟨d', hd', e'⟩ := (h.left e.on (by omega)).1 hl
        rcases List.mem_cons.1 hd' with rfl | hd'
        · omega
        · have := List.rel_of_pairwise_cons h.sorted hd'
          omega
    rw [hr] at this
    simp at this

theorem any_sound (hC : CxOk C c.P) (hF : CallsOk C c.P) {ops : Array Oper} {base : Nat} {Q : Exit → Act → World → Prop} {sf : FSt} (hb : backB 0 ops.toList = true) (hQ : ∀ μ fp a w, RelX c μ fp sf n a w → Q .normal a w) :
    ∀ (fuel : Nat) (listed : Array Bool) (R : List Did) (s : FSt) (μ : Nat → Loc) (fp : Nat → List Nat) (a : Act) (w : World), R.length ≤ fuel → Left C n ops base listed R s sf → RelX c μ fp s n a w → wpAny c.P .any ops Q fuel listed a w
  | 0, listed, R, s, μ, fp, a, w, hl, h, hx => by
    obtain rfl : R = [] := List.eq_nil_of_length_eq_zero (by omega)
    have hr : Region.ready .any ops listed = [] := by
      cases hr : Region.ready .any ops listed with
      | nil => rfl
      | cons i r =>
        obtain ⟨h1, h2, _⟩ := ready_mem (i := i) (by rw [hr]; simp)
        obtain ⟨d, hd, _⟩ := (h.left i h1).1 h2
        simp at hd
    exact ⟨hr, by have := h.done hb hr; subst this; exact hQ μ fp a w hx⟩
  | fuel + 1, listed, R, s, μ, fp, a, w, hl, h, hx => by
    refine ⟨fun hr => by have := h.done hb hr; subst this; exact hQ μ fp a w hx, fun i hi => ?_⟩
    obtain ⟨h1, h2, o, ho, hedge⟩ := ready_mem hi
    obtain ⟨d, hd, rfl⟩ := (h.left i h1).1 h2
    obtain ⟨A, A', rfl⟩ := List.append_of_mem hd
    obtain ⟨hod, hgd, hgb⟩ := h.all d hd
    rw [hod] at ho; cases ho
    -- what is done ahead of it is listed
    have hbef : ∀ x, ((befores ops.toList []).getD d.i 0).testBit x = true → listed.getD x false = true := by
      intro x hxb
      obtain ⟨e, he, hbe, h3⟩ := before_mem (by simpa using hod) hxb
      have hle := hedge e he hbe
      rcases h3 with rfl | ⟨hlt, h3⟩
      · exact hle
      · exact h.inv e.on (by omega) (by rw [← getD_same (by rw [h.size]; omega)]; exact hle) x h3
    have hsort := List.pairwise_append.1 h.sorted
    have hind := List.pairwise_append.1 h.indep
    have hfirst : ∀ x ∈ A, Indep x d ∧ x.g ≠ d.g := by
      intro x hxA
      have hlt : x.i < d.i := hsort.2.2 x hxA d (by simp)
      refine ⟨?_, ?_⟩
      · rcases hind.2.2 x hxA d (by simp) with hb1 | hb1
        · exfalso
          have := hbef x.i hb1
          rw [getD_same (by rw [h.size]; omega), (h.left x.i (by omega)).2 ⟨x, by simp [hxA], rfl⟩] at this
          cases this
        · exact Indep.of hb1
      · rw [(h.all x (by simp [hxA])).2.2, hgb]; omega
    have hseq := h.seq.first hfirst
    refine did_sound hC hF hx hseq.1 hod hgd fun a' w' μ' fp' hx' => ?_
    have hsub : (A ++ A').Sublist (A ++ d :: A') := (List.sublist_cons_self d A').append_left A
    have hne : ∀ x ∈ A ++ A', x.i ≠ d.i := by
      intro x hxm
      rcases List.mem_append.1 hxm with hxm | hxm
      · have := hsort.2.2 x hxm d (by simp); omega
      · have := List.rel_of_pairwise_cons hsort.2.1 hxm; omega
    have hset : ∀ j dflt, j < ops.size → (listed.setIfInBounds d.i true).getD j dflt = if d.i = j then true else listed.getD j dflt := by
      intro j dflt hj
      have hjl : j < listed.size := by rw [h.size]; exact hj
      simp only [Array.getD_eq_getD_getElem?, Array.getElem?_setIfInBounds]
      by_cases e : d.i = j
      · rw [if_pos e, if_pos e, if_pos (by omega)]; rfl
      · rw [if_neg e, if_neg e]
    refine any_sound hC hF hb hQ fuel _ (A ++ A') _ μ' fp' a' w' (by simp at hl ⊢; omega) ⟨by simp [h.size], ?_, h.sorted.sublist hsub, ?_, h.indep.sublist hsub, fun x hxm => h.all x (hsub.subset hxm), hseq.2⟩ hx'
    · intro j hj
      rw [hset j true hj]
      by_cases e : d.i = j
      · rw [if_pos e]
        constructor
        · intro h; cases h
        · rintro ⟨x, hxm, rfl⟩; exact absurd e.symm (hne x hxm)
      · rw [if_neg e, h.left j hj]
        constructor
        · rintro ⟨x, hxm, rfl⟩
          refine ⟨x, ?_, rfl⟩
          simp only [List.mem_append, List.mem_cons] at hxm ⊢
          rcases hxm with hxm | rfl | hxm
          · exact .inl hxm
          · exact absurd rfl e
          · exact .inr hxm
        · rintro ⟨x, hxm, rfl⟩
          exact ⟨x, hsub.subset hxm, rfl⟩
    · intro j hj hlj x hxb
      have key : listed.getD x false = true := by
        rw [hset j true hj] at hlj
        by_cases e : d.i = j
        · subst e; exact hbef x hxb
        · rw [if_neg e] at hlj
          exact h.inv j hj hlj x hxb
      have hxs : x < ops.size := by
        rcases Nat.lt_or_ge x listed.size with hlt | hge
        · rw [h.size] at hlt; exact hlt
        · simp [Array.getD, Nat.not_lt.2 hge] at key
      rw [hset x false hxs]
      split
      · rfl
      · exact key
end
end Go.Proofs.Ytjcinikojcfebaa.Dm
