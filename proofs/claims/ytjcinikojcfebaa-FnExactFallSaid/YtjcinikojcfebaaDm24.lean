/- The data machine, part 24: a region's run, as a run of operations. -/
import Derived.Test.YtjcinikojcfebaaDm23
namespace Go.Proofs.Ytjcinikojcfebaa.Dm
open Go

/-- What is known of tests is so. -/
def KnOk (s : DSt) : Prop := ∀ d b, findK s.kn d = some b → s.t.getD d .dead = .b b

theorem bind_eval {ρ σ : Type} {o : Out ρ} {f : ρ → Out σ} {r : σ} (h : (o.bind f).eval = some r) : ∃ x, o.eval = some x ∧ (f x).eval = some r := by
  rw [Out.eval_bind] at h
  exact Option.bind_eq_some_iff.1 h

theorem knOf_ev {s : DSt} (h : KnOk s) {x : Operand} {b : Bool} (hx : knOf s.kn x = some b) : evF s.f.t x = .b b := by
  unfold knOf at hx
  split at hx
  · cases hx; rfl
  · exact h _ _ hx
  · cases hx

theorem opK_eq {s : DSt} (h : KnOk s) (op : Op) : OpEq s.f.t op (opK s.kn op) := by
  unfold opK
  split
  · rename_i x y z
    split
    · rename_i e; exact .inr ⟨x, y, z, rfl, .inl ⟨knOf_ev h e, rfl⟩⟩
    · rename_i e; exact .inr ⟨x, y, z, rfl, .inr ⟨knOf_ev h e, rfl⟩⟩
    · exact .inl rfl
  · exact .inl rfl

theorem findK_append (a b : List (Nat × Bool)) (d : Nat) : findK (a ++ b) d = (findK a d).or (findK b d) := by
  induction a with
  | nil => simp [findK]
  | cons x a ih =>
    obtain ⟨j, y⟩ := x
    simp only [List.cons_append, findK]
    split
    · simp
    · exact ih
theorem findK_drop (kn : List (Nat × Bool)) (dst : Option Nat) (d : Nat) (b : Bool) (h : findK (dropK kn dst) d = some b) : dst ≠ some d ∧ findK kn d = some b := by
  cases dst with
  | none => exact ⟨by simp, h⟩
  | some e =>
    simp only [dropK] at h
    induction kn with
    | nil => simp [findK] at h
    | cons x kn ih =>
      obtain ⟨j, y⟩ := x
      simp only [List.filter_cons] at h
      split at h
      · rename_i hne
        simp only [findK] at h ⊢
        split at h
        · rename_i hj
          subst hj
          rw [if_pos rfl]
          exact ⟨fun he => by cases he; simp at hne, h⟩
        · rename_i hj
          rw [if_neg hj]
          exact ih h
      · rename_i hne
        have := ih h
        refine ⟨this.1, ?_⟩
        simp only [findK]
        rw [if_neg]
        · exact this.2
        · rintro rfl
          simp only [bne_iff_ne, ne_eq, Decidable.not_not] at hne
          exact this.1 (by simp [hne])

theorem getD_set {t : List DVal} {d j : Nat} {v x : DVal} (h : d < t.length) : (t.set d v).getD j x = if d = j then v else t.getD j x := by
  rw [List.getD_eq_getElem?_getD, List.getD_eq_getElem?_getD, List.getElem?_set]
  split
  · rename_i e; subst e; simp [h]
  · rfl
theorem setT_get {t : List DVal} {dst : Option Nat} (h : dstOk t dst = true) (v : DVal) (j : Nat) : (setT t dst v).getD j .dead = if dst = some j then v else t.getD j .dead := by
  cases dst with
  | none => simp [setT]
  | some d =>
    simp only [dstOk, decide_eq_true_eq] at h
    simp only [setT, getD_set h, Option.some.injEq]
theorem setT_length (t : List DVal) (dst : Option Nat) (v : DVal) : (setT t dst v).length = t.length := by cases dst <;> simp [setT]

theorem tids_known {s : FSt} (h : Known s) (op : Op) : ∀ id ∈ tids op s.t s.v, s.k id := by
  have step : ∀ l : List Nat, (∀ id ∈ l, s.k id) → ∀ id ∈ cl s.v l, s.k id := by
    intro l hl id hi
    simp only [cl, List.mem_append, List.mem_flatMap] at hi
    rcases hi with hi | ⟨k, hk, hi⟩
    · exact hl id hi
    · unfold varIds at hi
      split at hi
      · rename_i x hx
        exact (h.v k x hx).2 id hi
      · cases hi
  refine step _ (step _ (step _ ?_))
  intro id hi
  obtain ⟨x, _, hi⟩ := List.mem_flatMap.1 hi
  cases x with
  | tmp j => exact h.t j id hi
  | const v => simp only [evF, ofValue] at hi; split at hi <;> (try split at hi) <;> simp [DVal.ids] at hi
  | func f => simp [evF, DVal.ids, DVal.idsL] at hi
  | global g => simp [evF, DVal.ids] at hi

theorem okId_known {s : FSt} {l : Did} (hT : ∀ id ∈ l.T, s.k id) {id : Nat} (h : okId l.T l.g (makes l.g l.r.2) id = true) : (post l s).k id := by
  simp only [okId, Bool.or_eq_true, Bool.and_eq_true, beq_iff_eq] at h
  rcases h with h | h
  · exact .inl (hT id (by simpa using h))
  · exact .inr h

theorem updF_mem {v : Env} : ∀ {u : Upd} {id : Nat} {x : DVar}, updF v u id = some x → v id = some x ∨ (id, some x) ∈ u
  | [], _, _, h => .inl h
  | (k, y) :: u, id, x, h => by
    simp only [updF] at h
    rcases updF_mem h with h | h
    · by_cases e : id = k
      · subst e; rw [if_pos rfl] at h; exact .inr (by simp [h])
      · rw [if_neg e] at h; exact .inl h
    · exact .inr (by simp [h])

theorem Known.post {C : Cx} {n : Nat} {s : FSt} {l : Did} (h : Known s) (hp : Pre C n l s) : Known (post l s) := by
  have hr := hp.res
  simp only [okRes, Bool.and_eq_true, List.all_eq_true] at hr
  refine ⟨fun j id hi => ?_, fun id x hx => ?_⟩
  · have hi : id ∈ (if l.o.dst = some j then l.r.1 else s.t j).ids := hi
    split at hi
    · exact okId_known hp.known (hr.1 id hi)
    · exact .inl (h.t j id hi)
  · rcases updF_mem hx with hx | hx
    · exact ⟨.inl (h.v id x hx).1, fun id' hi => .inl ((h.v id x hx).2 id' hi)⟩
    · have := hr.2 _ hx
      simp only [okUpd, Bool.and_eq_true, List.all_eq_true] at this
      exact ⟨okId_known hp.known this.1, fun id' hi => okId_known hp.known (this.2 id' hi)⟩

/-- What is told of a guard. -/
def GdIs (ops : List Oper) (o : Oper) (gd : Option (Nat × Bool)) : Prop :=
  match o.guard with
  | none => gd = none
  | some (j, want) => ∃ d, (ops[j]?).bind (·.dst) = some d ∧ gd = some (d, want)
theorem GdIs.dst {ops : List Oper} {o : Oper} {gd : Option (Nat × Bool)} (h : GdIs ops o gd) : (gd.map (·.1)).toList = guardDst ops o.guard := by
  unfold GdIs at h
  unfold guardDst
  split at h
  · rename_i e; subst h; simp [e]
  · rename_i e; obtain ⟨d, h1, rfl⟩ := h; simp [e, h1]

/-- A step of the run. -/
structure OneStep (C : Cx) (ops : List Oper) (g i : Nat) (o : Oper) (s s' : DSt) (lg : Log) : Prop where
  ex : ∃ l : Did, Pre C s.t.length l s.f ∧ s'.f = post l s.f ∧ l.i = i ∧ l.g = g ∧ l.o = o ∧ GdIs ops o l.gd ∧ l.log = lg
  kn : KnOk s'
  len : s'.t.length = s.t.length

theorem stepL_one {C : Cx} {ops : List Oper} {g i : Nat} {o : Oper} {s s' : DSt} {lg : Log} {gd : Option (Nat × Bool)} (hk : KnOk s) (hn : Known s.f) (hgd : GdIs ops o gd) (hg : ∀ d want, gd = some (d, want) → s.f.t d = .b want)
    (h : (stepL C ops g i o s).eval = some (s', lg)) : OneStep C ops g i o s s' lg := by
  unfold stepL at h
  obtain ⟨r, hr, h⟩ := bind_eval h
  split at h
  case isFalse => cases h
  rename_i hc
  obtain ⟨hres, hfr, hdst⟩ := hc
  have h := Option.some.inj h
  obtain ⟨rfl, rfl⟩ := Prod.mk.inj h
  have hpre : Pre C s.t.length { i, g, o, op := opK s.kn o.op, gd, skip := false, T := tids (opK s.kn o.op) s.f.t s.f.v, r } s.f := by
    refine ⟨?_, ?_, fun e => (by cases e), fun _ => opK_eq hk o.op, fun _ => hr, hres, tids_known hn _, fun _ id hid hk' => ?_⟩
    · unfold GuardOk
      split
      · rfl
      · rename_i d want e; exact hg d want e
    · intro d hd
      simp only at hd
      simpa [dstOk, hd] using hdst
    · have : g ∈ s.k := by simpa [DSt.f, hid] using hk'
      simp [this] at hfr
  refine ⟨⟨_, hpre, ?_, rfl, rfl, rfl, hgd, ?_⟩, ?_, setT_length _ _ _⟩
  · simp only [DSt.f, post, FSt.mk.injEq]
    refine ⟨funext fun j => ?_, lookV_upd _ _, funext fun id => propext ?_⟩
    · exact setT_get hdst _ j
    · simp only [Did.mk']
      split
      · rename_i e; simp [e, or_comm]
      · rename_i e; simp [e]
  · simp only [Did.log, Bool.false_eq_true, if_false, hgd.dst, Did.mk']; rfl
  · intro d b hf
    simp only at hf ⊢
    rw [findK_append] at hf
    rw [setT_get hdst]
    cases hnew : findK (knNew s.kn o.dst (opK s.kn o.op)) d with
    | none =>
      rw [hnew] at hf
      obtain ⟨h1, h2⟩ := findK_drop _ _ _ _ hf
      rw [if_neg h1]
      exact hk d b h2
    | some b' =>
      rw [hnew] at hf
      have hf : b' = b := by simpa using hf
      subst hf
      have key : ∀ (x : Operand) (b0 : Bool), knOf s.kn x = some b0 → evF (fun j => s.t.getD j .dead) x = .b b0 := fun x b0 hx => knOf_ev hk hx
      unfold knNew at hnew
      split at hnew
      · rename_i x hop
        split at hnew
        · rename_i d' b0 hd1 hkx
          simp only [findK] at hnew
          split at hnew
          · rename_i e; subst e; cases hnew
            rw [if_pos hd1]
            rw [hop] at hr
            simp only [core, key x _ hkx, nilD] at hr
            rw [ret1_eval hr]
          · cases hnew
        · simp [findK] at hnew
      · rename_i x hop
        split at hnew
        · rename_i d' b0 hd1 hkx
          simp only [findK] at hnew
          split at hnew
          · rename_i e; subst e; cases hnew
            rw [if_pos hd1]
            rw [hop] at hr
            simp only [core, key x _ hkx, nilD] at hr
            rw [ret1_eval hr]
          · cases hnew
        · simp [findK] at hnew
      · rename_i x hop
        split at hnew
        · rename_i d' b0 hd1 hkx
          simp only [findK] at hnew
          split at hnew
          · rename_i e; subst e; cases hnew
            rw [if_pos hd1]
            rw [hop] at hr
            simp only [core, key x _ hkx, unD] at hr
            rw [ret1_eval hr]
          · cases hnew
        · simp [findK] at hnew
      · simp [findK] at hnew

theorem skipL_one {C : Cx} {ops : List Oper} {g i : Nat} {o : Oper} {s s' : DSt} {lg : Log} {gd : Option (Nat × Bool)} {d : Nat} {want : Bool} (hk : KnOk s) (hgd : GdIs ops o gd) (e : gd = some (d, want)) (hg : s.f.t d = .b (!want) ∨ s.f.t d = .undef)
    (h : (skipL ops g i o s).eval = some (s', lg)) : OneStep C ops g i o s s' lg := by
  unfold skipL at h
  split at h
  case isFalse => cases h
  rename_i hdst
  have h := Option.some.inj h
  obtain ⟨rfl, rfl⟩ := Prod.mk.inj h
  have hpre : Pre C s.t.length { i, g, o, op := o.op, gd, skip := true, T := [], r := (.undef, []) } s.f := by
    refine ⟨?_, ?_, fun _ => ⟨rfl, rfl⟩, fun e => (by cases e), fun e => (by cases e), by simp [okRes, DVal.ids], by simp, fun e => (by cases e)⟩
    · unfold GuardOk
      simp only [e]
      exact hg
    · intro d hd
      simp only at hd
      simpa [dstOk, hd] using hdst
  refine ⟨⟨_, hpre, ?_, rfl, rfl, rfl, hgd, ?_⟩, ?_, setT_length _ _ _⟩
  · simp only [DSt.f, post, FSt.mk.injEq]
    refine ⟨funext fun j => setT_get hdst _ j, rfl, funext fun id => propext ?_⟩
    simp [Did.mk', makes]
  · simp [Did.log, hgd.dst, Did.mk', makes]
  · intro d b hf
    simp only at hf ⊢
    obtain ⟨h1, h2⟩ := findK_drop _ _ _ _ hf
    rw [setT_get hdst, if_neg h1]
    exact hk d b h2
end Go.Proofs.Ytjcinikojcfebaa.Dm
