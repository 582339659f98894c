/- The data machine, part 28: a state read as one of a shape. -/
import Derived.Test.YtjcinikojcfebaaDm27
namespace Go.Proofs.Ytjcinikojcfebaa.Dm
open Go

theorem nodupB_iff' {l : List Nat} (h : nodupB l = true) : l.Nodup := by
  induction l with
  | nil => exact List.nodup_nil
  | cons a l ih =>
    simp only [nodupB, Bool.and_eq_true, Bool.not_eq_true', List.contains_eq_mem, decide_eq_false_iff_not] at h
    exact List.nodup_cons.2 ⟨h.1, ih h.2⟩

section
variable {c : Ctx} {μ : Nat → Loc} {m : List (Nat × Nat)}

/-- Where the shape's variables lie. -/
def reN (m : List (Nat × Nat)) (μ : Nat → Loc) (id : Nat) : Loc :=
  match lookN m id with
  | some k => μ k
  | none => μ id
theorem reN_of {id k : Nat} (h : lookN m id = some k) : reN m μ id = μ k := by simp [reN, h]

structure SlotsOk (c : Ctx) (μ : Nat → Loc) (m : List (Nat × Nat)) (l : List Slot) (q : List DVal) (ds : List DVal) : Prop where
  rel : ∀ vs, VsRel c μ vs q → VsRel c (reN m μ) vs ds
  ids : ∀ id ∈ DVal.idsL ds, ∃ k, lookN m id = some k
  cell : l.all Slot.isC = true → ds.all DVal.isCell = true
  len : ds.length = l.length
  len' : l.length = q.length

theorem SlotsOk.cons {x : Slot} {d d' : DVal} {l : List Slot} {q ds : List DVal} (h : SlotsOk c μ m l q ds) (hr : ∀ v, VRel c μ v d → VRel c (reN m μ) v d') (hi : ∀ id ∈ d'.ids, ∃ k, lookN m id = some k) (hc : x.isC = true → d'.isCell = true) :
    SlotsOk c μ m (x :: l) (d :: q) (d' :: ds) where
  rel vs hv := by
    simp only [VsRel] at hv ⊢
    obtain ⟨v, vs', e, h1, h2⟩ := hv
    exact ⟨v, vs', e, hr v h1, h.rel vs' h2⟩
  ids id hid := by
    simp only [DVal.idsL, List.mem_append] at hid
    rcases hid with hid | hid
    · exact hi id hid
    · exact h.ids id hid
  cell hc' := by
    simp only [List.all_cons, Bool.and_eq_true] at hc' ⊢
    exact ⟨hc hc'.1, h.cell hc'.2⟩
  len := by simp [h.len]
  len' := by simp [h.len']

structure SlotOk (c : Ctx) (μ : Nat → Loc) (m : List (Nat × Nat)) (x : Slot) (d d' : DVal) : Prop where
  rel : ∀ v, VRel c μ v d → VRel c (reN m μ) v d'
  ids : ∀ id ∈ d'.ids, ∃ k, lookN m id = some k
  cell : x.isC = true → d'.isCell = true

theorem capsX_ok : ∀ (ids : List Nat) (caps : List DVal), capsX m ids caps = true →
    (∀ vs, VsRel c μ vs caps → VsRel c (reN m μ) vs (ids.map fun id => .vptr id 0)) ∧ ∀ i ∈ DVal.idsL (ids.map fun id => .vptr id 0), ∃ k, lookN m i = some k
  | [], [], _ => ⟨fun vs h => h, by simp [DVal.idsL]⟩
  | [], _ :: _, h => by simp [capsX] at h
  | a :: r, [], h => by simp [capsX] at h
  | a :: r, d :: q, h => by
    cases d <;> try (cases h; done)
    rename_i b o
    cases o with
    | succ o => cases h
    | zero =>
      simp only [capsX, Bool.and_eq_true, decide_eq_true_eq] at h
      obtain ⟨h1, h2⟩ := capsX_ok r q h.2
      refine ⟨fun vs hv => ?_, fun i hi => ?_⟩
      · simp only [List.map_cons, VsRel] at hv ⊢
        obtain ⟨v, vs', e, hv, hr⟩ := hv
        refine ⟨v, vs', e, ?_, h1 _ hr⟩
        simp only [VRel] at hv ⊢
        rw [reN_of h.1]; exact hv
      · simp only [List.map_cons, DVal.idsL, DVal.ids, List.mem_append, List.mem_singleton] at hi
        rcases hi with rfl | hi
        · exact ⟨_, h.1⟩
        · exact h2 i hi

theorem slotX_ok {T : Type} (x : Slot) (d : DVal) (f : T → slotC x T) (h : slotX m T x d = some f) (y : T) : (slotE T x (f y)).2 = y ∧ SlotOk c μ m x d (slotE T x (f y)).1 := by
  cases x with
  | dead =>
    obtain rfl := Option.some.inj (show some (fun y => y) = some f from h)
    exact ⟨rfl, fun v _ => trivial, fun id hi => (by cases hi), fun h => (by cases h)⟩
  | deadc =>
    replace h : (if d.isCell = true then some fun y => y else none) = some f := h
    split at h
    · rename_i hc
      obtain rfl := Option.some.inj h
      exact ⟨rfl, fun v hv => hv.oneCell hc, fun id hi => (by cases hi), fun _ => rfl⟩
    · cases h
  | b =>
    cases d <;> try (cases h; done)
    obtain rfl := Option.some.inj h
    exact ⟨rfl, fun v hv => hv, fun id hi => (by cases hi), fun _ => rfl⟩
  | i k =>
    cases d <;> try (cases h; done)
    rename_i k' x'
    replace h : (if k = k' then some fun y => (x', y) else none) = some f := h
    split at h
    · rename_i e; subst e
      obtain rfl := Option.some.inj h
      exact ⟨rfl, fun v hv => hv, fun id hi => (by cases hi), fun _ => rfl⟩
    · cases h
  | s =>
    cases d <;> try (cases h; done)
    obtain rfl := Option.some.inj h
    exact ⟨rfl, fun v hv => hv, fun id hi => (by cases hi), fun _ => rfl⟩
  | ro e tk =>
    cases d <;> try (cases h; done)
    rename_i e' xs tk'
    replace h : (if tk = none ∨ tk = tk' then (Ty.cast (.sl e') (.sl e) xs).map fun x y => (x, y) else none) = some f := h
    split at h
    · rename_i htk
      obtain ⟨x, hx, rfl⟩ := Option.map_eq_some_iff.1 h
      obtain ⟨he, hxe⟩ := cast_sl hx
      clear hx h
      subst he
      subst hxe
      refine ⟨rfl, fun v hv => ?_, fun id hi => (by cases hi), fun _ => rfl⟩
      show VRel c (reN m μ) v (.ro e' _ tk)
      simp only [VRel] at hv ⊢
      refine ⟨hv.1, fun k hk => ?_⟩
      rcases htk with e | e
      · rw [e] at hk; cases hk
      · exact hv.2 k (e ▸ hk)
    · cases h
  | srf id =>
    cases d <;> try (cases h; done)
    rename_i id' vw
    cases vw with
    | some _ => cases h
    | none =>
      replace h : (if lookN m id = some id' then some fun y => y else none) = some f := h
      split at h
      · rename_i hm
        obtain rfl := Option.some.inj h
        refine ⟨rfl, fun v hv => ?_, fun i hi => ?_, fun _ => rfl⟩
        · show VRel c (reN m μ) v (.sref id none)
          simp only [VRel] at hv ⊢; rw [reN_of hm]; exact hv
        · have hi : i ∈ [id] := hi
          simp only [List.mem_singleton] at hi; subst hi; exact ⟨_, hm⟩
      · cases h
  | vptr id off =>
    cases d <;> try (cases h; done)
    rename_i id' off'
    replace h : (if lookN m id = some id' ∧ off = off' then some fun y => y else none) = some f := h
    split at h
    · rename_i hm
      obtain ⟨hm, rfl⟩ := hm
      obtain rfl := Option.some.inj h
      refine ⟨rfl, fun v hv => ?_, fun i hi => ?_, fun _ => rfl⟩
      · show VRel c (reN m μ) v (.vptr id off)
        simp only [VRel] at hv ⊢; rw [reN_of hm]; exact hv
      · have hi : i ∈ [id] := hi
        simp only [List.mem_singleton] at hi; subst hi; exact ⟨_, hm⟩
    · cases h
  | eptr id off =>
    cases d <;> try (cases h; done)
    rename_i id' x' off'
    replace h : (if lookN m id = some id' ∧ off = off' then some fun y => (x', y) else none) = some f := h
    split at h
    · rename_i hm
      obtain ⟨hm, rfl⟩ := hm
      obtain rfl := Option.some.inj h
      refine ⟨rfl, fun v hv => ?_, fun i hi => ?_, fun _ => rfl⟩
      · show VRel c (reN m μ) v (.eptr id x' off)
        simp only [VRel] at hv ⊢; rw [reN_of hm]; exact hv
      · have hi : i ∈ [id] := hi
        simp only [List.mem_singleton] at hi; subst hi; exact ⟨_, hm⟩
    · cases h
  | fn f0 ids =>
    cases d <;> try (cases h; done)
    rename_i f' caps
    replace h : (if f0 = f' ∧ capsX m ids caps = true then some fun y => y else none) = some f := h
    split at h
    · rename_i hc
      obtain ⟨rfl, hc⟩ := hc
      obtain rfl := Option.some.inj h
      obtain ⟨k1, k2⟩ := capsX_ok (c := c) (μ := μ) ids caps hc
      refine ⟨rfl, fun v hv => ?_, fun i hi => k2 i hi, fun _ => rfl⟩
      show VRel c (reN m μ) v (.fn f0 _)
      simp only [VRel] at hv ⊢
      obtain ⟨vs, e, hv⟩ := hv
      exact ⟨vs, e, k1 _ hv⟩
    · cases h
  | rop t off =>
    cases d <;> try (cases h; done)
    rename_i t' x' off'
    replace h : (if off = off' then (Ty.cast t' t x').map fun x y => (x, y) else none) = some f := h
    split at h
    · rename_i ho; subst ho
      obtain ⟨x, hx, rfl⟩ := Option.map_eq_some_iff.1 h
      obtain ⟨he, hxe⟩ := Ty.cast_some hx
      clear hx h
      subst he
      subst hxe
      exact ⟨rfl, fun v hv => hv, fun id hi => (by cases hi), fun _ => rfl⟩
    · cases h

theorem slotsX_ok : ∀ (l : List Slot) (q : List DVal) (y : slotsD l), slotsX m l q = some y → SlotsOk c μ m l q (slotsE l y)
  | [], [], y, _ => ⟨fun vs h => h, by simp [slotsE, DVal.idsL], by simp [slotsE], rfl, rfl⟩
  | [], _ :: _, y, h => by simp [slotsX] at h
  | x :: r, [], y, h => by simp [slotsX] at h
  | x :: r, d :: q, y, h => by
    simp only [slotsX] at h
    obtain ⟨f, hf, h⟩ := Option.bind_eq_some_iff.1 h
    obtain ⟨z, hz, rfl⟩ := Option.map_eq_some_iff.1 h
    obtain ⟨e, ok⟩ := slotX_ok (c := c) (μ := μ) x d f hf z
    have ih := slotsX_ok r q z hz
    show SlotsOk c μ m (x :: r) (d :: q) ((slotE (slotsD r) x (f z)).1 :: slotsE r (slotE (slotsD r) x (f z)).2)
    rw [e]
    exact ih.cons ok.rel ok.ids ok.cell
end

/-- The numbers that a shape's variable takes of a state. -/
def ent (m : List (Nat × Nat)) (v : List (Nat × DVar)) (id : Nat) : List Nat :=
  match lookN m id with
  | some k => k :: ((lookV v k).map focIds).getD []
  | none => []
theorem takenV_eq (m : List (Nat × Nat)) (v : List (Nat × DVar)) : ∀ V : List (Nat × VSlot), takenV m v V = V.flatMap fun x => ent m v x.1
  | [] => rfl
  | (id, x) :: r => by
    simp only [takenV, List.flatMap_cons, ent, takenV_eq m v r]
    split <;> simp_all
theorem ent_disj {m : List (Nat × Nat)} {v : List (Nat × DVar)} : ∀ {V : List (Nat × VSlot)}, (V.flatMap fun x => ent m v x.1).Nodup → ∀ {id id' : Nat}, id ∈ V.map (·.1) → id' ∈ V.map (·.1) → id ≠ id' → ∀ x ∈ ent m v id, x ∉ ent m v id'
  | [], _, id, _, h, _, _ => by simp at h
  | (i, y) :: r, hn, id, id', h, h', hne => by
    rw [List.flatMap_cons, List.nodup_append] at hn
    obtain ⟨_, h2, h3⟩ := hn
    have hin : ∀ {j : Nat}, j ∈ r.map (·.1) → ∀ x ∈ ent m v j, x ∈ r.flatMap fun x => ent m v x.1 := by
      intro j hj x hx
      obtain ⟨z, hz, rfl⟩ := List.mem_map.1 hj
      exact List.mem_flatMap.2 ⟨z, hz, hx⟩
    simp only [List.map_cons, List.mem_cons] at h h'
    intro x hx hx'
    rcases h with rfl | h
    · rcases h' with rfl | h'
      · exact hne rfl
      · exact h3 x hx x (hin h' x hx') rfl
    · rcases h' with rfl | h'
      · exact h3 x hx' x (hin h x hx) rfl
      · exact ent_disj h2 h h' hne x hx hx'

theorem lookV_mem {v : List (Nat × DVar)} {id : Nat} {x : DVar} (h : lookV v id = some x) : (id, x) ∈ v := by
  induction v with
  | nil => simp [lookV] at h
  | cons a v ih =>
    obtain ⟨k, y⟩ := a
    simp only [lookV] at h
    split at h
    · rename_i e; subst e; cases h; simp
    · simp [ih h]

section
variable {c : Ctx} {μ : Nat → Loc} {fp : Nat → List Nat} {m : List (Nat × Nat)} {v : List (Nat × DVar)} {w : World}

/-- What a variable of the shape stands for. -/
structure VOk (c : Ctx) (μ : Nat → Loc) (fp : Nat → List Nat) (m : List (Nat × Nat)) (v : List (Nat × DVar)) (w : World) (id : Nat) (f : List Nat) (x : DVar) : Prop where
  rel : VarRel c (reN m μ) w id f x
  perm : f.Perm ((ent m v id).flatMap fp)
  nodup : (ent m v id).Nodup
  there : ∀ k ∈ ent m v id, lookV v k ≠ none
  ids : ∀ i ∈ x.ids, ∃ k, lookN m i = some k

theorem whole_rel (hv : RelV c μ fp (lookV v) w) {k : Nat} {x0 : DVar} (hk : lookV v k = some x0) {e : Ty} {z : List e.D} (hz : wholeV v e x0 = some z) :
    ∃ a cap f, μ k = .hdr a z.length cap e.size ∧ (Ty.sl e).repO w [.slice a z.length cap] z f ∧ f.Perm ((k :: focIds x0).flatMap fp) ∧ (k :: focIds x0).Nodup ∧
      (∀ i ∈ k :: focIds x0, lookV v i ≠ none ∧ lookV v i ≠ none) ∧ (∀ b ∈ f, b < c.w0.heap.size → ∀ j, c.M b j) := by
  unfold wholeV at hz
  obtain ⟨⟨e', xs⟩, hu, hz⟩ := Option.bind_eq_some_iff.1 hz
  have hr := unfoc_rel hv (fun _ _ h => h) hk hu
  obtain ⟨he, hxe⟩ := cast_sl hz
  simp only at he
  clear hz hu
  subst he
  subst hxe
  exact hr

theorem vslotsX_ok (hv : RelV c μ fp (lookV v) w) : ∀ (V : List (Nat × VSlot)) (y : vslotsD V), vslotsX m v V = some y →
    ∃ F : Nat → List Nat, ∀ id x, lookV (vslotsE V y) id = some x → id ∈ V.map (·.1) ∧ VOk c μ fp m v w id (F id) x
  | [], _, _ => ⟨fun _ => [], fun id x hx => by simp [vslotsE, lookV] at hx⟩
  | (id0, .var cs) :: r, y, h => by
    simp only [vslotsX] at h
    split at h
    · rename_i ds hds
      obtain ⟨k, hk, hkv⟩ := Option.bind_eq_some_iff.1 hds
      split at h
      · rename_i hc
        obtain ⟨z, hz, h⟩ := Option.bind_eq_some_iff.1 h
        obtain ⟨y', hy', rfl⟩ := Option.map_eq_some_iff.1 h
        obtain ⟨F, hF⟩ := vslotsX_ok hv r y' hy'
        have ok := slotsX_ok (c := c) (μ := μ) cs ds z hz
        obtain ⟨B, o, C, E, e1, e2, e3, e4, e5, e6, e7⟩ := hv.rel k _ hkv
        have hle : (slotsE cs z).length = ds.length := ok.len.trans ok.len'
        refine ⟨fun id => if id = id0 then fp k else F id, fun id x hx => ?_⟩
        simp only [vslotsE, lookV] at hx
        by_cases e : id0 = id
        · subst e
          rw [if_pos rfl] at hx; cases hx
          refine ⟨by simp, ?_, ?_, ?_, ?_, ?_⟩
          · simp only [if_true]
            exact ⟨B, o, C, E, (reN_of hk).trans e1, e2, e3, by rw [hle]; exact e4, by rw [hle]; exact ok.rel _ e5, ok.cell hc, by rw [hle]; exact e7⟩
          · simp [ent, hk, hkv, focIds]
          · simp [ent, hk, hkv, focIds]
          · simp [ent, hk, hkv, focIds]
          · exact ok.ids
        · rw [if_neg e] at hx
          obtain ⟨q1, q2⟩ := hF id x hx
          simp only [if_neg (Ne.symm e)]
          exact ⟨by simp only [List.map_cons, List.mem_cons]; exact .inr q1, q2⟩
      · cases h
    · cases h
  | (id0, .arr e) :: r, y, h => by
    simp only [vslotsX] at h
    split at h
    · rename_i x0 hx0
      obtain ⟨k, hk, hkv⟩ := Option.bind_eq_some_iff.1 hx0
      obtain ⟨z, hz, h⟩ := Option.bind_eq_some_iff.1 h
      obtain ⟨y', hy', rfl⟩ := Option.map_eq_some_iff.1 h
      obtain ⟨F, hF⟩ := vslotsX_ok hv r y' hy'
      obtain ⟨ad, cap, f, g1, g2, g3, g4, g5, g6⟩ := whole_rel hv hkv hz
      have hent : ent m v id0 = k :: focIds x0 := by simp [ent, hk, hkv]
      refine ⟨fun id => if id = id0 then f else F id, fun id x hx => ?_⟩
      simp only [vslotsE, lookV] at hx
      by_cases e : id0 = id
      · subst e
        rw [if_pos rfl] at hx; cases hx
        refine ⟨by simp, ?_, ?_, ?_, ?_, ?_⟩
        · simp only [if_true]
          exact ⟨ad, cap, (reN_of hk).trans g1, g2, g6⟩
        · simp only [if_true]; rw [hent]; exact g3
        · rw [hent]; exact g4
        · rw [hent]; exact fun i hi => (g5 i hi).1
        · simp [DVar.ids]
      · rw [if_neg e] at hx
        obtain ⟨q1, q2⟩ := hF id x hx
        simp only [if_neg (Ne.symm e)]
        exact ⟨by simp only [List.map_cons, List.mem_cons]; exact .inr q1, q2⟩
    · cases h

theorem lookN_mem {m : List (Nat × Nat)} {a b : Nat} (h : lookN m a = some b) : ∃ x ∈ m, x.1 = a := by
  induction m with
  | nil => simp [lookN] at h
  | cons x m ih =>
    obtain ⟨p, q⟩ := x
    simp only [lookN] at h
    split at h
    · rename_i e; exact ⟨(p, q), by simp, e⟩
    · obtain ⟨x, hx, e⟩ := ih h; exact ⟨x, by simp [hx], e⟩

theorem lookN_mem2 {m : List (Nat × Nat)} {a b : Nat} (h : lookN m a = some b) : ∃ x ∈ m, x.1 = a ∧ x.2 = b := by
  induction m with
  | nil => simp [lookN] at h
  | cons x m ih =>
    obtain ⟨p, q⟩ := x
    simp only [lookN] at h
    split at h
    · rename_i e; exact ⟨(p, q), by simp, e, Option.some.inj h⟩
    · obtain ⟨x, hx, e⟩ := ih h; exact ⟨x, by simp [hx], e⟩

theorem dec_sound {n : Nat} {S : Shape} {s : DSt} {x : S.D} {a : Act} (h : DRel c n s a w) (hd : S.dec s = some x) : DRel c n (S.enc x) a w := by
  obtain ⟨⟨μ, fp, hx⟩, hk, hl⟩ := h
  unfold Shape.dec at hd
  simp only at hd
  generalize inferV s.v S.v (inferT S.t s.t) = m at hd
  split at hd
  case isFalse => cases hd
  rename_i hcond
  obtain ⟨c1, c2, c3⟩ := hcond
  obtain ⟨y, hy, hd⟩ := Option.bind_eq_some_iff.1 hd
  obtain ⟨z, hz, rfl⟩ := Option.map_eq_some_iff.1 hd
  have okT := slotsX_ok (c := c) (μ := μ) S.t s.t y hy
  have hvs : RelV c μ fp (lookV s.v) w := hx.vs
  obtain ⟨F, hF⟩ := vslotsX_ok hvs S.v z hz
  have hnd := nodupB_iff' c1
  rw [takenV_eq] at hnd
  have hkey : ∀ {id k : Nat}, lookN m id = some k → id / 64 ∈ 0 :: S.v.map (·.1 / 64) := by
    intro id k hm
    obtain ⟨p, hp, rfl⟩ := lookN_mem hm
    have := List.all_eq_true.1 c3 p hp
    simp only [Bool.and_eq_true] at this
    have : p.1 ∈ S.v.map (·.1) := by simpa using this.1
    obtain ⟨q, hq, e⟩ := List.mem_map.1 this
    exact List.mem_cons.2 (.inr (List.mem_map.2 ⟨q, hq, by rw [e]⟩))
  have hkey2 : ∀ {id : Nat}, id ∈ S.v.map (·.1) → id / 64 ∈ 0 :: S.v.map (·.1 / 64) := by
    intro id hi
    obtain ⟨q, hq, e⟩ := List.mem_map.1 hi
    exact List.mem_cons.2 (.inr (List.mem_map.2 ⟨q, hq, by rw [e]⟩))
  have hfix : ∀ id, id < 64 → reN m μ id = μ id := by
    intro id hi
    cases hm : lookN m id with
    | none => simp [reN, hm]
    | some k =>
      rw [reN_of hm]
      obtain ⟨p, hp, e1, e2⟩ := lookN_mem2 hm
      have := List.all_eq_true.1 c3 p hp
      simp only [Bool.and_eq_true, Bool.or_eq_true, decide_eq_true_eq, beq_iff_eq] at this
      rcases this.2 with h | h
      · omega
      · rw [← e2, ← h, e1]
  have hsub : ∀ id x, lookV (vslotsE S.v z) id = some x → ∀ b ∈ F id, ∃ k ∈ ent m s.v id, lookV s.v k ≠ none ∧ b ∈ fp k := by
    intro id x hx b hb
    obtain ⟨_, ok⟩ := hF id x hx
    obtain ⟨k, hk, hkb⟩ := List.mem_flatMap.1 (ok.perm.mem_iff.1 hb)
    exact ⟨k, hk, ok.there k hk, hkb⟩
  refine ⟨⟨reN m μ, F, ?_, ?_, hx.defers, ?_, ?_, hx.ev, fun id hi => ⟨?_, (hfix id hi).trans (hx.fix id hi).2⟩⟩, fun d b hf => ?_, ?_⟩
  · intro j
    have hrel : VsRel c μ ((List.range s.t.length).map fun j => a.tmps.getD j Go.undef) s.t := by
      refine VsRel.of_get (by simp) fun j d u hd hu => ?_
      have hj := (List.getElem?_eq_some_iff.1 hd).1
      rw [List.getElem?_map, List.getElem?_range hj, Option.map_some] at hu
      cases hu
      have := hx.tm j
      simp only [DSt.f, List.getD_eq_getElem?_getD, hd, Option.getD_some] at this
      exact this
    have h2 := okT.rel _ hrel
    show VRel c (reN m μ) _ ((slotsE S.t y).getD j .dead)
    rcases Nat.lt_or_ge j (slotsE S.t y).length with hj | hj
    · obtain ⟨u, hu, hv⟩ := h2.get (List.getElem?_eq_getElem hj)
      have hjs : j < s.t.length := by rw [← okT.len', ← okT.len]; exact hj
      rw [List.getElem?_map, List.getElem?_range hjs, Option.map_some] at hu
      cases hu
      rw [List.getD_eq_getElem?_getD, List.getElem?_eq_getElem hj]
      exact hv
    · rw [List.getD_eq_getElem?_getD, List.getElem?_eq_none hj]
      simp [VRel]
  · exact hx.n
  · refine ⟨fun id x hx => (hF id x hx).2.rel, fun id x hx => ?_, ?_, ?_, ?_⟩
    · have ok := (hF id x hx).2
      exact ok.perm.nodup_iff.2 (hvs.nodup_ids _ ok.nodup ok.there)
    · intro id id' hne hn hn' b hb hb'
      obtain ⟨x1, h1⟩ := Option.ne_none_iff_exists'.1 hn
      obtain ⟨x2, h2⟩ := Option.ne_none_iff_exists'.1 hn'
      obtain ⟨k1, q1, q2, q3⟩ := hsub id x1 h1 b hb
      obtain ⟨k2, r1, r2, r3⟩ := hsub id' x2 h2 b hb'
      have : k1 ≠ k2 := fun e => ent_disj hnd (hF id x1 h1).1 (hF id' x2 h2).1 hne k1 q1 (e ▸ r1)
      exact hvs.sep k1 k2 this q2 r2 b q3 r3
    · intro id hn b hb
      obtain ⟨x1, h1⟩ := Option.ne_none_iff_exists'.1 hn
      obtain ⟨k1, q1, q2, q3⟩ := hsub id x1 h1 b hb
      exact hvs.notS k1 q2 b q3
    · intro id hn b hb
      obtain ⟨x1, h1⟩ := Option.ne_none_iff_exists'.1 hn
      obtain ⟨k1, q1, q2, q3⟩ := hsub id x1 h1 b hb
      exact hvs.lt k1 q2 b q3
  · refine ⟨fun j id hi => ?_, fun id x hx => ?_⟩
    · have hi : id ∈ ((slotsE S.t y).getD j .dead).ids := hi
      rw [List.getD_eq_getElem?_getD] at hi
      cases hj : (slotsE S.t y)[j]? with
      | none => rw [hj] at hi; simp [DVal.ids] at hi
      | some d =>
        rw [hj] at hi
        obtain ⟨k, hk⟩ := okT.ids id (mem_idsL.2 ⟨d, List.mem_of_getElem? hj, hi⟩)
        exact hkey hk
    · obtain ⟨h1, ok⟩ := hF id x hx
      exact ⟨hkey2 h1, fun i hi => by obtain ⟨k, hk⟩ := ok.ids i hi; exact hkey hk⟩
  · show id / 64 ∈ 0 :: S.v.map (·.1 / 64)
    rw [Nat.div_eq_of_lt hi]; simp
  · simp [Shape.enc, findK] at hf
  · show (slotsE S.t y).length = n
    rw [okT.len, okT.len', hl]
end
end Go.Proofs.Ytjcinikojcfebaa.Dm
