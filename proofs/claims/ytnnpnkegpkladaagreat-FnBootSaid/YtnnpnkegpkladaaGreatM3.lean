/- The data machine (a part). -/
import Derived.Test.YtnnpnkegpkladaaGreatM2
import Derived.Control
namespace Go.Proofs.YtnnpnkegpkladaaGreat.Dm
section
open Go
structure DRel (c : Ctx) (n : Nat) (s : DSt) (a : Act) (w : World) : Prop where
  ex : ∃ c' μ fp, Ext c c' ∧ RelX c' μ fp s.f n a w
  kn : KnOk s
  len : s.t.length = n
theorem RelX.drew {c : Ctx} {μ : Nat → Loc} {fp : Nat → List Nat} {s : FSt} {n : Nat} {a : Act} {w : World} (h : RelX c μ fp s n a w) : RelX c μ fp s n a { w with drawn := w.drawn + 1 } :=
  ⟨h.tm, h.n, h.defers, h.vs.frame (Nat.le_refl _) (fun _ _ _ _ => rfl) (fun _ _ _ => ⟨rfl, fun _ _ => rfl⟩), h.known, ⟨h.ev.size, h.ev.os, h.ev.output, h.ev.S, h.ev.old, h.ev.frozen⟩, h.fix⟩
theorem region_sound {c : Ctx} {n : Nat} {C : Cx} (hC : CxOk C c.P) (hF : CallsOk C c.P) {id : Nat} {ops : Array Oper} {draw : Bool} (hm : c.P.follows .mixedOrders = true) {s s' : DSt} {a : Act} {w : World} {Q : Exit → Act → World → Prop}
    (h : DRel c n s a w) (hr : (region C id ops.toList draw s).eval = some s') (hQ : ∀ a' w', DRel c n s' a' w' → Q .normal a' w') : (Code.region id ops draw).wp c.P Q a w := by
  unfold region at hr
  obtain ⟨⟨s1, lg⟩, h1, hr⟩ := bind_eval hr
  obtain ⟨⟨c1, μ, fp, he, hx⟩, hk, hl⟩ := h
  obtain ⟨L, q1, q2, q3, q4, q5, q6⟩ := regionL_seq _ _ _ _ _ h1 hk hx.known
  rw [hl] at q1
  split at hr
  · cases hr
  rename_i hc
  obtain rfl : s1 = s' := Option.some.inj hr
  have hget : ∀ (j : Nat) (d : Did), L[j]? = some d → d.i = j ∧ ops[j]? = some d.o := by
    intro j d hd
    have : (L.map fun d => (d.i, d.o))[j]? = some (d.i, d.o) := by rw [List.getElem?_map, hd]; rfl
    rw [q5, List.getElem?_map, List.getElem?_zipIdx] at this
    cases hj : ops.toList[j]? with
    | none => rw [hj] at this; simp at this
    | some o =>
      rw [hj] at this
      simp only [Option.map_some, Option.some.injEq, Prod.mk.injEq, Nat.zero_add] at this
      obtain ⟨e1, e2⟩ := this
      exact ⟨e1.symm, by rw [← e2]; simpa using hj⟩
  have hlen : L.length = ops.size := by have := congrArg List.length q5; simpa using this
  have hall : ∀ d ∈ L, ops[d.i]? = some d.o ∧ GdIs ops.toList d.o d.gd ∧ d.g = id * 256 + 1 + d.i := by
    intro d hd
    obtain ⟨j, hj⟩ := List.mem_iff_getElem?.1 hd
    obtain ⟨e1, e2⟩ := hget j d hj
    exact ⟨by rw [e1]; exact e2, (q6 d hd).2, (q6 d hd).1⟩
  have hfin : ∀ c' μ fp a w, Ext c c' → RelX c' μ fp s1.f n a w → Q .normal a w := fun c' μ fp a w e h => hQ a w ⟨⟨c', μ, fp, e, h⟩, q2, q3.trans hl⟩
  cases draw with
  | false =>
    refine wp_region ?_
    have hmap : L.map (·.i) = List.range ops.size := by
      apply List.ext_getElem?
      intro j
      rw [List.getElem?_map]
      cases hj : L[j]? with
      | none =>
        have : ops.size ≤ j := by rw [← hlen]; exact List.getElem?_eq_none_iff.1 hj
        simp [this]
      | some d =>
        have hjl := (List.getElem?_eq_some_iff.1 hj).1
        rw [Option.map_some, (hget j d hj).1, List.getElem?_range (by omega)]
    rw [← hmap]
    exact seq_sound hC hF rfl hfin L _ μ fp a w c1 he q1 (fun d hd => ⟨(hall d hd).1, (hall d hd).2.1⟩) hx
  | true =>
    simp only [true_and, not_or] at hc
    obtain ⟨hc1, hc2⟩ := hc
    have hc1 := boolTrue hc1
    have hc2 := boolTrue hc2
    refine wp_region_any hm ?_
    refine any_sound (base := id * 256 + 1) hC hF rfl hc2 hfin ops.size _ L _ μ fp a _ c1 he (by omega) ⟨by simp, ?_, ?_, ?_, ?_, hall, q1⟩ hx.drew
    · intro i hi
      constructor
      · intro _
        obtain ⟨d, hd⟩ : ∃ d, L[i]? = some d := ⟨L[i]'(by omega), List.getElem?_eq_getElem (by omega)⟩
        exact ⟨d, List.mem_of_getElem? hd, (hget i d hd).1⟩
      · intro _
        simp [Array.getD_eq_getD_getElem?, Array.getElem?_replicate, hi]
    · rw [List.pairwise_iff_getElem]
      intro i j hi hj hij
      rw [(hget i _ (List.getElem?_eq_getElem hi)).1, (hget j _ (List.getElem?_eq_getElem hj)).1]
      exact hij
    · intro j hj hl
      simp [Array.getD_eq_getD_getElem?, Array.getElem?_replicate, hj] at hl
    · have := indepAll_pairs _ _ hc1
      rw [q4, List.append_nil, List.pairwise_reverse, List.pairwise_map] at this
      exact this
end
section
open Go
variable {z : Fz}
theorem nodupB_iff' {l : List Nat} (h : nodupB l = true) : l.Nodup := by
  induction l with
  | nil => exact List.nodup_nil
  | cons a l ih =>
    simp only [nodupB, Bool.and_eq_true, Bool.not_eq_true', List.contains_eq_mem, decide_eq_false_iff_not] at h
    exact List.nodup_cons.2 ⟨h.1, ih h.2⟩
section
variable {c : Ctx} {μ : Nat → Loc} {m : List (Nat × Nat)}
def reN (m : List (Nat × Nat)) (μ : Nat → Loc) (id : Nat) : Loc :=
  match lookN m id with
  | some k => μ k
  | none => μ id
theorem reN_of {id k : Nat} (h : lookN m id = some k) : reN m μ id = μ k := by simp [reN, h]
structure SlotsOk (c : Ctx) (μ : Nat → Loc) (m : List (Nat × Nat)) (l : List Slot) (q : List DVal) (ds : List DVal) : Prop where
  rel : ∀ vs, VsRel c μ vs q → VsRel c (reN m μ) vs ds
  ids : ∀ id ∈ DVal.idsL ds, ∃ k, lookN m id = some k
  cell : l.all Slot.isC = true → ds.all DVal.isCell = true
  len : ds.length = l.length
  len' : l.length = q.length
theorem SlotsOk.cons {x : Slot} {d d' : DVal} {l : List Slot} {q ds : List DVal} (h : SlotsOk c μ m l q ds) (hr : ∀ v, VRel c μ v d → VRel c (reN m μ) v d') (hi : ∀ id ∈ d'.ids, ∃ k, lookN m id = some k) (hc : x.isC = true → d'.isCell = true) :
    SlotsOk c μ m (x :: l) (d :: q) (d' :: ds) where
  rel vs hv := by
    simp only [VsRel] at hv ⊢
    obtain ⟨v, vs', e, h1, h2⟩ := hv
    exact ⟨v, vs', e, hr v h1, h.rel vs' h2⟩
  ids id hid := by
    simp only [DVal.idsL, List.mem_append] at hid
    rcases hid with hid | hid
    · exact hi id hid
    · exact h.ids id hid
  cell hc' := by
    simp only [List.all_cons, Bool.and_eq_true] at hc' ⊢
    exact ⟨hc hc'.1, h.cell hc'.2⟩
  len := by simp [h.len]
  len' := by simp [h.len']
structure SlotOk (c : Ctx) (μ : Nat → Loc) (m : List (Nat × Nat)) (x : Slot) (d d' : DVal) : Prop where
  rel : ∀ v, VRel c μ v d → VRel c (reN m μ) v d'
  ids : ∀ id ∈ d'.ids, ∃ k, lookN m id = some k
  cell : x.isC = true → d'.isCell = true
theorem capsX_ok : ∀ (ids : List Nat) (caps : List DVal), capsX m ids caps = true →
    (∀ vs, VsRel c μ vs caps → VsRel c (reN m μ) vs (ids.map fun id => .vptr id 0)) ∧ ∀ i ∈ DVal.idsL (ids.map fun id => .vptr id 0), ∃ k, lookN m i = some k
  | [], [], _ => ⟨fun vs h => h, by simp [DVal.idsL]⟩
  | [], _ :: _, h => by simp [capsX] at h
  | a :: r, [], h => by simp [capsX] at h
  | a :: r, d :: q, h => by
    cases d <;> try (cases h; done)
    rename_i b o
    cases o with
    | succ o => cases h
    | zero =>
      simp only [capsX, Bool.and_eq_true, decide_eq_true_eq] at h
      obtain ⟨h1, h2⟩ := capsX_ok r q h.2
      refine ⟨fun vs hv => ?_, fun i hi => ?_⟩
      · simp only [List.map_cons, VsRel] at hv ⊢
        obtain ⟨v, vs', e, hv, hr⟩ := hv
        refine ⟨v, vs', e, ?_, h1 _ hr⟩
        simp only [VRel] at hv ⊢
        rw [reN_of h.1]; exact hv
      · simp only [List.map_cons, DVal.idsL, DVal.ids, List.mem_append, List.mem_singleton] at hi
        rcases hi with rfl | hi
        · exact ⟨_, h.1⟩
        · exact h2 i hi
theorem slotX_ok {T : Type} (x : Slot) (d : DVal) (f : T → slotC x T) (h : slotX m T x d = some f) (y : T) : (slotE T x (f y)).2 = y ∧ SlotOk c μ m x d (slotE T x (f y)).1 := by
  cases x with
  | keep =>
    obtain rfl := Option.some.inj (show some (fun y => y) = some f from h)
    exact ⟨rfl, fun v _ => trivial, fun id hi => (by cases hi), fun h => (by cases h)⟩
  | dead =>
    obtain rfl := Option.some.inj (show some (fun y => y) = some f from h)
    exact ⟨rfl, fun v _ => trivial, fun id hi => (by cases hi), fun h => (by cases h)⟩
  | deadc =>
    replace h : (if d.isCell = true then some fun y => y else none) = some f := h
    split at h
    · rename_i hc
      obtain rfl := Option.some.inj h
      exact ⟨rfl, fun v hv => hv.oneCell hc, fun id hi => (by cases hi), fun _ => rfl⟩
    · cases h
  | b =>
    cases d <;> try (cases h; done)
    obtain rfl := Option.some.inj h
    exact ⟨rfl, fun v hv => hv, fun id hi => (by cases hi), fun _ => rfl⟩
  | i k =>
    cases d <;> try (cases h; done)
    rename_i k' x'
    replace h : (if k = k' then some fun y => (x', y) else none) = some f := h
    split at h
    · rename_i e; subst e
      obtain rfl := Option.some.inj h
      exact ⟨rfl, fun v hv => hv, fun id hi => (by cases hi), fun _ => rfl⟩
    · cases h
  | s =>
    cases d <;> try (cases h; done)
    obtain rfl := Option.some.inj h
    exact ⟨rfl, fun v hv => hv, fun id hi => (by cases hi), fun _ => rfl⟩
  | ro e tk =>
    cases d <;> try (cases h; done)
    rename_i e' xs tk'
    replace h : (if tk = none ∨ tk = tk' then (Ty.cast (.sl e') (.sl e) xs).map fun x y => (x, y) else none) = some f := h
    split at h
    · rename_i htk
      obtain ⟨x, hx, rfl⟩ := Option.map_eq_some_iff.1 h
      obtain ⟨he, hxe⟩ := cast_sl hx
      clear hx h
      subst he
      subst hxe
      refine ⟨rfl, fun v hv => ?_, fun id hi => (by cases hi), fun _ => rfl⟩
      show VRel c (reN m μ) v (.ro e' _ tk)
      simp only [VRel] at hv ⊢
      refine ⟨hv.1, fun k hk => ?_⟩
      rcases htk with e | e
      · rw [e] at hk; cases hk
      · exact hv.2 k (e ▸ hk)
    · cases h
  | srf id =>
    cases d <;> try (cases h; done)
    rename_i id' vw
    cases vw with
    | some _ => cases h
    | none =>
      replace h : (if lookN m id = some id' then some fun y => y else none) = some f := h
      split at h
      · rename_i hm
        obtain rfl := Option.some.inj h
        refine ⟨rfl, fun v hv => ?_, fun i hi => ?_, fun _ => rfl⟩
        · show VRel c (reN m μ) v (.sref id none)
          simp only [VRel] at hv ⊢; rw [reN_of hm]; exact hv
        · have hi : i ∈ [id] := hi
          simp only [List.mem_singleton] at hi; subst hi; exact ⟨_, hm⟩
      · cases h
  | srv id =>
    cases d <;> try (cases h; done)
    rename_i id' vw
    cases vw with
    | none => cases h
    | some v =>
      replace h : (if lookN m id = some id' then some fun y => (v, y) else none) = some f := h
      split at h
      · rename_i hm
        obtain rfl := Option.some.inj h
        obtain ⟨vo, vl⟩ := v
        refine ⟨rfl, fun v hv => ?_, fun i hi => ?_, fun _ => rfl⟩
        · show VRel c (reN m μ) v (.sref id (some (vo, vl)))
          simp only [VRel] at hv ⊢; rw [reN_of hm]; exact hv
        · have hi : i ∈ [id] := hi
          simp only [List.mem_singleton] at hi; subst hi; exact ⟨_, hm⟩
      · cases h
  | vptr id off =>
    cases d <;> try (cases h; done)
    rename_i id' off'
    replace h : (if lookN m id = some id' ∧ off = off' then some fun y => y else none) = some f := h
    split at h
    · rename_i hm
      obtain ⟨hm, rfl⟩ := hm
      obtain rfl := Option.some.inj h
      refine ⟨rfl, fun v hv => ?_, fun i hi => ?_, fun _ => rfl⟩
      · show VRel c (reN m μ) v (.vptr id off)
        simp only [VRel] at hv ⊢; rw [reN_of hm]; exact hv
      · have hi : i ∈ [id] := hi
        simp only [List.mem_singleton] at hi; subst hi; exact ⟨_, hm⟩
    · cases h
  | eptr id off =>
    cases d <;> try (cases h; done)
    rename_i id' x' off'
    replace h : (if lookN m id = some id' ∧ off = off' then some fun y => (x', y) else none) = some f := h
    split at h
    · rename_i hm
      obtain ⟨hm, rfl⟩ := hm
      obtain rfl := Option.some.inj h
      refine ⟨rfl, fun v hv => ?_, fun i hi => ?_, fun _ => rfl⟩
      · show VRel c (reN m μ) v (.eptr id x' off)
        simp only [VRel] at hv ⊢; rw [reN_of hm]; exact hv
      · have hi : i ∈ [id] := hi
        simp only [List.mem_singleton] at hi; subst hi; exact ⟨_, hm⟩
    · cases h
  | fn f0 ids =>
    cases d <;> try (cases h; done)
    rename_i f' caps
    replace h : (if f0 = f' ∧ capsX m ids caps = true then some fun y => y else none) = some f := h
    split at h
    · rename_i hc
      obtain ⟨rfl, hc⟩ := hc
      obtain rfl := Option.some.inj h
      obtain ⟨k1, k2⟩ := capsX_ok (c := c) (μ := μ) ids caps hc
      refine ⟨rfl, fun v hv => ?_, fun i hi => k2 i hi, fun _ => rfl⟩
      show VRel c (reN m μ) v (.fn f0 _)
      simp only [VRel] at hv ⊢
      obtain ⟨vs, e, hv⟩ := hv
      exact ⟨vs, e, k1 _ hv⟩
    · cases h
  | rop t off =>
    cases d <;> try (cases h; done)
    rename_i t' x' off'
    replace h : (if off = off' then (Ty.cast t' t x').map fun x y => (x, y) else none) = some f := h
    split at h
    · rename_i ho; subst ho
      obtain ⟨x, hx, rfl⟩ := Option.map_eq_some_iff.1 h
      obtain ⟨he, hxe⟩ := Ty.cast_some hx
      clear hx h
      subst he
      subst hxe
      exact ⟨rfl, fun v hv => hv, fun id hi => (by cases hi), fun _ => rfl⟩
    · cases h
theorem slotsX_ok : ∀ (l : List Slot) (q : List DVal) (y : slotsD l), slotsX m l q = some y → SlotsOk c μ m l q (slotsE l y)
  | [], [], y, _ => ⟨fun vs h => h, by simp [slotsE, DVal.idsL], by simp [slotsE], rfl, rfl⟩
  | [], _ :: _, y, h => by simp [slotsX] at h
  | x :: r, [], y, h => by simp [slotsX] at h
  | x :: r, d :: q, y, h => by
    simp only [slotsX] at h
    obtain ⟨f, hf, h⟩ := Option.bind_eq_some_iff.1 h
    obtain ⟨z, hz, rfl⟩ := Option.map_eq_some_iff.1 h
    obtain ⟨e, ok⟩ := slotX_ok (c := c) (μ := μ) x d f hf z
    have ih := slotsX_ok r q z hz
    show SlotsOk c μ m (x :: r) (d :: q) ((slotE (slotsD r) x (f z)).1 :: slotsE r (slotE (slotsD r) x (f z)).2)
    rw [e]
    exact ih.cons ok.rel ok.ids ok.cell
end
def ent (m : List (Nat × Nat)) (v : List (Nat × DVar)) (id : Nat) : List Nat :=
  match lookN m id with
  | some k => k :: ((lookV v k).map focIds).getD []
  | none => []
theorem takenV_eq (m : List (Nat × Nat)) (v : List (Nat × DVar)) : ∀ V : List (Nat × VSlot), takenV m v V = V.flatMap fun x => ent m v x.1
  | [] => rfl
  | (id, x) :: r => by
    simp only [takenV, List.flatMap_cons, ent, takenV_eq m v r]
    split <;> simp_all
theorem ent_disj {m : List (Nat × Nat)} {v : List (Nat × DVar)} : ∀ {V : List (Nat × VSlot)}, (V.flatMap fun x => ent m v x.1).Nodup → ∀ {id id' : Nat}, id ∈ V.map (·.1) → id' ∈ V.map (·.1) → id ≠ id' → ∀ x ∈ ent m v id, x ∉ ent m v id'
  | [], _, id, _, h, _, _ => by simp at h
  | (i, y) :: r, hn, id, id', h, h', hne => by
    rw [List.flatMap_cons, List.nodup_append] at hn
    obtain ⟨_, h2, h3⟩ := hn
    have hin : ∀ {j : Nat}, j ∈ r.map (·.1) → ∀ x ∈ ent m v j, x ∈ r.flatMap fun x => ent m v x.1 := by
      intro j hj x hx
      obtain ⟨z, hz, rfl⟩ := List.mem_map.1 hj
      exact List.mem_flatMap.2 ⟨z, hz, hx⟩
    simp only [List.map_cons, List.mem_cons] at h h'
    intro x hx hx'
    rcases h with rfl | h
    · rcases h' with rfl | h'
      · exact hne rfl
      · exact h3 x hx x (hin h' x hx') rfl
    · rcases h' with rfl | h'
      · exact h3 x hx' x (hin h x hx) rfl
      · exact ent_disj h2 h h' hne x hx hx'
theorem lookV_mem {v : List (Nat × DVar)} {id : Nat} {x : DVar} (h : lookV v id = some x) : (id, x) ∈ v := by
  induction v with
  | nil => simp [lookV] at h
  | cons a v ih =>
    obtain ⟨k, y⟩ := a
    simp only [lookV] at h
    split at h
    · rename_i e; subst e; cases h; simp
    · simp [ih h]
section
variable {c : Ctx} {μ : Nat → Loc} {fp : Nat → List Nat} {m : List (Nat × Nat)} {v : List (Nat × DVar)} {w : World}
structure VOk (c : Ctx) (μ : Nat → Loc) (fp : Nat → List Nat) (m : List (Nat × Nat)) (v : List (Nat × DVar)) (w : World) (id : Nat) (f : List Nat) (x : DVar) : Prop where
  rel : VarRel c (reN m μ) w id f x
  perm : f.Perm ((ent m v id).flatMap fp)
  nodup : (ent m v id).Nodup
  there : ∀ k ∈ ent m v id, lookV v k ≠ none
  ids : ∀ i ∈ x.ids, ∃ k, lookN m i = some k
theorem whole_rel (hv : RelV c μ fp (lookV v) w) {k : Nat} {x0 : DVar} (hk : lookV v k = some x0) {e : Ty} {z : List e.D} (hz : wholeV v e x0 = some z) :
    ∃ a cap f, μ k = .hdr a z.length cap e.size ∧ (Ty.sl e).repO c.fz w [.slice a z.length cap] z f ∧ f.Perm ((k :: focIds x0).flatMap fp) ∧ (k :: focIds x0).Nodup ∧
      (∀ i ∈ k :: focIds x0, lookV v i ≠ none ∧ lookV v i ≠ none) ∧ (∀ b ∈ f, b < c.w0.heap.size → ∀ j, c.M b j) := by
  unfold wholeV at hz
  obtain ⟨⟨e', xs⟩, hu, hz⟩ := Option.bind_eq_some_iff.1 hz
  have hr := unfoc_rel hv (fun _ _ h => h) hk hu
  obtain ⟨he, hxe⟩ := cast_sl hz
  simp only at he
  clear hz hu
  subst he
  subst hxe
  exact hr
theorem vslotsX_ok (hv : RelV c μ fp (lookV v) w) : ∀ (V : List (Nat × VSlot)) (y : vslotsD V), vslotsX m v V = some y →
    ∃ F : Nat → List Nat, ∀ id x, lookV (vslotsE V y) id = some x → id ∈ V.map (·.1) ∧ VOk c μ fp m v w id (F id) x
  | [], _, _ => ⟨fun _ => [], fun id x hx => by simp [vslotsE, lookV] at hx⟩
  | (id0, .var cs) :: r, y, h => by
    simp only [vslotsX] at h
    split at h
    · rename_i ds hds
      obtain ⟨k, hk, hkv⟩ := Option.bind_eq_some_iff.1 hds
      split at h
      · rename_i hc
        obtain ⟨z, hz, h⟩ := Option.bind_eq_some_iff.1 h
        obtain ⟨y', hy', rfl⟩ := Option.map_eq_some_iff.1 h
        obtain ⟨F, hF⟩ := vslotsX_ok hv r y' hy'
        have ok := slotsX_ok (c := c) (μ := μ) cs ds z hz
        obtain ⟨B, o, C, E, e1, e2, e3, e4, e5, e6, e7⟩ := hv.rel k _ hkv
        have hle : (slotsE cs z).length = ds.length := ok.len.trans ok.len'
        refine ⟨fun id => if id = id0 then fp k else F id, fun id x hx => ?_⟩
        simp only [vslotsE, lookV] at hx
        by_cases e : id0 = id
        · subst e
          rw [if_pos rfl] at hx; cases hx
          refine ⟨by simp, ?_, ?_, ?_, ?_, ?_⟩
          · simp only [if_true]
            exact ⟨B, o, C, E, (reN_of hk).trans e1, e2, e3, by rw [hle]; exact e4, by rw [hle]; exact ok.rel _ e5, ok.cell hc, by rw [hle]; exact e7⟩
          · simp [ent, hk, hkv, focIds]
          · simp [ent, hk, hkv, focIds]
          · simp [ent, hk, hkv, focIds]
          · exact ok.ids
        · rw [if_neg e] at hx
          obtain ⟨q1, q2⟩ := hF id x hx
          simp only [if_neg (Ne.symm e)]
          exact ⟨by simp only [List.map_cons, List.mem_cons]; exact .inr q1, q2⟩
      · cases h
    · cases h
  | (id0, .arr e) :: r, y, h => by
    simp only [vslotsX] at h
    split at h
    · rename_i x0 hx0
      obtain ⟨k, hk, hkv⟩ := Option.bind_eq_some_iff.1 hx0
      obtain ⟨z, hz, h⟩ := Option.bind_eq_some_iff.1 h
      obtain ⟨y', hy', rfl⟩ := Option.map_eq_some_iff.1 h
      obtain ⟨F, hF⟩ := vslotsX_ok hv r y' hy'
      obtain ⟨ad, cap, f, g1, g2, g3, g4, g5, g6⟩ := whole_rel hv hkv hz
      have hent : ent m v id0 = k :: focIds x0 := by simp [ent, hk, hkv]
      refine ⟨fun id => if id = id0 then f else F id, fun id x hx => ?_⟩
      simp only [vslotsE, lookV] at hx
      by_cases e : id0 = id
      · subst e
        rw [if_pos rfl] at hx; cases hx
        refine ⟨by simp, ?_, ?_, ?_, ?_, ?_⟩
        · simp only [if_true]
          exact ⟨ad, cap, (reN_of hk).trans g1, g2, g6⟩
        · simp only [if_true]; rw [hent]; exact g3
        · rw [hent]; exact g4
        · rw [hent]; exact fun i hi => (g5 i hi).1
        · simp [DVar.ids]
      · rw [if_neg e] at hx
        obtain ⟨q1, q2⟩ := hF id x hx
        simp only [if_neg (Ne.symm e)]
        exact ⟨by simp only [List.map_cons, List.mem_cons]; exact .inr q1, q2⟩
    · cases h
  | (id0, .it) :: r, y, h => by
    simp only [vslotsX] at h
    split at h
    · rename_i t p ht
      obtain ⟨k, hk, hkv⟩ := Option.bind_eq_some_iff.1 ht
      obtain ⟨y', hy', rfl⟩ := Option.map_eq_some_iff.1 h
      obtain ⟨F, hF⟩ := vslotsX_ok hv r y' hy'
      obtain ⟨B, e1, e2, e3, e4, e5⟩ := hv.rel k _ hkv
      refine ⟨fun id => if id = id0 then fp k else F id, fun id x hx => ?_⟩
      simp only [vslotsE, lookV] at hx
      by_cases e : id0 = id
      · subst e
        rw [if_pos rfl] at hx; cases hx
        refine ⟨by simp, ?_, ?_, ?_, ?_, ?_⟩
        · simp only [if_true]
          exact ⟨B, (reN_of hk).trans e1, e2, e3, e4, e5⟩
        · simp [ent, hk, hkv, focIds]
        · simp [ent, hk, hkv, focIds]
        · simp [ent, hk, hkv, focIds]
        · simp [DVar.ids]
      · rw [if_neg e] at hx
        obtain ⟨q1, q2⟩ := hF id x hx
        simp only [if_neg (Ne.symm e)]
        exact ⟨by simp only [List.map_cons, List.mem_cons]; exact .inr q1, q2⟩
    · cases h
theorem lookN_mem {m : List (Nat × Nat)} {a b : Nat} (h : lookN m a = some b) : ∃ x ∈ m, x.1 = a := by
  induction m with
  | nil => simp [lookN] at h
  | cons x m ih =>
    obtain ⟨p, q⟩ := x
    simp only [lookN] at h
    split at h
    · rename_i e; exact ⟨(p, q), by simp, e⟩
    · obtain ⟨x, hx, e⟩ := ih h; exact ⟨x, by simp [hx], e⟩
theorem lookN_mem2 {m : List (Nat × Nat)} {a b : Nat} (h : lookN m a = some b) : ∃ x ∈ m, x.1 = a ∧ x.2 = b := by
  induction m with
  | nil => simp [lookN] at h
  | cons x m ih =>
    obtain ⟨p, q⟩ := x
    simp only [lookN] at h
    split at h
    · rename_i e; exact ⟨(p, q), by simp, e, Option.some.inj h⟩
    · obtain ⟨x, hx, e⟩ := ih h; exact ⟨x, by simp [hx], e⟩
theorem RelV.part {μ : Nat → Loc} {fp : Nat → List Nat} {v v' : Env} (h : RelV c μ fp v w) (hv : ∀ id x, v' id = some x → v id = some x) : RelV c μ fp v' w where
  rel id x hx := h.rel id x (hv id x hx)
  nodup id x hx := h.nodup id x (hv id x hx)
  sep id id' hne hn hn' := by
    obtain ⟨x, hx⟩ := Option.ne_none_iff_exists'.1 hn
    obtain ⟨y, hy⟩ := Option.ne_none_iff_exists'.1 hn'
    exact h.sep id id' hne (by rw [hv id x hx]; simp) (by rw [hv id' y hy]; simp)
  notS id hn := by
    obtain ⟨x, hx⟩ := Option.ne_none_iff_exists'.1 hn
    exact h.notS id (by rw [hv id x hx]; simp)
  lt id hn := by
    obtain ⟨x, hx⟩ := Option.ne_none_iff_exists'.1 hn
    exact h.lt id (by rw [hv id x hx]; simp)
theorem slotsK_get : ∀ (l : List Slot) (ts es : List DVal), es.length = l.length → ts.length = l.length → ∀ j, (slotsK l ts es).getD j .dead = bif keepAt l j then ts.getD j .dead else es.getD j .dead
  | [], ts, es, h, _, j => by simp [slotsK, keepAt]
  | x :: l, [], es, _, h', j => by simp at h'
  | x :: l, t :: ts, [], h, _, j => by simp at h
  | x :: l, t :: ts, e :: es, h, h', j => by
    have ih := slotsK_get l ts es (by simpa using h) (by simpa using h')
    cases j with
    | zero => simp [slotsK, keepAt]
    | succ j => simpa [slotsK, keepAt] using ih j
theorem slotsK_len : ∀ (l : List Slot) (ts es : List DVal), es.length = l.length → ts.length = l.length → (slotsK l ts es).length = l.length
  | [], ts, es, h, _ => by simpa [slotsK] using h
  | x :: l, [], es, _, h' => by simp at h'
  | x :: l, t :: ts, [], h, _ => by simp at h
  | x :: l, t :: ts, e :: es, h, h' => by
    have ih := slotsK_len l ts es (by simpa using h) (by simpa using h')
    simpa [slotsK] using ih
theorem keepIds_mem : ∀ (l : List Slot) (ts : List DVal) (j : Nat), keepAt l j = true → ∀ id ∈ (ts.getD j .dead).ids, id ∈ keepIds l ts
  | [], _, _, h, _, _ => by simp [keepAt] at h
  | x :: l, [], j, h, id, hi => by simp [DVal.ids] at hi
  | x :: l, t :: ts, 0, h, id, hi => by
    simp only [keepAt] at h
    simp only [keepIds, List.mem_append, h, cond_true]
    exact .inl (by simpa using hi)
  | x :: l, t :: ts, j + 1, h, id, hi => by
    have ih := keepIds_mem l ts j (by simpa [keepAt] using h) id (by simpa using hi)
    simp only [keepIds, List.mem_append]
    exact .inr ih
theorem dec_dis {S : Shape} {W : List (Nat × DVar)} {s : DSt} {x : S.D} (hd : S.dec W s = some x) {id : Nat} {z : DVar} (h : lookV s.w id = some z) : lookV s.v id = none := by
  unfold Shape.dec at hd
  simp only at hd
  split at hd
  case isFalse => cases hd
  rename_i hcond
  have h1 := List.all_eq_true.1 hcond.2.2.2.2.2.2 _ (lookV_mem h)
  exact lookV_key (by simpa using h1)
theorem dec_sound {n : Nat} {S : Shape} {s : DSt} {W : List (Nat × DVar)} {K : List Nat} {ts : List DVal} {x : S.D} {a : Act} (h : DRel c n s a w) (hd : S.dec W s = some x)
    (hW : ∀ id z, lookV W id = some z → s.env id = some z ∧ (id ∉ takenV (S.map s) s.v S.v ∨ lookV s.v id = none)) (hK : ∀ id z, lookV W id = some z → id / 64 ∈ K ∧ ∀ id' ∈ z.ids, id' / 64 ∈ 0 :: K) (hts : ts.length = n)
    (hkeep : ∀ j, keepAt S.t j = true → s.t.getD j .dead = ts.getD j .dead ∧ ∀ id ∈ (ts.getD j .dead).ids, id / 64 ∈ 0 :: K) : DRel c n (S.enc ts W K x) a w := by
  obtain ⟨⟨cx, μ, fp, he, hx⟩, hk, hl⟩ := h
  unfold Shape.dec at hd
  simp only at hd
  generalize S.map s = m at hd hW
  split at hd
  case isFalse => cases hd
  rename_i hcond
  obtain ⟨c1, c2, c3, c4, c5, c6, c7⟩ := hcond
  obtain ⟨y, hy, hd⟩ := Option.bind_eq_some_iff.1 hd
  obtain ⟨z, hz, rfl⟩ := Option.map_eq_some_iff.1 hd
  have okT := slotsX_ok (c := cx) (μ := μ) S.t s.t y hy
  have hva : RelV cx μ fp s.env w := hx.vs
  have hvv : ∀ id x, lookV s.v id = some x → s.env id = some x := fun id x h => env_of_v h
  have hvs : RelV cx μ fp (lookV s.v) w := hva.part hvv
  obtain ⟨F, hF⟩ := vslotsX_ok hvs S.v z hz
  have hnd := nodupB_iff' c1
  have htk : ∀ {id k}, id ∈ S.v.map (·.1) → k ∈ ent m s.v id → k ∈ takenV m s.v S.v := by
    intro id k hid hk
    rw [takenV_eq]
    obtain ⟨q, hq, rfl⟩ := List.mem_map.1 hid
    exact List.mem_flatMap.2 ⟨q, hq, hk⟩
  rw [takenV_eq] at hnd
  have hgrp : ∀ {id : Nat}, id ∈ S.v.map (·.1) → id / 64 ∈ 0 :: (S.v.map (·.1 / 64) ++ K) := by
    intro id hi
    obtain ⟨q, hq, e⟩ := List.mem_map.1 hi
    exact List.mem_cons.2 (.inr (List.mem_append.2 (.inl (List.mem_map.2 ⟨q, hq, by rw [e]⟩))))
  have hgK : ∀ {g : Nat}, g ∈ 0 :: K → g ∈ 0 :: (S.v.map (·.1 / 64) ++ K) := by
    intro g hg
    rcases List.mem_cons.1 hg with e | e
    · exact List.mem_cons.2 (.inl e)
    · exact List.mem_cons.2 (.inr (List.mem_append.2 (.inr e)))
  have hmem : ∀ {id k : Nat}, lookN m id = some k → id ∈ S.v.map (·.1) := by
    intro id k hm
    obtain ⟨p, hp, rfl⟩ := lookN_mem hm
    have := List.all_eq_true.1 c3 p hp
    simp only [Bool.and_eq_true] at this
    simpa using this.1
  have hkey : ∀ {id k : Nat}, lookN m id = some k → id / 64 ∈ 0 :: (S.v.map (·.1 / 64) ++ K) := fun hm => hgrp (hmem hm)
  have hout : ∀ {id : Nat}, id ∉ S.v.map (·.1) → reN m μ id = μ id := by
    intro id hi
    cases hm : lookN m id with
    | none => simp [reN, hm]
    | some k => exact absurd (hmem hm) hi
  have hWS : ∀ x ∈ W, x.1 ∉ S.v.map (·.1) ∧ ∀ id ∈ x.2.ids, id ∉ S.v.map (·.1) := by
    intro x hxW
    refine ⟨fun hi => ?_, fun id hid hi => ?_⟩
    · obtain ⟨q, hq, e⟩ := List.mem_map.1 hi
      have := List.all_eq_true.1 c4 q hq
      simp only [Bool.not_eq_true', List.contains_eq_mem, decide_eq_false_iff_not] at this
      exact this (e ▸ List.mem_map.2 ⟨x, hxW, rfl⟩)
    · have h1 := List.all_eq_true.1 c5 x hxW
      have h2 := List.all_eq_true.1 h1 id hid
      simp only [Bool.not_eq_true', List.contains_eq_mem, decide_eq_false_iff_not] at h2
      exact h2 hi
  have hkS : ∀ j, keepAt S.t j = true → ∀ id ∈ (s.t.getD j .dead).ids, id ∉ S.v.map (·.1) := by
    intro j hj id hid hi
    have h2 := List.all_eq_true.1 c6 id (keepIds_mem S.t s.t j hj id hid)
    simp only [Bool.not_eq_true', List.contains_eq_mem, decide_eq_false_iff_not] at h2
    exact h2 hi
  have hfix : ∀ id, id < 64 → reN m μ id = μ id := by
    intro id hi
    cases hm : lookN m id with
    | none => simp [reN, hm]
    | some k =>
      rw [reN_of hm]
      obtain ⟨p, hp, e1, e2⟩ := lookN_mem2 hm
      have := List.all_eq_true.1 c3 p hp
      simp only [Bool.and_eq_true, Bool.or_eq_true, decide_eq_true_eq, beq_iff_eq] at this
      rcases this.2 with h | h
      · omega
      · rw [← e2, ← h, e1]
  have hsub : ∀ id x, lookV (vslotsE S.v z) id = some x → ∀ b ∈ F id, ∃ k ∈ ent m s.v id, lookV s.v k ≠ none ∧ b ∈ fp k := by
    intro id x hx b hb
    obtain ⟨_, ok⟩ := hF id x hx
    obtain ⟨k, hk, hkb⟩ := List.mem_flatMap.1 (ok.perm.mem_iff.1 hb)
    exact ⟨k, hk, ok.there k hk, hkb⟩
  have hlen : (slotsE S.t y).length = S.t.length := okT.len
  have hlen2 : ts.length = S.t.length := by rw [hts, ← hl, ← okT.len']
  have hsplit : ∀ {id x}, lookV (vslotsE S.v z ++ W) id = some x → lookV (vslotsE S.v z) id = some x ∨ (lookV (vslotsE S.v z) id = none ∧ lookV W id = some x) := by
    intro id x hx
    rw [lookV_append] at hx
    cases e : lookV (vslotsE S.v z) id with
    | none => rw [e] at hx; exact .inr ⟨rfl, hx⟩
    | some q => rw [e] at hx; exact .inl hx
  let G : Nat → List Nat := fun id => if lookV (vslotsE S.v z) id = none then fp id else F id
  have hG1 : ∀ {id x}, lookV (vslotsE S.v z) id = some x → G id = F id := fun {id x} h => if_neg (by rw [h]; simp)
  have hG2 : ∀ {id}, lookV (vslotsE S.v z) id = none → G id = fp id := fun h => if_pos h
  have hown : ∀ id, lookV (vslotsE S.v z ++ W) id ≠ none → ∀ b ∈ G id, ∃ k, s.env k ≠ none ∧ b ∈ fp k ∧ ((∃ x, lookV (vslotsE S.v z) id = some x ∧ k ∈ ent m s.v id) ∨ (lookV (vslotsE S.v z) id = none ∧ k = id ∧ ∃ x, lookV W id = some x)) := by
    intro id hn b hb
    obtain ⟨x, hx⟩ := Option.ne_none_iff_exists'.1 hn
    rcases hsplit hx with h1 | ⟨h1, h2⟩
    · rw [hG1 h1] at hb
      obtain ⟨k, q1, q2, q3⟩ := hsub id x h1 b hb
      obtain ⟨u, hu⟩ := Option.ne_none_iff_exists'.1 q2
      exact ⟨k, by rw [hvv k u hu]; simp, q3, .inl ⟨x, h1, q1⟩⟩
    · rw [hG2 h1] at hb
      exact ⟨id, by rw [(hW id x h2).1]; simp, hb, .inr ⟨h1, rfl, x, h2⟩⟩
  refine ⟨⟨cx, reN m μ, G, he, ?_, ?_, hx.defers, ?_, ?_, hx.ev, fun id hi => ⟨?_, (hfix id hi).trans (hx.fix id hi).2⟩⟩, fun d b hf => ?_, ?_⟩
  · intro j
    have hrel : VsRel cx μ ((List.range s.t.length).map fun j => a.tmps.getD j Go.undef) s.t := by
      refine VsRel.of_get (by simp) fun j d u hd hu => ?_
      have hj := (List.getElem?_eq_some_iff.1 hd).1
      rw [List.getElem?_map, List.getElem?_range hj, Option.map_some] at hu
      cases hu
      have := hx.tm j
      simp only [DSt.f, List.getD_eq_getElem?_getD, hd, Option.getD_some] at this
      exact this
    have h2 := okT.rel _ hrel
    show VRel cx (reN m μ) _ ((slotsK S.t ts (slotsE S.t y)).getD j .dead)
    rw [slotsK_get S.t ts _ hlen hlen2]
    by_cases hkp : keepAt S.t j = true
    · rw [hkp, cond_true]
      have h3 := hx.tm j
      rw [← (hkeep j hkp).1]
      refine VRel.mono _ (fun id hi => hout (hkS j hkp id hi)) h3
    · rw [Bool.eq_false_iff.2 hkp, cond_false]
      rcases Nat.lt_or_ge j (slotsE S.t y).length with hj | hj
      · obtain ⟨u, hu, hv⟩ := h2.get (List.getElem?_eq_getElem hj)
        have hjs : j < s.t.length := by rw [← okT.len', ← okT.len]; exact hj
        rw [List.getElem?_map, List.getElem?_range hjs, Option.map_some] at hu
        cases hu
        rw [List.getD_eq_getElem?_getD, List.getElem?_eq_getElem hj]
        exact hv
      · rw [List.getD_eq_getElem?_getD, List.getElem?_eq_none hj]
        simp [VRel]
  · exact hx.n
  · show RelV cx (reN m μ) G (lookV (vslotsE S.v z ++ W)) w
    refine ⟨fun id x hxx => ?_, fun id x hxx => ?_, ?_, ?_, ?_⟩
    · rcases hsplit hxx with h1 | ⟨h1, h2⟩
      · rw [hG1 h1]; exact (hF id x h1).2.rel
      · rw [hG2 h1]
        have hm := lookV_mem h2
        exact (hva.rel id x (hW id x h2).1).frame (fun _ _ => rfl) (hout (hWS _ hm).1) fun id' hi => hout ((hWS _ hm).2 id' hi)
    · rcases hsplit hxx with h1 | ⟨h1, h2⟩
      · rw [hG1 h1]
        have ok := (hF id x h1).2
        exact ok.perm.nodup_iff.2 (hvs.nodup_ids _ ok.nodup ok.there)
      · rw [hG2 h1]; exact hva.nodup id x (hW id x h2).1
    · intro id id' hne hn hn' b hb hb'
      obtain ⟨k1, q2, q3, q4⟩ := hown id hn b hb
      obtain ⟨k2, r2, r3, r4⟩ := hown id' hn' b hb'
      have : k1 ≠ k2 := by
        intro e
        subst e
        rcases q4 with ⟨x1, h1, q1⟩ | ⟨h1, rfl, x1, h1'⟩
        · rcases r4 with ⟨x2, h2, r1⟩ | ⟨h2, rfl, x2, h2'⟩
          · exact ent_disj hnd (hF id x1 h1).1 (hF id' x2 h2).1 hne k1 q1 r1
          · rcases (hW _ x2 h2').2 with e | e
            · exact e (htk (hF id x1 h1).1 q1)
            · exact (hF id x1 h1).2.there _ q1 e
        · rcases r4 with ⟨x2, h2, r1⟩ | ⟨h2, e, x2, h2'⟩
          · rcases (hW _ x1 h1').2 with e | e
            · exact e (htk (hF id' x2 h2).1 r1)
            · exact (hF id' x2 h2).2.there _ r1 e
          · exact hne e
      exact hva.sep k1 k2 this q2 r2 b q3 r3
    · intro id hn b hb
      obtain ⟨k1, q2, q3, _⟩ := hown id hn b hb
      exact hva.notS k1 q2 b q3
    · intro id hn b hb
      obtain ⟨k1, q2, q3, _⟩ := hown id hn b hb
      exact hva.lt k1 q2 b q3
  · refine ⟨fun j id hi => ?_, fun id x hxx => ?_⟩
    · have hi : id ∈ ((slotsK S.t ts (slotsE S.t y)).getD j .dead).ids := hi
      rw [slotsK_get S.t ts _ hlen hlen2] at hi
      show id / 64 ∈ 0 :: (S.v.map (·.1 / 64) ++ K)
      by_cases hkp : keepAt S.t j = true
      · rw [hkp, cond_true] at hi
        exact hgK ((hkeep j hkp).2 id hi)
      · rw [Bool.eq_false_iff.2 hkp, cond_false, List.getD_eq_getElem?_getD] at hi
        cases hj : (slotsE S.t y)[j]? with
        | none => rw [hj] at hi; simp [DVal.ids] at hi
        | some d =>
          rw [hj] at hi
          obtain ⟨k, hk⟩ := okT.ids id (mem_idsL.2 ⟨d, List.mem_of_getElem? hj, hi⟩)
          exact hkey hk
    · show id / 64 ∈ 0 :: (S.v.map (·.1 / 64) ++ K) ∧ ∀ id' ∈ x.ids, id' / 64 ∈ 0 :: (S.v.map (·.1 / 64) ++ K)
      rcases hsplit hxx with h1 | ⟨_, h2⟩
      · obtain ⟨h1, ok⟩ := hF id x h1
        exact ⟨hgrp h1, fun i hi => by obtain ⟨k, hk⟩ := ok.ids i hi; exact hkey hk⟩
      · have hm := hK _ _ h2
        exact ⟨hgK (List.mem_cons.2 (.inr hm.1)), fun i hi => hgK (hm.2 i hi)⟩
  · show id / 64 ∈ 0 :: (S.v.map (·.1 / 64) ++ K)
    rw [Nat.div_eq_of_lt hi]; simp
  · simp [Shape.enc, findK] at hf
  · show (slotsK S.t ts (slotsE S.t y)).length = n
    rw [slotsK_len S.t ts _ hlen hlen2, okT.len', hl]
end
end
section
open Go
theorem exists_least {p : Nat → Prop} (h : ∃ n, p n) : ∃ n, p n ∧ ∀ k, p k → n ≤ k := by
  obtain ⟨n, hn⟩ := h
  induction n using Nat.strongRecOn with
  | _ n ih =>
    by_cases hk : ∃ k, k < n ∧ p k
    · obtain ⟨k, h1, h2⟩ := hk; exact ih k h1 h2
    · exact ⟨n, hn, fun k hp => Nat.le_of_not_lt fun hlt => hk ⟨k, hlt, hp⟩⟩
open Classical in
noncomputable def least (p : Nat → Prop) : Nat := if h : ∃ n, p n then Classical.choose (exists_least h) else 0
theorem least_spec {p : Nat → Prop} (h : ∃ n, p n) : p (least p) ∧ ∀ k, p k → least p ≤ k := by
  unfold least
  rw [dif_pos h]
  exact Classical.choose_spec (exists_least h)
theorem wp_count {P : Program} {Q : Exit → Act → World → Prop} {a : Act} {w : World} {b : Code} (J : Nat → Act → World → Prop) (h0 : ∃ k, J k a w)
    (round : ∀ k a w, J k a w → b.wp P (Exit.then (fun a' w' => ∃ k', k' < k ∧ J k' a' w') Q) a w) : (Code.loop b).wp P Q a w := by
  refine wp_loop (fun a w => ∃ k, J k a w) (fun a w => least fun k => J k a w) h0 fun a w hI => ?_
  obtain ⟨h1, _⟩ := least_spec hI
  refine wp_mono (round _ a w h1) fun e a' w' he => ?_
  cases e with
  | normal =>
    obtain ⟨k', hlt, hk'⟩ := he
    exact ⟨⟨k', hk'⟩, Nat.lt_of_le_of_lt ((least_spec ⟨k', hk'⟩).2 k' hk') hlt⟩
  | _ => exact he
def exOf : Ex → Exit
  | .normal => .normal
  | .ret => .ret
  | .exit id => .exit id
section
variable {c : Ctx} {n : Nat} {C : Cx}
def RoundIs {α β γ : Type} (c : Ctx) (n id : Nat) (eα : α → DSt) (eβ : β → DSt) (eγ : γ → DSt) (R : Round α β γ) (e : Exit) (a : Act) (w : World) : Prop :=
  match R with
  | .again x => e = .normal ∧ DRel c n (eα x) a w
  | .out y => e = .exit id ∧ DRel c n (eβ y) a w
  | .ret z => e = .ret ∧ DRel c n (eγ z) a w
theorem iter_sound {α β γ : Type} {eα : α → DSt} {eβ : β → DSt} {eγ : γ → DSt} {f : α → Out (Round α β γ)} {b : Code} {id : Nat} {Q : Exit → Act → World → Prop}
    (hround : ∀ x R a w, (f x).eval = some R → DRel c n (eα x) a w → b.wp c.P (RoundIs c n id eα eβ eγ R) a w)
    {k : Nat} {x : α} {r : β ⊕ γ} (h : iter f k x = some r) {a : Act} {w : World} (hx : DRel c n (eα x) a w)
    (hout : ∀ y a w, r = .inl y → DRel c n (eβ y) a w → Q (.exit id) a w) (hret : ∀ z a w, r = .inr z → DRel c n (eγ z) a w → Q .ret a w) : (Code.loop b).wp c.P Q a w := by
  refine wp_count (fun k a w => ∃ x, iter f k x = some r ∧ DRel c n (eα x) a w) ⟨k, x, h, hx⟩ ?_
  rintro k a w ⟨x, h, hx⟩
  cases k with
  | zero => cases h
  | succ k =>
    simp only [iter] at h
    split at h
    · rename_i x' hf
      refine wp_mono (hround x _ a w hf hx) fun e a' w' he => ?_
      obtain ⟨rfl, he⟩ := he
      exact ⟨k, Nat.lt_succ_self k, x', h, he⟩
    · rename_i y hf
      obtain rfl := Option.some.inj h
      refine wp_mono (hround x _ a w hf hx) fun e a' w' he => ?_
      obtain ⟨rfl, he⟩ := he
      exact hout y a' w' rfl he
    · rename_i z hf
      obtain rfl := Option.some.inj h
      refine wp_mono (hround x _ a w hf hx) fun e a' w' he => ?_
      obtain ⟨rfl, he⟩ := he
      exact hret z a' w' rfl he
    · cases h
def CodeOk (c : Ctx) (n : Nat) (b : Code) (f : DSt → Out (Ex × DSt)) : Prop :=
  ∀ s r a w, (f s).eval = some r → DRel c n s a w → b.wp c.P (fun e a' w' => e = exOf r.1 ∧ DRel c n r.2 a' w') a w
structure Same (ds : List Nat) (s s' : DSt) : Prop where
  w : s'.w = s.w
  len : s'.t.length = s.t.length
  t : ∀ j, j ∉ ds → s'.t.getD j .dead = s.t.getD j .dead
theorem Same.refl (ds : List Nat) (s : DSt) : Same ds s s := ⟨rfl, rfl, fun _ _ => rfl⟩
theorem Same.trans {ds : List Nat} {s s1 s2 : DSt} (h : Same ds s s1) (h' : Same ds s1 s2) : Same ds s s2 := ⟨h'.w.trans h.w, h'.len.trans h.len, fun j hj => (h'.t j hj).trans (h.t j hj)⟩
theorem Same.mono {ds ds' : List Nat} {s s' : DSt} (h : Same ds s s') (hd : ∀ j ∈ ds, j ∈ ds') : Same ds' s s' := ⟨h.w, h.len, fun j hj => h.t j fun e => hj (hd j e)⟩
theorem set_other {t : List DVal} {d j : Nat} {v : DVal} (h : d ≠ j) : (t.set d v).getD j .dead = t.getD j .dead := by
  rw [List.getD_eq_getElem?_getD, List.getD_eq_getElem?_getD, List.getElem?_set_ne h]
theorem setT_other {t : List DVal} {dst : Option Nat} {v : DVal} {j : Nat} (h : j ∉ dst.toList) : (setT t dst v).getD j .dead = t.getD j .dead := by
  cases dst with
  | none => rfl
  | some d => exact set_other fun e => h (by simp [e])
theorem stepL_same {C : Cx} {ops : List Oper} {g i : Nat} {o : Oper} {s : DSt} {r : DSt × Log} (h : (stepL C ops g i o s).eval = some r) : Same o.dst.toList s r.1 := by
  unfold stepL at h
  obtain ⟨q, _, h⟩ := bind_eval h
  split at h
  · obtain rfl := Option.some.inj h
    exact ⟨rfl, setT_length _ _ _, fun j hj => setT_other hj⟩
  · cases h
theorem skipL_same {ops : List Oper} {g i : Nat} {o : Oper} {s : DSt} {r : DSt × Log} (h : (skipL ops g i o s).eval = some r) : Same o.dst.toList s r.1 := by
  unfold skipL at h
  split at h
  · obtain rfl := Option.some.inj h
    exact ⟨rfl, setT_length _ _ _, fun j hj => setT_other hj⟩
  · cases h
theorem opL_same {C : Cx} {ops : List Oper} {g i : Nat} {o : Oper} {s : DSt} {r : DSt × Log} (ho : o ∈ ops) (h : (opL C ops g i o s).eval = some r) : Same (ops.flatMap fun o => o.dst.toList) s r.1 := by
  have sub : ∀ j ∈ o.dst.toList, j ∈ ops.flatMap fun o => o.dst.toList := fun j hj => List.mem_flatMap.2 ⟨o, ho, hj⟩
  unfold opL at h
  split at h
  · exact (stepL_same h).mono sub
  · split at h
    · cases h
    · rename_i d hd
      obtain ⟨o', ho', hd'⟩ := Option.bind_eq_some_iff.1 hd
      have hin : d ∈ ops.flatMap fun o => o.dst.toList := List.mem_flatMap.2 ⟨o', List.mem_of_getElem? ho', by rw [hd']; simp⟩
      have seen : ∀ (b : Bool) (kn : List (Nat × Bool)), Same (ops.flatMap fun o => o.dst.toList) s { s with t := s.t.set d (.b b), kn } := fun b kn => ⟨rfl, by simp, fun j hj => set_other fun e => hj (e ▸ hin)⟩
      split at h
      · split at h
        · exact (stepL_same h).mono sub
        · exact (skipL_same h).mono sub
      · split at h
        · rcases ite_eval h with ⟨_, h⟩ | ⟨_, h⟩
          · exact (seen _ _).trans ((stepL_same h).mono sub)
          · exact (seen _ _).trans ((skipL_same h).mono sub)
        · exact (skipL_same h).mono sub
        · cases h
theorem regionL_same {C : Cx} {ops : List Oper} {base : Nat} : ∀ (l : List (Nat × Oper)) (s : DSt) (lg : List Log) {r : DSt × List Log}, (∀ x ∈ l, x.2 ∈ ops) → (regionL C ops base l s lg).eval = some r → Same (ops.flatMap fun o => o.dst.toList) s r.1
  | [], s, lg, r, _, h => by
    obtain rfl := Option.some.inj h
    exact Same.refl _ _
  | (i, o) :: l, s, lg, r, hl, h => by
    simp only [regionL] at h
    obtain ⟨q, hq, h⟩ := bind_eval h
    exact (opL_same (hl (i, o) (by simp)) hq).trans (regionL_same l _ _ (fun x hx => hl x (by simp [hx])) h)
theorem region_same {C : Cx} {id : Nat} {ops : List Oper} {draw : Bool} {s s' : DSt} (h : (region C id ops draw s).eval = some s') : Same (ops.flatMap fun o => o.dst.toList) s s' := by
  unfold region at h
  obtain ⟨⟨q, lg⟩, hq, h⟩ := bind_eval h
  split at h
  · cases h
  · obtain rfl := Option.some.inj h
    exact regionL_same _ _ _ (fun x hx => by
      obtain ⟨y, hy, rfl⟩ := List.mem_map.1 hx
      exact (List.mem_zipIdx' hy).2 ▸ List.getElem_mem _) hq
theorem slotsE_len : ∀ (l : List Slot) (y : slotsD l), (slotsE l y).length = l.length
  | [], _ => rfl
  | x :: r, y => by simp [slotsE, slotsE_len r]
theorem keepsOk_at {h : List Slot} {n : Nat} {ds : List Nat} {l : List Slot} (hk : keepsOk h n ds l = true) : l.length = n ∧ ∀ j, keepAt l j = true → keepAt h j = true ∧ j ∉ ds := by
  unfold keepsOk at hk
  rw [Bool.and_eq_true, decide_eq_true_iff] at hk
  refine ⟨hk.1, fun j hj => ?_⟩
  have key : ∀ (l : List Slot) (k j : Nat), keepAt l j = true → ∃ x, (x, k + j) ∈ l.zipIdx k ∧ x.isKeep = true := by
    intro l
    induction l with
    | nil => intro k j h; simp [keepAt] at h
    | cons x r ih =>
      intro k j h
      cases j with
      | zero => exact ⟨x, by simp, h⟩
      | succ j =>
        obtain ⟨y, hy, hy2⟩ := ih (k + 1) j h
        exact ⟨y, by rw [List.zipIdx_cons, show k + (j + 1) = k + 1 + j by omega]; exact List.mem_cons.2 (.inr hy), hy2⟩
  obtain ⟨x, hx, hx2⟩ := key l 0 j hj
  have := List.all_eq_true.1 hk.2 _ hx
  simp only [hx2, Bool.not_true, Bool.false_or, Nat.zero_add, Bool.and_eq_true] at this
  exact ⟨this.1, by simpa using this.2⟩
theorem loose_at {S : Shape} {j : Nat} (h : j ∉ loose S) (hj : j < S.t.length) : keepAt S.t j = true := by
  have key : ∀ (l : List Slot) (k j : Nat), j < l.length → (k + j) ∉ ((l.zipIdx k).filter fun x => !x.1.isKeep).map (·.2) → keepAt l j = true := by
    intro l
    induction l with
    | nil => intro k j h; simp at h
    | cons x r ih =>
      intro k j hj hn
      rw [List.zipIdx_cons] at hn
      cases j with
      | zero =>
        simp only [keepAt]
        cases hx : x.isKeep with
        | true => rfl
        | false => simp [hx] at hn
      | succ j =>
        refine ih (k + 1) j (by simpa using hj) fun hm => hn ?_
        rw [List.filter_cons]
        rw [show k + 1 + j = k + (j + 1) by omega] at hm
        split
        · rw [List.map_cons]; exact List.mem_cons.2 (.inr hm)
        · exact hm
  exact key S.t 0 j hj (by rw [Nat.zero_add]; exact h)
theorem fin_same {A : LoopAnn} {ds : List Nat} {s : DSt} {S : Shape} (hk : A.keepOk s.t.length ds = true) (hS : S ∈ A.shapes) (x : S.D) : Same (loose S) s (A.fin s S x) := by
  unfold LoopAnn.keepOk at hk
  rw [Bool.and_eq_true] at hk
  obtain ⟨hl, _⟩ := keepsOk_at (List.all_eq_true.1 hk.1 S hS)
  have e1 : (slotsE S.t x.1).length = S.t.length := slotsE_len _ _
  refine ⟨rfl, ?_, fun j hj => ?_⟩
  · show (slotsK S.t s.t (slotsE S.t x.1)).length = s.t.length
    rw [slotsK_len _ _ _ e1 hl.symm, hl]
  · show (slotsK S.t s.t (slotsE S.t x.1)).getD j .dead = s.t.getD j .dead
    rw [slotsK_get _ _ _ e1 hl.symm]
    rcases Nat.lt_or_ge j S.t.length with h | h
    · rw [loose_at hj h]; rfl
    · rw [List.getD_eq_getElem?_getD, List.getD_eq_getElem?_getD, List.getElem?_eq_none (show s.t.length ≤ j by omega), List.getElem?_eq_none (show (slotsE S.t x.1).length ≤ j by omega)]
      cases keepAt S.t j <;> rfl
theorem loopL_same {id : Nat} {A : LoopAnn} {ds : List Nat} {f : DSt → Out (Ex × DSt)} {s : DSt} {r : Ex × DSt} (h : (loopL id A ds f s).eval = some r) : Same (loose A.out ++ (match A.ret with | some S => loose S | none => [])) s r.2 := by
  unfold loopL at h
  split at h
  case isFalse => cases h
  rename_i hk
  obtain ⟨x, _, h⟩ := of_eval h
  have h1 := fun y => fin_same hk (S := A.out) (by simp [LoopAnn.shapes]) y
  have h2 := fun S (hS : A.ret = some S) y => fin_same hk (S := S) (by simp [LoopAnn.shapes, hS]) y
  obtain ⟨hd, ot, rt, fr⟩ := A
  cases rt with
  | some S =>
    replace h : (Out.get (iter (fun x => (f (hd.enc s.t _ _ x)).bind (leafD id ⟨hd, ot, some S, fr⟩)) FUEL x) fun r => Out.alt r (fun y => .ret (Ex.normal, LoopAnn.fin ⟨hd, ot, some S, fr⟩ s ot y)) fun z => .ret (Ex.ret, LoopAnn.fin ⟨hd, ot, some S, fr⟩ s S z)).eval = some r := h
    obtain ⟨q, _, h⟩ := get_eval h
    cases q with
    | inl y =>
      obtain rfl := Option.some.inj h
      exact (h1 y).mono fun j hj => List.mem_append.2 (.inl hj)
    | inr z =>
      obtain rfl := Option.some.inj h
      exact (h2 S rfl z).mono fun j hj => List.mem_append.2 (.inr hj)
  | none =>
    replace h : (Out.get (iter1 (fun x => (f (hd.enc s.t _ _ x)).bind (leafD id ⟨hd, ot, none, fr⟩)) FUEL x) fun y => Out.ret (Ex.normal, LoopAnn.fin ⟨hd, ot, none, fr⟩ s ot y)).eval = some r := h
    obtain ⟨y, _, h⟩ := get_eval h
    obtain rfl := Option.some.inj h
    exact (h1 y).mono fun j hj => List.mem_append.2 (.inl hj)
theorem map_same {o : Out (Ex × DSt)} {ds : List Nat} {s : DSt} {id : Nat} (h : ∀ r, o.eval = some r → Same ds s r.2) {r : Ex × DSt} (hr : (o.map (blockEx id)).eval = some r) : Same ds s r.2 := by
  obtain ⟨q, hq, h2⟩ := bind_eval hr
  obtain rfl := Option.some.inj h2
  have := h q hq
  obtain ⟨e, s'⟩ := q
  cases e with
  | exit m =>
    simp only [blockEx]
    split <;> exact this
  | _ => exact this
theorem dexec_same (A : Nat → Option LoopAnn) : ∀ (b : Code) (s : DSt) (r : Ex × DSt), (dexec C A b s).eval = some r → Same (dstsC A b) s r.2
  | .skip, s, r, h => by obtain rfl := Option.some.inj h; exact Same.refl _ _
  | .ret, s, r, h => by obtain rfl := Option.some.inj h; exact Same.refl _ _
  | .exit m, s, r, h => by obtain rfl := Option.some.inj h; exact Same.refl _ _
  | .seq x y, s, r, h => by
    simp only [dexec] at h
    obtain ⟨q, hq, h⟩ := bind_eval h
    have h1 := (dexec_same A x s q hq).mono (ds' := dstsC A (.seq x y)) fun j hj => List.mem_append.2 (.inl hj)
    obtain ⟨e, s'⟩ := q
    cases e with
    | normal => exact h1.trans ((dexec_same A y s' r h).mono fun j hj => List.mem_append.2 (.inr hj))
    | ret => obtain rfl := Option.some.inj h; exact h1
    | exit m => obtain rfl := Option.some.inj h; exact h1
  | .cond t x y, s, r, h => by
    have hx : ∀ j ∈ dstsC A x, j ∈ dstsC A (.cond t x y) := fun j hj => List.mem_append.2 (.inr (List.mem_append.2 (.inl hj)))
    have hy : ∀ j ∈ dstsC A y, j ∈ dstsC A (.cond t x y) := fun j hj => List.mem_append.2 (.inr (List.mem_append.2 (.inr hj)))
    simp only [dexec] at h
    split at h
    · exact (dexec_same A x s r h).mono hx
    · exact (dexec_same A y s r h).mono hy
    · split at h
      · rename_i d p _ _
        have seen : ∀ (b : Bool) (kn : List (Nat × Bool)), Same (dstsC A (.cond (.tmp d) x y)) s { s with t := s.t.set d (.b b), kn } := fun b kn => ⟨rfl, by simp, fun j hj => set_other fun e => hj (e ▸ List.mem_append.2 (.inl (by simp [cTmp])))⟩
        rcases ite_eval h with ⟨_, h⟩ | ⟨_, h⟩
        · exact (seen _ _).trans ((dexec_same A x _ r h).mono hx)
        · exact (seen _ _).trans ((dexec_same A y _ r h).mono hy)
      · cases h
  | .block id (.loop b), s, r, h => by
    simp only [dexec] at h
    split at h
    · rename_i A' e
      refine (loopL_same h).mono fun j hj => ?_
      show j ∈ dstsC A (.block id (.loop b))
      simp only [dstsC, e]
      exact List.mem_append.2 (.inr hj)
    · cases h
  | .region id ops draw, s, r, h => by
    simp only [dexec] at h
    obtain ⟨s', hs', h⟩ := bind_eval h
    obtain rfl := Option.some.inj h
    exact region_same hs'
  | .block id .skip, s, r, h => map_same (dexec_same A .skip s) h
  | .block id .ret, s, r, h => map_same (dexec_same A .ret s) h
  | .block id (.exit m), s, r, h => map_same (dexec_same A (.exit m) s) h
  | .block id (.seq x y), s, r, h => map_same (dexec_same A (.seq x y) s) h
  | .block id (.cond t x y), s, r, h => map_same (dexec_same A (.cond t x y) s) h
  | .block id (.block j x), s, r, h => map_same (dexec_same A (.block j x) s) h
  | .block id (.region j o d), s, r, h => map_same (dexec_same A (.region j o d) s) h
  | .block id (.rangeFunc f p as b), s, r, h => map_same (dexec_same A (.rangeFunc f p as b) s) h
  | .block id (.scope b), s, r, h => map_same (dexec_same A (.scope b) s) h
  | .block id (.label l), s, r, h => map_same (dexec_same A (.label l) s) h
  | .block id (.goto l), s, r, h => map_same (dexec_same A (.goto l) s) h
  | .block id (.refuse l), s, r, h => map_same (dexec_same A (.refuse l) s) h
  | .loop _, s, r, h => by simp [dexec, Out.eval] at h
  | .rangeFunc .., s, r, h => by simp [dexec, Out.eval] at h
  | .scope _, s, r, h => by simp [dexec, Out.eval] at h
  | .label _, s, r, h => by simp [dexec, Out.eval] at h
  | .goto _, s, r, h => by simp [dexec, Out.eval] at h
  | .refuse _, s, r, h => by simp [dexec, Out.eval] at h
theorem lookV_filter {p : Nat × DVar → Bool} (hp : ∀ x y, x.1 = y.1 → p x = p y) : ∀ {l : List (Nat × DVar)} {id : Nat} {z : DVar}, lookV (l.filter p) id = some z → lookV l id = some z ∧ p (id, z) = true
  | [], _, _, h => by cases h
  | (k, x) :: r, id, z, h => by
    rw [List.filter_cons] at h
    split at h
    · rename_i hpx
      simp only [lookV] at h ⊢
      by_cases e : k = id
      · rw [if_pos e] at h ⊢
        obtain rfl := Option.some.inj h
        exact ⟨rfl, by rw [hp (id, x) (k, x) e.symm]; exact hpx⟩
      · rw [if_neg e] at h ⊢
        exact lookV_filter hp h
    · rename_i hpx
      have ih := lookV_filter hp h
      simp only [lookV]
      by_cases e : k = id
      · subst e
        exact absurd ((hp (k, x) (k, z) rfl).trans ih.2) hpx
      · rw [if_neg e]; exact ih
def retE (A : LoopAnn) (s : DSt) (W : List (Nat × DVar)) (K : List Nat) : (o : Option Shape) → retD o → DSt
  | some S, z => S.enc s.t W K z
  | none, z => nomatch z
structure LoopIn (c : Ctx) (n : Nat) (A : LoopAnn) (ds : List Nat) (s : DSt) (W : List (Nat × DVar)) (K : List Nat) : Prop where
  keep : A.keepOk s.t.length ds = true
  len : s.t.length = n
  W : ∀ id z, lookV W id = some z → id / 64 ∈ K ∧ ∀ id' ∈ z.ids, id' / 64 ∈ 0 :: K
  K : ∀ j, keepAt A.head.t j = true → ∀ id ∈ (s.t.getD j .dead).ids, id / 64 ∈ 0 :: K
theorem LoopIn.again {A : LoopAnn} {ds : List Nat} {s s' : DSt} {W : List (Nat × DVar)} {K : List Nat} (h : LoopIn c n A ds s W K) {x : A.head.D} (hs : Same ds (A.head.enc s.t W K x) s') {a : Act} {w : World} (hr : DRel c n s' a w)
    {S : Shape} (hS : S ∈ A.shapes) {y : S.D} (hd : S.dec s'.w s' = some y) : DRel c n (S.enc s.t W K y) a w := by
  have hw : s'.w = W := hs.w
  have hk := h.keep
  unfold LoopAnn.keepOk at hk
  rw [Bool.and_eq_true] at hk
  obtain ⟨l1, _⟩ := keepsOk_at (List.all_eq_true.1 hk.1 A.head (by simp [LoopAnn.shapes]))
  obtain ⟨_, k2⟩ := keepsOk_at (List.all_eq_true.1 hk.1 S hS)
  rw [hw] at hd
  refine dec_sound hr hd (fun id z hz => ?_) h.W h.len fun j hj => ?_
  · have hn := dec_dis hd (show lookV s'.w id = some z by rw [hw]; exact hz)
    refine ⟨?_, .inr hn⟩
    unfold DSt.env
    rw [lookV_append, hn, hw]
    exact hz
  · obtain ⟨q1, q2⟩ := k2 j hj
    refine ⟨(hs.t j q2).trans ?_, h.K j q1⟩
    show (slotsK A.head.t s.t (slotsE A.head.t x.1)).getD j .dead = s.t.getD j .dead
    rw [slotsK_get _ _ _ (slotsE_len _ _) l1.symm, q1]; rfl
theorem leaf_sound {b : Code} {f : DSt → Out (Ex × DSt)} {ds : List Nat} (hb : CodeOk c n b f) (hf : ∀ s r, (f s).eval = some r → Same ds s r.2) (id : Nat) (A : LoopAnn) {s : DSt} {W : List (Nat × DVar)} {K : List Nat} (hl : LoopIn c n A ds s W K) (x : A.head.D) (R : Round A.head.D A.out.D (retD A.ret)) (a : Act) (w : World)
    (h : ((f (A.head.enc s.t W K x)).bind (leafD id A)).eval = some R) (hx : DRel c n (A.head.enc s.t W K x) a w) : b.wp c.P (RoundIs c n id (A.head.enc s.t W K) (A.out.enc s.t W K) (retE A s W K A.ret) R) a w := by
  replace h := bind_eval h
  obtain ⟨r, hr, h⟩ := h
  have hs := hf _ r hr
  refine wp_mono (hb _ r a w hr hx) fun e a' w' he => ?_
  obtain ⟨rfl, he⟩ := he
  unfold leafD at h
  split at h
  · rename_i e1
    obtain ⟨x', hx', h⟩ := of_eval h
    obtain rfl := Option.some.inj h
    exact ⟨by rw [e1]; rfl, hl.again hs he (by simp [LoopAnn.shapes]) hx'⟩
  · rename_i m e1
    split at h
    · rename_i e2; subst e2
      obtain ⟨x', hx', h⟩ := of_eval h
      obtain rfl := Option.some.inj h
      exact ⟨by rw [e1]; rfl, hl.again hs he (by simp [LoopAnn.shapes]) hx'⟩
    · cases h
  · rename_i e1
    have hag := fun S (hS : A.ret = some S) (y : S.D) (hd : S.dec r.2.w r.2 = some y) => hl.again hs he (S := S) (by simp [LoopAnn.shapes, hS]) hd
    obtain ⟨hd, ot, rt, fr⟩ := A
    cases rt with
    | none => cases h
    | some S =>
      replace h : (Out.of (S.dec r.2.w r.2) fun z => .ret (.ret z) : Out (Round hd.D ot.D (retD (some S)))).eval = some R := h
      obtain ⟨x', hx', h⟩ := of_eval h
      obtain rfl := Option.some.inj h
      exact ⟨by rw [e1]; rfl, hag S rfl x' hx'⟩
theorem fin_rel {A : LoopAnn} {s : DSt} {S : Shape} {x : S.D} {a : Act} {w : World} (h : DRel c n (S.enc s.t (A.rest s ++ s.w) (A.known s) x) a w) : DRel c n (A.fin s S x) a w := by
  obtain ⟨⟨c1, μ, fp, he, hx⟩, hk, hl⟩ := h
  have e : (A.fin s S x).f = (S.enc s.t (A.rest s ++ s.w) (A.known s) x).f := by
    unfold DSt.f DSt.env LoopAnn.fin
    simp only [Shape.enc, List.append_assoc]
  exact ⟨⟨c1, μ, fp, he, by rw [e]; exact hx⟩, hk, hl⟩
theorem loop_sound {b : Code} {f : DSt → Out (Ex × DSt)} {ds : List Nat} (hb : CodeOk c n b f) (hf : ∀ s r, (f s).eval = some r → Same ds s r.2) (id : Nat) (A : LoopAnn) : CodeOk c n (.block id (.loop b)) (loopL id A ds f) := by
  intro s r a w h hs
  unfold loopL at h
  split at h
  case isFalse => cases h
  rename_i hk
  obtain ⟨x, hx, h⟩ := of_eval h
  have hkn : Known s.f := by obtain ⟨⟨c1, μ, fp, he, hx⟩, _⟩ := hs; exact hx.known
  have hrest : ∀ id z, lookV (A.rest s) id = some z → lookV s.v id = some z ∧ id ∉ takenV (A.head.map s) s.v A.head.v := by
    intro id z hz
    unfold LoopAnn.rest at hz
    split at hz
    · have := lookV_filter (fun x y e => by rw [e]) hz
      refine ⟨this.1, by simpa using this.2⟩
    · cases hz
  have hWs : ∀ id z, lookV (A.rest s ++ s.w) id = some z → s.env id = some z ∧ (id ∉ takenV (A.head.map s) s.v A.head.v ∨ lookV s.v id = none) := by
    intro id z hz
    rw [lookV_append] at hz
    cases e : lookV (A.rest s) id with
    | some q =>
      rw [e] at hz
      obtain rfl := Option.some.inj hz
      exact ⟨env_of_v (hrest id q e).1, .inl (hrest id q e).2⟩
    | none =>
      rw [e] at hz
      have hn := dec_dis hx hz
      refine ⟨?_, .inr hn⟩
      unfold DSt.env
      rw [lookV_append, hn]
      exact hz
  have hK : (A.fr = true ∨ s.w.isEmpty = false) → A.known s = s.k := fun e => if_pos e
  have hin : LoopIn c n A ds s (A.rest s ++ s.w) (A.known s) := by
    refine ⟨hk, hs.len, fun id z hz => ?_, fun j hj id hi => ?_⟩
    · have he : A.fr = true ∨ s.w.isEmpty = false := by
        by_cases e : A.fr = true
        · exact .inl e
        · right
          unfold LoopAnn.rest at hz
          rw [if_neg e] at hz
          cases hw : s.w with
          | nil => rw [hw] at hz; cases hz
          | cons => rfl
      rw [hK he]
      have := hkn.v id z (hWs id z hz).1
      exact ⟨this.1, fun id' hi => List.mem_cons.2 (.inr (this.2 id' hi))⟩
    · have he : A.fr = true := by
        unfold LoopAnn.keepOk at hk
        rw [Bool.and_eq_true, Bool.or_eq_true] at hk
        rcases hk.2 with e | e
        · exact e
        · exfalso
          have h1 := List.all_eq_true.1 e A.head (by simp [LoopAnn.shapes])
          unfold noKeep at h1
          have key : ∀ (l : List Slot) (j : Nat), keepAt l j = true → ∃ x ∈ l, x.isKeep = true := by
            intro l
            induction l with
            | nil => intro j h; simp [keepAt] at h
            | cons x r ih =>
              intro j h
              cases j with
              | zero => exact ⟨x, by simp, h⟩
              | succ j => obtain ⟨y, hy, hy2⟩ := ih j h; exact ⟨y, by simp [hy], hy2⟩
          obtain ⟨y, hy, hy2⟩ := key _ _ hj
          have := List.all_eq_true.1 h1 y hy
          rw [hy2] at this
          cases this
      rw [hK (.inl he)]
      exact List.mem_cons.2 (.inr (hkn.t j id hi))
  have hx' := dec_sound hs hx hWs hin.W hs.len fun j hj => ⟨rfl, hin.K j hj⟩
  have hleaf := leaf_sound hb hf id A hin
  have hfo := fun (y : A.out.D) (a' : Act) (w' : World) => fin_rel (A := A) (s := s) (S := A.out) (x := y) (a := a') (w := w') (c := c) (n := n)
  have hfr := fun (S : Shape) (y : S.D) (a' : Act) (w' : World) => fin_rel (A := A) (s := s) (S := S) (x := y) (a := a') (w := w') (c := c) (n := n)
  obtain ⟨hd, ot, rt, fr⟩ := A
  refine wp_block ?_
  cases rt with
  | some S =>
    replace h : (Out.get (iter (fun x => (f (hd.enc s.t _ _ x)).bind (leafD id ⟨hd, ot, some S, fr⟩)) FUEL x) fun r => Out.alt r (fun y => .ret (Ex.normal, LoopAnn.fin ⟨hd, ot, some S, fr⟩ s ot y)) fun z => .ret (Ex.ret, LoopAnn.fin ⟨hd, ot, some S, fr⟩ s S z)).eval = some r := h
    obtain ⟨q, hq, h⟩ := get_eval h
    refine iter_sound (id := id) (fun x R a w h1 h2 => hleaf x R a w h1 h2) hq hx' (fun y a' w' e he => ?_) (fun z a' w' e he => ?_)
    · subst e
      obtain rfl := Option.some.inj h
      simp only [Exit.inBlock, if_true]
      exact ⟨rfl, hfo y a' w' he⟩
    · subst e
      obtain rfl := Option.some.inj h
      exact ⟨rfl, hfr S z a' w' he⟩
  | none =>
    replace h : (Out.get (iter1 (fun x => (f (hd.enc s.t _ _ x)).bind (leafD id ⟨hd, ot, none, fr⟩)) FUEL x) fun y => Out.ret (Ex.normal, LoopAnn.fin ⟨hd, ot, none, fr⟩ s ot y)).eval = some r := h
    obtain ⟨y, hy, h⟩ := get_eval h
    unfold iter1 at hy
    obtain ⟨q, hq, hy⟩ := Option.map_eq_some_iff.1 hy
    obtain rfl := Option.some.inj h
    refine iter_sound (id := id) (fun x R a w h1 h2 => hleaf x R a w h1 h2) hq hx' (fun y' a' w' e he => ?_) (fun z a' w' e he => ?_)
    · subst e
      simp only at hy
      subst hy
      simp only [Exit.inBlock, if_true]
      exact ⟨rfl, hfo _ a' w' he⟩
    · exact nomatch z
theorem block_sound {b : Code} {f : DSt → Out (Ex × DSt)} (hb : CodeOk c n b f) (id : Nat) : CodeOk c n (.block id b) (fun s => (f s).map (blockEx id)) := by
  intro s r a w h hs
  obtain ⟨q, hq, h⟩ := bind_eval h
  obtain rfl := Option.some.inj h
  refine wp_block (wp_mono (hb s q a w hq hs) fun e a' w' he => ?_)
  obtain ⟨rfl, he⟩ := he
  obtain ⟨e, s'⟩ := q
  cases e with
  | normal => exact ⟨rfl, he⟩
  | ret => exact ⟨rfl, he⟩
  | exit m =>
    simp only [exOf, Exit.inBlock, blockEx]
    by_cases hm : m = id
    · rw [if_pos hm, if_pos hm]; exact ⟨rfl, he⟩
    · rw [if_neg hm, if_neg hm]; exact ⟨rfl, he⟩
theorem seen_rel {s : DSt} {a : Act} {w : World} (h : DRel c n s a w) {d : Nat} {b : Bool} (hb : s.t.getD d .dead = .b b) : DRel c n { s with t := s.t.set d (.b b), kn := (d, b) :: s.kn } a w := by
  obtain ⟨⟨c1, μ, fp, he, hx⟩, hk, hl⟩ := h
  exact ⟨⟨c1, μ, fp, he, by rw [seen_f hb]; exact hx⟩, seen_kn hk hb, by simpa using hl⟩
theorem dexec_sound (hC : CxOk C c.P) (hF : CallsOk C c.P) (hm : c.P.follows .mixedOrders = true) (A : Nat → Option LoopAnn) : ∀ b : Code, CodeOk c n b (dexec C A b)
  | .skip => fun s r a w h hs => by
    obtain rfl := Option.some.inj (show some (Ex.normal, s) = some r from h)
    exact wp_skip ⟨rfl, hs⟩
  | .ret => fun s r a w h hs => by
    obtain rfl := Option.some.inj (show some (Ex.ret, s) = some r from h)
    exact wp_ret ⟨rfl, hs⟩
  | .exit m => fun s r a w h hs => by
    obtain rfl := Option.some.inj (show some (Ex.exit m, s) = some r from h)
    exact wp_exit ⟨rfl, hs⟩
  | .seq x y => fun s r a w h hs => by
    simp only [dexec] at h
    obtain ⟨q, hq, h⟩ := bind_eval h
    refine wp_seq (wp_mono (dexec_sound hC hF hm A x s q a w hq hs) fun e a' w' he => ?_)
    obtain ⟨rfl, he⟩ := he
    obtain ⟨e, s'⟩ := q
    cases e with
    | normal => exact dexec_sound hC hF hm A y s' r a' w' h he
    | ret => obtain rfl := Option.some.inj h; exact ⟨rfl, he⟩
    | exit m => obtain rfl := Option.some.inj h; exact ⟨rfl, he⟩
  | .cond t x y => fun s r a w h hs => by
    simp only [dexec] at h
    obtain ⟨⟨c1, μ, fp, he, hx⟩, hk, hl⟩ := hs
    have hs : DRel c n s a w := ⟨⟨c1, μ, fp, he, hx⟩, hk, hl⟩
    have hv := hx.ev_rel t
    split at h
    · rename_i e
      rw [knOf_ev hk e] at hv
      simp only [VRel] at hv
      exact wp_cond_true hv (dexec_sound hC hF hm A x s r a w h hs)
    · rename_i e
      rw [knOf_ev hk e] at hv
      simp only [VRel] at hv
      exact wp_cond_false hv (dexec_sound hC hF hm A y s r a w h hs)
    · split at h
      · rename_i d p _ e
        have e' : s.t.getD d .dead = .b p := e
        have hv : VRel c1 μ (a.eval (.tmp d)) (.b p) := by rw [← e']; exact hv
        simp only [VRel] at hv
        rcases ite_eval h with ⟨rfl, h⟩ | ⟨rfl, h⟩
        · exact wp_cond_true hv (dexec_sound hC hF hm A x _ r a w h (seen_rel hs e'))
        · exact wp_cond_false hv (dexec_sound hC hF hm A y _ r a w h (seen_rel hs e'))
      · cases h
  | .block id (.loop b) => fun s r a w h hs => by
    simp only [dexec] at h
    split at h
    · rename_i A' e
      exact loop_sound (dexec_sound hC hF hm A b) (dexec_same A b) id A' s r a w h hs
    · cases h
  | .region id ops draw => fun s r a w h hs => by
    simp only [dexec] at h
    obtain ⟨s', hs', h⟩ := bind_eval h
    obtain rfl := Option.some.inj h
    exact region_sound hC hF hm hs hs' fun a' w' h' => ⟨rfl, h'⟩
  | .block id .skip => block_sound (dexec_sound hC hF hm A .skip) id
  | .block id .ret => block_sound (dexec_sound hC hF hm A .ret) id
  | .block id (.exit m) => block_sound (dexec_sound hC hF hm A (.exit m)) id
  | .block id (.seq x y) => block_sound (dexec_sound hC hF hm A (.seq x y)) id
  | .block id (.cond t x y) => block_sound (dexec_sound hC hF hm A (.cond t x y)) id
  | .block id (.block j x) => block_sound (dexec_sound hC hF hm A (.block j x)) id
  | .block id (.region j o d) => block_sound (dexec_sound hC hF hm A (.region j o d)) id
  | .block id (.rangeFunc f p as b) => block_sound (dexec_sound hC hF hm A (.rangeFunc f p as b)) id
  | .block id (.scope b) => block_sound (dexec_sound hC hF hm A (.scope b)) id
  | .block id (.label l) => block_sound (dexec_sound hC hF hm A (.label l)) id
  | .block id (.goto l) => block_sound (dexec_sound hC hF hm A (.goto l)) id
  | .block id (.refuse l) => block_sound (dexec_sound hC hF hm A (.refuse l)) id
  | .loop _ => fun s r a w h hs => by simp [dexec, Out.eval] at h
  | .rangeFunc .. => fun s r a w h hs => by simp [dexec, Out.eval] at h
  | .scope _ => fun s r a w h hs => by simp [dexec, Out.eval] at h
  | .label _ => fun s r a w h hs => by simp [dexec, Out.eval] at h
  | .goto _ => fun s r a w h hs => by simp [dexec, Out.eval] at h
  | .refuse _ => fun s r a w h hs => by simp [dexec, Out.eval] at h
end
end
section
open Go
inductive Cm where
  | b
  | i (k : IntKind)
  | s
  | e
  | ro (e : Ty)
  | own (e : Ty)
  | mut (e : Ty)
def cmC : Cm → Type → Type
  | .b, T => Bool × T
  | .i _, T => Int × T
  | .s, T => List UInt8 × T
  | .e, T => Bool × T
  | .ro e, T => List e.D × T
  | .own e, T => List e.D × T
  | .mut e, T => List e.D × T
def cmD : List Cm → Type
  | [] => Unit
  | c :: r => cmC c (cmD r)
def backPC : Cm → Type → Type
  | .b, T => Bool × T
  | .i _, T => Int × T
  | .s, T => List UInt8 × T
  | .e, T => Bool × T
  | .ro _, T => T
  | .own e, T => List e.D × T
  | .mut e, T => List e.D × T
def backVC : Cm → Type → Type
  | .mut e, T => List e.D × T
  | _, T => T
def backPD : List Cm → Type
  | [] => Unit
  | c :: r => backPC c (backPD r)
def backVD : List Cm → Type
  | [] => Unit
  | c :: r => backVC c (backVD r)
structure Item where
  ptr : Bool
  agg : Bool
  cs : List Cm
def itemsD : List Item → Type
  | [] => Unit
  | it :: r => cmD it.cs × itemsD r
def backID (it : Item) : Type :=
  match it with
  | ⟨true, _, cs⟩ => backPD cs
  | ⟨false, _, cs⟩ => backVD cs
def backD : List Item → Type
  | [] => Unit
  | it :: r => backID it × backD r
abbrev Lay := List (Option (Nat × Nat))
def layV : Lay → List Value → List Value
  | [], _ => []
  | none :: r, v :: vs => v :: layV r vs
  | none :: r, [] => layV r []
  | some (g, k) :: r, vs => .func (.func g) #[] (vs.take k).toArray :: layV r (vs.drop k)
def layD : Lay → List DVal → List DVal
  | [], _ => []
  | none :: r, v :: vs => v :: layD r vs
  | none :: r, [] => layD r []
  | some (g, k) :: r, vs => .fn g (vs.take k) :: layD r (vs.drop k)
def unlay : Lay → List DVal → Option (List DVal)
  | [], [] => some []
  | none :: r, d :: ds => (unlay r ds).map fun q => d :: q
  | some (g, k) :: r, .fn g' caps :: ds => if g = g' ∧ caps.length = k then (unlay r ds).map fun q => caps ++ q else none
  | _, _ => none
def mutL (E : Env) (e : Ty) : DVal → Option (List e.D × List Nat)
  | .nilS => takeL E e .nilS
  | .sref id none => takeL E e (.sref id none)
  | _ => none
def takeC (E EL : Env) : (l : List Cm) → List DVal → Option (cmD l × List Nat)
  | [], [] => some ((), [])
  | .b :: r, .b x :: q => (takeC E EL r q).map fun y => ((x, y.1), y.2)
  | .i k :: r, .i k' x :: q => if k = k' then (takeC E EL r q).map fun y => ((x, y.1), y.2) else none
  | .s :: r, .s x :: q => (takeC E EL r q).map fun y => ((x, y.1), y.2)
  | .e :: r, .er x :: q => (takeC E EL r q).map fun y => ((x, y.1), y.2)
  | .ro e :: r, d :: q => (listOf EL e d).bind fun x => (takeC E EL r q).map fun y => ((x, y.1), y.2)
  | .own e :: r, d :: q => (takeL E e d).bind fun z => (takeC E EL r q).map fun y => ((z.1, y.1), z.2 ++ y.2)
  | .mut e :: r, d :: q => (mutL E e d).bind fun z => (takeC E EL r q).map fun y => ((z.1, y.1), z.2 ++ y.2)
  | _, _ => none
def isAgg : DVal → Bool
  | .agg _ => true
  | _ => false
def takeI (E EL : Env) : (it : Item) → DVal → Option (cmD it.cs × List Nat)
  | ⟨false, a, cs⟩, d => if isAgg d = a ∧ d.cells.all DVal.isCell = true then takeC E EL cs d.cells else none
  | ⟨true, _, cs⟩, .vptr id off =>
    match E id with
    | some (.var l) => if off + cs.length ≤ l.length then (takeC E EL cs ((l.drop off).take cs.length)).map fun y => (y.1, id :: y.2) else none
    | _ => none
  | _, _ => none
def takeIs (E EL : Env) : (l : List Item) → List DVal → Option (itemsD l × List Nat)
  | [], [] => some ((), [])
  | it :: r, d :: q => (takeI E EL it d).bind fun x => (takeIs E EL r q).map fun y => ((x.1, y.1), x.2 ++ y.2)
  | _, _ => none
def tkOf (tk : Bool) (n : Nat) : Option Nat := if tk then some n else none
def enterC (tk : Bool) : (l : List Cm) → cmD l → Nat → List DVal × List (Nat × DVar) × Nat
  | [], _, n => ([], [], n)
  | .b :: r, x, n => (.b x.1 :: (enterC tk r x.2 n).1, (enterC tk r x.2 n).2)
  | .i k :: r, x, n => (.i k x.1 :: (enterC tk r x.2 n).1, (enterC tk r x.2 n).2)
  | .s :: r, x, n => (.s x.1 :: (enterC tk r x.2 n).1, (enterC tk r x.2 n).2)
  | .e :: r, x, n => (.er x.1 :: (enterC tk r x.2 n).1, (enterC tk r x.2 n).2)
  | .ro e :: r, x, n => (.ro e x.1 (tkOf tk n) :: (enterC tk r x.2 (n + 1)).1, (enterC tk r x.2 (n + 1)).2)
  | .own e :: r, x, n => (.sref n none :: (enterC tk r x.2 (n + 1)).1, (n, .arr e x.1) :: (enterC tk r x.2 (n + 1)).2.1, (enterC tk r x.2 (n + 1)).2.2)
  | .mut e :: r, x, n => (.sref n none :: (enterC tk r x.2 (n + 1)).1, (n, .arr e x.1) :: (enterC tk r x.2 (n + 1)).2.1, (enterC tk r x.2 (n + 1)).2.2)
def headV (a : Bool) (l : List DVal) : DVal := if a then .agg l else l.headD .dead
def enterI (tk : Bool) : (it : Item) → cmD it.cs → Nat → DVal × List (Nat × DVar) × Nat
  | ⟨false, a, cs⟩, x, n => (headV a (enterC tk cs x n).1, (enterC tk cs x n).2)
  | ⟨true, _, cs⟩, x, n => (.vptr n 0, (enterC tk cs x (n + 1)).2.1 ++ [(n, .var (enterC tk cs x (n + 1)).1)], (enterC tk cs x (n + 1)).2.2)
def enterIs (tk : Bool) : (l : List Item) → itemsD l → Nat → List DVal × List (Nat × DVar) × Nat
  | [], _, n => ([], [], n)
  | it :: r, x, n => ((enterI tk it x.1 n).1 :: (enterIs tk r x.2 (enterI tk it x.1 n).2.2).1, (enterI tk it x.1 n).2.1 ++ (enterIs tk r x.2 (enterI tk it x.1 n).2.2).2.1, (enterIs tk r x.2 (enterI tk it x.1 n).2.2).2.2)
def takeBP (E : Env) : (l : List Cm) → Nat → List DVal → Option (backPD l × List Nat)
  | [], _, [] => some ((), [])
  | .b :: r, n, .b x :: q => (takeBP E r n q).map fun y => ((x, y.1), y.2)
  | .i k :: r, n, .i k' x :: q => if k = k' then (takeBP E r n q).map fun y => ((x, y.1), y.2) else none
  | .s :: r, n, .s x :: q => (takeBP E r n q).map fun y => ((x, y.1), y.2)
  | .e :: r, n, .er x :: q => (takeBP E r n q).map fun y => ((x, y.1), y.2)
  | .ro _ :: r, n, .ro _ _ (some k) :: q => if k = n then takeBP E r (n + 1) q else none
  | .own e :: r, n, d :: q => (takeL E e d).bind fun z => (takeBP E r (n + 1) q).map fun y => ((z.1, y.1), z.2 ++ y.2)
  | .mut e :: r, n, d :: q => (takeL E e d).bind fun z => (takeBP E r (n + 1) q).map fun y => ((z.1, y.1), z.2 ++ y.2)
  | _, _, _ => none
def takeBV (E : Env) : (l : List Cm) → Nat → Option (backVD l × List Nat)
  | [], _ => some ((), [])
  | .b :: r, n => takeBV E r n
  | .i _ :: r, n => takeBV E r n
  | .s :: r, n => takeBV E r n
  | .e :: r, n => takeBV E r n
  | .ro _ :: r, n => takeBV E r (n + 1)
  | .own _ :: r, n => takeBV E r (n + 1)
  | .mut e :: r, n => (takeL E e (.sref n none)).bind fun z => (takeBV E r (n + 1)).map fun y => ((z.1, y.1), z.2 ++ y.2)
def cmN : List Cm → Nat → Nat
  | [], n => n
  | .b :: r, n => cmN r n
  | .i _ :: r, n => cmN r n
  | .s :: r, n => cmN r n
  | .e :: r, n => cmN r n
  | .ro _ :: r, n => cmN r (n + 1)
  | .own _ :: r, n => cmN r (n + 1)
  | .mut _ :: r, n => cmN r (n + 1)
def itN : Item → Nat → Nat
  | ⟨false, _, cs⟩, n => cmN cs n
  | ⟨true, _, cs⟩, n => cmN cs (n + 1)
def takeBI (E : Env) : (it : Item) → Nat → Option (backID it × List Nat)
  | ⟨false, _, cs⟩, n => takeBV E cs n
  | ⟨true, _, cs⟩, n =>
    match E n with
    | some (.var l) => (takeBP E cs (n + 1) l).map fun y => (y.1, n :: y.2)
    | _ => none
def takeBs (E : Env) : (l : List Item) → Nat → Option (backD l × List Nat)
  | [], _ => some ((), [])
  | it :: r, n => (takeBI E it n).bind fun x => (takeBs E r (itN it n)).map fun y => ((x.1, y.1), x.2 ++ y.2)
def backP : (l : List Cm) → List DVal → backPD l → Nat → List DVal × List (Nat × DVar) × Nat
  | .b :: r, _ :: q, x, n => (.b x.1 :: (backP r q x.2 n).1, (backP r q x.2 n).2)
  | .i k :: r, _ :: q, x, n => (.i k x.1 :: (backP r q x.2 n).1, (backP r q x.2 n).2)
  | .s :: r, _ :: q, x, n => (.s x.1 :: (backP r q x.2 n).1, (backP r q x.2 n).2)
  | .e :: r, _ :: q, x, n => (.er x.1 :: (backP r q x.2 n).1, (backP r q x.2 n).2)
  | .ro _ :: r, d :: q, x, n => (d :: (backP r q x n).1, (backP r q x n).2)
  | .own e :: r, _ :: q, x, n => (.sref n none :: (backP r q x.2 (n + 1)).1, (n, .arr e x.1) :: (backP r q x.2 (n + 1)).2.1, (backP r q x.2 (n + 1)).2.2)
  | .mut e :: r, _ :: q, x, n => (.sref n none :: (backP r q x.2 (n + 1)).1, (n, .arr e x.1) :: (backP r q x.2 (n + 1)).2.1, (backP r q x.2 (n + 1)).2.2)
  | _, _, _, n => ([], [], n)
def backV : (l : List Cm) → List DVal → backVD l → List (Nat × DVar)
  | .b :: r, _ :: q, x => backV r q x
  | .i _ :: r, _ :: q, x => backV r q x
  | .s :: r, _ :: q, x => backV r q x
  | .e :: r, _ :: q, x => backV r q x
  | .ro _ :: r, _ :: q, x => backV r q x
  | .own _ :: r, _ :: q, x => backV r q x
  | .mut e :: r, .sref id none :: q, x => (id, .arr e x.1) :: backV r q x.2
  | .mut _ :: r, _ :: q, x => backV r q x.2
  | _, _, _ => []
def backI (E : Env) : (it : Item) → DVal → backID it → Nat → List (Nat × DVar) × Nat
  | ⟨false, _, cs⟩, d, x, n => (backV cs d.cells x, n)
  | ⟨true, _, cs⟩, .vptr id off, x, n =>
    match E id with
    | some (.var l) => ((backP cs ((l.drop off).take cs.length) x n).2.1 ++ [(id, .var (spliceL l off (backP cs ((l.drop off).take cs.length) x n).1))], (backP cs ((l.drop off).take cs.length) x n).2.2)
    | _ => ([], n)
  | ⟨true, _, _⟩, _, _, n => ([], n)
def backIs (E : Env) : (l : List Item) → List DVal → backD l → Nat → List (Nat × DVar) × Nat
  | it :: r, d :: q, x, n => ((backI E it d x.1 n).1 ++ (backIs E r q x.2 (backI E it d x.1 n).2).1, (backIs E r q x.2 (backI E it d x.1 n).2).2)
  | _, _, _, n => ([], n)
structure Con where
  f : Nat
  lend : Bool
  its : List Item
  lay : Lay
  rs : List Item
  F : itemsD its → Out (itemsD rs × backD its)
  vw : Option (Nat × (Int → Int × Int)) := none
def resV : List DVal → DVal
  | [d] => d
  | ds => .tup ds
def lessE (E : Env) (ids : List Nat) : Env := fun id => if ids.contains id = true then none else E id
def noEnv : Env := fun _ => none
def roFree (l : List Item) : Bool := l.all fun it => it.cs.all fun c => match c with | .ro _ => false | .own e => e.noFz | .mut e => e.noFz | _ => true
def cmP (p : Ty → Bool) : Cm → Bool
  | .own e => p e
  | .mut e => p e
  | _ => true
def itsP (p : Ty → Bool) (l : List Item) : Bool := l.all fun it => it.cs.all (cmP p)
def after (K : Con) (E : Env) (ds : List DVal) (ids : List Nat) (fr : Nat) (y : itemsD K.rs × backD K.its) : Out Res :=
  let bk := backIs E K.its ds y.2 fr
  let en := enterIs false K.rs y.1 bk.2
  if en.2.2 ≤ fr + 64 then .ret (resV en.1, (ids.map fun k => (k, none)) ++ news (bk.1 ++ en.2.1)) else .fail
def lendE (K : Con) (E : Env) (ds : List DVal) : Env :=
  if K.lend = true then
    match takeIs E E K.its ds with
    | some x => lessE E x.2
    | none => noEnv
  else noEnv
def Con.call (K : Con) (ds : List DVal) (E : Env) (fr : Nat) : Option (Out Res) :=
  (unlay K.lay ds).bind fun is => (takeIs E (lendE K E is) K.its is).bind fun x =>
    if nodupB x.2 = true ∧ (K.lend = false ∨ ((roFree K.rs = true ∧ itsP Ty.noFz K.its = true) ∧ x.2.all (fun id => (lendE K E is id).isNone) = true)) then some ((K.F x.1).bind (after K E is x.2 fr)) else none
def viewD (E : Env) (es : Nat) (g : Int → Int × Int) : List DVal → Out Res
  | [.sref id none, .i .i64 n] => .of (lenD E (.sref id none)) fun l => if itemSize E id = some es then
      .ite (decide (0 ≤ (g n).1 ∧ (g n).1 ≤ (g n).2 ∧ (g n).2 ≤ (l : Int))) (ret1 (.sref id (some (0 + (g n).1.toNat, (g n).2.toNat - (g n).1.toNat)))) .fail else .fail
  | [.ro e xs _, .i .i64 n] => if e.size = es then
      .ite (decide (0 ≤ (g n).1 ∧ (g n).1 ≤ (g n).2 ∧ (g n).2 ≤ (xs.length : Int))) (ret1 (.ro e ((xs.drop (g n).1.toNat).take ((g n).2.toNat - (g n).1.toNat)) none)) .fail else .fail
  | _ => .fail
def callL : List Con → Nat → List DVal → Env → Nat → Out Res
  | [], _, _, _, _ => .fail
  | K :: r, f, ds, E, fr => if K.f = f then
      match K.vw with
      | some v => viewD E v.1 v.2 ds
      | none =>
        match K.call ds E fr with
        | some o => o
        | none => callL r f ds E fr
    else callL r f ds E fr
def entry (its : List Item) (lay : Lay) (ntmps : Nat) (x : itemsD its) : DSt :=
  let en := enterIs true its x 0
  { t := layD lay en.1 ++ List.replicate (ntmps - (layD lay en.1).length) .undef, v := updV [] (news en.2.1), k := [0], kn := [] }
def resD (C : Cx) (s : DSt) : ResultVar → Option DVal
  | .tmp j => some (s.t.getD j .dead)
  | .cell a t =>
    match s.t.getD a .dead with
    | .vptr id off =>
      match lookV s.v id with
      | some (.var cs) => (C.ty t).bind fun ty => if off + ty.size ≤ cs.length then some (mkVal ty ((cs.drop off).take ty.size)) else none
      | _ => none
    | _ => none
def resDs (C : Cx) (s : DSt) : List ResultVar → Option (List DVal)
  | [] => some []
  | r :: l => (resD C s r).bind fun d => (resDs C s l).map fun ds => d :: ds
def plainIts (l : List Item) : Bool := l.all fun it => !it.ptr && it.cs.all fun c => match c with | .own _ => false | .mut _ => false | _ => true
def arrE (E : Env) : Env := fun id =>
  match E id with
  | some (.arr e xs) => some (.arr e xs)
  | _ => none
def leaveE (its rs : List Item) (E : Env) (ds : List DVal) : Env :=
  if roFree rs = false ∧ plainIts its = true then
    match takeIs E E rs ds with
    | some y => arrE (lessE E y.2)
    | _ => noEnv
  else noEnv
def leave (C : Cx) (its rs : List Item) (rtm : List ResultVar) (s : DSt) : Option (itemsD rs × backD its) :=
  (resDs C s rtm).bind fun ds => (takeIs (lookV s.v) (leaveE its rs (lookV s.v) ds) rs ds).bind fun y => (takeBs (lookV s.v) its 0).bind fun z =>
    if nodupB (y.2 ++ z.2) = true ∧ (roFree rs = true ∨ ((y.2 ++ z.2).all fun id => (leaveE its rs (lookV s.v) ds id).isNone) = true) then some (y.1, z.1) else none
def bodyOut (C : Cx) (A : Nat → Option LoopAnn) (code : Code) (its : List Item) (lay : Lay) (ntmps : Nat) (rs : List Item) (rtm : List ResultVar) (x : itemsD its) : Out (itemsD rs × backD its) :=
  (dexec C A code (entry its lay ntmps x)).bind fun r =>
    match r.1 with
    | .exit _ => .fail
    | _ => .of (leave C its rs rtm r.2) .ret
end
section
open Go
variable {z : Fz}
def cmRep (S : Nat → Prop) (w : World) : (l : List Cm) → List Value → cmD l → List Nat → Prop
  | [], vs, _, f => vs = [] ∧ f = []
  | .b :: r, vs, x, f => ∃ vs', vs = .bool x.1 :: vs' ∧ cmRep S w r vs' x.2 f
  | .i k :: r, vs, x, f => ∃ vs', vs = .int k x.1 :: vs' ∧ cmRep S w r vs' x.2 f
  | .s :: r, vs, x, f => ∃ vs', vs = .string ⟨List.toArray x.1⟩ :: vs' ∧ List.length x.1 ≤ BIG ∧ cmRep S w r vs' x.2 f
  | .e :: r, vs, x, f => ∃ v vs', vs = v :: vs' ∧ erV v x.1 ∧ cmRep S w r vs' x.2 f
  | .ro e :: r, vs, x, f => ∃ v vs', vs = v :: vs' ∧ (Ty.sl e).repS S w [v] x.1 ∧ cmRep S w r vs' x.2 f
  | .own e :: r, vs, x, f => ∃ v vs' f1 f2, vs = v :: vs' ∧ f = f1 ++ f2 ∧ (Ty.sl e).repO ⟨S, w⟩ w [v] x.1 f1 ∧ cmRep S w r vs' x.2 f2
  | .mut e :: r, vs, x, f => ∃ v vs' f1 f2, vs = v :: vs' ∧ f = f1 ++ f2 ∧ (Ty.sl e).repO ⟨S, w⟩ w [v] x.1 f1 ∧ cmRep S w r vs' x.2 f2
theorem cmRep_length {S : Nat → Prop} {w : World} : (l : List Cm) → {vs : List Value} → {x : cmD l} → {f : List Nat} → cmRep S w l vs x f → vs.length = l.length
  | [], _, _, _, h => by simp only [cmRep] at h; rw [h.1]; rfl
  | .b :: r, _, _, _, h => by simp only [cmRep] at h; obtain ⟨vs', rfl, h⟩ := h; simp [cmRep_length r h]
  | .i _ :: r, _, _, _, h => by simp only [cmRep] at h; obtain ⟨vs', rfl, h⟩ := h; simp [cmRep_length r h]
  | .s :: r, _, _, _, h => by simp only [cmRep] at h; obtain ⟨vs', rfl, _, h⟩ := h; simp [cmRep_length r h]
  | .e :: r, _, _, _, h => by simp only [cmRep] at h; obtain ⟨_, vs', rfl, _, h⟩ := h; simp [cmRep_length r h]
  | .ro e :: r, _, _, _, h => by simp only [cmRep] at h; obtain ⟨v, vs', rfl, _, h⟩ := h; simp [cmRep_length r h]
  | .own e :: r, _, _, _, h => by simp only [cmRep] at h; obtain ⟨v, vs', f1, f2, rfl, _, _, h⟩ := h; simp [cmRep_length r h]
  | .mut e :: r, _, _, _, h => by simp only [cmRep] at h; obtain ⟨v, vs', f1, f2, rfl, _, _, h⟩ := h; simp [cmRep_length r h]
def Toks (c : Ctx) (tk : Bool) : List Cm → List Value → Nat → Prop
  | .b :: r, _ :: vs, n => Toks c tk r vs n
  | .i _ :: r, _ :: vs, n => Toks c tk r vs n
  | .s :: r, _ :: vs, n => Toks c tk r vs n
  | .e :: r, _ :: vs, n => Toks c tk r vs n
  | .ro _ :: r, v :: vs, n => (tk = true → c.tok n = v) ∧ Toks c tk r vs (n + 1)
  | .own _ :: r, _ :: vs, n => Toks c tk r vs (n + 1)
  | .mut _ :: r, _ :: vs, n => Toks c tk r vs (n + 1)
  | _, _, _ => True
theorem enterC_N (tk : Bool) : (l : List Cm) → (x : cmD l) → (n : Nat) → (enterC tk l x n).2.2 = cmN l n
  | [], _, _ => rfl
  | .b :: r, x, n => enterC_N tk r x.2 n
  | .i _ :: r, x, n => enterC_N tk r x.2 n
  | .s :: r, x, n => enterC_N tk r x.2 n
  | .e :: r, x, n => enterC_N tk r x.2 n
  | .ro _ :: r, x, n => enterC_N tk r x.2 (n + 1)
  | .own _ :: r, x, n => enterC_N tk r x.2 (n + 1)
  | .mut _ :: r, x, n => enterC_N tk r x.2 (n + 1)
theorem cmN_le : (l : List Cm) → (n : Nat) → n ≤ cmN l n
  | [], n => Nat.le_refl n
  | .b :: r, n => cmN_le r n
  | .i _ :: r, n => cmN_le r n
  | .s :: r, n => cmN_le r n
  | .e :: r, n => cmN_le r n
  | .ro _ :: r, n => Nat.le_trans (Nat.le_succ n) (cmN_le r (n + 1))
  | .own _ :: r, n => Nat.le_trans (Nat.le_succ n) (cmN_le r (n + 1))
  | .mut _ :: r, n => Nat.le_trans (Nat.le_succ n) (cmN_le r (n + 1))
theorem itN_le (it : Item) (n : Nat) : n ≤ itN it n := by
  obtain ⟨p, a, cs⟩ := it
  cases p with
  | false => exact cmN_le cs n
  | true => exact Nat.le_trans (Nat.le_succ n) (cmN_le cs (n + 1))
theorem enterI_N (tk : Bool) (it : Item) (x : cmD it.cs) (n : Nat) : (enterI tk it x n).2.2 = itN it n := by
  obtain ⟨p, a, cs⟩ := it
  cases p with
  | false => exact enterC_N tk cs x n
  | true => exact enterC_N tk cs x (n + 1)
def itsN : List Item → Nat → Nat
  | [], n => n
  | it :: r, n => itsN r (itN it n)
theorem itsN_le : (l : List Item) → (n : Nat) → n ≤ itsN l n
  | [], n => Nat.le_refl n
  | it :: r, n => Nat.le_trans (itN_le it n) (itsN_le r _)
theorem enterIs_N (tk : Bool) : (l : List Item) → (x : itemsD l) → (n : Nat) → (enterIs tk l x n).2.2 = itsN l n
  | [], _, _ => rfl
  | it :: r, x, n => by
    show (enterIs tk r x.2 (enterI tk it x.1 n).2.2).2.2 = itsN r (itN it n)
    rw [enterIs_N tk r, enterI_N]
structure Pool (c : Ctx) (K : Nat → Prop) (μ : Nat → Loc) (fp : Nat → List Nat) (v : Env) (w : World) (rest : List Nat) : Prop where
  rel : RelV c μ fp v w
  known : ∀ id x, v id = some x → K id ∧ ∀ id' ∈ x.ids, K id'
  nodup : rest.Nodup
  far : ∀ id, v id ≠ none → ∀ b ∈ fp id, b ∉ rest
  ok : ∀ b ∈ rest, ¬ c.S b ∧ b < w.heap.size
section
variable {c : Ctx} {K K' : Nat → Prop} {μ μ' : Nat → Loc} {fp : Nat → List Nat} {v : Env} {w : World}
theorem Pool.perm {rest rest' : List Nat} (h : Pool c K μ fp v w rest) (hp : rest.Perm rest') : Pool c K μ fp v w rest' :=
  ⟨h.rel, h.known, hp.nodup_iff.1 h.nodup, fun id hv b hb hb' => h.far id hv b hb (hp.mem_iff.2 hb'), fun b hb => h.ok b (hp.mem_iff.2 hb)⟩
theorem Pool.add {f0 rest : List Nat} (h : Pool c K μ fp v w (f0 ++ rest)) {id0 : Nat} {x0 : DVar} (hμ : ∀ id, K id → μ' id = μ id) (hK : ∀ id, K id → K' id) (h0 : K' id0) (hx : ∀ id' ∈ x0.ids, K' id')
    (hrel : VarRel c μ' w id0 f0 x0) : Pool c K' μ' (fun k => if k = id0 then f0 else fp k) (updF v (news [(id0, x0)])) w rest := by
  have hna := List.nodup_append.1 h.nodup
  have hupd : ∀ k, updF v (news [(id0, x0)]) k = if k = id0 then some x0 else v k := fun k => rfl
  refine ⟨?_, ?_, hna.2.1, ?_, fun b hb => h.ok b (by simp [hb])⟩
  · exact h.rel.produce' [] id0 x0 f0 (fun id y hy _ _ => ⟨hμ id (h.known id y hy).1, fun i hi => hμ i ((h.known id y hy).2 i hi)⟩) (fun _ _ _ _ _ _ => rfl) (Nat.le_refl _) hrel hna.1
      fun b hb => ⟨(h.ok b (by simp [hb])).1, (h.ok b (by simp [hb])).2, fun id hv _ _ hb' => h.far id hv b hb' (by simp [hb])⟩
  · intro id y hy
    rw [hupd] at hy
    by_cases hi : id = id0
    · rw [if_pos hi] at hy; cases hy
      exact ⟨hi ▸ h0, hx⟩
    · rw [if_neg hi] at hy
      exact ⟨hK id (h.known id y hy).1, fun i hi' => hK i ((h.known id y hy).2 i hi')⟩
  · intro id hv b hb hb'
    rw [hupd] at hv
    by_cases hi : id = id0
    · simp only [if_pos hi] at hb
      exact hna.2.2 b hb b hb' rfl
    · rw [if_neg hi] at hv
      simp only [if_neg hi] at hb
      exact h.far id hv b hb (by simp [hb'])
theorem Pool.addL {f0 rest : List Nat} {n : Nat} {e : Ty} {xs : List e.D} {hd : Value} (h : Pool c K μ fp v w (f0 ++ rest)) (hn : ¬ K n) (hr : (Ty.sl e).repO c.fz w [hd] xs f0)
    (hM : ∀ b ∈ f0, b < c.w0.heap.size → ∀ j, c.M b j) :
    ∃ μ' fp', VRel c μ' hd (.sref n none) ∧ Pool c (fun id => K id ∨ id = n) μ' fp' (updF v (news [(n, .arr e xs)])) w rest ∧ ∀ id, K id → μ' id = μ id := by
  have hr' := hr
  simp only [Ty.repO] at hr'
  obtain ⟨a, cap, e1, hc, _⟩ := hr'
  cases e1
  have ha : ∀ id, K id → (if id = n then Loc.hdr a (List.length xs) cap e.size else μ id) = μ id := fun id hi => if_neg fun (e : id = n) => hn (e ▸ hi)
  refine ⟨fun id => if id = n then .hdr a (List.length xs) cap e.size else μ id, _, ?_, h.add (K' := fun id => K id ∨ id = n) ha (fun _ => .inl) (.inr rfl) (fun _ hi => by cases hi) ⟨a, cap, if_pos rfl, hr, hM⟩, ha⟩
  simp only [VRel]
  exact ⟨a, List.length xs, cap, e.size, by simp, rfl⟩
theorem Pool.weaken {rest : List Nat} (h : Pool c K μ fp v w rest) (hK : ∀ id, K id → K' id) : Pool c K' μ fp v w rest :=
  ⟨h.rel, fun id x hx => ⟨hK id (h.known id x hx).1, fun i hi => hK i ((h.known id x hx).2 i hi)⟩, h.nodup, h.far, h.ok⟩
theorem enterC_ids (tk : Bool) : (l : List Cm) → (x : cmD l) → (n : Nat) → ∀ id ∈ DVal.idsL (enterC tk l x n).1, n ≤ id ∧ id < cmN l n
  | [], _, _ => by intro id h; cases h
  | .b :: r, x, n => enterC_ids tk r x.2 n
  | .i _ :: r, x, n => enterC_ids tk r x.2 n
  | .s :: r, x, n => enterC_ids tk r x.2 n
  | .e :: r, x, n => enterC_ids tk r x.2 n
  | .ro _ :: r, x, n => fun id h => by have := enterC_ids tk r x.2 (n + 1) id h; simp only [cmN]; omega
  | .own _ :: r, x, n => fun id h => by
    have h : id ∈ n :: DVal.idsL (enterC tk r x.2 (n + 1)).1 := h
    have l1 := cmN_le r (n + 1)
    simp only [cmN]
    rcases List.mem_cons.1 h with h | h
    · omega
    · have := enterC_ids tk r x.2 (n + 1) id h; omega
  | .mut _ :: r, x, n => fun id h => by
    have h : id ∈ n :: DVal.idsL (enterC tk r x.2 (n + 1)).1 := h
    have l1 := cmN_le r (n + 1)
    simp only [cmN]
    rcases List.mem_cons.1 h with h | h
    · omega
    · have := enterC_ids tk r x.2 (n + 1) id h; omega
theorem enterC_isCell (tk : Bool) : (l : List Cm) → (x : cmD l) → (n : Nat) → (enterC tk l x n).1.all DVal.isCell = true
  | [], _, _ => rfl
  | .b :: r, x, n => by simpa [enterC, DVal.isCell] using enterC_isCell tk r x.2 n
  | .i _ :: r, x, n => by simpa [enterC, DVal.isCell] using enterC_isCell tk r x.2 n
  | .s :: r, x, n => by simpa [enterC, DVal.isCell] using enterC_isCell tk r x.2 n
  | .e :: r, x, n => by simpa [enterC, DVal.isCell] using enterC_isCell tk r x.2 n
  | .ro _ :: r, x, n => by simpa [enterC, DVal.isCell] using enterC_isCell tk r x.2 (n + 1)
  | .own _ :: r, x, n => by simpa [enterC, DVal.isCell] using enterC_isCell tk r x.2 (n + 1)
  | .mut _ :: r, x, n => by simpa [enterC, DVal.isCell] using enterC_isCell tk r x.2 (n + 1)
theorem enterC_len (tk : Bool) : (l : List Cm) → (x : cmD l) → (n : Nat) → (enterC tk l x n).1.length = l.length
  | [], _, _ => rfl
  | .b :: r, x, n => by simpa [enterC] using enterC_len tk r x.2 n
  | .i _ :: r, x, n => by simpa [enterC] using enterC_len tk r x.2 n
  | .s :: r, x, n => by simpa [enterC] using enterC_len tk r x.2 n
  | .e :: r, x, n => by simpa [enterC] using enterC_len tk r x.2 n
  | .ro _ :: r, x, n => by simpa [enterC] using enterC_len tk r x.2 (n + 1)
  | .own _ :: r, x, n => by simpa [enterC] using enterC_len tk r x.2 (n + 1)
  | .mut _ :: r, x, n => by simpa [enterC] using enterC_len tk r x.2 (n + 1)
def Entered (c : Ctx) (K : Nat → Prop) (μ : Nat → Loc) (v : Env) (w : World) (rest : List Nat) (n n' : Nat) (ns : List (Nat × DVar)) (R : (Nat → Loc) → Prop) : Prop :=
  ∃ μ' fp', R μ' ∧ Pool c (fun id => K id ∨ (n ≤ id ∧ id < n')) μ' fp' (updF v (news ns)) w rest ∧ ∀ id, K id → μ' id = μ id
theorem enterC_rel {S : Nat → Prop} (tk : Bool) (hS : ∀ b, S b → c.S b ∧ c.w0.heap[b]? = w.heap[b]?) : (l : List Cm) → ∀ {vs : List Value} {x : cmD l} {f rest : List Nat} {n : Nat} {K : Nat → Prop} {μ : Nat → Loc} {fp : Nat → List Nat} {v : Env},
    Pool c K μ fp v w (f ++ rest) → cmRep S w l vs x f → Toks c tk l vs n → (∀ b ∈ f, b < c.w0.heap.size → ∀ j, c.M b j) → (∀ id, n ≤ id → id < cmN l n → ¬ K id) →
    Entered c K μ v w rest n (cmN l n) (enterC tk l x n).2.1 fun μ' => VsRel c μ' vs (enterC tk l x n).1
  | [], vs, x, f, rest, n, K, μ, fp, v, h, hr, _, _, _ => by
    simp only [cmRep] at hr
    obtain ⟨rfl, rfl⟩ := hr
    exact ⟨μ, fp, by simp [enterC, VsRel], h.weaken fun _ => .inl, fun _ _ => rfl⟩
  | .b :: r, vs, x, f, rest, n, K, μ, fp, v, h, hr, ht, hM, hk => by
    simp only [cmRep] at hr
    obtain ⟨vs', rfl, hr⟩ := hr
    obtain ⟨μ', fp', h1, h2, h3⟩ := enterC_rel tk hS r h hr ht hM hk
    exact ⟨μ', fp', by simp only [enterC, VsRel, VRel]; exact ⟨_, _, rfl, rfl, h1⟩, h2, h3⟩
  | .i k :: r, vs, x, f, rest, n, K, μ, fp, v, h, hr, ht, hM, hk => by
    simp only [cmRep] at hr
    obtain ⟨vs', rfl, hr⟩ := hr
    obtain ⟨μ', fp', h1, h2, h3⟩ := enterC_rel tk hS r h hr ht hM hk
    exact ⟨μ', fp', by simp only [enterC, VsRel, VRel]; exact ⟨_, _, rfl, rfl, h1⟩, h2, h3⟩
  | .s :: r, vs, x, f, rest, n, K, μ, fp, v, h, hr, ht, hM, hk => by
    simp only [cmRep] at hr
    obtain ⟨vs', rfl, hl, hr⟩ := hr
    obtain ⟨μ', fp', h1, h2, h3⟩ := enterC_rel tk hS r h hr ht hM hk
    exact ⟨μ', fp', by simp only [enterC, VsRel, VRel]; exact ⟨_, _, rfl, ⟨rfl, hl⟩, h1⟩, h2, h3⟩
  | .e :: r, vs, x, f, rest, n, K, μ, fp, v, h, hr, ht, hM, hk => by
    simp only [cmRep] at hr
    obtain ⟨_, vs', rfl, hl, hr⟩ := hr
    obtain ⟨μ', fp', h1, h2, h3⟩ := enterC_rel tk hS r h hr ht hM hk
    exact ⟨μ', fp', by simp only [enterC, VsRel, VRel]; exact ⟨_, _, rfl, hl, h1⟩, h2, h3⟩
  | .ro e :: r, vs, x, f, rest, n, K, μ, fp, v, h, hr, ht, hM, hk => by
    simp only [cmRep] at hr
    obtain ⟨v0, vs', rfl, hx, hr⟩ := hr
    simp only [Toks] at ht
    have l1 := cmN_le r (n + 1)
    obtain ⟨μ', fp', h1, h2, h3⟩ := enterC_rel tk hS r h hr ht.2 hM (fun id g1 g2 => hk id (by omega) g2)
    refine ⟨μ', fp', ?_, h2.weaken fun id hi => hi.imp (fun h => h) fun g => ⟨by omega, g.2⟩, h3⟩
    simp only [enterC, VsRel, VRel]
    refine ⟨_, _, rfl, ⟨Ty.repS_congr (fun b hb => hS b hb) _ hx, fun k hk => ?_⟩, h1⟩
    cases tk with
    | false => cases hk
    | true => cases hk; exact (ht.1 rfl).symm
  | .own e :: r, vs, x, f, rest, n, K, μ, fp, v, h, hr, ht, hM, hk => by
    simp only [cmRep] at hr
    obtain ⟨v0, vs', f1, f2, rfl, rfl, hx, hr⟩ := hr
    have l1 := cmN_le r (n + 1)
    simp only [cmN] at hk
    obtain ⟨μ1, fp1, g1, g2, g3⟩ := Pool.addL (rest := f2 ++ rest) (by rw [← List.append_assoc]; exact h) (hk n (Nat.le_refl n) (by omega)) (Ty.repO_mono (show Fz.le ⟨S, w⟩ c.fz from hS) _ hx) (fun b hb => hM b (by simp [hb]))
    obtain ⟨μ', fp', h1, h2, h3⟩ := enterC_rel tk hS r g2 hr ht (fun b hb => hM b (by simp [hb])) (fun id q1 q2 q3 => q3.elim (hk id (by omega) q2) (by omega))
    refine ⟨μ', fp', ?_, h2.weaken fun id hi => ?_, fun id hi => (h3 id (.inl hi)).trans (g3 id hi)⟩
    · simp only [enterC, VsRel]
      exact ⟨_, _, rfl, VRel.mono _ (fun id hi => by simp only [DVal.ids, List.mem_singleton] at hi; exact h3 id (.inr hi)) g1, h1⟩
    · simp only [cmN]
      rcases hi with (hi | hi) | hi
      · exact .inl hi
      · right; omega
      · right; omega
  | .mut e :: r, vs, x, f, rest, n, K, μ, fp, v, h, hr, ht, hM, hk => by
    simp only [cmRep] at hr
    obtain ⟨v0, vs', f1, f2, rfl, rfl, hx, hr⟩ := hr
    have l1 := cmN_le r (n + 1)
    simp only [cmN] at hk
    obtain ⟨μ1, fp1, g1, g2, g3⟩ := Pool.addL (rest := f2 ++ rest) (by rw [← List.append_assoc]; exact h) (hk n (Nat.le_refl n) (by omega)) (Ty.repO_mono (show Fz.le ⟨S, w⟩ c.fz from hS) _ hx) (fun b hb => hM b (by simp [hb]))
    obtain ⟨μ', fp', h1, h2, h3⟩ := enterC_rel tk hS r g2 hr ht (fun b hb => hM b (by simp [hb])) (fun id q1 q2 q3 => q3.elim (hk id (by omega) q2) (by omega))
    refine ⟨μ', fp', ?_, h2.weaken fun id hi => ?_, fun id hi => (h3 id (.inl hi)).trans (g3 id hi)⟩
    · simp only [enterC, VsRel]
      exact ⟨_, _, rfl, VRel.mono _ (fun id hi => by simp only [DVal.ids, List.mem_singleton] at hi; exact h3 id (.inr hi)) g1, h1⟩
    · simp only [cmN]
      rcases hi with (hi | hi) | hi
      · exact .inl hi
      · right; omega
      · right; omega
end
theorem perm_items (f1 f2 g1 g2 : List Nat) : (f1 ++ f2 ++ (g1 ++ g2)).Perm ((f1 ++ g1) ++ (f2 ++ g2)) := by
  simp only [List.append_assoc]
  refine List.Perm.append_left f1 ?_
  rw [← List.append_assoc, ← List.append_assoc]
  exact List.Perm.append_right _ List.perm_append_comm
def ItemRep (S : Nat → Prop) (w : World) : (it : Item) → Value → cmD it.cs → List Nat → List (Nat × Nat × Nat) → Prop
  | ⟨false, a, cs⟩, v, x, f, g => g = [] ∧ cmRep S w cs v.cells.toList x f ∧ (a = true → ∃ us, v = .agg us) ∧ (a = false → v.oneCell' = true)
  | ⟨true, _, cs⟩, v, x, f, g => ∃ B o C E, g = [(B, o, cs.length)] ∧ v = .pointer (some ⟨B, o, none⟩) ∧ w.heap[B]? = some (.cells C E (0, 0)) ∧ o + cs.length ≤ C.size ∧ cmRep S w cs (cellsAt w B o cs.length) x f
def ItemsRep (S : Nat → Prop) (w : World) : (l : List Item) → List Value → itemsD l → List Nat → List (Nat × Nat × Nat) → Prop
  | [], vs, _, f, g => vs = [] ∧ f = [] ∧ g = []
  | it :: r, vs, x, f, g => ∃ v vs' f1 f2 g1 g2, vs = v :: vs' ∧ f = f1 ++ f2 ∧ g = g1 ++ g2 ∧ ItemRep S w it v x.1 f1 g1 ∧ ItemsRep S w r vs' x.2 f2 g2
theorem ItemsRep.length {S : Nat → Prop} {w : World} : (l : List Item) → {vs : List Value} → {x : itemsD l} → {f : List Nat} → {g : List (Nat × Nat × Nat)} → ItemsRep S w l vs x f g → vs.length = l.length
  | [], _, _, _, _, h => by simp only [ItemsRep] at h; rw [h.1]; rfl
  | it :: r, _, _, _, _, h => by simp only [ItemsRep] at h; obtain ⟨v, vs', f1, f2, g1, g2, rfl, _, _, _, h⟩ := h; simp [ItemsRep.length r h]
def ToksI (c : Ctx) (tk : Bool) (w : World) : Item → Value → Nat → Prop
  | ⟨false, _, cs⟩, v, n => Toks c tk cs v.cells.toList n
  | ⟨true, _, cs⟩, v, n => ∀ B o, v = .pointer (some ⟨B, o, none⟩) → Toks c tk cs (cellsAt w B o cs.length) (n + 1)
def ToksIs (c : Ctx) (tk : Bool) (w : World) : List Item → List Value → Nat → Prop
  | it :: r, v :: vs, n => ToksI c tk w it v n ∧ ToksIs c tk w r vs (itN it n)
  | _, _, _ => True
section
variable {c : Ctx} {K K' : Nat → Prop} {μ μ' : Nat → Loc} {fp : Nat → List Nat} {v : Env} {w : World}
theorem headV_rel {a : Bool} {d : Value} {ds : List DVal} (h : VsRel c μ d.cells.toList ds) (h1 : a = true → ∃ us, d = .agg us) (h2 : a = false → d.oneCell' = true) : VRel c μ d (headV a ds) := by
  cases a with
  | true =>
    obtain ⟨us, rfl⟩ := h1 rfl
    simp only [headV, if_true, VRel]
    exact ⟨us, rfl, h⟩
  | false =>
    rw [cells_of_oneCell (h2 rfl)] at h
    simp only [headV]
    cases ds with
    | nil => simp [VsRel] at h
    | cons y ds =>
      simp only [VsRel] at h
      obtain ⟨v', vs', e, h, _⟩ := h
      cases e
      exact h
theorem enterI_rel {S : Nat → Prop} (tk : Bool) (hS : ∀ b, S b → c.S b ∧ c.w0.heap[b]? = w.heap[b]?) : (it : Item) → ∀ {d : Value} {x : cmD it.cs} {f rest : List Nat} {g : List (Nat × Nat × Nat)} {n : Nat} {K : Nat → Prop} {μ : Nat → Loc} {fp : Nat → List Nat} {v : Env},
    Pool c K μ fp v w (f ++ g.map (·.1) ++ rest) → ItemRep S w it d x f g → ToksI c tk w it d n → (∀ b ∈ f, b < c.w0.heap.size → ∀ j, c.M b j) →
    (∀ B o m, (B, o, m) ∈ g → B < c.w0.heap.size → ∀ j, j < m → c.M B (o + j)) → (∀ id, n ≤ id → id < itN it n → ¬ K id) →
    Entered c K μ v w rest n (itN it n) (enterI tk it x n).2.1 fun μ' => VRel c μ' d (enterI tk it x n).1
  | ⟨false, a, cs⟩, d, x, f, rest, g, n, K, μ, fp, v, h, hr, ht, hM, _, hk => by
    simp only [ItemRep] at hr
    obtain ⟨rfl, hr, h1, h2⟩ := hr
    obtain ⟨μ', fp', g1, g2, g3⟩ := enterC_rel tk hS cs (by simpa using h) hr ht hM hk
    exact ⟨μ', fp', headV_rel g1 h1 h2, g2, g3⟩
  | ⟨true, a, cs⟩, d, x, f, rest, g, n, K, μ, fp, v, h, hr, ht, hM, hG, hk => by
    simp only [ItemRep] at hr
    obtain ⟨B, o, C, E, rfl, rfl, hb, hC, hr⟩ := hr
    have hk : ∀ id, n ≤ id → id < cmN cs (n + 1) → ¬ K id := hk
    have l1 := cmN_le cs (n + 1)
    obtain ⟨μ1, fp1, g1, g2, g3⟩ := enterC_rel tk hS cs (rest := [B] ++ rest) (by simpa using h) hr (ht B o rfl) hM (fun id q1 q2 => hk id (by omega) q2)
    have hn : ¬ (K n ∨ n + 1 ≤ n ∧ n < cmN cs (n + 1)) := fun hi => hi.elim (hk n (Nat.le_refl n) (by omega)) (by omega)
    have ha : ∀ id, (K id ∨ n + 1 ≤ id ∧ id < cmN cs (n + 1)) → (if id = n then Loc.at B o else μ1 id) = μ1 id := fun id hi => if_neg fun (e : id = n) => hn (e ▸ hi)
    have hl : (enterC tk cs x (n + 1)).1.length = cs.length := enterC_len tk cs x (n + 1)
    have hids := enterC_ids tk cs x (n + 1)
    have hvar : VarRel c (fun id => if id = n then Loc.at B o else μ1 id) w n [B] (.var (enterC tk cs x (n + 1)).1) := by
      refine ⟨B, o, C, E, if_pos rfl, rfl, hb, by rw [hl]; exact hC, ?_, enterC_isCell tk cs x (n + 1), fun hlt j hj => hG B o cs.length (by simp) hlt j (by rwa [hl] at hj)⟩
      rw [hl]
      exact VsRel.mono _ (fun id hi => ha id (.inr (hids id hi))) g1
    refine ⟨fun id => if id = n then Loc.at B o else μ1 id, fun k => if k = n then [B] else fp1 k, ?_, ?_, ?_⟩
    · show VRel c _ _ (.vptr n 0)
      simp only [VRel]
      exact ⟨B, o, by simp, rfl⟩
    · show Pool c _ _ _ (updF v (news ((enterC tk cs x (n + 1)).2.1 ++ [(n, .var (enterC tk cs x (n + 1)).1)]))) w rest
      rw [news_append, updF_append]
      refine g2.add (μ' := fun id => if id = n then Loc.at B o else μ1 id) ha (fun id hi => ?_) (.inr ⟨Nat.le_refl n, show n < cmN cs (n + 1) by omega⟩) (fun id hi => ?_) hvar
      · exact hi.imp (fun h => h) fun q => ⟨by omega, q.2⟩
      · have := hids id hi
        exact .inr ⟨by omega, this.2⟩
    · exact fun id hi => (ha id (.inl hi)).trans (g3 id hi)
theorem enterI_ids (tk : Bool) : (it : Item) → (x : cmD it.cs) → (n : Nat) → ∀ id ∈ (enterI tk it x n).1.ids, n ≤ id ∧ id < itN it n
  | ⟨false, a, cs⟩, x, n => by
    intro id h
    refine enterC_ids tk cs x n id ?_
    cases a with
    | true => exact h
    | false =>
      have h : id ∈ ((enterC tk cs x n).1.headD .dead).ids := h
      cases hy : (enterC tk cs x n).1 with
      | nil => rw [hy] at h; cases h
      | cons y l => rw [hy] at h; simp only [List.headD_cons] at h; simp [DVal.idsL, h]
  | ⟨true, a, cs⟩, x, n => by
    intro id h
    have h : id ∈ [n] := h
    simp only [List.mem_singleton] at h
    have l1 := cmN_le cs (n + 1)
    show n ≤ id ∧ id < cmN cs (n + 1)
    omega
theorem enterIs_rel {S : Nat → Prop} (tk : Bool) (hS : ∀ b, S b → c.S b ∧ c.w0.heap[b]? = w.heap[b]?) : (l : List Item) → ∀ {vs : List Value} {x : itemsD l} {f rest : List Nat} {g : List (Nat × Nat × Nat)} {n : Nat} {K : Nat → Prop} {μ : Nat → Loc} {fp : Nat → List Nat} {v : Env},
    Pool c K μ fp v w (f ++ g.map (·.1) ++ rest) → ItemsRep S w l vs x f g → ToksIs c tk w l vs n → (∀ b ∈ f, b < c.w0.heap.size → ∀ j, c.M b j) →
    (∀ B o m, (B, o, m) ∈ g → B < c.w0.heap.size → ∀ j, j < m → c.M B (o + j)) → (∀ id, n ≤ id → id < itsN l n → ¬ K id) →
    Entered c K μ v w rest n (itsN l n) (enterIs tk l x n).2.1 fun μ' => VsRel c μ' vs (enterIs tk l x n).1
  | [], vs, x, f, rest, g, n, K, μ, fp, v, h, hr, _, _, _, _ => by
    simp only [ItemsRep] at hr
    obtain ⟨rfl, rfl, rfl⟩ := hr
    exact ⟨μ, fp, by simp [enterIs, VsRel], Pool.weaken (show Pool c K μ fp v w rest by simpa using h) fun _ => .inl, fun _ _ => rfl⟩
  | it :: r, vs, x, f, rest, g, n, K, μ, fp, v, h, hr, ht, hM, hG, hk => by
    simp only [ItemsRep] at hr
    obtain ⟨d, vs', f1, f2, g1, g2, rfl, rfl, rfl, h1, hr⟩ := hr
    simp only [ToksIs] at ht
    have hk : ∀ id, n ≤ id → id < itsN r (itN it n) → ¬ K id := hk
    have l1 := itN_le it n
    have l2 := itsN_le r (itN it n)
    have hp : (f1 ++ f2 ++ (g1 ++ g2).map (·.1) ++ rest).Perm (f1 ++ g1.map (·.1) ++ (f2 ++ g2.map (·.1) ++ rest)) := by
      rw [List.map_append]
      refine (List.Perm.append_right rest (perm_items f1 f2 _ _)).trans ?_
      rw [List.append_assoc]
    obtain ⟨μ1, fp1, q1, q2, q3⟩ := enterI_rel tk hS it (h.perm hp) h1 ht.1 (fun b hb => hM b (by simp [hb])) (fun B o m hb => hG B o m (by simp [hb])) (fun id e1 e2 => hk id e1 (by omega))
    obtain ⟨μ', fp', p1, p2, p3⟩ := enterIs_rel tk hS r q2 hr ht.2 (fun b hb => hM b (by simp [hb])) (fun B o m hb => hG B o m (by simp [hb])) (fun id e1 e2 e3 => e3.elim (hk id (by omega) e2) (by omega))
    refine ⟨μ', fp', ?_, ?_, fun id hi => (p3 id (.inl hi)).trans (q3 id hi)⟩
    · simp only [enterIs, VsRel]
      refine ⟨_, _, rfl, VRel.mono _ (fun id hi => p3 id (.inr (enterI_ids tk it x.1 n id hi))) q1, ?_⟩
      rw [enterI_N]; exact p1
    · simp only [enterIs, news_append, updF_append]
      rw [enterI_N]
      refine p2.weaken fun id hi => ?_
      simp only [itsN]
      rcases hi with (hi | hi) | hi
      · exact .inl hi
      · right; omega
      · right; omega
end
end
section
open Go
variable {z : Fz}
section
variable {c : Ctx} {μ : Nat → Loc} {fp : Nat → List Nat} {v : Env} {w : World} {E EL : Env}
theorem Gone.nil : Gone c fp v E [] [] := ⟨by simp, by simp, by simp, by simp⟩
theorem mutL_eq {e : Ty} {d : DVal} {z : List e.D × List Nat} (h : mutL E e d = some z) : takeL E e d = some z := by
  unfold mutL at h
  split at h
  · exact h
  · exact h
  · cases h
theorem takeC_rel (h : RelV c μ fp v w) (ev : Ev c w) (hE : ∀ id x, E id = some x → v id = some x) (hEL : ∀ id x, EL id = some x → v id = some x) {S' : Nat → Prop} (hS : ∀ b, c.S b → S' b) (hP : ∀ id, EL id ≠ none → ∀ b ∈ fp id, S' b) :
    (l : List Cm) → {vs : List Value} → {ds : List DVal} → {r : cmD l × List Nat} → VsRel c μ vs ds → takeC E EL l ds = some r → r.2.Nodup → ∃ f, cmRep S' w l vs r.1 f ∧ Gone c fp v E r.2 f
  | [], vs, ds, r, hr, hf, _ => by
    cases ds with
    | nil =>
      cases hf
      simp only [VsRel] at hr
      exact ⟨[], by simp only [cmRep]; exact ⟨hr, trivial⟩, Gone.nil⟩
    | cons d q => cases hf
  | .b :: l, vs, ds, r, hr, hf, hn => by
    cases ds with
    | nil => cases hf
    | cons d q =>
      cases d <;> try (cases hf; done)
      rename_i x
      obtain ⟨y, hy, rfl⟩ := Option.map_eq_some_iff.1 (show ((takeC E EL l q).map fun y => ((x, y.1), y.2)) = some r from hf)
      simp only [VsRel] at hr
      obtain ⟨v0, vs', rfl, hx, hr⟩ := hr
      simp only [VRel] at hx; subst hx
      obtain ⟨f, h1, h2⟩ := takeC_rel h ev hE hEL hS hP l hr hy hn
      exact ⟨f, by simp only [cmRep]; exact ⟨vs', rfl, h1⟩, h2⟩
  | .i k :: l, vs, ds, r, hr, hf, hn => by
    cases ds with
    | nil => cases hf
    | cons d q =>
      cases d <;> try (cases hf; done)
      rename_i k' x
      replace hf : (if k = k' then (takeC E EL l q).map fun y => ((x, y.1), y.2) else none) = some r := hf
      split at hf
      case isFalse => cases hf
      rename_i e; subst e
      obtain ⟨y, hy, rfl⟩ := Option.map_eq_some_iff.1 hf
      simp only [VsRel] at hr
      obtain ⟨v0, vs', rfl, hx, hr⟩ := hr
      simp only [VRel] at hx; subst hx
      obtain ⟨f, h1, h2⟩ := takeC_rel h ev hE hEL hS hP l hr hy hn
      exact ⟨f, by simp only [cmRep]; exact ⟨vs', rfl, h1⟩, h2⟩
  | .s :: l, vs, ds, r, hr, hf, hn => by
    cases ds with
    | nil => cases hf
    | cons d q =>
      cases d <;> try (cases hf; done)
      rename_i x
      obtain ⟨y, hy, rfl⟩ := Option.map_eq_some_iff.1 (show ((takeC E EL l q).map fun y => ((x, y.1), y.2)) = some r from hf)
      simp only [VsRel] at hr
      obtain ⟨v0, vs', rfl, hx, hr⟩ := hr
      simp only [VRel] at hx
      obtain ⟨f, h1, h2⟩ := takeC_rel h ev hE hEL hS hP l hr hy hn
      exact ⟨f, by simp only [cmRep]; exact ⟨vs', by rw [hx.1], hx.2, h1⟩, h2⟩
  | .e :: l, vs, ds, r, hr, hf, hn => by
    cases ds with
    | nil => cases hf
    | cons d q =>
      cases d <;> try (cases hf; done)
      rename_i x
      obtain ⟨y, hy, rfl⟩ := Option.map_eq_some_iff.1 (show ((takeC E EL l q).map fun y => ((x, y.1), y.2)) = some r from hf)
      simp only [VsRel] at hr
      obtain ⟨v0, vs', rfl, hx, hr⟩ := hr
      simp only [VRel] at hx
      obtain ⟨f, h1, h2⟩ := takeC_rel h ev hE hEL hS hP l hr hy hn
      exact ⟨f, by simp only [cmRep]; exact ⟨_, vs', rfl, hx, h1⟩, h2⟩
  | .ro e :: l, vs, ds, r, hr, hf, hn => by
    cases ds with
    | nil => cases hf
    | cons d q =>
      replace hf : ((listOf EL e d).bind fun x => (takeC E EL l q).map fun y => ((x, y.1), y.2)) = some r := hf
      obtain ⟨x, hx, hf⟩ := Option.bind_eq_some_iff.1 hf
      obtain ⟨y, hy, rfl⟩ := Option.map_eq_some_iff.1 hf
      simp only [VsRel] at hr
      obtain ⟨v0, vs', rfl, hv, hr⟩ := hr
      obtain ⟨f, h1, h2⟩ := takeC_rel h ev hE hEL hS hP l hr hy hn
      exact ⟨f, by simp only [cmRep]; exact ⟨v0, vs', rfl, listOf_rel h ev hEL hS hP hv hx, h1⟩, h2⟩
  | .own e :: l, vs, ds, r, hr, hf, hn => by
    cases ds with
    | nil => cases hf
    | cons d q =>
      replace hf : ((takeL E e d).bind fun z => (takeC E EL l q).map fun y => ((z.1, y.1), z.2 ++ y.2)) = some r := hf
      obtain ⟨z, hz, hf⟩ := Option.bind_eq_some_iff.1 hf
      obtain ⟨y, hy, rfl⟩ := Option.map_eq_some_iff.1 hf
      simp only [VsRel] at hr
      obtain ⟨v0, vs', rfl, hv, hr⟩ := hr
      obtain ⟨f, h1, h2⟩ := takeC_rel h ev hE hEL hS hP l hr hy (List.nodup_append.1 hn).2.1
      obtain ⟨f0, g1, g2⟩ := takeL_rel h hE hv hz
      exact ⟨f0 ++ f, by simp only [cmRep]; exact ⟨v0, vs', f0, f, rfl, rfl, Ty.repO_mono (show Fz.le c.fz ⟨S', w⟩ from fun b hb => ⟨hS b hb, ev.S b hb⟩) _ g1, h1⟩, g2.append h h2 hn⟩
  | .mut e :: l, vs, ds, r, hr, hf, hn => by
    cases ds with
    | nil => cases hf
    | cons d q =>
      replace hf : ((mutL E e d).bind fun z => (takeC E EL l q).map fun y => ((z.1, y.1), z.2 ++ y.2)) = some r := hf
      obtain ⟨z, hz, hf⟩ := Option.bind_eq_some_iff.1 hf
      obtain ⟨y, hy, rfl⟩ := Option.map_eq_some_iff.1 hf
      simp only [VsRel] at hr
      obtain ⟨v0, vs', rfl, hv, hr⟩ := hr
      obtain ⟨f, h1, h2⟩ := takeC_rel h ev hE hEL hS hP l hr hy (List.nodup_append.1 hn).2.1
      obtain ⟨f0, g1, g2⟩ := takeL_rel h hE hv (mutL_eq hz)
      exact ⟨f0 ++ f, by simp only [cmRep]; exact ⟨v0, vs', f0, f, rfl, rfl, Ty.repO_mono (show Fz.le c.fz ⟨S', w⟩ from fun b hb => ⟨hS b hb, ev.S b hb⟩) _ g1, h1⟩, g2.append h h2 hn⟩
structure GoneB (c : Ctx) (fp : Nat → List Nat) (v E : Env) (ids : List Nat) (f : List Nat) (g : List (Nat × Nat × Nat)) : Prop where
  mem : ∀ b ∈ f ++ g.map (·.1), ∃ id ∈ ids, b ∈ fp id
  nodup : (f ++ g.map (·.1)).Nodup
  there : ∀ id ∈ ids, v id ≠ none ∧ E id ≠ none
  may : ∀ b ∈ f, b < c.w0.heap.size → ∀ j, c.M b j
structure GoneI (c : Ctx) (fp : Nat → List Nat) (v E : Env) (ids : List Nat) (f : List Nat) (g : List (Nat × Nat × Nat)) : Prop extends GoneB c fp v E ids f g where
  mayG : ∀ B o m, (B, o, m) ∈ g → B < c.w0.heap.size → ∀ j, j < m → c.M B (o + j)
theorem GoneB.nil : GoneB c fp v E [] [] [] := ⟨by simp, by simp, by simp, by simp⟩
theorem GoneB.append (h : RelV c μ fp v w) {ids ids' f f' : List Nat} {g g' : List (Nat × Nat × Nat)} (a : GoneB c fp v E ids f g) (b : GoneB c fp v E ids' f' g') (hn : (ids ++ ids').Nodup) :
    GoneB c fp v E (ids ++ ids') (f ++ f') (g ++ g') := by
  have hp : (f ++ f' ++ (g ++ g').map (·.1)).Perm ((f ++ g.map (·.1)) ++ (f' ++ g'.map (·.1))) := by rw [List.map_append]; exact perm_items _ _ _ _
  constructor
  · intro x hx
    rcases List.mem_append.1 (hp.mem_iff.1 hx) with hx | hx
    · obtain ⟨i, hi, hm⟩ := a.mem x hx; exact ⟨i, by simp [hi], hm⟩
    · obtain ⟨i, hi, hm⟩ := b.mem x hx; exact ⟨i, by simp [hi], hm⟩
  · rw [hp.nodup_iff, List.nodup_append]
    refine ⟨a.nodup, b.nodup, fun x hx y hy e => ?_⟩
    subst e
    obtain ⟨i, hi, hm⟩ := a.mem x hx
    obtain ⟨j, hj, hm'⟩ := b.mem x hy
    have : i ≠ j := fun e => (List.nodup_append.1 hn).2.2 i hi j hj e
    exact h.sep i j this (a.there i hi).1 (b.there j hj).1 x hm hm'
  · intro i hi
    rcases List.mem_append.1 hi with hi | hi
    · exact a.there i hi
    · exact b.there i hi
  · intro x hx
    rcases List.mem_append.1 hx with hx | hx
    · exact a.may x hx
    · exact b.may x hx
theorem GoneI.append (h : RelV c μ fp v w) {ids ids' f f' : List Nat} {g g' : List (Nat × Nat × Nat)} (a : GoneI c fp v E ids f g) (b : GoneI c fp v E ids' f' g') (hn : (ids ++ ids').Nodup) :
    GoneI c fp v E (ids ++ ids') (f ++ f') (g ++ g') := by
  refine ⟨a.toGoneB.append h b.toGoneB hn, fun B o m hx => ?_⟩
  rcases List.mem_append.1 hx with hx | hx
  · exact a.mayG B o m hx
  · exact b.mayG B o m hx
theorem cells_agg {d : DVal} {x : Value} (h : VRel c μ x d) (ha : isAgg d = true) : ∃ us, x = .agg us := by
  cases d <;> simp [isAgg] at ha
  simp only [VRel] at h
  obtain ⟨vs, rfl, _⟩ := h
  exact ⟨vs, rfl⟩
theorem cells_one {d : DVal} {x : Value} (h : VRel c μ x d) (ha : isAgg d = false) (hc : d.cells.all DVal.isCell = true) : x.oneCell' = true := by
  have hd : d.cells = [d] := by cases d <;> first | rfl | cases ha
  rw [hd] at hc
  simp only [List.all_cons, List.all_nil, Bool.and_true] at hc
  exact h.oneCell hc
theorem takeI_rel (h : RelV c μ fp v w) (ev : Ev c w) (hE : ∀ id x, E id = some x → v id = some x) (hEL : ∀ id x, EL id = some x → v id = some x) {S' : Nat → Prop} (hS : ∀ b, c.S b → S' b) (hP : ∀ id, EL id ≠ none → ∀ b ∈ fp id, S' b) :
    (it : Item) → {x : Value} → {d : DVal} → {r : cmD it.cs × List Nat} → VRel c μ x d → takeI E EL it d = some r → r.2.Nodup → ∃ f g, ItemRep S' w it x r.1 f g ∧ GoneI c fp v E r.2 f g
  | ⟨false, a, cs⟩, x, d, r, hr, hf, hn => by
    replace hf : (if isAgg d = a ∧ d.cells.all DVal.isCell = true then takeC E EL cs d.cells else none) = some r := hf
    split at hf
    case isFalse => cases hf
    rename_i hc
    obtain ⟨f, h1, h2⟩ := takeC_rel h ev hE hEL hS hP cs (hr.cells hc.2) hf hn
    refine ⟨f, [], ⟨rfl, h1, fun e => cells_agg hr (hc.1.trans e), fun e => cells_one hr (hc.1.trans e) hc.2⟩, ⟨⟨by simpa using h2.mem, by simpa using h2.nodup, h2.there, h2.may⟩, fun _ _ _ hb => by cases hb⟩⟩
  | ⟨true, a, cs⟩, x, d, r, hr, hf, hn => by
    cases d <;> try (cases hf; done)
    rename_i id off
    replace hf : (match E id with | some (.var l) => if off + cs.length ≤ l.length then (takeC E EL cs ((l.drop off).take cs.length)).map fun y => (y.1, id :: y.2) else none | _ => none) = some r := hf
    split at hf
    case h_2 => cases hf
    rename_i l hid
    split at hf
    case isFalse => cases hf
    rename_i hl
    obtain ⟨y, hy, rfl⟩ := Option.map_eq_some_iff.1 hf
    have hv := hE id _ hid
    obtain ⟨B, o, C, T, h1, h2, h3, h4, h5, h6, h7⟩ := h.rel id _ hv
    simp only [VRel] at hr
    obtain ⟨B', o', e1, rfl⟩ := hr
    rw [h1] at e1; cases e1
    have hsub : cellsAt w B (o + off) cs.length = ((cellsAt w B o l.length).drop off).take cs.length := cellsAt_sub (by omega)
    rw [List.nodup_cons] at hn
    obtain ⟨f, g1, g2⟩ := takeC_rel h ev hE hEL hS hP cs ((h5.drop off).take cs.length) hy hn.2
    refine ⟨f, [(B, o + off, cs.length)], ⟨B, o + off, C, T, rfl, rfl, h3, by omega, by rw [hsub]; exact g1⟩, ?_⟩
    have hB : B ∉ f := by
      intro hb
      obtain ⟨i, hi, hm⟩ := g2.mem B hb
      have hne : i ≠ id := fun e => hn.1 (e ▸ hi)
      exact h.sep i id hne (g2.there i hi).1 (by rw [hv]; simp) B hm (by rw [h2]; simp)
    refine ⟨⟨?_, ?_, ?_, ?_⟩, ?_⟩
    · intro b hb
      simp only [List.map_cons, List.map_nil, List.mem_append, List.mem_singleton] at hb
      rcases hb with hb | rfl
      · obtain ⟨i, hi, hm⟩ := g2.mem b hb; exact ⟨i, by simp [hi], hm⟩
      · exact ⟨id, by simp, by rw [h2]; simp⟩
    · simp only [List.map_cons, List.map_nil, List.nodup_append]
      refine ⟨g2.nodup, by simp, fun a ha b hb e => ?_⟩
      simp only [List.mem_singleton] at hb
      exact hB (by rw [← hb, ← e]; exact ha)
    · intro i hi
      rcases List.mem_cons.1 hi with rfl | hi
      · rw [hv, hid]; simp
      · exact g2.there i hi
    · exact g2.may
    · intro B' o' m hm hlt j hj
      simp only [List.mem_singleton, Prod.mk.injEq] at hm
      obtain ⟨rfl, rfl, rfl⟩ := hm
      have := h7 hlt (off + j) (by omega)
      rwa [← Nat.add_assoc] at this
theorem takeIs_rel (h : RelV c μ fp v w) (ev : Ev c w) (hE : ∀ id x, E id = some x → v id = some x) (hEL : ∀ id x, EL id = some x → v id = some x) {S' : Nat → Prop} (hS : ∀ b, c.S b → S' b) (hP : ∀ id, EL id ≠ none → ∀ b ∈ fp id, S' b) :
    (l : List Item) → {vs : List Value} → {ds : List DVal} → {r : itemsD l × List Nat} → VsRel c μ vs ds → takeIs E EL l ds = some r → r.2.Nodup → ∃ f g, ItemsRep S' w l vs r.1 f g ∧ GoneI c fp v E r.2 f g
  | [], vs, ds, r, hr, hf, _ => by
    cases ds with
    | nil =>
      cases hf
      simp only [VsRel] at hr
      exact ⟨[], [], by simp only [ItemsRep]; exact ⟨hr, trivial, trivial⟩, ⟨GoneB.nil, fun _ _ _ hb => by cases hb⟩⟩
    | cons d q => cases hf
  | it :: l, vs, ds, r, hr, hf, hn => by
    cases ds with
    | nil => cases hf
    | cons d q =>
      replace hf : ((takeI E EL it d).bind fun x => (takeIs E EL l q).map fun y => ((x.1, y.1), x.2 ++ y.2)) = some r := hf
      obtain ⟨z, hz, hf⟩ := Option.bind_eq_some_iff.1 hf
      obtain ⟨y, hy, rfl⟩ := Option.map_eq_some_iff.1 hf
      simp only [VsRel] at hr
      obtain ⟨v0, vs', rfl, hv, hr⟩ := hr
      obtain ⟨f, g, h1, h2⟩ := takeIs_rel h ev hE hEL hS hP l hr hy (List.nodup_append.1 hn).2.1
      obtain ⟨f0, g0, h3, h4⟩ := takeI_rel h ev hE hEL hS hP it hv hz (List.nodup_append.1 hn).1
      exact ⟨f0 ++ f, g0 ++ g, by simp only [ItemsRep]; exact ⟨v0, vs', f0, f, g0, g, rfl, rfl, rfl, h3, h1⟩, h4.append h h2 hn⟩
def backRepP (z : Fz) (w : World) : (l : List Cm) → List Value → List Value → backPD l → List Nat → Prop
  | [], os, vs, _, f => os = [] ∧ vs = [] ∧ f = []
  | .b :: r, os, vs, x, f => ∃ o os' vs', os = o :: os' ∧ vs = .bool x.1 :: vs' ∧ backRepP z w r os' vs' x.2 f
  | .i k :: r, os, vs, x, f => ∃ o os' vs', os = o :: os' ∧ vs = .int k x.1 :: vs' ∧ backRepP z w r os' vs' x.2 f
  | .s :: r, os, vs, x, f => ∃ o os' vs', os = o :: os' ∧ vs = .string ⟨List.toArray x.1⟩ :: vs' ∧ List.length x.1 ≤ BIG ∧ backRepP z w r os' vs' x.2 f
  | .e :: r, os, vs, x, f => ∃ o os' v vs', os = o :: os' ∧ vs = v :: vs' ∧ erV v x.1 ∧ backRepP z w r os' vs' x.2 f
  | .ro _ :: r, os, vs, x, f => ∃ o os' vs', os = o :: os' ∧ vs = o :: vs' ∧ backRepP z w r os' vs' x f
  | .own e :: r, os, vs, x, f => ∃ o os' v vs' f1 f2, os = o :: os' ∧ vs = v :: vs' ∧ f = f1 ++ f2 ∧ (Ty.sl e).repO z w [v] x.1 f1 ∧ backRepP z w r os' vs' x.2 f2
  | .mut e :: r, os, vs, x, f => ∃ o os' v vs' f1 f2, os = o :: os' ∧ vs = v :: vs' ∧ f = f1 ++ f2 ∧ (Ty.sl e).repO z w [v] x.1 f1 ∧ backRepP z w r os' vs' x.2 f2
def backRepV (z : Fz) (w : World) : (l : List Cm) → List Value → backVD l → List Nat → Prop
  | [], vs, _, f => vs = [] ∧ f = []
  | .b :: r, vs, x, f => ∃ v vs', vs = v :: vs' ∧ backRepV z w r vs' x f
  | .i _ :: r, vs, x, f => ∃ v vs', vs = v :: vs' ∧ backRepV z w r vs' x f
  | .s :: r, vs, x, f => ∃ v vs', vs = v :: vs' ∧ backRepV z w r vs' x f
  | .e :: r, vs, x, f => ∃ v vs', vs = v :: vs' ∧ backRepV z w r vs' x f
  | .ro _ :: r, vs, x, f => ∃ v vs', vs = v :: vs' ∧ backRepV z w r vs' x f
  | .own _ :: r, vs, x, f => ∃ v vs', vs = v :: vs' ∧ backRepV z w r vs' x f
  | .mut e :: r, vs, x, f => ∃ v vs' f1 f2, vs = v :: vs' ∧ f = f1 ++ f2 ∧ (Ty.sl e).repO z w [v] x.1 f1 ∧ backRepV z w r vs' x.2 f2
def BackRep (z : Fz) (w w' : World) : (it : Item) → Value → backID it → List Nat → Prop
  | ⟨false, _, cs⟩, v, y, f => backRepV z w' cs v.cells.toList y f
  | ⟨true, _, cs⟩, v, y, f => ∃ B o, v = .pointer (some ⟨B, o, none⟩) ∧ backRepP z w' cs (cellsAt w B o cs.length) (cellsAt w' B o cs.length) y f
def BacksRep (z : Fz) (w w' : World) : (l : List Item) → List Value → backD l → List Nat → Prop
  | [], vs, _, f => vs = [] ∧ f = []
  | it :: r, vs, y, f => ∃ v vs' f1 f2, vs = v :: vs' ∧ f = f1 ++ f2 ∧ BackRep z w w' it v y.1 f1 ∧ BacksRep z w w' r vs' y.2 f2
theorem takeBP_len {E : Env} : (l : List Cm) → {n : Nat} → {ds : List DVal} → {r : backPD l × List Nat} → takeBP E l n ds = some r → ds.length = l.length
  | [], n, ds, r, hf => by
    cases ds with
    | nil => rfl
    | cons d q => cases hf
  | .b :: l, n, ds, r, hf => by
    cases ds with
    | nil => cases hf
    | cons d q =>
      cases d <;> try (cases hf; done)
      rename_i x
      obtain ⟨y, hy, rfl⟩ := Option.map_eq_some_iff.1 (show ((takeBP E l n q).map fun y => ((x, y.1), y.2)) = some r from hf)
      simp [takeBP_len l hy]
  | .i k :: l, n, ds, r, hf => by
    cases ds with
    | nil => cases hf
    | cons d q =>
      cases d <;> try (cases hf; done)
      rename_i k' x
      replace hf : (if k = k' then (takeBP E l n q).map fun y => ((x, y.1), y.2) else none) = some r := hf
      split at hf
      case isFalse => cases hf
      obtain ⟨y, hy, rfl⟩ := Option.map_eq_some_iff.1 hf
      simp [takeBP_len l hy]
  | .s :: l, n, ds, r, hf => by
    cases ds with
    | nil => cases hf
    | cons d q =>
      cases d <;> try (cases hf; done)
      rename_i x
      obtain ⟨y, hy, rfl⟩ := Option.map_eq_some_iff.1 (show ((takeBP E l n q).map fun y => ((x, y.1), y.2)) = some r from hf)
      simp [takeBP_len l hy]
  | .e :: l, n, ds, r, hf => by
    cases ds with
    | nil => cases hf
    | cons d q =>
      cases d <;> try (cases hf; done)
      rename_i x
      obtain ⟨y, hy, rfl⟩ := Option.map_eq_some_iff.1 (show ((takeBP E l n q).map fun y => ((x, y.1), y.2)) = some r from hf)
      simp [takeBP_len l hy]
  | .ro e :: l, n, ds, r, hf => by
    cases ds with
    | nil => cases hf
    | cons d q =>
      cases d <;> try (cases hf; done)
      rename_i e' xs tk
      cases tk with
      | none => cases hf
      | some k =>
        replace hf : (if k = n then takeBP E l (n + 1) q else none) = some r := hf
        split at hf
        case isFalse => cases hf
        simp [takeBP_len l hf]
  | .own e :: l, n, ds, r, hf => by
    cases ds with
    | nil => cases hf
    | cons d q =>
      replace hf : ((takeL E e d).bind fun z => (takeBP E l (n + 1) q).map fun y => ((z.1, y.1), z.2 ++ y.2)) = some r := hf
      obtain ⟨z, hz, hf⟩ := Option.bind_eq_some_iff.1 hf
      obtain ⟨y, hy, rfl⟩ := Option.map_eq_some_iff.1 hf
      simp [takeBP_len l hy]
  | .mut e :: l, n, ds, r, hf => by
    cases ds with
    | nil => cases hf
    | cons d q =>
      replace hf : ((takeL E e d).bind fun z => (takeBP E l (n + 1) q).map fun y => ((z.1, y.1), z.2 ++ y.2)) = some r := hf
      obtain ⟨z, hz, hf⟩ := Option.bind_eq_some_iff.1 hf
      obtain ⟨y, hy, rfl⟩ := Option.map_eq_some_iff.1 hf
      simp [takeBP_len l hy]
theorem takeBP_rel (h : RelV c μ fp v w) (hE : ∀ id x, E id = some x → v id = some x) : (l : List Cm) → {n : Nat} → {os vs : List Value} → {ds : List DVal} → {r : backPD l × List Nat} →
    VsRel c μ vs ds → os.length = l.length → Toks c true l os n → takeBP E l n ds = some r → r.2.Nodup → ∃ f, backRepP c.fz w l os vs r.1 f ∧ Gone c fp v E r.2 f
  | [], n, os, vs, ds, r, hr, ho, ht, hf, hn => by
    cases ds with
    | nil =>
      cases hf
      simp only [VsRel] at hr
      exact ⟨[], by simp only [backRepP]; exact ⟨List.eq_nil_of_length_eq_zero ho, hr, trivial⟩, Gone.nil⟩
    | cons d q => cases hf
  | _ :: _, n, [], vs, ds, r, hr, ho, ht, hf, hn => by cases ho
  | .b :: l, n, o :: os, vs, ds, r, hr, ho, ht, hf, hn => by
    cases ds with
    | nil => cases hf
    | cons d q =>
      cases d <;> try (cases hf; done)
      rename_i x
      obtain ⟨y, hy, rfl⟩ := Option.map_eq_some_iff.1 (show ((takeBP E l n q).map fun y => ((x, y.1), y.2)) = some r from hf)
      simp only [VsRel] at hr
      obtain ⟨v0, vs', rfl, hx, hr⟩ := hr
      simp only [VRel] at hx; subst hx
      obtain ⟨f, h1, h2⟩ := takeBP_rel h hE l hr (by simpa using ho) ht hy hn
      exact ⟨f, by simp only [backRepP]; exact ⟨o, os, vs', rfl, rfl, h1⟩, h2⟩
  | .i k :: l, n, o :: os, vs, ds, r, hr, ho, ht, hf, hn => by
    cases ds with
    | nil => cases hf
    | cons d q =>
      cases d <;> try (cases hf; done)
      rename_i k' x
      replace hf : (if k = k' then (takeBP E l n q).map fun y => ((x, y.1), y.2) else none) = some r := hf
      split at hf
      case isFalse => cases hf
      rename_i e; subst e
      obtain ⟨y, hy, rfl⟩ := Option.map_eq_some_iff.1 hf
      simp only [VsRel] at hr
      obtain ⟨v0, vs', rfl, hx, hr⟩ := hr
      simp only [VRel] at hx; subst hx
      obtain ⟨f, h1, h2⟩ := takeBP_rel h hE l hr (by simpa using ho) ht hy hn
      exact ⟨f, by simp only [backRepP]; exact ⟨o, os, vs', rfl, rfl, h1⟩, h2⟩
  | .s :: l, n, o :: os, vs, ds, r, hr, ho, ht, hf, hn => by
    cases ds with
    | nil => cases hf
    | cons d q =>
      cases d <;> try (cases hf; done)
      rename_i x
      obtain ⟨y, hy, rfl⟩ := Option.map_eq_some_iff.1 (show ((takeBP E l n q).map fun y => ((x, y.1), y.2)) = some r from hf)
      simp only [VsRel] at hr
      obtain ⟨v0, vs', rfl, hx, hr⟩ := hr
      simp only [VRel] at hx
      obtain ⟨f, h1, h2⟩ := takeBP_rel h hE l hr (by simpa using ho) ht hy hn
      exact ⟨f, by simp only [backRepP]; exact ⟨o, os, vs', rfl, by rw [hx.1], hx.2, h1⟩, h2⟩
  | .e :: l, n, o :: os, vs, ds, r, hr, ho, ht, hf, hn => by
    cases ds with
    | nil => cases hf
    | cons d q =>
      cases d <;> try (cases hf; done)
      rename_i x
      obtain ⟨y, hy, rfl⟩ := Option.map_eq_some_iff.1 (show ((takeBP E l n q).map fun y => ((x, y.1), y.2)) = some r from hf)
      simp only [VsRel] at hr
      obtain ⟨v0, vs', rfl, hx, hr⟩ := hr
      simp only [VRel] at hx
      obtain ⟨f, h1, h2⟩ := takeBP_rel h hE l hr (by simpa using ho) ht hy hn
      exact ⟨f, by simp only [backRepP]; exact ⟨o, os, _, vs', rfl, rfl, hx, h1⟩, h2⟩
  | .ro e :: l, n, o :: os, vs, ds, r, hr, ho, ht, hf, hn => by
    cases ds with
    | nil => cases hf
    | cons d q =>
      cases d <;> try (cases hf; done)
      rename_i e' xs tk
      cases tk with
      | none => cases hf
      | some k =>
        replace hf : (if k = n then takeBP E l (n + 1) q else none) = some r := hf
        split at hf
        case isFalse => cases hf
        rename_i ek; subst ek
        simp only [VsRel] at hr
        obtain ⟨v0, vs', rfl, hx, hr⟩ := hr
        simp only [VRel] at hx
        simp only [Toks] at ht
        obtain ⟨f, h1, h2⟩ := takeBP_rel h hE l hr (by simpa using ho) ht.2 hf hn
        have hv0 : v0 = o := (hx.2 k rfl).trans (ht.1 trivial)
        exact ⟨f, by simp only [backRepP]; exact ⟨o, os, vs', rfl, by rw [hv0], h1⟩, h2⟩
  | .own e :: l, n, o :: os, vs, ds, r, hr, ho, ht, hf, hn => by
    cases ds with
    | nil => cases hf
    | cons d q =>
      replace hf : ((takeL E e d).bind fun z => (takeBP E l (n + 1) q).map fun y => ((z.1, y.1), z.2 ++ y.2)) = some r := hf
      obtain ⟨z, hz, hf⟩ := Option.bind_eq_some_iff.1 hf
      obtain ⟨y, hy, rfl⟩ := Option.map_eq_some_iff.1 hf
      simp only [VsRel] at hr
      obtain ⟨v0, vs', rfl, hv, hr⟩ := hr
      obtain ⟨f, h1, h2⟩ := takeBP_rel h hE l hr (by simpa using ho) ht hy (List.nodup_append.1 hn).2.1
      obtain ⟨f0, g1, g2⟩ := takeL_rel h hE hv hz
      exact ⟨f0 ++ f, by simp only [backRepP]; exact ⟨o, os, v0, vs', f0, f, rfl, rfl, rfl, g1, h1⟩, g2.append h h2 hn⟩
  | .mut e :: l, n, o :: os, vs, ds, r, hr, ho, ht, hf, hn => by
    cases ds with
    | nil => cases hf
    | cons d q =>
      replace hf : ((takeL E e d).bind fun z => (takeBP E l (n + 1) q).map fun y => ((z.1, y.1), z.2 ++ y.2)) = some r := hf
      obtain ⟨z, hz, hf⟩ := Option.bind_eq_some_iff.1 hf
      obtain ⟨y, hy, rfl⟩ := Option.map_eq_some_iff.1 hf
      simp only [VsRel] at hr
      obtain ⟨v0, vs', rfl, hv, hr⟩ := hr
      obtain ⟨f, h1, h2⟩ := takeBP_rel h hE l hr (by simpa using ho) ht hy (List.nodup_append.1 hn).2.1
      obtain ⟨f0, g1, g2⟩ := takeL_rel h hE hv hz
      exact ⟨f0 ++ f, by simp only [backRepP]; exact ⟨o, os, v0, vs', f0, f, rfl, rfl, rfl, g1, h1⟩, g2.append h h2 hn⟩
theorem takeBV_rel (h : RelV c μ fp v w) (hE : ∀ id x, E id = some x → v id = some x) : (l : List Cm) → {n : Nat} → {x : cmD l} → {vs : List Value} → {r : backVD l × List Nat} →
    VsRel c μ vs (enterC true l x n).1 → takeBV E l n = some r → r.2.Nodup → ∃ f, backRepV c.fz w l vs r.1 f ∧ Gone c fp v E r.2 f
  | [], n, x, vs, r, hr, hf, hn => by
    cases hf
    simp only [enterC, VsRel] at hr
    exact ⟨[], by simp only [backRepV]; exact ⟨hr, trivial⟩, Gone.nil⟩
  | .b :: l, n, x, vs, r, hr, hf, hn => by
    simp only [enterC, VsRel] at hr
    obtain ⟨v0, vs', rfl, _, hr⟩ := hr
    obtain ⟨f, h1, h2⟩ := takeBV_rel h hE l hr (show takeBV E l n = some r from hf) hn
    exact ⟨f, by simp only [backRepV]; exact ⟨v0, vs', rfl, h1⟩, h2⟩
  | .i _ :: l, n, x, vs, r, hr, hf, hn => by
    simp only [enterC, VsRel] at hr
    obtain ⟨v0, vs', rfl, _, hr⟩ := hr
    obtain ⟨f, h1, h2⟩ := takeBV_rel h hE l hr (show takeBV E l n = some r from hf) hn
    exact ⟨f, by simp only [backRepV]; exact ⟨v0, vs', rfl, h1⟩, h2⟩
  | .s :: l, n, x, vs, r, hr, hf, hn => by
    simp only [enterC, VsRel] at hr
    obtain ⟨v0, vs', rfl, _, hr⟩ := hr
    obtain ⟨f, h1, h2⟩ := takeBV_rel h hE l hr (show takeBV E l n = some r from hf) hn
    exact ⟨f, by simp only [backRepV]; exact ⟨v0, vs', rfl, h1⟩, h2⟩
  | .e :: l, n, x, vs, r, hr, hf, hn => by
    simp only [enterC, VsRel] at hr
    obtain ⟨v0, vs', rfl, _, hr⟩ := hr
    obtain ⟨f, h1, h2⟩ := takeBV_rel h hE l hr (show takeBV E l n = some r from hf) hn
    exact ⟨f, by simp only [backRepV]; exact ⟨v0, vs', rfl, h1⟩, h2⟩
  | .ro _ :: l, n, x, vs, r, hr, hf, hn => by
    simp only [enterC, VsRel] at hr
    obtain ⟨v0, vs', rfl, _, hr⟩ := hr
    obtain ⟨f, h1, h2⟩ := takeBV_rel h hE l hr (show takeBV E l (n + 1) = some r from hf) hn
    exact ⟨f, by simp only [backRepV]; exact ⟨v0, vs', rfl, h1⟩, h2⟩
  | .own _ :: l, n, x, vs, r, hr, hf, hn => by
    simp only [enterC, VsRel] at hr
    obtain ⟨v0, vs', rfl, _, hr⟩ := hr
    obtain ⟨f, h1, h2⟩ := takeBV_rel h hE l hr (show takeBV E l (n + 1) = some r from hf) hn
    exact ⟨f, by simp only [backRepV]; exact ⟨v0, vs', rfl, h1⟩, h2⟩
  | .mut e :: l, n, x, vs, r, hr, hf, hn => by
    simp only [enterC, VsRel] at hr
    obtain ⟨v0, vs', rfl, hv, hr⟩ := hr
    replace hf : ((takeL E e (.sref n none)).bind fun z => (takeBV E l (n + 1)).map fun y => ((z.1, y.1), z.2 ++ y.2)) = some r := hf
    obtain ⟨z, hz, hf⟩ := Option.bind_eq_some_iff.1 hf
    obtain ⟨y, hy, rfl⟩ := Option.map_eq_some_iff.1 hf
    obtain ⟨f, h1, h2⟩ := takeBV_rel h hE l hr hy (List.nodup_append.1 hn).2.1
    obtain ⟨f0, g1, g2⟩ := takeL_rel h hE hv hz
    exact ⟨f0 ++ f, by simp only [backRepV]; exact ⟨v0, vs', f0, f, rfl, rfl, g1, h1⟩, g2.append h h2 hn⟩
theorem headV_cells {a : Bool} {d : Value} {cs : List Cm} {x : cmD cs} {n : Nat} (h : VRel c μ d (headV a (enterC true cs x n).1)) (ha : a = false → cs.length = 1 ∧ d.oneCell' = true) (hag : a = true → ∃ us, d = .agg us) : VsRel c μ d.cells.toList (enterC true cs x n).1 := by
  cases a with
  | true =>
    simp only [headV, if_true, VRel] at h
    obtain ⟨vs, rfl, h⟩ := h
    exact h
  | false =>
    obtain ⟨hl, ho⟩ := ha rfl
    rw [cells_of_oneCell ho]
    have := enterC_len true cs x n
    rw [hl] at this
    obtain ⟨y, hy⟩ := List.length_eq_one_iff.1 this
    rw [hy] at h ⊢
    simp only [headV, Bool.false_eq_true, if_false, List.headD_cons] at h
    simp only [VsRel]
    exact ⟨d, [], rfl, h, rfl⟩
theorem takeBI_rel (h : RelV c μ fp v w) (hE : ∀ id x, E id = some x → v id = some x) {S : Nat → Prop} {w0 : World} : (it : Item) → {n : Nat} → {x : cmD it.cs} → {d : Value} → {r : backID it × List Nat} → {f0 : List Nat} → {g : List (Nat × Nat × Nat)} →
    ItemRep S w0 it d x f0 g → ToksI c true w0 it d n → VRel c μ d (enterI true it x n).1 → takeBI E it n = some r → r.2.Nodup →
    ∃ f, BackRep c.fz w0 w it d r.1 f ∧ GoneB c fp v E r.2 f g
  | ⟨false, a, cs⟩, n, x, d, r, f0, g, hi, ht, hr, hf, hn => by
    simp only [ItemRep] at hi
    obtain ⟨rfl, hi, h1, h2⟩ := hi
    have hl := cmRep_length cs hi
    obtain ⟨f, g1, g2⟩ := takeBV_rel h hE cs (headV_cells hr (fun e => ⟨by rw [← hl, cells_of_oneCell (h2 e)]; rfl, h2 e⟩) h1) (show takeBV E cs n = some r from hf) hn
    exact ⟨f, g1, ⟨by simpa using g2.mem, by simpa using g2.nodup, g2.there, g2.may⟩⟩
  | ⟨true, a, cs⟩, n, x, d, r, f0, g, hi, ht, hr, hf, hn => by
    simp only [ItemRep] at hi
    obtain ⟨B, o, C, T, rfl, rfl, hb, hC, hi⟩ := hi
    replace hf : (match E n with | some (.var l) => (takeBP E cs (n + 1) l).map fun y => (y.1, n :: y.2) | _ => none) = some r := hf
    split at hf
    case h_2 => cases hf
    rename_i l hid
    obtain ⟨y, hy, rfl⟩ := Option.map_eq_some_iff.1 hf
    have hv := hE n _ hid
    obtain ⟨B', o', C', T', h1, h2, h3, h4, h5, h6, h7⟩ := h.rel n _ hv
    have hr : VRel c μ (.pointer (some ⟨B, o, none⟩)) (.vptr n 0) := hr
    simp only [VRel] at hr
    obtain ⟨B2, o2, e1, e2⟩ := hr
    rw [h1] at e1; cases e1
    simp only [Value.pointer.injEq, Option.some.injEq, Addr.mk.injEq, Nat.add_zero, and_true] at e2
    obtain ⟨rfl, rfl⟩ := e2
    rw [List.nodup_cons] at hn
    have hlen : (cellsAt w0 B o cs.length).length = cs.length := cmRep_length cs hi
    obtain ⟨f, g1, g2⟩ := takeBP_rel h hE cs h5 hlen (ht B o rfl) hy hn.2
    have hll : l.length = cs.length := by
      have := takeBP_len cs hy
      exact this
    rw [hll] at g1
    have hB : B ∉ f := by
      intro hb
      obtain ⟨i, hi, hm⟩ := g2.mem B hb
      have hne : i ≠ n := fun e => hn.1 (e ▸ hi)
      exact h.sep i n hne (g2.there i hi).1 (by rw [hv]; simp) B hm (by rw [h2]; simp)
    refine ⟨f, ⟨B, o, rfl, g1⟩, ⟨?_, ?_, ?_, g2.may⟩⟩
    · intro b hb
      simp only [List.map_cons, List.map_nil, List.mem_append, List.mem_singleton] at hb
      rcases hb with hb | rfl
      · obtain ⟨i, hi, hm⟩ := g2.mem b hb; exact ⟨i, by simp [hi], hm⟩
      · exact ⟨n, by simp, by rw [h2]; simp⟩
    · simp only [List.map_cons, List.map_nil, List.nodup_append]
      refine ⟨g2.nodup, by simp, fun a ha b hb e => ?_⟩
      simp only [List.mem_singleton] at hb
      exact hB (by rw [← hb, ← e]; exact ha)
    · intro i hi
      rcases List.mem_cons.1 hi with rfl | hi
      · rw [hv, hid]; simp
      · exact g2.there i hi
theorem takeBs_rel (h : RelV c μ fp v w) (hE : ∀ id x, E id = some x → v id = some x) {S : Nat → Prop} {w0 : World} : (l : List Item) → {n : Nat} → {x : itemsD l} → {vs : List Value} → {r : backD l × List Nat} → {f0 : List Nat} → {g : List (Nat × Nat × Nat)} →
    ItemsRep S w0 l vs x f0 g → ToksIs c true w0 l vs n → VsRel c μ vs (enterIs true l x n).1 → takeBs E l n = some r → r.2.Nodup → ∃ f, BacksRep c.fz w0 w l vs r.1 f ∧ GoneB c fp v E r.2 f g
  | [], n, x, vs, r, f0, g, hi, ht, hr, hf, hn => by
    cases hf
    simp only [ItemsRep] at hi
    obtain ⟨rfl, rfl, rfl⟩ := hi
    exact ⟨[], by simp only [BacksRep]; exact ⟨trivial, trivial⟩, GoneB.nil⟩
  | it :: l, n, x, vs, r, f0, g, hi, ht, hr, hf, hn => by
    simp only [ItemsRep] at hi
    obtain ⟨d, vs', f1, f2, g1, g2, rfl, rfl, rfl, h1, hi⟩ := hi
    simp only [ToksIs] at ht
    simp only [enterIs, VsRel] at hr
    obtain ⟨d', vs2, e, hd, hr⟩ := hr
    cases e
    rw [enterI_N] at hr
    replace hf : ((takeBI E it n).bind fun x => (takeBs E l (itN it n)).map fun y => ((x.1, y.1), x.2 ++ y.2)) = some r := hf
    obtain ⟨z, hz, hf⟩ := Option.bind_eq_some_iff.1 hf
    obtain ⟨y, hy, rfl⟩ := Option.map_eq_some_iff.1 hf
    obtain ⟨f, q1, q2⟩ := takeBs_rel h hE l hi ht.2 hr hy (List.nodup_append.1 hn).2.1
    obtain ⟨f', q3, q4⟩ := takeBI_rel h hE it h1 ht.1 hd hz (List.nodup_append.1 hn).1
    exact ⟨f' ++ f, by simp only [BacksRep]; exact ⟨d, vs', f', f, rfl, rfl, q3, q1⟩, q4.append h q2 hn⟩
end
end
section
open Go
def ctxOf (P : Program) (S : Nat → Prop) (w : World) (f : List Nat) (g : List (Nat × Nat × Nat)) (tok : Nat → Value) (loc : Nat → Loc) (hS : SOk S w) : Ctx where
  P := P
  S := S
  w0 := w
  M := fun b j => b ∈ f ∨ ∃ o m, (b, o, m) ∈ g ∧ o ≤ j ∧ j < o + m
  tok := tok
  loc := loc
  hS := hS
def retV : List Value → Value
  | [v] => v
  | vs => .tuple vs.toArray
structure Done (P : Program) (S : Nat → Prop) (w : World) (hS : SOk S w) (K : Con) (ivs : List Value) (f : List Nat) (g : List (Nat × Nat × Nat)) (y : itemsD K.rs × backD K.its) (v' : Value) (w' : World) : Prop where
  ex : ∃ rvs f1 g1 f2, v' = retV rvs ∧ (∃ S' : Nat → Prop, (∀ b, S b → S' b) ∧ (∀ b, S' b → (S b ∨ w.heap.size ≤ b ∨ b ∈ f) ∧ b < w'.heap.size) ∧ (∀ b ∈ f1 ++ g1.map (·.1) ++ (f2 ++ g.map (·.1)), ¬ S' b) ∧ ItemsRep S' w' K.rs rvs y.1 f1 g1 ∧ BacksRep ⟨S', w'⟩ w w' K.its ivs y.2 f2) ∧ (f1 ++ g1.map (·.1) ++ (f2 ++ g.map (·.1))).Nodup ∧ (∀ b ∈ f1 ++ g1.map (·.1) ++ f2, b ∈ f ∨ w.heap.size ≤ b)
  ev : Ev (ctxOf P S w f g (fun _ => undef) default hS) w'
def Con.Ok (P : Program) (K : Con) : Prop :=
  match K.vw with
  | some v => ∀ (ad : Option Addr) (len cap : Nat) (n : Int) (w : World), len ≤ cap → 0 ≤ (v.2 n).1 → (v.2 n).1 ≤ (v.2 n).2 → (v.2 n).2 ≤ (len : Int) →
      Called P K.f #[.slice ad len cap, .int .i64 n] w fun v' w' => v' = .slice (if cap = (v.2 n).1.toNat then ad else ad.map (·.add ((v.2 n).1.toNat * v.1))) ((v.2 n).2.toNat - (v.2 n).1.toNat) (cap - (v.2 n).1.toNat) ∧ w' = w
  | none => ∀ (x : itemsD K.its) (y : itemsD K.rs × backD K.its), (K.F x).eval = some y →
    ∀ (S : Nat → Prop) (w : World) (hS : SOk S w) (ivs : List Value) (f : List Nat) (g : List (Nat × Nat × Nat)), ItemsRep S w K.its ivs x f g → (f ++ g.map (·.1)).Nodup → (∀ b ∈ f ++ g.map (·.1), ¬ S b) →
      Called P K.f (layV K.lay ivs).toArray w fun v' w' => Done P S w hS K ivs f g y v' w'
theorem Called.mono {P : Program} {f : FuncId} {args : Array Value} {w : World} {R R' : Value → World → Prop} (h : Called P f args w R) (hR : ∀ v w', R v w' → R' v w') : Called P f args w R' := by
  refine ⟨h.1, Calls.mono h.2 fun e w' he => ?_⟩
  cases e with
  | returned v => exact hR v w' he
  | panicked _ => exact he
  | outgrown => exact he
theorem cmRep_lt {S : Nat → Prop} {w : World} : (l : List Cm) → {vs : List Value} → {x : cmD l} → {f : List Nat} → cmRep S w l vs x f → ∀ b ∈ f, b < w.heap.size
  | [], _, _, _, h => by simp only [cmRep] at h; rw [h.2]; simp
  | .b :: r, _, _, _, h => by simp only [cmRep] at h; obtain ⟨vs', rfl, h⟩ := h; exact cmRep_lt r h
  | .i _ :: r, _, _, _, h => by simp only [cmRep] at h; obtain ⟨vs', rfl, h⟩ := h; exact cmRep_lt r h
  | .s :: r, _, _, _, h => by simp only [cmRep] at h; obtain ⟨vs', rfl, _, h⟩ := h; exact cmRep_lt r h
  | .e :: r, _, _, _, h => by simp only [cmRep] at h; obtain ⟨_, vs', rfl, _, h⟩ := h; exact cmRep_lt r h
  | .ro e :: r, _, _, _, h => by simp only [cmRep] at h; obtain ⟨v, vs', rfl, _, h⟩ := h; exact cmRep_lt r h
  | .own e :: r, _, _, _, h => by
    simp only [cmRep] at h; obtain ⟨v, vs', f1, f2, rfl, rfl, h1, h⟩ := h
    intro b hb
    rcases List.mem_append.1 hb with hb | hb
    · exact Ty.repO_lt _ h1 b hb
    · exact cmRep_lt r h b hb
  | .mut e :: r, _, _, _, h => by
    simp only [cmRep] at h; obtain ⟨v, vs', f1, f2, rfl, rfl, h1, h⟩ := h
    intro b hb
    rcases List.mem_append.1 hb with hb | hb
    · exact Ty.repO_lt _ h1 b hb
    · exact cmRep_lt r h b hb
theorem ItemRep_lt {S : Nat → Prop} {w : World} : (it : Item) → {v : Value} → {x : cmD it.cs} → {f : List Nat} → {g : List (Nat × Nat × Nat)} → ItemRep S w it v x f g → ∀ b ∈ f ++ g.map (·.1), b < w.heap.size
  | ⟨false, _, cs⟩, _, _, _, _, h => by
    simp only [ItemRep] at h; obtain ⟨rfl, h, _⟩ := h
    simpa using cmRep_lt cs h
  | ⟨true, _, cs⟩, _, _, _, _, h => by
    simp only [ItemRep] at h; obtain ⟨B, o, C, E, rfl, rfl, hb, _, h⟩ := h
    intro b hm
    simp only [List.map_cons, List.map_nil, List.mem_append, List.mem_singleton] at hm
    rcases hm with hm | rfl
    · exact cmRep_lt cs h b hm
    · exact (Array.getElem?_eq_some_iff.1 hb).1
theorem ItemsRep_lt {S : Nat → Prop} {w : World} : (l : List Item) → {vs : List Value} → {x : itemsD l} → {f : List Nat} → {g : List (Nat × Nat × Nat)} → ItemsRep S w l vs x f g → ∀ b ∈ f ++ g.map (·.1), b < w.heap.size
  | [], _, _, _, _, h => by simp only [ItemsRep] at h; obtain ⟨_, rfl, rfl⟩ := h; simp
  | it :: r, _, _, _, _, h => by
    simp only [ItemsRep] at h; obtain ⟨v, vs', f1, f2, g1, g2, rfl, rfl, rfl, h1, h⟩ := h
    intro b hb
    rw [List.map_append] at hb
    rcases List.mem_append.1 ((perm_items f1 f2 (g1.map (·.1)) (g2.map (·.1))).mem_iff.1 hb) with hb | hb
    · exact ItemRep_lt it h1 b hb
    · exact ItemsRep_lt r h b hb
mutual
theorem Ty.repO_noFz {z z' : Fz} {w : World} : (t : Ty) → t.noFz = true → {cs : List Value} → {x : t.D} → {fp : List Nat} → t.repO z w cs x fp → t.repO z' w cs x fp
  | .bool, _, _, _, _, h => by simp only [Ty.repO] at h ⊢; exact h
  | .int _, _, _, _, _, h => by simp only [Ty.repO] at h ⊢; exact h
  | .str, _, _, _, _, h => by simp only [Ty.repO] at h ⊢; exact h
  | .sl e, hn, _, _, _, h => by
    simp only [Ty.repO] at h ⊢
    obtain ⟨a, cap, rfl, hc, h⟩ := h
    refine ⟨a, cap, rfl, hc, h.imp id ?_⟩
    rintro ⟨b, o, c, E, fps, ha, hb, ho, hl, rfl, hi⟩
    exact ⟨b, o, c, E, fps, ha, hb, ho, hl, rfl, fun i y f hy hf => Ty.repO_noFz e hn (hi i y f hy hf)⟩
  | .fz e, hn, _, _, _, h => by simp [Ty.noFz] at hn
  | .st fs, hn, _, _, _, h => by simp only [Ty.repO] at h ⊢; exact Tys.repO_noFz fs hn h
theorem Tys.repO_noFz {z z' : Fz} {w : World} : (t : Tys) → t.noFz = true → {cs : List Value} → {x : t.D} → {fp : List Nat} → t.repO z w cs x fp → t.repO z' w cs x fp
  | .nil, _, _, _, _, h => by simp only [Tys.repO] at h ⊢; exact h
  | .cons t ts, hn, _, _, _, h => by
    simp only [Tys.noFz, Bool.and_eq_true] at hn
    simp only [Tys.repO] at h ⊢; obtain ⟨c1, c2, f1, f2, rfl, rfl, h1, h2⟩ := h
    exact ⟨c1, c2, f1, f2, rfl, rfl, Ty.repO_noFz t hn.1 h1, Tys.repO_noFz ts hn.2 h2⟩
end
def noRo (cs : List Cm) : Bool := cs.all fun c => match c with | .ro _ => false | .own e => e.noFz | .mut e => e.noFz | _ => true
theorem cmRep_roFree {S S' : Nat → Prop} {w : World} : (l : List Cm) → {vs : List Value} → {x : cmD l} → {f : List Nat} → noRo l = true → cmRep S w l vs x f → cmRep S' w l vs x f
  | [], _, _, _, _, h => by simp only [cmRep] at h ⊢; exact h
  | .b :: r, _, _, _, hn, h => by simp only [cmRep] at h ⊢; obtain ⟨vs', e, h⟩ := h; exact ⟨vs', e, cmRep_roFree r (by simpa [noRo] using hn) h⟩
  | .i _ :: r, _, _, _, hn, h => by simp only [cmRep] at h ⊢; obtain ⟨vs', e, h⟩ := h; exact ⟨vs', e, cmRep_roFree r (by simpa [noRo] using hn) h⟩
  | .s :: r, _, _, _, hn, h => by simp only [cmRep] at h ⊢; obtain ⟨vs', e, hl, h⟩ := h; exact ⟨vs', e, hl, cmRep_roFree r (by simpa [noRo] using hn) h⟩
  | .e :: r, _, _, _, hn, h => by simp only [cmRep] at h ⊢; obtain ⟨v0, vs', e, hl, h⟩ := h; exact ⟨v0, vs', e, hl, cmRep_roFree r (by simpa [noRo] using hn) h⟩
  | .ro e :: r, _, _, _, hn, h => by simp [noRo] at hn
  | .own e :: r, _, _, _, hn, h => by
    simp only [cmRep] at h ⊢
    obtain ⟨v, vs', f1, f2, e1, e2, h1, h⟩ := h
    have hn' : e.noFz = true ∧ noRo r = true := by simpa [noRo] using hn
    exact ⟨v, vs', f1, f2, e1, e2, Ty.repO_noFz (.sl e) hn'.1 h1, cmRep_roFree r hn'.2 h⟩
  | .mut e :: r, _, _, _, hn, h => by
    simp only [cmRep] at h ⊢
    obtain ⟨v, vs', f1, f2, e1, e2, h1, h⟩ := h
    have hn' : e.noFz = true ∧ noRo r = true := by simpa [noRo] using hn
    exact ⟨v, vs', f1, f2, e1, e2, Ty.repO_noFz (.sl e) hn'.1 h1, cmRep_roFree r hn'.2 h⟩
theorem ItemsRep_roFree {S S' : Nat → Prop} {w : World} : (l : List Item) → {vs : List Value} → {x : itemsD l} → {f : List Nat} → {g : List (Nat × Nat × Nat)} → roFree l = true → ItemsRep S w l vs x f g → ItemsRep S' w l vs x f g
  | [], _, _, _, _, _, h => by simp only [ItemsRep] at h ⊢; exact h
  | it :: r, _, _, _, _, hn, h => by
    simp only [ItemsRep] at h ⊢
    obtain ⟨v, vs', f1, f2, g1, g2, e1, e2, e3, h1, h⟩ := h
    simp only [roFree, List.all_cons, Bool.and_eq_true] at hn
    refine ⟨v, vs', f1, f2, g1, g2, e1, e2, e3, ?_, ItemsRep_roFree r hn.2 h⟩
    obtain ⟨p, a, cs⟩ := it
    cases p with
    | false => simp only [ItemRep] at h1 ⊢; exact ⟨h1.1, cmRep_roFree cs hn.1 h1.2.1, h1.2.2⟩
    | true =>
      simp only [ItemRep] at h1 ⊢
      obtain ⟨B, o, C, E, q1, q2, q3, q4, q5⟩ := h1
      exact ⟨B, o, C, E, q1, q2, q3, q4, cmRep_roFree cs hn.1 q5⟩
theorem cmRep_S {S S' : Nat → Prop} {w : World} (hS : ∀ b, S b → S' b) : (l : List Cm) → {vs : List Value} → {x : cmD l} → {f : List Nat} → cmRep S w l vs x f → cmRep S' w l vs x f
  | [], _, _, _, h => by simp only [cmRep] at h ⊢; exact h
  | .b :: r, _, _, _, h => by simp only [cmRep] at h ⊢; obtain ⟨vs', e, h⟩ := h; exact ⟨vs', e, cmRep_S hS r h⟩
  | .i _ :: r, _, _, _, h => by simp only [cmRep] at h ⊢; obtain ⟨vs', e, h⟩ := h; exact ⟨vs', e, cmRep_S hS r h⟩
  | .s :: r, _, _, _, h => by simp only [cmRep] at h ⊢; obtain ⟨vs', e, hl, h⟩ := h; exact ⟨vs', e, hl, cmRep_S hS r h⟩
  | .e :: r, _, _, _, h => by simp only [cmRep] at h ⊢; obtain ⟨v0, vs', e, hl, h⟩ := h; exact ⟨v0, vs', e, hl, cmRep_S hS r h⟩
  | .ro e :: r, _, _, _, h => by simp only [cmRep] at h ⊢; obtain ⟨v, vs', e1, h1, h⟩ := h; exact ⟨v, vs', e1, Ty.repS_congr (fun b hb => ⟨hS b hb, rfl⟩) _ h1, cmRep_S hS r h⟩
  | .own e :: r, _, _, _, h => by simp only [cmRep] at h ⊢; obtain ⟨v, vs', f1, f2, e1, e2, h1, h⟩ := h; exact ⟨v, vs', f1, f2, e1, e2, Ty.repO_mono (show Fz.le ⟨S, w⟩ ⟨S', w⟩ from fun b hb => ⟨hS b hb, rfl⟩) _ h1, cmRep_S hS r h⟩
  | .mut e :: r, _, _, _, h => by simp only [cmRep] at h ⊢; obtain ⟨v, vs', f1, f2, e1, e2, h1, h⟩ := h; exact ⟨v, vs', f1, f2, e1, e2, Ty.repO_mono (show Fz.le ⟨S, w⟩ ⟨S', w⟩ from fun b hb => ⟨hS b hb, rfl⟩) _ h1, cmRep_S hS r h⟩
theorem ItemsRep_S {S S' : Nat → Prop} {w : World} (hS : ∀ b, S b → S' b) : (l : List Item) → {vs : List Value} → {x : itemsD l} → {f : List Nat} → {g : List (Nat × Nat × Nat)} → ItemsRep S w l vs x f g → ItemsRep S' w l vs x f g
  | [], _, _, _, _, h => by simp only [ItemsRep] at h ⊢; exact h
  | it :: r, _, _, _, _, h => by
    simp only [ItemsRep] at h ⊢
    obtain ⟨v, vs', f1, f2, g1, g2, e1, e2, e3, h1, h⟩ := h
    refine ⟨v, vs', f1, f2, g1, g2, e1, e2, e3, ?_, ItemsRep_S hS r h⟩
    obtain ⟨p, a, cs⟩ := it
    cases p with
    | false => simp only [ItemRep] at h1 ⊢; exact ⟨h1.1, cmRep_S hS cs h1.2.1, h1.2.2⟩
    | true =>
      simp only [ItemRep] at h1 ⊢
      obtain ⟨B, o, C, E, q1, q2, q3, q4, q5⟩ := h1
      exact ⟨B, o, C, E, q1, q2, q3, q4, cmRep_S hS cs q5⟩
theorem Toks_false {c : Ctx} : (l : List Cm) → (vs : List Value) → (n : Nat) → Toks c false l vs n
  | [], _, _ => by simp [Toks]
  | .b :: r, [], _ => by simp [Toks]
  | .i _ :: r, [], _ => by simp [Toks]
  | .s :: r, [], _ => by simp [Toks]
  | .e :: r, [], _ => by simp [Toks]
  | .ro _ :: r, [], _ => by simp [Toks]
  | .own _ :: r, [], _ => by simp [Toks]
  | .mut _ :: r, [], _ => by simp [Toks]
  | .b :: r, _ :: vs, n => Toks_false r vs n
  | .i _ :: r, _ :: vs, n => Toks_false r vs n
  | .s :: r, _ :: vs, n => Toks_false r vs n
  | .e :: r, _ :: vs, n => Toks_false r vs n
  | .ro _ :: r, _ :: vs, n => ⟨fun h => (by cases h), Toks_false r vs (n + 1)⟩
  | .own _ :: r, _ :: vs, n => Toks_false r vs (n + 1)
  | .mut _ :: r, _ :: vs, n => Toks_false r vs (n + 1)
theorem ToksIs_false {c : Ctx} {w : World} : (l : List Item) → (vs : List Value) → (n : Nat) → ToksIs c false w l vs n
  | [], _, _ => by simp [ToksIs]
  | it :: r, [], _ => by simp [ToksIs]
  | it :: r, v :: vs, n => by
    refine ⟨?_, ToksIs_false r vs _⟩
    obtain ⟨p, a, cs⟩ := it
    cases p with
    | false => exact Toks_false cs _ n
    | true => exact fun B o _ => Toks_false cs _ _
theorem RelV.less {c : Ctx} {μ : Nat → Loc} {fp : Nat → List Nat} {v v' : Env} {w w' : World} (h : RelV c μ fp v w) (hv : ∀ id, v' id = none ∨ v' id = v id) (hz : w.heap.size ≤ w'.heap.size)
    (hs : ∀ id, v' id ≠ none → ∀ b ∈ fp id, w'.heap[b]? = w.heap[b]?) : RelV c μ fp v' w' := by
  have hm : ∀ id, v' id ≠ none → v id ≠ none := fun id hn => by
    rcases hv id with e | e
    · exact absurd e hn
    · exact e ▸ hn
  constructor
  · intro id x hx
    have hx' : v id = some x := by
      rcases hv id with e | e
      · rw [e] at hx; cases hx
      · rw [← e]; exact hx
    exact (h.rel id x hx').frame (hs id (by simp [hx])) rfl fun _ _ => rfl
  · intro id x hx
    rcases hv id with e | e
    · rw [e] at hx; cases hx
    · exact h.nodup id x (by rw [← e]; exact hx)
  · exact fun id id' hne h1 h2 => h.sep id id' hne (hm id h1) (hm id' h2)
  · exact fun id h1 => h.notS id (hm id h1)
  · exact fun id h1 b hb => Nat.lt_of_lt_of_le (h.lt id (hm id h1) b hb) hz
theorem Pool.drop {c : Ctx} {K : Nat → Prop} {μ : Nat → Loc} {fp : Nat → List Nat} {v : Env} {w : World} {f rest : List Nat} (h : Pool c K μ fp v w (f ++ rest)) : Pool c K μ fp v w rest :=
  ⟨h.rel, h.known, (List.nodup_append.1 h.nodup).2.1, fun id hv b hb hb' => h.far id hv b hb (by simp [hb']), fun b hb => h.ok b (by simp [hb])⟩
theorem unlay_rel {c : Ctx} {μ : Nat → Loc} : (l : Lay) → {ds is : List DVal} → {vs : List Value} → unlay l ds = some is → VsRel c μ vs ds → ∃ ivs, VsRel c μ ivs is ∧ vs = layV l ivs ∧ ∀ id ∈ DVal.idsL is, id ∈ DVal.idsL ds
  | [], ds, is, vs, hu, hr => by
    cases ds with
    | nil =>
      cases hu
      simp only [VsRel] at hr
      exact ⟨[], by simp [VsRel], by rw [hr]; rfl, fun _ h => h⟩
    | cons d q => cases hu
  | none :: l, ds, is, vs, hu, hr => by
    cases ds with
    | nil => cases hu
    | cons d q =>
      obtain ⟨z, hz, rfl⟩ := Option.map_eq_some_iff.1 (show (unlay l q).map (fun q => d :: q) = some is from hu)
      simp only [VsRel] at hr
      obtain ⟨v0, vs', rfl, hv, hr⟩ := hr
      obtain ⟨ivs, h1, h2, h3⟩ := unlay_rel l hz hr
      refine ⟨v0 :: ivs, by simp only [VsRel]; exact ⟨v0, ivs, rfl, hv, h1⟩, by rw [h2]; rfl, fun id hi => ?_⟩
      simp only [DVal.idsL, List.mem_append] at hi ⊢
      exact hi.imp (fun h => h) (h3 id)
  | some (g, k) :: l, ds, is, vs, hu, hr => by
    cases ds with
    | nil => cases hu
    | cons d q =>
      cases d <;> try (cases hu; done)
      rename_i g' caps
      replace hu : (if g = g' ∧ caps.length = k then (unlay l q).map fun q => caps ++ q else none) = some is := hu
      split at hu
      case isFalse => cases hu
      rename_i hc
      obtain ⟨rfl, rfl⟩ := hc
      obtain ⟨z, hz, rfl⟩ := Option.map_eq_some_iff.1 hu
      simp only [VsRel] at hr
      obtain ⟨v0, vs', rfl, hv, hr⟩ := hr
      simp only [VRel] at hv
      obtain ⟨cv, rfl, hcv⟩ := hv
      obtain ⟨ivs, h1, h2, h3⟩ := unlay_rel l hz hr
      have hl := hcv.length
      refine ⟨cv.toList ++ ivs, hcv.append h1, ?_, fun id hi => ?_⟩
      · simp only [layV]
        rw [← hl, List.take_left, List.drop_left, h2]
      · rw [idsL_append, List.mem_append] at hi
        simp only [DVal.idsL, DVal.ids, List.mem_append]
        exact hi.imp (fun h => h) (h3 id)
section
variable {c : Ctx} {K0 : Nat → Prop} {μ0 : Nat → Loc} {w : World}
theorem backP_le : (l : List Cm) → (ds : List DVal) → (y : backPD l) → (n : Nat) → n ≤ (backP l ds y n).2.2
  | [], _, _, n => Nat.le_refl n
  | .b :: r, [], _, n => Nat.le_refl n
  | .i _ :: r, [], _, n => Nat.le_refl n
  | .s :: r, [], _, n => Nat.le_refl n
  | .e :: r, [], _, n => Nat.le_refl n
  | .ro _ :: r, [], _, n => Nat.le_refl n
  | .own _ :: r, [], _, n => Nat.le_refl n
  | .mut _ :: r, [], _, n => Nat.le_refl n
  | .b :: r, _ :: q, y, n => backP_le r q y.2 n
  | .i _ :: r, _ :: q, y, n => backP_le r q y.2 n
  | .s :: r, _ :: q, y, n => backP_le r q y.2 n
  | .e :: r, _ :: q, y, n => backP_le r q y.2 n
  | .ro _ :: r, _ :: q, y, n => backP_le r q y n
  | .own _ :: r, _ :: q, y, n => Nat.le_trans (Nat.le_succ n) (backP_le r q y.2 (n + 1))
  | .mut _ :: r, _ :: q, y, n => Nat.le_trans (Nat.le_succ n) (backP_le r q y.2 (n + 1))
def CellsOk (K : Nat → Prop) (n n' : Nat) (ds : List DVal) : Prop := ds.all DVal.isCell = true ∧ ∀ id ∈ DVal.idsL ds, K id ∨ (n ≤ id ∧ id < n')
theorem backP_ok {K : Nat → Prop} : (l : List Cm) → (ds : List DVal) → (y : backPD l) → (n : Nat) → ds.all DVal.isCell = true → (∀ id ∈ DVal.idsL ds, K id) → CellsOk K n (backP l ds y n).2.2 (backP l ds y n).1
  | [], _, _, n, _, _ => ⟨rfl, fun _ h => by cases h⟩
  | .b :: r, [], _, n, _, _ => ⟨rfl, fun _ h => by cases h⟩
  | .i _ :: r, [], _, n, _, _ => ⟨rfl, fun _ h => by cases h⟩
  | .s :: r, [], _, n, _, _ => ⟨rfl, fun _ h => by cases h⟩
  | .e :: r, [], _, n, _, _ => ⟨rfl, fun _ h => by cases h⟩
  | .ro _ :: r, [], _, n, _, _ => ⟨rfl, fun _ h => by cases h⟩
  | .own _ :: r, [], _, n, _, _ => ⟨rfl, fun _ h => by cases h⟩
  | .mut _ :: r, [], _, n, _, _ => ⟨rfl, fun _ h => by cases h⟩
  | .b :: r, d :: q, y, n, h1, h2 => by
    simp only [List.all_cons, Bool.and_eq_true] at h1
    have := backP_ok r q y.2 n h1.2 fun id hi => h2 id (by simp [DVal.idsL, hi])
    exact ⟨by simpa [backP, DVal.isCell] using this.1, this.2⟩
  | .i _ :: r, d :: q, y, n, h1, h2 => by
    simp only [List.all_cons, Bool.and_eq_true] at h1
    have := backP_ok r q y.2 n h1.2 fun id hi => h2 id (by simp [DVal.idsL, hi])
    exact ⟨by simpa [backP, DVal.isCell] using this.1, this.2⟩
  | .s :: r, d :: q, y, n, h1, h2 => by
    simp only [List.all_cons, Bool.and_eq_true] at h1
    have := backP_ok r q y.2 n h1.2 fun id hi => h2 id (by simp [DVal.idsL, hi])
    exact ⟨by simpa [backP, DVal.isCell] using this.1, this.2⟩
  | .e :: r, d :: q, y, n, h1, h2 => by
    simp only [List.all_cons, Bool.and_eq_true] at h1
    have := backP_ok r q y.2 n h1.2 fun id hi => h2 id (by simp [DVal.idsL, hi])
    exact ⟨by simpa [backP, DVal.isCell] using this.1, this.2⟩
  | .ro _ :: r, d :: q, y, n, h1, h2 => by
    simp only [List.all_cons, Bool.and_eq_true] at h1
    have := backP_ok (K := K) r q y n h1.2 fun id hi => h2 id (by simp [DVal.idsL, hi])
    refine ⟨by simpa [backP, h1.1] using this.1, fun id hi => ?_⟩
    have hi : id ∈ d.ids ++ DVal.idsL (backP r q y n).1 := hi
    rcases List.mem_append.1 hi with hi | hi
    · exact .inl (h2 id (by simp [DVal.idsL, hi]))
    · exact this.2 id hi
  | .own _ :: r, d :: q, y, n, h1, h2 => by
    simp only [List.all_cons, Bool.and_eq_true] at h1
    have := backP_ok (K := K) r q y.2 (n + 1) h1.2 fun id hi => h2 id (by simp [DVal.idsL, hi])
    have l1 := backP_le r q y.2 (n + 1)
    refine ⟨by simpa [backP, DVal.isCell] using this.1, fun id hi => ?_⟩
    have hi : id ∈ n :: DVal.idsL (backP r q y.2 (n + 1)).1 := hi
    show K id ∨ n ≤ id ∧ id < (backP r q y.2 (n + 1)).2.2
    rcases List.mem_cons.1 hi with hi | hi
    · right; omega
    · rcases this.2 id hi with h | h
      · exact .inl h
      · right; omega
  | .mut _ :: r, d :: q, y, n, h1, h2 => by
    simp only [List.all_cons, Bool.and_eq_true] at h1
    have := backP_ok (K := K) r q y.2 (n + 1) h1.2 fun id hi => h2 id (by simp [DVal.idsL, hi])
    have l1 := backP_le r q y.2 (n + 1)
    refine ⟨by simpa [backP, DVal.isCell] using this.1, fun id hi => ?_⟩
    have hi : id ∈ n :: DVal.idsL (backP r q y.2 (n + 1)).1 := hi
    show K id ∨ n ≤ id ∧ id < (backP r q y.2 (n + 1)).2.2
    rcases List.mem_cons.1 hi with hi | hi
    · right; omega
    · rcases this.2 id hi with h | h
      · exact .inl h
      · right; omega
theorem backP_rel : (l : List Cm) → ∀ {os vs : List Value} {ds : List DVal} {y : backPD l} {f rest : List Nat} {n : Nat} {K : Nat → Prop} {μ : Nat → Loc} {fp : Nat → List Nat} {v : Env},
    Pool c K μ fp v w (f ++ rest) → VsRel c μ0 os ds → (∀ id ∈ DVal.idsL ds, K0 id) → (∀ id, K0 id → K id ∧ μ id = μ0 id) → backRepP c.fz w l os vs y f → (∀ b ∈ f, b < c.w0.heap.size → ∀ j, c.M b j) →
    (∀ id, n ≤ id → id < (backP l ds y n).2.2 → ¬ K id) →
    Entered c K μ v w rest n (backP l ds y n).2.2 (backP l ds y n).2.1 fun μ' => VsRel c μ' vs (backP l ds y n).1
  | [], os, vs, ds, y, f, rest, n, K, μ, fp, v, h, hr, _, _, hb, _, _ => by
    simp only [backRepP] at hb
    obtain ⟨rfl, rfl, rfl⟩ := hb
    exact ⟨μ, fp, by simp [backP, VsRel], h.weaken fun _ => .inl, fun _ _ => rfl⟩
  | .b :: r, os, vs, ds, y, f, rest, n, K, μ, fp, v, h, hr, hi, hk, hb, hM, hf => by
    simp only [backRepP] at hb
    obtain ⟨o, os', vs', rfl, rfl, hb⟩ := hb
    cases ds with
    | nil => simp [VsRel] at hr
    | cons d q =>
      simp only [VsRel] at hr
      obtain ⟨v0, vs2, e, hd, hr⟩ := hr
      cases e
      obtain ⟨μ', fp', h1, h2, h3⟩ := backP_rel r h hr (fun id hi' => hi id (by simp [DVal.idsL, hi'])) hk hb hM hf
      exact ⟨μ', fp', by simp only [backP, VsRel, VRel]; exact ⟨_, _, rfl, rfl, h1⟩, h2, h3⟩
  | .i _ :: r, os, vs, ds, y, f, rest, n, K, μ, fp, v, h, hr, hi, hk, hb, hM, hf => by
    simp only [backRepP] at hb
    obtain ⟨o, os', vs', rfl, rfl, hb⟩ := hb
    cases ds with
    | nil => simp [VsRel] at hr
    | cons d q =>
      simp only [VsRel] at hr
      obtain ⟨v0, vs2, e, hd, hr⟩ := hr
      cases e
      obtain ⟨μ', fp', h1, h2, h3⟩ := backP_rel r h hr (fun id hi' => hi id (by simp [DVal.idsL, hi'])) hk hb hM hf
      exact ⟨μ', fp', by simp only [backP, VsRel, VRel]; exact ⟨_, _, rfl, rfl, h1⟩, h2, h3⟩
  | .s :: r, os, vs, ds, y, f, rest, n, K, μ, fp, v, h, hr, hi, hk, hb, hM, hf => by
    simp only [backRepP] at hb
    obtain ⟨o, os', vs', rfl, rfl, hl, hb⟩ := hb
    cases ds with
    | nil => simp [VsRel] at hr
    | cons d q =>
      simp only [VsRel] at hr
      obtain ⟨v0, vs2, e, hd, hr⟩ := hr
      cases e
      obtain ⟨μ', fp', h1, h2, h3⟩ := backP_rel r h hr (fun id hi' => hi id (by simp [DVal.idsL, hi'])) hk hb hM hf
      exact ⟨μ', fp', by simp only [backP, VsRel, VRel]; exact ⟨_, _, rfl, ⟨rfl, hl⟩, h1⟩, h2, h3⟩
  | .e :: r, os, vs, ds, y, f, rest, n, K, μ, fp, v, h, hr, hi, hk, hb, hM, hf => by
    simp only [backRepP] at hb
    obtain ⟨o, os', _, vs', rfl, rfl, hl, hb⟩ := hb
    cases ds with
    | nil => simp [VsRel] at hr
    | cons d q =>
      simp only [VsRel] at hr
      obtain ⟨v0, vs2, e, hd, hr⟩ := hr
      cases e
      obtain ⟨μ', fp', h1, h2, h3⟩ := backP_rel r h hr (fun id hi' => hi id (by simp [DVal.idsL, hi'])) hk hb hM hf
      exact ⟨μ', fp', by simp only [backP, VsRel, VRel]; exact ⟨_, _, rfl, hl, h1⟩, h2, h3⟩
  | .ro _ :: r, os, vs, ds, y, f, rest, n, K, μ, fp, v, h, hr, hi, hk, hb, hM, hf => by
    simp only [backRepP] at hb
    obtain ⟨o, os', vs', rfl, rfl, hb⟩ := hb
    cases ds with
    | nil => simp [VsRel] at hr
    | cons d q =>
      simp only [VsRel] at hr
      obtain ⟨v0, vs2, e, hd, hr⟩ := hr
      cases e
      obtain ⟨μ', fp', h1, h2, h3⟩ := backP_rel r h hr (fun id hi' => hi id (by simp [DVal.idsL, hi'])) hk hb hM hf
      refine ⟨μ', fp', ?_, h2, h3⟩
      simp only [backP, VsRel]
      exact ⟨_, _, rfl, VRel.mono d (fun id hi' => (h3 id (hk id (hi id (by simp [DVal.idsL, hi']))).1).trans (hk id (hi id (by simp [DVal.idsL, hi']))).2) hd, h1⟩
  | .own e :: r, os, vs, ds, y, f, rest, n, K, μ, fp, v, h, hr, hi, hk, hb, hM, hf => by
    simp only [backRepP] at hb
    obtain ⟨o, os', v1, vs', f1, f2, rfl, rfl, rfl, hx, hb⟩ := hb
    cases ds with
    | nil => simp [VsRel] at hr
    | cons d q =>
      simp only [VsRel] at hr
      obtain ⟨v0, vs2, e, hd, hr⟩ := hr
      cases e
      have l1 := backP_le r q y.2 (n + 1)
      replace hf : ∀ id, n ≤ id → id < (backP r q y.2 (n + 1)).2.2 → ¬ K id := hf
      obtain ⟨μ1, fp1, g1, g2, g3⟩ := Pool.addL (rest := f2 ++ rest) (by rw [← List.append_assoc]; exact h) (hf n (Nat.le_refl n) (by omega)) hx (fun b hb => hM b (by simp [hb]))
      obtain ⟨μ', fp', h1, h2, h3⟩ := backP_rel r g2 hr (fun id hi' => hi id (by simp [DVal.idsL, hi'])) (fun id hi' => ⟨.inl (hk id hi').1, (g3 id (hk id hi').1).trans (hk id hi').2⟩) hb (fun b hb => hM b (by simp [hb]))
        (fun id q1 q2 q3 => q3.elim (hf id (by omega) q2) (by omega))
      refine ⟨μ', fp', ?_, h2.weaken fun id hi => ?_, fun id hi => (h3 id (.inl hi)).trans (g3 id hi)⟩
      · simp only [backP, VsRel]
        exact ⟨_, _, rfl, VRel.mono _ (fun id hi => by simp only [DVal.ids, List.mem_singleton] at hi; exact h3 id (.inr hi)) g1, h1⟩
      · show K id ∨ n ≤ id ∧ id < (backP r q y.2 (n + 1)).2.2
        rcases hi with (hi | hi) | hi
        · exact .inl hi
        · right; omega
        · right; omega
  | .mut e :: r, os, vs, ds, y, f, rest, n, K, μ, fp, v, h, hr, hi, hk, hb, hM, hf => by
    simp only [backRepP] at hb
    obtain ⟨o, os', v1, vs', f1, f2, rfl, rfl, rfl, hx, hb⟩ := hb
    cases ds with
    | nil => simp [VsRel] at hr
    | cons d q =>
      simp only [VsRel] at hr
      obtain ⟨v0, vs2, e, hd, hr⟩ := hr
      cases e
      have l1 := backP_le r q y.2 (n + 1)
      replace hf : ∀ id, n ≤ id → id < (backP r q y.2 (n + 1)).2.2 → ¬ K id := hf
      obtain ⟨μ1, fp1, g1, g2, g3⟩ := Pool.addL (rest := f2 ++ rest) (by rw [← List.append_assoc]; exact h) (hf n (Nat.le_refl n) (by omega)) hx (fun b hb => hM b (by simp [hb]))
      obtain ⟨μ', fp', h1, h2, h3⟩ := backP_rel r g2 hr (fun id hi' => hi id (by simp [DVal.idsL, hi'])) (fun id hi' => ⟨.inl (hk id hi').1, (g3 id (hk id hi').1).trans (hk id hi').2⟩) hb (fun b hb => hM b (by simp [hb]))
        (fun id q1 q2 q3 => q3.elim (hf id (by omega) q2) (by omega))
      refine ⟨μ', fp', ?_, h2.weaken fun id hi => ?_, fun id hi => (h3 id (.inl hi)).trans (g3 id hi)⟩
      · simp only [backP, VsRel]
        exact ⟨_, _, rfl, VRel.mono _ (fun id hi => by simp only [DVal.ids, List.mem_singleton] at hi; exact h3 id (.inr hi)) g1, h1⟩
      · show K id ∨ n ≤ id ∧ id < (backP r q y.2 (n + 1)).2.2
        rcases hi with (hi | hi) | hi
        · exact .inl hi
        · right; omega
        · right; omega
end
end
end Go.Proofs.YtnnpnkegpkladaaGreat.Dm
