/- The data machine, part 6: data read out of values, and given away. -/
import Derived.Test.YtjcinikojcfebaaDm5
namespace Go.Proofs.Ytjcinikojcfebaa.Dm
open Go

theorem cast_sl {e e' : Ty} {xs : List e'.D} {ys : List e.D} (h : Ty.cast (.sl e') (.sl e) xs = some ys) : ∃ he : e' = e, ys = he ▸ xs := by
  unfold Ty.cast at h
  split at h
  · rename_i hb
    have he : e' = e := by have := Ty.beq_eq _ _ hb; cases this; rfl
    subst he
    exact ⟨rfl, (Option.some.inj h).symm⟩
  · cases h

theorem repS_nil (S : Nat → Prop) (w : World) (e : Ty) (a : Option Addr) : (Ty.sl e).repS S w [.slice a 0 0] ([] : List e.D) := by
  simp only [Ty.repS]; exact ⟨a, 0, rfl, ⟨Nat.le_refl 0, Nat.zero_le _⟩, .inl rfl⟩
theorem repO_nil (w : World) (e : Ty) (a : Option Addr) : (Ty.sl e).repO w [.slice a 0 0] ([] : List e.D) [] := by
  simp only [Ty.repO]; exact ⟨a, 0, rfl, ⟨Nat.le_refl 0, Nat.zero_le _⟩, .inl ⟨rfl, trivial⟩⟩

section
variable {c : Ctx} {μ : Nat → Loc} {fp : Nat → List Nat} {v : Env} {w : World} {E : Env}

theorem RelV.nodup_ids (h : RelV c μ fp v w) : ∀ (ids : List Nat), ids.Nodup → (∀ id ∈ ids, v id ≠ none) → (ids.flatMap fp).Nodup
  | [], _, _ => by simp
  | id :: ids, hn, hp => by
    rw [List.nodup_cons] at hn
    rw [List.flatMap_cons, List.nodup_append]
    obtain ⟨x, hx⟩ := Option.ne_none_iff_exists'.1 (hp id (by simp))
    refine ⟨h.nodup id x hx, h.nodup_ids ids hn.2 fun i hi => hp i (by simp [hi]), ?_⟩
    intro a ha b hb e
    subst e
    obtain ⟨i, hi, hm⟩ := List.mem_flatMap.1 hb
    exact h.sep id i (fun e => hn.1 (e ▸ hi)) (hp id (by simp)) (hp i (by simp [hi])) a ha hm

theorem unfoc_rel (h : RelV c μ fp v w) (hE : ∀ id x, E id = some x → v id = some x) {id : Nat} {x : DVar} (hx : E id = some x) {e : Ty} {xs : List e.D} (hu : unfoc E x = some ⟨e, xs⟩) :
    ∃ a cap f, μ id = .hdr a xs.length cap e.size ∧ (Ty.sl e).repO w [.slice a xs.length cap] xs f ∧ f.Perm ((id :: focIds x).flatMap fp) ∧ (id :: focIds x).Nodup ∧
      (∀ k ∈ id :: focIds x, v k ≠ none ∧ E k ≠ none) ∧ (∀ b ∈ f, b < c.w0.heap.size → ∀ j, c.M b j) := by
  have hv := hE id x hx
  cases x with
  | var cs => simp [unfoc] at hu
  | arr e' xs' =>
    simp only [unfoc] at hu
    cases hu
    obtain ⟨a, cap, h1, h2, h3⟩ := h.rel id _ hv
    exact ⟨a, cap, fp id, h1, h2, by simp [focIds], by simp [focIds], by simp [focIds, hv, hx], h3⟩
  | foc e' xs' x0 i off u id' =>
    simp only [unfoc] at hu
    cases hy : E id' with
    | none => simp [hy] at hu
    | some y =>
      cases y with
      | var _ => simp [hy] at hu
      | foc _ _ _ _ _ _ _ => simp [hy] at hu
      | arr e2 ys =>
        simp only [hy] at hu
        have hv' := hE id' _ hy
        have hne : id ≠ id' := fun e => by subst e; rw [hv] at hv'; cases hv'
        obtain ⟨a, cap, h1, ⟨a', len', cap', e3, bb, ob, CC, EE, g1, rfl, _, _, g4, g5, g3⟩, h3, _, _, hx0⟩ := h.rel id _ hv
        obtain ⟨a2, cap2, k1, k2, k3⟩ := h.rel id' _ hv'
        rw [k1] at g1
        cases hc : Ty.cast (.sl e2) (.sl e3) ys with
        | none => rw [hc] at hu; cases hu
        | some y3 =>
          rw [hc] at hu
          obtain ⟨he, rfl⟩ := Ty.cast_some hc
          cases he
          cases g1
          obtain ⟨x, x', fp'', q1, q2, q3, q4⟩ := g3 w CC _ ys (fp id') g4 rfl (fun _ _ => rfl) g5 (fun _ _ _ => rfl) k2
          have hu : ((e'.setOff x0 off (.sl e2) ys).map fun x' => (⟨e', xs'.set i x'⟩ : (e : Ty) × List e.D)) = some ⟨e, xs⟩ := hu
          rw [hx0] at q1
          cases q1
          rw [q2] at hu
          cases hu
          refine ⟨a, cap, fp'', by simpa using h1, by simpa using q3, by simpa [focIds] using q4, by simp [focIds, hne], ?_, ?_⟩
          · intro k hk
            simp only [focIds, List.mem_cons, List.not_mem_nil, or_false] at hk
            rcases hk with rfl | rfl
            · simp [hv, hx]
            · simp [hv', hy]
          · intro b hb hlt j
            rcases List.mem_append.1 (q4.mem_iff.1 hb) with hb | hb
            · exact h3 b hb hlt j
            · exact k3 b hb hlt j

theorem listOf_rel (h : RelV c μ fp v w) (ev : Ev c w) (hE : ∀ id x, E id = some x → v id = some x) {S' : Nat → Prop} (hS : ∀ b, c.S b → S' b) (hP : ∀ id, E id ≠ none → ∀ b ∈ fp id, S' b)
    {e : Ty} {d : DVal} {x : Value} {xs : List e.D} (hx : VRel c μ x d) (hl : listOf E e d = some xs) : (Ty.sl e).repS S' w [x] xs := by
  cases d with
  | ro e' ys tk =>
    obtain ⟨rfl, rfl⟩ := cast_sl (show Ty.cast (.sl e') (.sl e) ys = some xs from hl)
    simp only [VRel] at hx
    exact Ty.repS_congr (fun b hb => ⟨hS b hb, ev.S b hb⟩) _ hx.1
  | nilS =>
    obtain rfl : [] = xs := Option.some.inj hl
    simp only [VRel] at hx
    obtain ⟨a, rfl⟩ := hx
    exact repS_nil S' w e a
  | sref id vw =>
    rcases vw with _ | ⟨o, l⟩
    · have hl : (E id).bind (fun v => (unfoc E v).bind fun x => Ty.cast (.sl x.1) (.sl e) x.2) = some xs := hl
      obtain ⟨y, hy, hl⟩ := Option.bind_eq_some_iff.1 hl
      obtain ⟨⟨e', ys⟩, hu, hl⟩ := Option.bind_eq_some_iff.1 hl
      obtain ⟨he, hxs⟩ := cast_sl hl
      clear hl
      subst he
      obtain ⟨a, cap, f, h1, h2, h3, _, h5, _⟩ := unfoc_rel h hE hy hu
      have h4 : (Ty.sl e').repS S' w [.slice a ys.length cap] ys := by
        refine Ty.repO_repS _ h2 fun b hb => ?_
        obtain ⟨k, hk, hm⟩ := List.mem_flatMap.1 (h3.mem_iff.1 hb)
        exact hP k (h5 k hk).2 b hm
      simp only [VRel] at hx
      obtain ⟨a', len, cap', sz, g1, rfl⟩ := hx
      rw [h1] at g1; cases g1
      exact hxs ▸ h4
    · have hl : (E id).bind (fun v => (unfoc E v).bind fun x => Ty.cast (.sl x.1) (.sl e) ((x.2.drop o).take l)) = some xs := hl
      obtain ⟨y, hy, hl⟩ := Option.bind_eq_some_iff.1 hl
      obtain ⟨⟨e', ys⟩, hu, hl⟩ := Option.bind_eq_some_iff.1 hl
      obtain ⟨he, hxs⟩ := cast_sl hl
      clear hl
      subst he
      obtain ⟨a, cap, f, h1, h2, h3, _, h5, _⟩ := unfoc_rel h hE hy hu
      have h4 : (Ty.sl e').repS S' w [.slice a ys.length cap] ys := by
        refine Ty.repO_repS _ h2 fun b hb => ?_
        obtain ⟨k, hk, hm⟩ := List.mem_flatMap.1 (h3.mem_iff.1 hb)
        exact hP k (h5 k hk).2 b hm
      simp only [VRel] at hx
      obtain ⟨a', len, cap', sz, a2, g1, g2, g3, rfl, g4⟩ := hx
      rw [h1] at g1; cases g1
      exact hxs ▸ repS_sub h4 g2 g4
  | _ => cases hl

theorem popB_eq {ds : List DVal} {r : Bool × List DVal} (h : popB ds = some r) : ds = .b r.1 :: r.2 := by
  unfold popB at h
  split at h
  · cases h; rfl
  · cases h
theorem popI_eq {k : IntKind} {ds : List DVal} {r : Int × List DVal} (h : popI k ds = some r) : ds = .i k r.1 :: r.2 := by
  unfold popI at h
  split at h
  · split at h
    · rename_i e; cases h; rw [e]
    · cases h
  · cases h
theorem popS_eq {ds : List DVal} {r : List UInt8 × List DVal} (h : popS ds = some r) : ds = .s r.1 :: r.2 := by
  unfold popS at h
  split at h
  · cases h; rfl
  · cases h
theorem popL_eq {e : Ty} {ds : List DVal} {r : List e.D × List DVal} (h : popL E e ds = some r) : ∃ d, ds = d :: r.2 ∧ listOf E e d = some r.1 := by
  unfold popL at h
  split at h
  · rename_i d q
    obtain ⟨x, hx, rfl⟩ := Option.map_eq_some_iff.1 h
    exact ⟨d, rfl, hx⟩
  · cases h
theorem popT_eq {e : Ty} {ds : List DVal} {r : List e.D × List DVal × List Nat} (h : popT E e ds = some r) : ∃ d, ds = d :: r.2.1 ∧ takeL E e d = some (r.1, r.2.2) := by
  unfold popT at h
  split at h
  · rename_i d q
    obtain ⟨x, hx, rfl⟩ := Option.map_eq_some_iff.1 h
    exact ⟨d, rfl, hx⟩
  · cases h

mutual
theorem Ty.frz_rel (h : RelV c μ fp v w) (ev : Ev c w) (hE : ∀ id x, E id = some x → v id = some x) {S' : Nat → Prop} (hS : ∀ b, c.S b → S' b) (hP : ∀ id, E id ≠ none → ∀ b ∈ fp id, S' b) :
    (t : Ty) → {cs : List Value} → {ds : List DVal} → {r : t.D × List DVal} → VsRel c μ cs ds → t.frz E ds = some r → ∃ c1 c2, cs = c1 ++ c2 ∧ t.repS S' w c1 r.1 ∧ VsRel c μ c2 r.2
  | .bool, cs, ds, r, hr, hf => by
    rw [popB_eq hf] at hr
    simp only [VsRel] at hr
    obtain ⟨x, vs, rfl, hx, hr⟩ := hr
    simp only [VRel] at hx; subst hx
    exact ⟨[_], vs, rfl, by simp only [Ty.repS], hr⟩
  | .int k, cs, ds, r, hr, hf => by
    rw [popI_eq hf] at hr
    simp only [VsRel] at hr
    obtain ⟨x, vs, rfl, hx, hr⟩ := hr
    simp only [VRel] at hx; subst hx
    exact ⟨[_], vs, rfl, by simp only [Ty.repS], hr⟩
  | .str, cs, ds, r, hr, hf => by
    rw [popS_eq hf] at hr
    simp only [VsRel] at hr
    obtain ⟨x, vs, rfl, hx, hr⟩ := hr
    simp only [VRel] at hx
    exact ⟨[_], vs, rfl, by simp only [Ty.repS]; exact ⟨by rw [hx.1], hx.2⟩, hr⟩
  | .sl e, cs, ds, r, hr, hf => by
    obtain ⟨d, e1, hy⟩ := popL_eq hf
    rw [e1] at hr
    simp only [VsRel] at hr
    obtain ⟨x, vs, rfl, hx, hr⟩ := hr
    exact ⟨[x], vs, rfl, listOf_rel h ev hE hS hP hx hy, hr⟩
  | .st fs, cs, ds, r, hr, hf => by
    obtain ⟨c1, c2, h1, h2, h3⟩ := Tys.frz_rel h ev hE hS hP fs hr hf
    exact ⟨c1, c2, h1, by simpa only [Ty.repS] using h2, h3⟩
theorem Tys.frz_rel (h : RelV c μ fp v w) (ev : Ev c w) (hE : ∀ id x, E id = some x → v id = some x) {S' : Nat → Prop} (hS : ∀ b, c.S b → S' b) (hP : ∀ id, E id ≠ none → ∀ b ∈ fp id, S' b) :
    (t : Tys) → {cs : List Value} → {ds : List DVal} → {r : t.D × List DVal} → VsRel c μ cs ds → t.frz E ds = some r → ∃ c1 c2, cs = c1 ++ c2 ∧ t.repS S' w c1 r.1 ∧ VsRel c μ c2 r.2
  | .nil, cs, ds, r, hr, hf => by
    simp only [Tys.frz, Option.some.injEq] at hf; subst hf
    exact ⟨[], cs, rfl, by simp only [Tys.repS], hr⟩
  | .cons t ts, cs, ds, r, hr, hf => by
    unfold Tys.frz at hf
    obtain ⟨x, hx, hf⟩ := Option.bind_eq_some_iff.1 hf
    obtain ⟨y, hy, rfl⟩ := Option.map_eq_some_iff.1 hf
    obtain ⟨c1, c2, rfl, h2, h3⟩ := Ty.frz_rel h ev hE hS hP t hr hx
    obtain ⟨c3, c4, rfl, h4, h5⟩ := Tys.frz_rel h ev hE hS hP ts h3 hy
    exact ⟨c1 ++ c3, c4, by simp, by simp only [Tys.repS]; exact ⟨c1, c3, rfl, h2, h4⟩, h5⟩
end

/-- What a datum that is given away leaves: whose blocks they were. -/
structure Gone (c : Ctx) (fp : Nat → List Nat) (v E : Env) (ids : List Nat) (f : List Nat) : Prop where
  mem : ∀ b ∈ f, ∃ id ∈ ids, b ∈ fp id
  nodup : f.Nodup
  there : ∀ id ∈ ids, v id ≠ none ∧ E id ≠ none
  may : ∀ b ∈ f, b < c.w0.heap.size → ∀ j, c.M b j

theorem takeL_rel (h : RelV c μ fp v w) (hE : ∀ id x, E id = some x → v id = some x) {e : Ty} {d : DVal} {x : Value} {r : List e.D × List Nat} (hx : VRel c μ x d) (hl : takeL E e d = some r) :
    ∃ f, (Ty.sl e).repO w [x] r.1 f ∧ Gone c fp v E r.2 f := by
  cases d with
  | nilS =>
    obtain rfl : ([], []) = r := Option.some.inj hl
    simp only [VRel] at hx
    obtain ⟨a, rfl⟩ := hx
    exact ⟨[], repO_nil w e a, ⟨by simp, by simp, by simp, by simp⟩⟩
  | sref id vw =>
    rcases vw with _ | ⟨o, l⟩
    · have hl : (E id).bind (fun v => (unfoc E v).bind fun x => (Ty.cast (.sl x.1) (.sl e) x.2).map fun y => (y, id :: focIds v)) = some r := hl
      obtain ⟨y, hy, hl⟩ := Option.bind_eq_some_iff.1 hl
      obtain ⟨⟨e', ys⟩, hu, hl⟩ := Option.bind_eq_some_iff.1 hl
      obtain ⟨zs, hc, rfl⟩ := Option.map_eq_some_iff.1 hl
      obtain ⟨he, hxs⟩ := cast_sl hc
      clear hc hl
      subst he
      obtain ⟨a, cap, f, h1, h2, h3, h4, h5, h6⟩ := unfoc_rel h hE hy hu
      have hn : f.Nodup := h3.nodup_iff.2 (h.nodup_ids _ h4 fun k hk => (h5 k hk).1)
      have hg : Gone c fp v E (id :: focIds y) f := ⟨fun b hb => List.mem_flatMap.1 (h3.mem_iff.1 hb), hn, h5, h6⟩
      simp only [VRel] at hx
      obtain ⟨a', len, cap', sz, g1, rfl⟩ := hx
      rw [h1] at g1; cases g1
      exact ⟨f, hxs ▸ h2, hg⟩
    · have hl : (E id).bind (fun v => (unfoc E v).bind fun x => (Ty.cast (.sl x.1) (.sl e) ((x.2.drop o).take l)).map fun y => (y, id :: focIds v)) = some r := hl
      obtain ⟨y, hy, hl⟩ := Option.bind_eq_some_iff.1 hl
      obtain ⟨⟨e', ys⟩, hu, hl⟩ := Option.bind_eq_some_iff.1 hl
      obtain ⟨zs, hc, rfl⟩ := Option.map_eq_some_iff.1 hl
      obtain ⟨he, hxs⟩ := cast_sl hc
      clear hc hl
      subst he
      obtain ⟨a, cap, f, h1, h2, h3, h4, h5, h6⟩ := unfoc_rel h hE hy hu
      have hn : f.Nodup := h3.nodup_iff.2 (h.nodup_ids _ h4 fun k hk => (h5 k hk).1)
      have hg : Gone c fp v E (id :: focIds y) f := ⟨fun b hb => List.mem_flatMap.1 (h3.mem_iff.1 hb), hn, h5, h6⟩
      simp only [VRel] at hx
      obtain ⟨a', len, cap', sz, a2, g1, g2, g3, rfl, g4⟩ := hx
      rw [h1] at g1; cases g1
      obtain ⟨f', k1, k2, k3⟩ := repO_sub h2 g2 g4
      exact ⟨f', hxs ▸ k1, ⟨fun b hb => hg.mem b (k3 b hb), k2 hn, h5, fun b hb => h6 b (k3 b hb)⟩⟩
  | _ => cases hl

theorem Gone.append (h : RelV c μ fp v w) {ids ids' f f' : List Nat} (g : Gone c fp v E ids f) (g' : Gone c fp v E ids' f') (hn : (ids ++ ids').Nodup) : Gone c fp v E (ids ++ ids') (f ++ f') where
  mem b hb := by
    rcases List.mem_append.1 hb with hb | hb
    · obtain ⟨i, hi, hm⟩ := g.mem b hb; exact ⟨i, by simp [hi], hm⟩
    · obtain ⟨i, hi, hm⟩ := g'.mem b hb; exact ⟨i, by simp [hi], hm⟩
  nodup := by
    rw [List.nodup_append]
    refine ⟨g.nodup, g'.nodup, fun a ha b hb e => ?_⟩
    subst e
    obtain ⟨i, hi, hm⟩ := g.mem a ha
    obtain ⟨j, hj, hm'⟩ := g'.mem a hb
    have : i ≠ j := fun e => (List.nodup_append.1 hn).2.2 i hi j hj e
    exact h.sep i j this (g.there i hi).1 (g'.there j hj).1 a hm hm'
  there i hi := by
    rcases List.mem_append.1 hi with hi | hi
    · exact g.there i hi
    · exact g'.there i hi
  may b hb := by
    rcases List.mem_append.1 hb with hb | hb
    · exact g.may b hb
    · exact g'.may b hb

mutual
theorem Ty.takeO_rel (h : RelV c μ fp v w) (hE : ∀ id x, E id = some x → v id = some x) :
    (t : Ty) → {cs : List Value} → {ds : List DVal} → {r : t.D × List DVal × List Nat} → VsRel c μ cs ds → t.takeO E ds = some r → r.2.2.Nodup →
      ∃ c1 c2 f, cs = c1 ++ c2 ∧ t.repO w c1 r.1 f ∧ VsRel c μ c2 r.2.1 ∧ Gone c fp v E r.2.2 f
  | .bool, cs, ds, r, hr, hf, _ => by
    obtain ⟨y, hy, rfl⟩ := Option.map_eq_some_iff.1 hf
    rw [popB_eq hy] at hr
    simp only [VsRel] at hr
    obtain ⟨x, vs, rfl, hx, hr⟩ := hr
    simp only [VRel] at hx; subst hx
    exact ⟨[_], vs, [], rfl, by simp [Ty.repO], hr, ⟨by simp, by simp, by simp, by simp⟩⟩
  | .int k, cs, ds, r, hr, hf, _ => by
    obtain ⟨y, hy, rfl⟩ := Option.map_eq_some_iff.1 hf
    rw [popI_eq hy] at hr
    simp only [VsRel] at hr
    obtain ⟨x, vs, rfl, hx, hr⟩ := hr
    simp only [VRel] at hx; subst hx
    exact ⟨[_], vs, [], rfl, by simp [Ty.repO], hr, ⟨by simp, by simp, by simp, by simp⟩⟩
  | .str, cs, ds, r, hr, hf, _ => by
    obtain ⟨y, hy, rfl⟩ := Option.map_eq_some_iff.1 hf
    rw [popS_eq hy] at hr
    simp only [VsRel] at hr
    obtain ⟨x, vs, rfl, hx, hr⟩ := hr
    simp only [VRel] at hx
    exact ⟨[_], vs, [], rfl, by simp only [Ty.repO]; exact ⟨by rw [hx.1], trivial, hx.2⟩, hr, ⟨by simp, by simp, by simp, by simp⟩⟩
  | .sl e, cs, ds, r, hr, hf, _ => by
    obtain ⟨d, e1, hy⟩ := popT_eq hf
    rw [e1] at hr
    simp only [VsRel] at hr
    obtain ⟨x, vs, rfl, hx, hr⟩ := hr
    obtain ⟨f, h1, h2⟩ := takeL_rel h hE hx hy
    exact ⟨[x], vs, f, rfl, h1, hr, h2⟩
  | .st fs, cs, ds, r, hr, hf, hn => by
    obtain ⟨c1, c2, f, h1, h2, h3, h4⟩ := Tys.takeO_rel h hE fs hr hf hn
    exact ⟨c1, c2, f, h1, by simpa only [Ty.repO] using h2, h3, h4⟩
theorem Tys.takeO_rel (h : RelV c μ fp v w) (hE : ∀ id x, E id = some x → v id = some x) :
    (t : Tys) → {cs : List Value} → {ds : List DVal} → {r : t.D × List DVal × List Nat} → VsRel c μ cs ds → t.takeO E ds = some r → r.2.2.Nodup →
      ∃ c1 c2 f, cs = c1 ++ c2 ∧ t.repO w c1 r.1 f ∧ VsRel c μ c2 r.2.1 ∧ Gone c fp v E r.2.2 f
  | .nil, cs, ds, r, hr, hf, _ => by
    simp only [Tys.takeO, Option.some.injEq] at hf; subst hf
    exact ⟨[], cs, [], rfl, by simp [Tys.repO], hr, ⟨by simp, by simp, by simp, by simp⟩⟩
  | .cons t ts, cs, ds, r, hr, hf, hn => by
    unfold Tys.takeO at hf
    obtain ⟨x, hx, hf⟩ := Option.bind_eq_some_iff.1 hf
    obtain ⟨y, hy, rfl⟩ := Option.map_eq_some_iff.1 hf
    have hn' : (x.2.2 ++ y.2.2).Nodup := hn
    obtain ⟨c1, c2, f1, rfl, h2, h3, h4⟩ := Ty.takeO_rel h hE t hr hx (List.nodup_append.1 hn').1
    obtain ⟨c3, c4, f2, rfl, h5, h6, h7⟩ := Tys.takeO_rel h hE ts h3 hy (List.nodup_append.1 hn').2.1
    exact ⟨c1 ++ c3, c4, f1 ++ f2, by simp, by simp only [Tys.repO]; exact ⟨c1, c3, f1, f2, rfl, rfl, h2, h5⟩, h6, h4.append h h7 hn'⟩
end

theorem nodupB_iff : ∀ (l : List Nat), nodupB l = true → l.Nodup
  | [], _ => by simp
  | a :: l, h => by simp [nodupB] at h; rw [List.nodup_cons]; exact ⟨h.1, nodupB_iff l h.2⟩

theorem takeAll_rel (h : RelV c μ fp v w) (hE : ∀ id x, E id = some x → v id = some x) {t : Ty} {cs : List Value} {ds : List DVal} {r : t.D × List Nat} (hr : VsRel c μ cs ds) (hf : takeAll E t ds = some r) :
    ∃ f, t.repO w cs r.1 f ∧ Gone c fp v E r.2 f := by
  unfold takeAll at hf
  split at hf
  · rename_i x ids hx
    split at hf
    · rename_i hn
      cases hf
      obtain ⟨c1, c2, f, rfl, h2, h3, h4⟩ := Ty.takeO_rel h hE t hr hx (nodupB_iff _ hn)
      simp only [VsRel] at h3
      subst h3
      exact ⟨f, by simpa using h2, h4⟩
    · simp at hf
  · simp at hf
theorem frzAll_rel (h : RelV c μ fp v w) (ev : Ev c w) (hE : ∀ id x, E id = some x → v id = some x) {S' : Nat → Prop} (hS : ∀ b, c.S b → S' b) (hP : ∀ id, E id ≠ none → ∀ b ∈ fp id, S' b)
    {t : Ty} {cs : List Value} {ds : List DVal} {r : t.D} (hr : VsRel c μ cs ds) (hf : frzAll E t ds = some r) : t.repS S' w cs r := by
  unfold frzAll at hf
  split at hf
  · rename_i x hx
    cases hf
    obtain ⟨c1, c2, rfl, h2, h3⟩ := Ty.frz_rel h ev hE hS hP t hr hx
    simp only [VsRel] at h3
    subst h3
    simpa using h2
  · simp at hf
end
end Go.Proofs.Ytjcinikojcfebaa.Dm
