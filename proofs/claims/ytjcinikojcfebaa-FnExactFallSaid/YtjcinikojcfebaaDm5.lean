/- The data machine, part 5: parts of what memory holds, read and written. -/
import Derived.Test.YtjcinikojcfebaaDm4
namespace Go.Proofs.Ytjcinikojcfebaa.Dm
open Go

mutual
theorem Ty.beq_refl : (t : Ty) → t.beq t = true
  | .bool => rfl
  | .int _ => by simp [Ty.beq]
  | .str => rfl
  | .sl e => by simp only [Ty.beq]; exact Ty.beq_refl e
  | .st fs => by simp only [Ty.beq]; exact Tys.beq_refl fs
theorem Tys.beq_refl : (t : Tys) → t.beq t = true
  | .nil => rfl
  | .cons t ts => by simp only [Tys.beq, Bool.and_eq_true]; exact ⟨Ty.beq_refl t, Tys.beq_refl ts⟩
end
theorem Ty.cast_self (t : Ty) (x : t.D) : Ty.cast t t x = some x := by
  unfold Ty.cast
  rw [dif_pos (Ty.beq_refl t)]

/-- A part of one's own: read, and put another in its place. -/
def Lens (w : World) (t : Ty) (cs : List Value) (x : t.D) (fp : List Nat) (off : Nat) (u : Ty) (y : u.D) : Prop :=
  ∃ pre mid post f1 fm f2, cs = pre ++ mid ++ post ∧ pre.length = off ∧ fp = f1 ++ fm ++ f2 ∧ u.repO w mid y fm ∧
    ∀ (w' : World) (mid' : List Value) (y' : u.D) (fm' : List Nat), (∀ b ∈ f1 ++ f2, w'.heap[b]? = w.heap[b]?) → u.repO w' mid' y' fm' →
      ∃ x', t.setOff x off u y' = some x' ∧ t.repO w' (pre ++ mid' ++ post) x' (f1 ++ fm' ++ f2)
def LensS (w : World) (t : Tys) (cs : List Value) (x : t.D) (fp : List Nat) (off : Nat) (u : Ty) (y : u.D) : Prop :=
  ∃ pre mid post f1 fm f2, cs = pre ++ mid ++ post ∧ pre.length = off ∧ fp = f1 ++ fm ++ f2 ∧ u.repO w mid y fm ∧
    ∀ (w' : World) (mid' : List Value) (y' : u.D) (fm' : List Nat), (∀ b ∈ f1 ++ f2, w'.heap[b]? = w.heap[b]?) → u.repO w' mid' y' fm' →
      ∃ x', t.setOff x off u y' = some x' ∧ t.repO w' (pre ++ mid' ++ post) x' (f1 ++ fm' ++ f2)

theorem lens_whole {w : World} {t : Ty} {cs : List Value} {x : t.D} {fp : List Nat} {u : Ty} {y : u.D} (h : t.repO w cs x fp) (hc : Ty.cast t u x = some y)
    (hset : ∀ y', t.setOff x 0 t y' = some y') : Lens w t cs x fp 0 u y := by
  obtain ⟨rfl, rfl⟩ := Ty.cast_some hc
  refine ⟨[], cs, [], [], fp, [], by simp, rfl, by simp, h, fun w' mid' y' fm' _ h' => ⟨y', hset y', by simpa using h'⟩⟩

mutual
theorem Ty.repO_lens {w : World} : (t : Ty) → {cs : List Value} → {x : t.D} → {fp : List Nat} → {off : Nat} → {u : Ty} → {y : u.D} → t.repO w cs x fp → t.getOff x off u = some y → Lens w t cs x fp off u y
  | .bool, _, x, _, off, u, _, h, hg => by
    simp only [Ty.getOff] at hg
    split at hg
    · rename_i h0; subst h0; exact lens_whole h hg fun y' => by simp [Ty.setOff, Ty.cast_self]
    · simp at hg
  | .int _, _, x, _, off, u, _, h, hg => by
    simp only [Ty.getOff] at hg
    split at hg
    · rename_i h0; subst h0; exact lens_whole h hg fun y' => by simp [Ty.setOff, Ty.cast_self]
    · simp at hg
  | .str, _, x, _, off, u, _, h, hg => by
    simp only [Ty.getOff] at hg
    split at hg
    · rename_i h0; subst h0; exact lens_whole h hg fun y' => by simp [Ty.setOff, Ty.cast_self]
    · simp at hg
  | .sl _, _, x, _, off, u, _, h, hg => by
    simp only [Ty.getOff] at hg
    split at hg
    · rename_i h0; subst h0; exact lens_whole h hg fun y' => by simp [Ty.setOff, Ty.cast_self]
    · simp at hg
  | .st fs, cs, x, fp, off, u, y, h, hg => by
    simp only [Ty.getOff] at hg
    split at hg
    · rename_i h0
      obtain ⟨rfl, hb⟩ := h0
      exact lens_whole h hg fun y' => by simp [Ty.setOff, Ty.beq_refl, Ty.cast_self]
    · rename_i h0
      have h' : fs.repO w cs x fp := by simpa only [Ty.repO] using h
      obtain ⟨pre, mid, post, f1, fm, f2, h1, h2, h3, h4, h5⟩ := Tys.repO_lens fs h' hg
      refine ⟨pre, mid, post, f1, fm, f2, h1, h2, h3, h4, fun w' mid' y' fm' hs hr => ?_⟩
      obtain ⟨x', hx, hr'⟩ := h5 w' mid' y' fm' hs hr
      refine ⟨x', ?_, by simpa only [Ty.repO] using hr'⟩
      have : ¬ (off = 0 ∧ u.beq (.st fs) = true) := fun ⟨a, b⟩ => h0 ⟨a, by rw [Ty.beq_eq _ _ b]; exact Ty.beq_refl _⟩
      simp only [Ty.setOff, this]
      exact hx
theorem Tys.repO_lens {w : World} : (t : Tys) → {cs : List Value} → {x : t.D} → {fp : List Nat} → {off : Nat} → {u : Ty} → {y : u.D} → t.repO w cs x fp → t.getOff x off u = some y → LensS w t cs x fp off u y
  | .nil, _, _, _, _, _, _, _, hg => by simp [Tys.getOff] at hg
  | .cons t ts, _, x, _, off, u, y, h, hg => by
    simp only [Tys.repO] at h
    obtain ⟨c1, c2, g1, g2, rfl, rfl, hr1, hr2⟩ := h
    simp only [Tys.getOff] at hg
    split at hg
    · rename_i hlt
      obtain ⟨pre, mid, post, f1, fm, f2, rfl, h2, rfl, h4, h5⟩ := Ty.repO_lens t hr1 hg
      refine ⟨pre, mid, post ++ c2, f1, fm, f2 ++ g2, by simp, h2, by simp, h4, fun w' mid' y' fm' hs hr => ?_⟩
      obtain ⟨x', hx, hr'⟩ := h5 w' mid' y' fm' (fun b hb => hs b (by simp at hb ⊢; rcases hb with h | h <;> simp [h])) hr
      refine ⟨(x', x.2), by simp only [Tys.setOff, hlt, if_true, hx]; rfl, ?_⟩
      simp only [Tys.repO]
      exact ⟨pre ++ mid' ++ post, c2, f1 ++ fm' ++ f2, g2, by simp, by simp, hr', Tys.repO_congr ts hr2 fun b hb => hs b (by simp [hb])⟩
    · rename_i hlt
      obtain ⟨pre, mid, post, f1, fm, f2, rfl, h2, rfl, h4, h5⟩ := Tys.repO_lens ts hr2 hg
      have hl := Ty.repO_size t hr1
      refine ⟨c1 ++ pre, mid, post, g1 ++ f1, fm, f2, by simp, by simp [hl, h2]; omega, by simp, h4, fun w' mid' y' fm' hs hr => ?_⟩
      obtain ⟨x', hx, hr'⟩ := h5 w' mid' y' fm' (fun b hb => hs b (by simp at hb ⊢; rcases hb with h | h <;> simp [h])) hr
      refine ⟨(x.1, x'), by simp only [Tys.setOff, hlt, if_false, hx]; rfl, ?_⟩
      simp only [Tys.repO]
      exact ⟨c1, pre ++ mid' ++ post, g1, f1 ++ fm' ++ f2, by simp, by simp, Ty.repO_congr t hr1 fun b hb => hs b (by simp [hb]), hr'⟩
end

mutual
theorem Ty.getOff_of_set : (t : Ty) → {x : t.D} → {off : Nat} → {u : Ty} → {y : u.D} → {x' : t.D} → t.setOff x off u y = some x' → ∃ z, t.getOff x off u = some z
  | .bool, x, off, u, y, x', h => by
    simp only [Ty.setOff] at h
    split at h
    · rename_i h0; obtain ⟨rfl, _⟩ := Ty.cast_some h; exact ⟨x, by simp [Ty.getOff, h0, Ty.cast_self]⟩
    · simp at h
  | .int _, x, off, u, y, x', h => by
    simp only [Ty.setOff] at h
    split at h
    · rename_i h0; obtain ⟨rfl, _⟩ := Ty.cast_some h; exact ⟨x, by simp [Ty.getOff, h0, Ty.cast_self]⟩
    · simp at h
  | .str, x, off, u, y, x', h => by
    simp only [Ty.setOff] at h
    split at h
    · rename_i h0; obtain ⟨rfl, _⟩ := Ty.cast_some h; exact ⟨x, by simp [Ty.getOff, h0, Ty.cast_self]⟩
    · simp at h
  | .sl _, x, off, u, y, x', h => by
    simp only [Ty.setOff] at h
    split at h
    · rename_i h0; obtain ⟨rfl, _⟩ := Ty.cast_some h; exact ⟨x, by simp [Ty.getOff, h0, Ty.cast_self]⟩
    · simp at h
  | .st fs, x, off, u, y, x', h => by
    by_cases h0 : off = 0 ∧ u.beq (Ty.st fs) = true
    · have h : Ty.cast u (.st fs) y = some x' := (if_pos h0).symm.trans h
      obtain ⟨rfl, _⟩ := Ty.cast_some h; exact ⟨x, by simp [Ty.getOff, h0, Ty.cast_self]⟩
    · have h : fs.setOff x off u y = some x' := (if_neg h0).symm.trans h
      obtain ⟨z, hz⟩ := Tys.getOff_of_set fs h
      have : ¬ (off = 0 ∧ (Ty.st fs).beq u = true) := fun ⟨a, b⟩ => h0 ⟨a, by rw [← Ty.beq_eq _ _ b]; exact Ty.beq_refl _⟩
      exact ⟨z, (if_neg this).trans hz⟩
theorem Tys.getOff_of_set : (t : Tys) → {x : t.D} → {off : Nat} → {u : Ty} → {y : u.D} → {x' : t.D} → t.setOff x off u y = some x' → ∃ z, t.getOff x off u = some z
  | .nil, _, _, _, _, _, h => by simp [Tys.setOff] at h
  | .cons t ts, x, off, u, y, x', h => by
    simp only [Tys.setOff] at h
    split at h
    · rename_i hlt
      cases hx : t.setOff x.1 off u y with
      | none => rw [hx] at h; cases h
      | some z => obtain ⟨q, hq⟩ := Ty.getOff_of_set t hx; exact ⟨q, by simp [Tys.getOff, hlt, hq]⟩
    · rename_i hlt
      cases hx : ts.setOff x.2 (off - t.size) u y with
      | none => rw [hx] at h; cases h
      | some z => obtain ⟨q, hq⟩ := Tys.getOff_of_set ts hx; exact ⟨q, by simp [Tys.getOff, hlt, hq]⟩
end

/- The same for what is only read. -/
mutual
theorem Ty.repS_get {S : Nat → Prop} {w : World} : (t : Ty) → {cs : List Value} → {x : t.D} → {off : Nat} → {u : Ty} → {y : u.D} → t.repS S w cs x → t.getOff x off u = some y →
    ∃ pre mid post, cs = pre ++ mid ++ post ∧ pre.length = off ∧ u.repS S w mid y
  | .bool, cs, x, off, u, _, h, hg => by
    simp only [Ty.getOff] at hg
    split at hg
    · rename_i h0; obtain ⟨rfl, rfl⟩ := Ty.cast_some hg; exact ⟨[], cs, [], by simp, h0.symm, h⟩
    · simp at hg
  | .int _, cs, x, off, u, _, h, hg => by
    simp only [Ty.getOff] at hg
    split at hg
    · rename_i h0; obtain ⟨rfl, rfl⟩ := Ty.cast_some hg; exact ⟨[], cs, [], by simp, h0.symm, h⟩
    · simp at hg
  | .str, cs, x, off, u, _, h, hg => by
    simp only [Ty.getOff] at hg
    split at hg
    · rename_i h0; obtain ⟨rfl, rfl⟩ := Ty.cast_some hg; exact ⟨[], cs, [], by simp, h0.symm, h⟩
    · simp at hg
  | .sl _, cs, x, off, u, _, h, hg => by
    simp only [Ty.getOff] at hg
    split at hg
    · rename_i h0; obtain ⟨rfl, rfl⟩ := Ty.cast_some hg; exact ⟨[], cs, [], by simp, h0.symm, h⟩
    · simp at hg
  | .st fs, cs, x, off, u, y, h, hg => by
    simp only [Ty.getOff] at hg
    split at hg
    · rename_i h0; obtain ⟨rfl, rfl⟩ := Ty.cast_some hg; exact ⟨[], cs, [], by simp, h0.1.symm, h⟩
    · have h' : fs.repS S w cs x := by simpa only [Ty.repS] using h
      exact Tys.repS_get fs h' hg
theorem Tys.repS_get {S : Nat → Prop} {w : World} : (t : Tys) → {cs : List Value} → {x : t.D} → {off : Nat} → {u : Ty} → {y : u.D} → t.repS S w cs x → t.getOff x off u = some y →
    ∃ pre mid post, cs = pre ++ mid ++ post ∧ pre.length = off ∧ u.repS S w mid y
  | .nil, _, _, _, _, _, _, hg => by simp [Tys.getOff] at hg
  | .cons t ts, _, x, off, u, y, h, hg => by
    simp only [Tys.repS] at h
    obtain ⟨c1, c2, rfl, hr1, hr2⟩ := h
    simp only [Tys.getOff] at hg
    split at hg
    · obtain ⟨pre, mid, post, rfl, h2, h4⟩ := Ty.repS_get t hr1 hg
      exact ⟨pre, mid, post ++ c2, by simp, h2, h4⟩
    · rename_i hlt
      obtain ⟨pre, mid, post, rfl, h2, h4⟩ := Tys.repS_get ts hr2 hg
      have hl := Ty.repS_size t hr1
      exact ⟨c1 ++ pre, mid, post, by simp, by simp [hl, h2]; omega, h4⟩
end

mutual
theorem Ty.flatR_rel {c : Ctx} {μ : Nat → Loc} : (t : Ty) → {cs : List Value} → {x : t.D} → t.repS c.S c.w0 cs x → VsRel c μ cs (t.flatR x)
  | .bool, cs, x, h => by simp only [Ty.repS] at h; subst h; simp [Ty.flatR, VsRel, VRel]
  | .int _, cs, x, h => by simp only [Ty.repS] at h; subst h; simp [Ty.flatR, VsRel, VRel]
  | .str, cs, x, h => by simp only [Ty.repS] at h; rw [h.1]; simpa [Ty.flatR, VsRel, VRel] using h.2
  | .sl e, cs, x, h => by
    have h' := h
    simp only [Ty.repS] at h
    obtain ⟨a, cap, rfl, _⟩ := h
    simp only [Ty.flatR, VsRel]
    exact ⟨_, [], rfl, by simp only [VRel]; exact ⟨h', by simp⟩, rfl⟩
  | .st fs, cs, x, h => by simp only [Ty.flatR]; exact Tys.flatR_rel fs (by simpa only [Ty.repS] using h)
theorem Tys.flatR_rel {c : Ctx} {μ : Nat → Loc} : (t : Tys) → {cs : List Value} → {x : t.D} → t.repS c.S c.w0 cs x → VsRel c μ cs (t.flatR x)
  | .nil, cs, x, h => by simp only [Tys.repS] at h; subst h; simp [Tys.flatR, VsRel]
  | .cons t ts, cs, x, h => by
    simp only [Tys.repS] at h; obtain ⟨c1, c2, rfl, h1, h2⟩ := h
    simp only [Tys.flatR]; exact (Ty.flatR_rel t h1).append (Tys.flatR_rel ts h2)
end
mutual
theorem Ty.flatO_rel {c : Ctx} {μ : Nat → Loc} {w : World} : (t : Ty) → {cs : List Value} → {x : t.D} → {fp : List Nat} → t.repO w cs x fp → VsRel c μ cs (t.flatO x)
  | .bool, cs, x, _, h => by simp only [Ty.repO] at h; rw [h.1]; simp [Ty.flatO, VsRel, VRel]
  | .int _, cs, x, _, h => by simp only [Ty.repO] at h; rw [h.1]; simp [Ty.flatO, VsRel, VRel]
  | .str, cs, x, _, h => by simp only [Ty.repO] at h; rw [h.1]; simpa [Ty.flatO, VsRel, VRel] using h.2.2
  | .sl e, cs, x, _, h => by
    simp only [Ty.repO] at h
    obtain ⟨a, cap, rfl, _⟩ := h
    simp only [Ty.flatO, VsRel]
    exact ⟨_, [], rfl, by simp only [VRel]; rfl, rfl⟩
  | .st fs, cs, x, _, h => by simp only [Ty.flatO]; exact Tys.flatO_rel fs (by simpa only [Ty.repO] using h)
theorem Tys.flatO_rel {c : Ctx} {μ : Nat → Loc} {w : World} : (t : Tys) → {cs : List Value} → {x : t.D} → {fp : List Nat} → t.repO w cs x fp → VsRel c μ cs (t.flatO x)
  | .nil, cs, x, _, h => by simp only [Tys.repO] at h; rw [h.1]; simp [Tys.flatO, VsRel]
  | .cons t ts, cs, x, _, h => by
    simp only [Tys.repO] at h; obtain ⟨c1, c2, f1, f2, rfl, rfl, h1, h2⟩ := h
    simp only [Tys.flatO]; exact (Ty.flatO_rel t h1).append (Tys.flatO_rel ts h2)
end

/-! ## Lists -/
theorem flatten_split {α : Type} (l : List (List α)) (i : Nat) (h : i < l.length) : l.flatten = (l.take i).flatten ++ l[i] ++ (l.drop (i + 1)).flatten := by
  calc l.flatten = (l.take i ++ l.drop i).flatten := by rw [List.take_append_drop]
    _ = _ := by rw [List.flatten_append, List.drop_eq_getElem_cons h, List.flatten_cons, List.append_assoc]
theorem flatten_sub {α : Type} (l : List (List α)) (o n : Nat) : (((l.drop o).take n).flatten).Sublist l.flatten := by
  have e : l.flatten = (l.take o).flatten ++ (((l.drop o).take n).flatten ++ ((l.drop o).drop n).flatten) := by
    rw [← List.flatten_append, List.take_append_drop, ← List.flatten_append, List.take_append_drop]
  rw [e]
  exact (List.sublist_append_left _ _).trans (List.sublist_append_right _ _)

/-- An item of a list of one's own: read, and put another in its place. -/
theorem repO_item {w : World} {e : Ty} {a : Option Addr} {cap : Nat} {xs : List e.D} {fp : List Nat} (h : (Ty.sl e).repO w [.slice a xs.length cap] xs fp) {i : Nat} {x : e.D} (hx : xs[i]? = some x) :
    ∃ b o C E p fi q, a = some ⟨b, o, none⟩ ∧ w.heap[b]? = some (.cells C E (0, 0)) ∧ o + cap * e.size ≤ C.size ∧ xs.length ≤ cap ∧ fp = b :: (p ++ fi ++ q) ∧
      e.repO w (cellsAt w b (o + i * e.size) e.size) x fi ∧
      ∀ (w' : World) (x' : e.D) (fi' : List Nat) (C' : Array Value), w'.heap[b]? = some (.cells C' E (0, 0)) → C'.size = C.size →
        (∀ j, j < o + i * e.size ∨ o + (i + 1) * e.size ≤ j → C'[j]? = C[j]?) → (∀ b' ∈ p ++ q, w'.heap[b']? = w.heap[b']?) → b ∉ p ++ q →
        e.repO w' (cellsAt w' b (o + i * e.size) e.size) x' fi' → (Ty.sl e).repO w' [.slice a xs.length cap] (xs.set i x') (b :: (p ++ fi' ++ q)) := by
  have hlt : i < xs.length := (List.getElem?_eq_some_iff.1 hx).1
  simp only [Ty.repO] at h
  obtain ⟨a', cap', he, hc, h⟩ := h
  cases he
  rcases h with ⟨h0, _⟩ | ⟨b, o, C, E, fps, ha, hb, ho, hl, hf, hi⟩
  · omega
  have hif : i < fps.length := by omega
  have hsplit : fps = fps.take i ++ fps[i] :: fps.drop (i + 1) := by
    conv => lhs; rw [← List.take_append_drop i fps, List.drop_eq_getElem_cons hif]
  refine ⟨b, o, C, E, (fps.take i).flatten, fps[i], (fps.drop (i + 1)).flatten, ha, hb, ho, hc.1, ?_, hi i x _ hx (List.getElem?_eq_getElem hif), ?_⟩
  · rw [hf, flatten_split fps i hif]
  intro w' x' fi' C' hb' hz hsame hrest hnb hr
  simp only [Ty.repO]
  refine ⟨a, cap, by simp, by simpa using hc, .inr ⟨b, o, C', E, fps.set i fi', ha, hb', by omega, by simpa using hl, ?_, ?_⟩⟩
  · rw [List.set_eq_take_append_cons_drop, if_pos hif]; simp
  intro j y f hy hfj
  by_cases hj : j = i
  · subst hj
    have hy' : (xs.set j x')[j]? = some y := hy
    have hfj' : (fps.set j fi')[j]? = some f := hfj
    rw [List.getElem?_set_self hlt] at hy'
    rw [List.getElem?_set_self hif] at hfj'
    cases hy'; cases hfj'
    exact hr
  · have hy0 : (xs.set i x')[j]? = some y := hy
    have hf0 : (fps.set i fi')[j]? = some f := hfj
    have hy' : xs[j]? = some y := by rw [← hy0]; exact (List.getElem?_set_ne (Ne.symm hj)).symm
    have hf' : fps[j]? = some f := by rw [← hf0]; exact (List.getElem?_set_ne (Ne.symm hj)).symm
    have hjl : j < fps.length := (List.getElem?_eq_some_iff.1 hf').1
    have hmem : ∀ b' ∈ f, b' ∈ (fps.take i).flatten ++ (fps.drop (i + 1)).flatten := by
      intro b' hb'
      have hfe : fps[j] = f := (List.getElem?_eq_some_iff.1 hf').2
      simp only [List.mem_append, List.mem_flatten]
      rcases Nat.lt_or_ge j i with h | h
      · exact .inl ⟨f, by rw [List.mem_take_iff_getElem]; exact ⟨j, by omega, hfe⟩, hb'⟩
      · exact .inr ⟨f, by rw [List.mem_drop_iff_getElem]; exact ⟨j - (i + 1), by omega, by simp only [show i + 1 + (j - (i + 1)) = j by omega]; exact hfe⟩, hb'⟩
    have hcells : cellsAt w' b (o + j * e.size) e.size = cellsAt w b (o + j * e.size) e.size := by
      rw [cellsAt_of hb', cellsAt_of hb]
      apply List.ext_getElem?
      intro k
      by_cases hk : k < e.size
      · rw [List.getElem?_take_of_lt hk, List.getElem?_take_of_lt hk, List.getElem?_drop, List.getElem?_drop, Array.getElem?_toList, Array.getElem?_toList]
        apply hsame
        rcases Nat.lt_or_ge j i with h | h
        · left
          have : (j + 1) * e.size ≤ i * e.size := Nat.mul_le_mul_right _ h
          rw [Nat.add_mul] at this; omega
        · right
          have : (i + 1) * e.size ≤ j * e.size := Nat.mul_le_mul_right _ (by omega)
          omega
      · rw [List.getElem?_eq_none (by simp; omega), List.getElem?_eq_none (by simp; omega)]
    rw [hcells]
    exact Ty.repO_congr e (hi j y f hy' hf') fun b' hb' => hrest b' (hmem b' hb')

theorem repS_item {S : Nat → Prop} {w : World} {e : Ty} {v : Value} {xs : List e.D} (h : (Ty.sl e).repS S w [v] xs) {i : Nat} {x : e.D} (hx : xs[i]? = some x) :
    ∃ b o cap, v = .slice (some ⟨b, o, none⟩) xs.length cap ∧ S b ∧ e.repS S w (cellsAt w b (o + i * e.size) e.size) x := by
  simp only [Ty.repS] at h
  obtain ⟨a, cap, he, hc, h⟩ := h
  cases he
  rcases h with rfl | ⟨b, o, rfl, hb, hi⟩
  · simp at hx
  · exact ⟨b, o, cap, rfl, hb, hi i x hx⟩

/-- A part of a list. -/
theorem repS_sub {S : Nat → Prop} {w : World} {e : Ty} {a : Option Addr} {n cap : Nat} {xs : List e.D} (h : (Ty.sl e).repS S w [.slice a n cap] xs) {o l : Nat} (hl : o + l ≤ n) {a' : Option Addr}
    (ha : cap - o = 0 ∨ ∃ b o', a = some ⟨b, o', none⟩ ∧ a' = some ⟨b, o' + o * e.size, none⟩) : (Ty.sl e).repS S w [.slice a' l (cap - o)] ((xs.drop o).take l) := by
  simp only [Ty.repS] at h ⊢
  obtain ⟨a0, cap0, he, hc, h⟩ := h
  cases he
  have hlen : ((xs.drop o).take l).length = l := by simp; omega
  refine ⟨a', cap - o, by rw [hlen], by rw [hlen]; omega, ?_⟩
  by_cases h0 : l = 0
  · subst h0; exact .inl (List.take_zero)
  right
  rcases h with rfl | ⟨b, o1, rfl, hb, hi⟩
  · simp at hl; omega
  rcases ha with ha | ⟨b', o', he, rfl⟩
  · omega
  cases he
  refine ⟨b, o1 + o * e.size, rfl, hb, fun i y hy => ?_⟩
  have hil : i < l := by have := (List.getElem?_eq_some_iff.1 hy).1; omega
  rw [show o1 + o * e.size + i * e.size = o1 + (o + i) * e.size by rw [Nat.add_mul]; omega]
  refine hi (o + i) y ?_
  have hy' : ((xs.drop o).take l)[i]? = some y := hy
  rw [List.getElem?_take_of_lt hil, List.getElem?_drop] at hy'
  exact hy'

theorem repO_sub {w : World} {e : Ty} {a : Option Addr} {n cap : Nat} {xs : List e.D} {fp : List Nat} (h : (Ty.sl e).repO w [.slice a n cap] xs fp) {o l : Nat} (hl : o + l ≤ n) {a' : Option Addr}
    (ha : cap - o = 0 ∨ ∃ b o', a = some ⟨b, o', none⟩ ∧ a' = some ⟨b, o' + o * e.size, none⟩) :
    ∃ fp', (Ty.sl e).repO w [.slice a' l (cap - o)] ((xs.drop o).take l) fp' ∧ (fp.Nodup → fp'.Nodup) ∧ ∀ b ∈ fp', b ∈ fp := by
  simp only [Ty.repO] at h
  obtain ⟨a0, cap0, he, hc, h⟩ := h
  cases he
  have hlen : ((xs.drop o).take l).length = l := by simp; omega
  by_cases h0 : cap - o = 0
  · refine ⟨[], ?_, by simp, by simp⟩
    simp only [Ty.repO]
    exact ⟨a', cap - o, by rw [hlen], by rw [hlen]; omega, .inl ⟨h0, by simp⟩⟩
  rcases ha with ha | ⟨b', o', he, rfl⟩
  · omega
  rcases h with ⟨h1, _⟩ | ⟨b, o1, C, E, fps, ha, hb, ho, hlf, rfl, hi⟩
  · omega
  subst he; cases ha
  refine ⟨b' :: ((fps.drop o).take l).flatten, ?_, ?_, ?_⟩
  · simp only [Ty.repO]
    refine ⟨_, cap - o, by rw [hlen], by rw [hlen]; omega, .inr ⟨b', o' + o * e.size, C, E, (fps.drop o).take l, rfl, hb, ?_, by simp; omega, by simp, ?_⟩⟩
    · rw [Nat.sub_mul]
      have : o * e.size ≤ cap * e.size := Nat.mul_le_mul_right _ (by omega)
      omega
    · intro i y f hy hf
      have hil : i < l := by have := (List.getElem?_eq_some_iff.1 hy).1; omega
      rw [show o' + o * e.size + i * e.size = o' + (o + i) * e.size by rw [Nat.add_mul]; omega]
      have hy' : ((xs.drop o).take l)[i]? = some y := hy
      have hf' : ((fps.drop o).take l)[i]? = some f := hf
      rw [List.getElem?_take_of_lt hil, List.getElem?_drop] at hy' hf'
      exact hi (o + i) y f hy' hf'
  · intro hn
    exact hn.sublist ((flatten_sub fps o l).cons_cons b')
  · intro x hx
    simp only [List.mem_cons, List.mem_flatten] at hx ⊢
    rcases hx with rfl | ⟨f, hf, hx⟩
    · exact .inl rfl
    · exact .inr ⟨f, List.mem_of_mem_drop (List.mem_of_mem_take hf), hx⟩
end Go.Proofs.Ytjcinikojcfebaa.Dm
