/- The data machine, part 1: types of plain data, what memory holds of them, and what keeps that. -/
import Derived.Calls
import Derived.Laws.World
import Derived.Laws.Rows
namespace Go.Proofs.Ytjcinikojcfebaa.Dm
open Go

mutual
inductive Ty where
  | bool
  | int (k : IntKind)
  | str
  | sl (e : Ty)
  | st (fs : Tys)
inductive Tys where
  | nil
  | cons (t : Ty) (ts : Tys)
end

mutual
def Ty.D : Ty → Type
  | .bool => Bool
  | .int _ => Int
  | .str => List UInt8
  | .sl e => List e.D
  | .st fs => fs.D
def Tys.D : Tys → Type
  | .nil => Unit
  | .cons t ts => t.D × ts.D
end

mutual
def Ty.size : Ty → Nat
  | .bool => 1
  | .int _ => 1
  | .str => 1
  | .sl _ => 1
  | .st fs => fs.size
def Tys.size : Tys → Nat
  | .nil => 0
  | .cons t ts => t.size + ts.size
end

mutual
def Ty.zero : (t : Ty) → t.D
  | .bool => false
  | .int _ => (0 : Int)
  | .str => ([] : List UInt8)
  | .sl _ => []
  | .st fs => fs.zero
def Tys.zero : (ts : Tys) → ts.D
  | .nil => ()
  | .cons t ts => (t.zero, ts.zero)
end

mutual
def Ty.beq : Ty → Ty → Bool
  | .bool, .bool => true
  | .int k, .int k' => decide (k = k')
  | .str, .str => true
  | .sl e, .sl e' => e.beq e'
  | .st fs, .st fs' => fs.beq fs'
  | _, _ => false
def Tys.beq : Tys → Tys → Bool
  | .nil, .nil => true
  | .cons t ts, .cons t' ts' => t.beq t' && ts.beq ts'
  | _, _ => false
end

mutual
theorem Ty.beq_eq : (t t' : Ty) → t.beq t' = true → t = t'
  | .bool, t', h => by cases t' <;> simp_all [Ty.beq]
  | .int k, t', h => by cases t' <;> simp_all [Ty.beq]
  | .str, t', h => by cases t' <;> simp_all [Ty.beq]
  | .sl e, t', h => by
    cases t' <;> simp [Ty.beq] at h
    rw [Ty.beq_eq e _ h]
  | .st fs, t', h => by
    cases t' <;> simp [Ty.beq] at h
    rw [Tys.beq_eq fs _ h]
theorem Tys.beq_eq : (t t' : Tys) → t.beq t' = true → t = t'
  | .nil, t', h => by cases t' <;> simp_all [Tys.beq]
  | .cons t ts, t', h => by
    cases t' <;> simp [Tys.beq] at h
    rw [Ty.beq_eq t _ h.1, Tys.beq_eq ts _ h.2]
end

/-- A datum seen at a type that is the same. -/
def Ty.cast (t t' : Ty) (x : t.D) : Option t'.D := if h : t.beq t' = true then some (Ty.beq_eq t t' h ▸ x) else none

theorem Ty.cast_some {t t' : Ty} {x : t.D} {y : t'.D} (h : Ty.cast t t' x = some y) : ∃ e : t = t', y = e ▸ x := by
  unfold Ty.cast at h
  split at h
  · exact ⟨Ty.beq_eq t t' ‹_›, by simpa using h.symm⟩
  · simp at h

/-- No list and no text is longer. -/
abbrev BIG : Nat := 9223372036854775807

/-- The item at a place. -/
abbrev nth {α : Type} (l : List α) (i : Nat) : Option α := l[i]?

/-- The cells of a part of a block. -/
def cellsAt (w : World) (b o n : Nat) : List Value :=
  match w.heap[b]? with
  | some (.cells c _ _) => (c.toList.drop o).take n
  | _ => []

theorem cellsAt_congr {w w' : World} {b : Nat} (h : w'.heap[b]? = w.heap[b]?) (o n : Nat) : cellsAt w' b o n = cellsAt w b o n := by
  simp [cellsAt, h]

/-! What is only read: in blocks that stay as they are. -/
mutual
def Ty.repS (S : Nat → Prop) (w : World) : (t : Ty) → List Value → t.D → Prop
  | .bool, cs, x => cs = [.bool x]
  | .int k, cs, x => cs = [.int k x]
  | .str, cs, x => cs = [.string ⟨List.toArray x⟩] ∧ List.length x ≤ BIG
  | .sl e, cs, xs => ∃ a cap, cs = [.slice a (List.length xs) cap] ∧ (List.length xs ≤ cap ∧ List.length xs ≤ BIG) ∧ (xs = [] ∨ ∃ b o, a = some ⟨b, o, none⟩ ∧ S b ∧
      ∀ (i : Nat) (y : e.D), nth (α := e.D) xs i = some y → e.repS S w (cellsAt w b (o + i * e.size) e.size) y)
  | .st fs, cs, x => fs.repS S w cs x
def Tys.repS (S : Nat → Prop) (w : World) : (ts : Tys) → List Value → ts.D → Prop
  | .nil, cs, _ => cs = []
  | .cons t ts, cs, x => ∃ c1 c2, cs = c1 ++ c2 ∧ t.repS S w c1 x.1 ∧ ts.repS S w c2 x.2
end

/-! What is one's own: 'fp' are the blocks that it lies in. -/
mutual
def Ty.repO (w : World) : (t : Ty) → List Value → t.D → List Nat → Prop
  | .bool, cs, x, fp => cs = [.bool x] ∧ fp = []
  | .int k, cs, x, fp => cs = [.int k x] ∧ fp = []
  | .str, cs, x, fp => cs = [.string ⟨List.toArray x⟩] ∧ fp = [] ∧ List.length x ≤ BIG
  | .sl e, cs, xs, fp => ∃ a cap, cs = [.slice a (List.length xs) cap] ∧ (List.length xs ≤ cap ∧ List.length xs ≤ BIG) ∧ ((cap = 0 ∧ fp = []) ∨ ∃ b o c E fps, a = some ⟨b, o, none⟩ ∧
      w.heap[b]? = some (.cells c E (0, 0)) ∧ o + cap * e.size ≤ c.size ∧ List.length fps = List.length xs ∧ fp = b :: fps.flatten ∧
      ∀ (i : Nat) (y : e.D) (f : List Nat), nth (α := e.D) xs i = some y → nth fps i = some f → e.repO w (cellsAt w b (o + i * e.size) e.size) y f)
  | .st fs, cs, x, fp => fs.repO w cs x fp
def Tys.repO (w : World) : (ts : Tys) → List Value → ts.D → List Nat → Prop
  | .nil, cs, _, fp => cs = [] ∧ fp = []
  | .cons t ts, cs, x, fp => ∃ c1 c2 f1 f2, cs = c1 ++ c2 ∧ fp = f1 ++ f2 ∧ t.repO w c1 x.1 f1 ∧ ts.repO w c2 x.2 f2
end

mutual
theorem Ty.repS_size {S : Nat → Prop} {w : World} : (t : Ty) → {cs : List Value} → {x : t.D} → t.repS S w cs x → cs.length = t.size
  | .bool, _, _, h => by simp only [Ty.repS] at h; subst h; rfl
  | .int _, _, _, h => by simp only [Ty.repS] at h; subst h; rfl
  | .str, _, _, h => by simp only [Ty.repS] at h; rw [h.1]; rfl
  | .sl _, _, _, h => by simp only [Ty.repS] at h; obtain ⟨a, cap, rfl, _⟩ := h; rfl
  | .st fs, _, _, h => by simp only [Ty.repS] at h; exact Tys.repS_size fs h
theorem Tys.repS_size {S : Nat → Prop} {w : World} : (t : Tys) → {cs : List Value} → {x : t.D} → t.repS S w cs x → cs.length = t.size
  | .nil, _, _, h => by simp only [Tys.repS] at h; subst h; rfl
  | .cons t ts, _, _, h => by
    simp only [Tys.repS] at h; obtain ⟨c1, c2, rfl, h1, h2⟩ := h
    simp [Tys.size, Ty.repS_size t h1, Tys.repS_size ts h2]
end

mutual
theorem Ty.repO_size {w : World} : (t : Ty) → {cs : List Value} → {x : t.D} → {fp : List Nat} → t.repO w cs x fp → cs.length = t.size
  | .bool, _, _, _, h => by simp only [Ty.repO] at h; rw [h.1]; rfl
  | .int _, _, _, _, h => by simp only [Ty.repO] at h; rw [h.1]; rfl
  | .str, _, _, _, h => by simp only [Ty.repO] at h; rw [h.1]; rfl
  | .sl _, _, _, _, h => by simp only [Ty.repO] at h; obtain ⟨a, cap, rfl, _⟩ := h; rfl
  | .st fs, _, _, _, h => by simp only [Ty.repO] at h; exact Tys.repO_size fs h
theorem Tys.repO_size {w : World} : (t : Tys) → {cs : List Value} → {x : t.D} → {fp : List Nat} → t.repO w cs x fp → cs.length = t.size
  | .nil, _, _, _, h => by simp only [Tys.repO] at h; rw [h.1]; rfl
  | .cons t ts, _, _, _, h => by
    simp only [Tys.repO] at h; obtain ⟨c1, c2, f1, f2, rfl, rfl, h1, h2⟩ := h
    simp [Tys.size, Ty.repO_size t h1, Tys.repO_size ts h2]
end

/- The same blocks, the same reading. -/
mutual
theorem Ty.repS_congr {S S' : Nat → Prop} {w w' : World} (hs : ∀ b, S b → S' b ∧ w'.heap[b]? = w.heap[b]?) : (t : Ty) → {cs : List Value} → {x : t.D} → t.repS S w cs x → t.repS S' w' cs x
  | .bool, _, _, h => by simp only [Ty.repS] at h ⊢; exact h
  | .int _, _, _, h => by simp only [Ty.repS] at h ⊢; exact h
  | .str, _, _, h => by simp only [Ty.repS] at h ⊢; exact h
  | .sl e, _, _, h => by
    simp only [Ty.repS] at h ⊢
    obtain ⟨a, cap, rfl, hc, h⟩ := h
    refine ⟨a, cap, rfl, hc, h.imp id ?_⟩
    rintro ⟨b, o, ha, hb, hi⟩
    refine ⟨b, o, ha, (hs b hb).1, fun i y hl => ?_⟩
    rw [cellsAt_congr (hs b hb).2]
    exact Ty.repS_congr hs e (hi i y hl)
  | .st fs, _, _, h => by simp only [Ty.repS] at h ⊢; exact Tys.repS_congr hs fs h
theorem Tys.repS_congr {S S' : Nat → Prop} {w w' : World} (hs : ∀ b, S b → S' b ∧ w'.heap[b]? = w.heap[b]?) : (t : Tys) → {cs : List Value} → {x : t.D} → t.repS S w cs x → t.repS S' w' cs x
  | .nil, _, _, h => by simp only [Tys.repS] at h ⊢; exact h
  | .cons t ts, _, _, h => by
    simp only [Tys.repS] at h ⊢; obtain ⟨c1, c2, rfl, h1, h2⟩ := h
    exact ⟨c1, c2, rfl, Ty.repS_congr hs t h1, Tys.repS_congr hs ts h2⟩
end

mutual
theorem Ty.repO_congr {w w' : World} : (t : Ty) → {cs : List Value} → {x : t.D} → {fp : List Nat} → t.repO w cs x fp → (∀ b ∈ fp, w'.heap[b]? = w.heap[b]?) → t.repO w' cs x fp
  | .bool, _, _, _, h, _ => by simp only [Ty.repO] at h ⊢; exact h
  | .int _, _, _, _, h, _ => by simp only [Ty.repO] at h ⊢; exact h
  | .str, _, _, _, h, _ => by simp only [Ty.repO] at h ⊢; exact h
  | .sl e, _, _, _, h, hs => by
    simp only [Ty.repO] at h ⊢
    obtain ⟨a, cap, rfl, hc, h⟩ := h
    refine ⟨a, cap, rfl, hc, h.imp id ?_⟩
    rintro ⟨b, o, c, E, fps, ha, hb, ho, hl, rfl, hi⟩
    have hb' := hs b (by simp)
    refine ⟨b, o, c, E, fps, ha, hb'.trans hb, ho, hl, rfl, fun i y f hy hf => ?_⟩
    rw [cellsAt_congr hb']
    refine Ty.repO_congr e (hi i y f hy hf) fun b hm => hs b ?_
    simp only [List.mem_cons, List.mem_flatten]
    exact .inr ⟨f, List.mem_of_getElem? hf, hm⟩
  | .st fs, _, _, _, h, hs => by simp only [Ty.repO] at h ⊢; exact Tys.repO_congr fs h hs
theorem Tys.repO_congr {w w' : World} : (t : Tys) → {cs : List Value} → {x : t.D} → {fp : List Nat} → t.repO w cs x fp → (∀ b ∈ fp, w'.heap[b]? = w.heap[b]?) → t.repO w' cs x fp
  | .nil, _, _, _, h, _ => by simp only [Tys.repO] at h ⊢; exact h
  | .cons t ts, _, _, _, h, hs => by
    simp only [Tys.repO] at h ⊢; obtain ⟨c1, c2, f1, f2, rfl, rfl, h1, h2⟩ := h
    exact ⟨c1, c2, f1, f2, rfl, rfl, Ty.repO_congr t h1 fun b hb => hs b (by simp [hb]), Tys.repO_congr ts h2 fun b hb => hs b (by simp [hb])⟩
end

/- What is one's own can be read. -/
mutual
theorem Ty.repO_repS {S : Nat → Prop} {w : World} : (t : Ty) → {cs : List Value} → {x : t.D} → {fp : List Nat} → t.repO w cs x fp → (∀ b ∈ fp, S b) → t.repS S w cs x
  | .bool, _, _, _, h, _ => by simp only [Ty.repO, Ty.repS] at h ⊢; exact h.1
  | .int _, _, _, _, h, _ => by simp only [Ty.repO, Ty.repS] at h ⊢; exact h.1
  | .str, _, _, _, h, _ => by simp only [Ty.repO, Ty.repS] at h ⊢; exact ⟨h.1, h.2.2⟩
  | .sl e, _, _, _, h, hs => by
    simp only [Ty.repO, Ty.repS] at h ⊢
    obtain ⟨a, cap, rfl, hc, h⟩ := h
    refine ⟨a, cap, rfl, hc, ?_⟩
    rcases h with ⟨h0, rfl⟩ | ⟨b, o, c, E, fps, ha, hb, ho, hl, rfl, hi⟩
    · exact .inl (List.eq_nil_of_length_eq_zero (by omega))
    · refine .inr ⟨b, o, ha, hs b (by simp), fun i y hy => ?_⟩
      have hlt : i < fps.length := hl ▸ (List.getElem?_eq_some_iff.1 hy).1
      refine Ty.repO_repS e (hi i y (fps[i]'hlt) hy (List.getElem?_eq_getElem _)) fun b hm => hs b ?_
      simp only [List.mem_cons, List.mem_flatten]
      exact .inr ⟨_, List.getElem_mem _, hm⟩
  | .st fs, _, _, _, h, hs => by simp only [Ty.repO, Ty.repS] at h ⊢; exact Tys.repO_repS fs h hs
theorem Tys.repO_repS {S : Nat → Prop} {w : World} : (t : Tys) → {cs : List Value} → {x : t.D} → {fp : List Nat} → t.repO w cs x fp → (∀ b ∈ fp, S b) → t.repS S w cs x
  | .nil, _, _, _, h, _ => by simp only [Tys.repO, Tys.repS] at h ⊢; exact h.1
  | .cons t ts, _, _, _, h, hs => by
    simp only [Tys.repO, Tys.repS] at h ⊢; obtain ⟨c1, c2, f1, f2, rfl, rfl, h1, h2⟩ := h
    exact ⟨c1, c2, rfl, Ty.repO_repS t h1 fun b hb => hs b (by simp [hb]), Tys.repO_repS ts h2 fun b hb => hs b (by simp [hb])⟩
end

/- The blocks that it lies in are there. -/
mutual
theorem Ty.repO_lt {w : World} : (t : Ty) → {cs : List Value} → {x : t.D} → {fp : List Nat} → t.repO w cs x fp → ∀ b ∈ fp, b < w.heap.size
  | .bool, _, _, _, h => by simp only [Ty.repO] at h; rw [h.2]; simp
  | .int _, _, _, _, h => by simp only [Ty.repO] at h; rw [h.2]; simp
  | .str, _, _, _, h => by simp only [Ty.repO] at h; rw [h.2.1]; simp
  | .sl e, _, _, _, h => by
    simp only [Ty.repO] at h
    obtain ⟨a, cap, rfl, hc, h⟩ := h
    rcases h with ⟨h0, rfl⟩ | ⟨b, o, c, E, fps, ha, hb, ho, hl, rfl, hi⟩
    · simp
    · intro b' hm
      simp only [List.mem_cons, List.mem_flatten] at hm
      rcases hm with rfl | ⟨f, hf, hm⟩
      · exact (Array.getElem?_eq_some_iff.1 hb).1
      · obtain ⟨i, hlt, rfl⟩ := List.getElem_of_mem hf
        exact Ty.repO_lt e (hi i (@getElem (List e.D) Nat e.D _ _ _ i (hl ▸ hlt)) _ (List.getElem?_eq_getElem _) (List.getElem?_eq_getElem _)) b' hm
  | .st fs, _, _, _, h => by simp only [Ty.repO] at h; exact Tys.repO_lt fs h
theorem Tys.repO_lt {w : World} : (t : Tys) → {cs : List Value} → {x : t.D} → {fp : List Nat} → t.repO w cs x fp → ∀ b ∈ fp, b < w.heap.size
  | .nil, _, _, _, h => by simp only [Tys.repO] at h; rw [h.2]; simp
  | .cons t ts, _, _, _, h => by
    simp only [Tys.repO] at h; obtain ⟨c1, c2, f1, f2, rfl, rfl, h1, h2⟩ := h
    intro b hb
    rcases List.mem_append.1 hb with h | h
    · exact Ty.repO_lt t h1 b h
    · exact Tys.repO_lt ts h2 b h
end
end Go.Proofs.Ytjcinikojcfebaa.Dm
