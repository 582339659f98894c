/- The data machine, part 18: append. -/
import Derived.Test.YtjcinikojcfebaaDm17
namespace Go.Proofs.Ytjcinikojcfebaa.Dm
open Go

mutual
theorem Ty.repO_one {w : World} : (t : Ty) → {cs : List Value} → {x : t.D} → {f : List Nat} → t.repO w cs x f → ∀ v ∈ cs, v.oneCell' = true
  | .bool, _, _, _, h => by simp only [Ty.repO] at h; obtain ⟨rfl, _⟩ := h; simp [Value.oneCell']
  | .int _, _, _, _, h => by simp only [Ty.repO] at h; obtain ⟨rfl, _⟩ := h; simp [Value.oneCell']
  | .str, _, _, _, h => by simp only [Ty.repO] at h; obtain ⟨rfl, _⟩ := h; simp [Value.oneCell']
  | .sl _, _, _, _, h => by simp only [Ty.repO] at h; obtain ⟨a, cap, rfl, _⟩ := h; simp [Value.oneCell']
  | .st fs, _, _, _, h => Tys.repO_one fs (by simpa only [Ty.repO] using h)
theorem Tys.repO_one {w : World} : (t : Tys) → {cs : List Value} → {x : t.D} → {f : List Nat} → t.repO w cs x f → ∀ v ∈ cs, v.oneCell' = true
  | .nil, _, _, _, h => by simp only [Tys.repO] at h; obtain ⟨rfl, _⟩ := h; simp
  | .cons t ts, _, _, _, h => by
    simp only [Tys.repO] at h
    obtain ⟨c1, c2, f1, f2, rfl, _, h1, h2⟩ := h
    intro v hv
    rcases List.mem_append.1 hv with hv | hv
    · exact Ty.repO_one t h1 v hv
    · exact Tys.repO_one ts h2 v hv
end
mutual
theorem Ty.flat_rep {S : Nat → Prop} {w w' : World} : (t : Ty) → {cs : List Value} → {x : t.D} → t.flat = true → t.repS S w cs x → t.repO w' cs x []
  | .bool, _, _, _, h => by simp only [Ty.repS] at h; simp [Ty.repO, h]
  | .int _, _, _, _, h => by simp only [Ty.repS] at h; simp [Ty.repO, h]
  | .str, _, _, _, h => by simp only [Ty.repS] at h; simp [Ty.repO, h]
  | .sl _, _, _, hf, _ => by simp [Ty.flat] at hf
  | .st fs, _, _, hf, h => by simp only [Ty.repO]; exact Tys.flat_rep fs hf (by simpa only [Ty.repS] using h)
theorem Tys.flat_rep {S : Nat → Prop} {w w' : World} : (t : Tys) → {cs : List Value} → {x : t.D} → t.flat = true → t.repS S w cs x → t.repO w' cs x []
  | .nil, _, _, _, h => by simp only [Tys.repS] at h; simp [Tys.repO, h]
  | .cons t ts, _, _, hf, h => by
    simp only [Tys.flat, Bool.and_eq_true] at hf
    simp only [Tys.repS] at h
    obtain ⟨c1, c2, rfl, h1, h2⟩ := h
    simp only [Tys.repO]
    exact ⟨c1, c2, [], [], rfl, rfl, Ty.flat_rep t hf.1 h1, Tys.flat_rep ts hf.2 h2⟩
end

/-- Where the items of a slice lie. -/
def Src (w : World) (e : Ty) (v : Value) (ys : List e.D) (gps : List (List Nat)) : Prop :=
  ∃ a cap, v = .slice a ys.length cap ∧ gps.length = ys.length ∧ (ys = [] ∨ ∃ b o, a = some ⟨b, o, none⟩ ∧
    ∀ (i : Nat) (y : e.D) (f : List Nat), ys[i]? = some y → gps[i]? = some f → e.repO w (cellsAt w b (o + i * e.size) e.size) y f)

theorem cellsAt_len {w : World} {b o n : Nat} (h : (cellsAt w b o n).length = n) (hn : 0 < n) : ∃ C E fr, w.heap[b]? = some (.cells C E fr) ∧ o + n ≤ C.size := by
  unfold cellsAt at h
  split at h
  · rename_i C E fr hb
    refine ⟨C, E, fr, hb, ?_⟩
    simp at h; omega
  · simp at h; omega

theorem chunk_cellsAt {w : World} {b o n sz i : Nat} (hi : i < n) : ((cellsAt w b o (n * sz)).drop (i * sz)).take sz = cellsAt w b (o + i * sz) sz := by
  have hin : (i + 1) * sz ≤ n * sz := Nat.mul_le_mul_right _ hi
  rw [Nat.add_mul] at hin
  unfold cellsAt
  split
  · rw [List.drop_take, List.take_take, List.drop_drop]
    congr 1; omega
  · simp

theorem Src.cells {w : World} {e : Ty} {b o : Nat} {ys : List e.D} {gps : List (List Nat)} (hl : gps.length = ys.length) (hpos : 0 < e.size) (hne : ys ≠ [])
    (h : ∀ (i : Nat) (y : e.D) (f : List Nat), ys[i]? = some y → gps[i]? = some f → e.repO w (cellsAt w b (o + i * e.size) e.size) y f) :
    ∃ C E fr, w.heap[b]? = some (.cells C E fr) ∧ o + ys.length * e.size ≤ C.size ∧ (cellsAt w b o (ys.length * e.size)).length = ys.length * e.size ∧
      Items w e (cellsAt w b o (ys.length * e.size)) ys gps ∧ ∀ v ∈ cellsAt w b o (ys.length * e.size), v.oneCell' = true := by
  have hn : 0 < ys.length := List.length_pos_iff.2 hne
  have hlast := h (ys.length - 1) _ _ (List.getElem?_eq_getElem (by omega)) (List.getElem?_eq_getElem (by omega))
  have hll := Ty.repO_size e hlast
  obtain ⟨C, E, fr, hb, hin⟩ := cellsAt_len hll hpos
  have hmul : (ys.length - 1 + 1) * e.size = ys.length * e.size := by rw [Nat.sub_add_cancel hn]
  rw [Nat.add_mul] at hmul
  have hlen : (cellsAt w b o (ys.length * e.size)).length = ys.length * e.size := by rw [cellsAt_of hb]; simp; omega
  refine ⟨C, E, fr, hb, by omega, hlen, ⟨hl, fun i y f hy hf => ?_⟩, fun v hv => ?_⟩
  · rw [chunk_cellsAt (List.getElem?_eq_some_iff.1 hy).1]; exact h i y f hy hf
  · obtain ⟨j, hj, hvj⟩ := List.getElem_of_mem hv
    rw [hlen] at hj
    have hi : j / e.size < ys.length := (Nat.div_lt_iff_lt_mul hpos).2 hj
    have hr := h (j / e.size) _ _ (List.getElem?_eq_getElem hi) (List.getElem?_eq_getElem (by omega))
    refine Ty.repO_one e hr v ?_
    rw [← chunk_cellsAt (n := ys.length) hi, List.mem_iff_getElem?]
    refine ⟨j % e.size, ?_⟩
    rw [List.getElem?_take_of_lt (Nat.mod_lt _ hpos), List.getElem?_drop, Nat.div_add_mod', ← hvj]
    exact List.getElem?_eq_getElem _

theorem items_append {w : World} {e : Ty} {cs ds : List Value} {xs ys : List e.D} {fps gps : List (List Nat)} (h : Items w e cs xs fps) (h' : Items w e ds ys gps) (hl : cs.length = xs.length * e.size) (hl' : ds.length = ys.length * e.size) (rest : List Value) :
    Items w e (cs ++ ds ++ rest) (xs ++ ys) (fps ++ gps) := by
  refine ⟨by simp [h.1, h'.1], fun i y f hy hf => ?_⟩
  rcases Nat.lt_or_ge i xs.length with hi | hi
  · rw [List.getElem?_append_left hi] at hy
    rw [List.getElem?_append_left (by rw [h.1]; exact hi)] at hf
    have hin : (i + 1) * e.size ≤ xs.length * e.size := Nat.mul_le_mul_right _ hi
    rw [Nat.add_mul] at hin
    have := h.2 i y f hy hf
    rw [List.append_assoc, List.drop_append_of_le_length (by omega), List.take_append_of_le_length (by simp; omega)]
    exact this
  · rw [List.getElem?_append_right hi] at hy
    rw [List.getElem?_append_right (by rw [h.1]; exact hi), h.1] at hf
    have hj : i - xs.length < ys.length := (List.getElem?_eq_some_iff.1 hy).1
    have hin : (i - xs.length + 1) * e.size ≤ ys.length * e.size := Nat.mul_le_mul_right _ hj
    rw [Nat.add_mul] at hin
    have := h'.2 (i - xs.length) y f hy hf
    have e1 : i * e.size = cs.length + (i - xs.length) * e.size := by rw [hl, ← Nat.add_mul]; congr 1; omega
    rw [List.append_assoc, e1, List.drop_append, List.drop_of_length_le (by omega), List.nil_append, show cs.length + (i - xs.length) * e.size - cs.length = (i - xs.length) * e.size by omega,
      List.drop_append_of_le_length (by omega), List.take_append_of_le_length (by simp; omega)]
    exact this
theorem Items.congr {w w' : World} {e : Ty} {cs : List Value} {xs : List e.D} {fps : List (List Nat)} (h : Items w e cs xs fps) (hs : ∀ b ∈ fps.flatten, w'.heap[b]? = w.heap[b]?) : Items w' e cs xs fps :=
  ⟨h.1, fun i y f hy hf => Ty.repO_congr e (h.2 i y f hy hf) fun b hb => hs b (List.mem_flatten.2 ⟨f, List.mem_of_getElem? hf, hb⟩)⟩

/-- A slice whose items lie in a row of memory. -/
theorem items_at {w : World} {e : Ty} {xs : List e.D} {fps : List (List Nat)} {C : Array Value} {T : TypeId} {b o cap : Nat} (hb : w.heap[b]? = some (.cells C T (0, 0))) (hc : xs.length ≤ cap ∧ xs.length ≤ BIG) (hC : o + cap * e.size ≤ C.size)
    (hi : Items w e ((C.toList.drop o).take (xs.length * e.size)) xs fps) : (Ty.sl e).repO w [.slice (some ⟨b, o, none⟩) xs.length cap] xs (b :: fps.flatten) := by
  simp only [Ty.repO]
  refine ⟨_, cap, rfl, hc, .inr ⟨b, o, C, T, fps, rfl, hb, hC, hi.1, rfl, ?_⟩⟩
  intro i y f hy hf
  have hy : xs[i]? = some y := hy
  have hf : fps[i]? = some f := hf
  have hil : i < xs.length := (List.getElem?_eq_some_iff.1 hy).1
  have := hi.2 i y f hy hf
  rw [← cellsAt_of hb, chunk_cellsAt hil] at this
  exact this
end Go.Proofs.Ytjcinikojcfebaa.Dm
