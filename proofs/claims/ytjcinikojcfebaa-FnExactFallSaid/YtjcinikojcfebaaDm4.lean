/- The data machine, part 4: what of the model's memory a state stands for. -/
import Derived.Test.YtjcinikojcfebaaDm3
import Derived.Laws.AppendOwn
import Derived.Laws.MakeOwn
import Derived.Laws.Slices
import Derived.Laws.StructEq
import Derived.Laws.Strings
namespace Go.Proofs.Ytjcinikojcfebaa.Dm
open Go

/-- Where a variable lies: a place in memory; or the head of a slice, which lies nowhere. -/
inductive Loc where
  | at (B o : Nat)
  | hdr (a : Option Addr) (len cap sz : Nat)
instance : Inhabited Loc := ⟨.at 0 0⟩

/-- What stays fixed while a call runs: the blocks that nobody writes ('S'), the world at its start, the old cells that may be written ('M'), the values that came in, and where the variables lie that came in. -/
structure Ctx where
  P : Program
  S : Nat → Prop
  w0 : World
  M : Nat → Nat → Prop
  tok : Nat → Value
  loc : Nat → Loc
  hS : ∀ b, S b → b < w0.heap.size

mutual
def VRel (c : Ctx) (μ : Nat → Loc) (v : Value) : DVal → Prop
  | .dead => True
  | .deadc => v.oneCell' = true
  | .undef => v = undef
  | .b x => v = .bool x
  | .i k x => v = .int k x
  | .s x => v = .string ⟨x.toArray⟩ ∧ x.length ≤ BIG
  | .ro e xs tk => (Ty.sl e).repS c.S c.w0 [v] xs ∧ ∀ k, tk = some k → v = c.tok k
  | .nilS => ∃ a, v = .slice a 0 0
  | .sref id none => ∃ a len cap sz, μ id = .hdr a len cap sz ∧ v = .slice a len cap
  | .sref id (some (o, l)) => ∃ a len cap sz a', μ id = .hdr a len cap sz ∧ o + l ≤ len ∧ len ≤ cap ∧ v = .slice a' l (cap - o) ∧ (cap - o = 0 ∨ ∃ b o', a = some ⟨b, o', none⟩ ∧ a' = some ⟨b, o' + o * sz, none⟩)
  | .vptr id off => ∃ B o, μ id = .at B o ∧ v = .pointer (some ⟨B, o + off, none⟩)
  | .eptr id i off => ∃ b o len cap sz, μ id = .hdr (some ⟨b, o, none⟩) len cap sz ∧ i < len ∧ v = .pointer (some ⟨b, o + i * sz + off, none⟩)
  | .rop t x off => ∃ b o, c.S b ∧ t.repS c.S c.w0 (cellsAt c.w0 b o t.size) x ∧ v = .pointer (some ⟨b, o + off, none⟩)
  | .agg ds => ∃ vs, v = .agg vs ∧ VsRel c μ vs.toList ds
  | .tup ds => ∃ vs, v = .tuple vs ∧ VsRel c μ vs.toList ds
  | .fn f ds => ∃ vs, v = .func (.func f) #[] vs ∧ VsRel c μ vs.toList ds
def VsRel (c : Ctx) (μ : Nat → Loc) (vs : List Value) : List DVal → Prop
  | [] => vs = []
  | d :: ds => ∃ v vs', vs = v :: vs' ∧ VRel c μ v d ∧ VsRel c μ vs' ds
end

mutual
theorem VRel.mono {c : Ctx} {μ μ' : Nat → Loc} : {v : Value} → (d : DVal) → (∀ id ∈ d.ids, μ' id = μ id) → VRel c μ v d → VRel c μ' v d
  | _, .dead, _, h => h
  | _, .deadc, _, h => h
  | _, .undef, _, h => h
  | _, .b _, _, h => h
  | _, .i _ _, _, h => h
  | _, .s _, _, h => h
  | _, .ro _ _ _, _, h => h
  | _, .nilS, _, h => h
  | _, .sref id none, hm, h => by simp only [VRel] at h ⊢; rwa [hm id (by simp [DVal.ids])]
  | _, .sref id (some (o, l)), hm, h => by simp only [VRel] at h ⊢; rwa [hm id (by simp [DVal.ids])]
  | _, .vptr id off, hm, h => by simp only [VRel] at h ⊢; rwa [hm id (by simp [DVal.ids])]
  | _, .eptr id i off, hm, h => by simp only [VRel] at h ⊢; rwa [hm id (by simp [DVal.ids])]
  | _, .rop _ _ _, _, h => h
  | _, .agg ds, hm, h => by simp only [VRel] at h ⊢; obtain ⟨vs, e, h⟩ := h; exact ⟨vs, e, VsRel.mono ds (by simpa [DVal.ids] using hm) h⟩
  | _, .tup ds, hm, h => by simp only [VRel] at h ⊢; obtain ⟨vs, e, h⟩ := h; exact ⟨vs, e, VsRel.mono ds (by simpa [DVal.ids] using hm) h⟩
  | _, .fn f ds, hm, h => by simp only [VRel] at h ⊢; obtain ⟨vs, e, h⟩ := h; exact ⟨vs, e, VsRel.mono ds (by simpa [DVal.ids] using hm) h⟩
theorem VsRel.mono {c : Ctx} {μ μ' : Nat → Loc} : {vs : List Value} → (ds : List DVal) → (∀ id ∈ DVal.idsL ds, μ' id = μ id) → VsRel c μ vs ds → VsRel c μ' vs ds
  | _, [], _, h => h
  | _, d :: ds, hm, h => by
    simp only [VsRel] at h ⊢; obtain ⟨v, vs', e, h1, h2⟩ := h
    exact ⟨v, vs', e, VRel.mono d (fun id hi => hm id (by simp [DVal.idsL, hi])) h1, VsRel.mono ds (fun id hi => hm id (by simp [DVal.idsL, hi])) h2⟩
end

theorem VsRel.length {c : Ctx} {μ : Nat → Loc} : {vs : List Value} → {ds : List DVal} → VsRel c μ vs ds → vs.length = ds.length
  | _, [], h => by simp only [VsRel] at h; subst h; rfl
  | _, _ :: _, h => by simp only [VsRel] at h; obtain ⟨v, vs', rfl, _, h⟩ := h; simp [VsRel.length h]
theorem VsRel.append {c : Ctx} {μ : Nat → Loc} : {vs us : List Value} → {ds es : List DVal} → VsRel c μ vs ds → VsRel c μ us es → VsRel c μ (vs ++ us) (ds ++ es)
  | _, _, [], _, h, h' => by simp only [VsRel] at h; subst h; exact h'
  | _, _, _ :: _, _, h, h' => by
    simp only [VsRel] at h; obtain ⟨v, vs', rfl, h1, h⟩ := h
    simp only [List.cons_append, VsRel]; exact ⟨v, _, rfl, h1, VsRel.append h h'⟩
theorem VsRel.get {c : Ctx} {μ : Nat → Loc} : {vs : List Value} → {ds : List DVal} → VsRel c μ vs ds → ∀ {j : Nat} {d : DVal}, ds[j]? = some d → ∃ v, vs[j]? = some v ∧ VRel c μ v d
  | _, [], _, _, _, hd => by simp at hd
  | _, _ :: _, h, j, d, hd => by
    simp only [VsRel] at h; obtain ⟨v, vs', rfl, h1, h⟩ := h
    cases j with
    | zero => simp at hd; subst hd; exact ⟨v, rfl, h1⟩
    | succ j => simpa using VsRel.get h (j := j) (d := d) (by simpa using hd)
theorem VsRel.of_get {c : Ctx} {μ : Nat → Loc} : {vs : List Value} → {ds : List DVal} → vs.length = ds.length → (∀ (j : Nat) (d : DVal) (v : Value), ds[j]? = some d → vs[j]? = some v → VRel c μ v d) → VsRel c μ vs ds
  | vs, [], hl, _ => by simp only [VsRel]; exact List.eq_nil_of_length_eq_zero (by simpa using hl)
  | [], _ :: _, hl, _ => by simp at hl
  | v :: vs, d :: ds, hl, h => by
    simp only [VsRel]
    exact ⟨v, vs, rfl, h 0 d v rfl rfl, VsRel.of_get (by simpa using hl) fun j d' v' h1 h2 => h (j + 1) d' v' (by simpa using h1) (by simpa using h2)⟩
theorem VsRel.take {c : Ctx} {μ : Nat → Loc} {vs : List Value} {ds : List DVal} (h : VsRel c μ vs ds) (n : Nat) : VsRel c μ (vs.take n) (ds.take n) := by
  have hl := h.length
  refine VsRel.of_get (by simp [hl]) fun j d v hd hv => ?_
  rw [List.getElem?_take] at hd hv
  split at hd
  · rename_i hj; simp only [hj, if_true] at hv; obtain ⟨u, hu, hr⟩ := h.get hd; rw [hu] at hv; cases hv; exact hr
  · simp at hd
theorem VsRel.drop {c : Ctx} {μ : Nat → Loc} {vs : List Value} {ds : List DVal} (h : VsRel c μ vs ds) (n : Nat) : VsRel c μ (vs.drop n) (ds.drop n) := by
  have hl := h.length
  refine VsRel.of_get (by simp [hl]) fun j d v hd hv => ?_
  rw [List.getElem?_drop] at hd hv
  obtain ⟨u, hu, hr⟩ := h.get hd; rw [hu] at hv; cases hv; exact hr
theorem idsL_append (a b : List DVal) : DVal.idsL (a ++ b) = DVal.idsL a ++ DVal.idsL b := by
  induction a with
  | nil => rfl
  | cons x xs ih => simp [DVal.idsL, ih]
theorem mem_idsL {ds : List DVal} {id : Nat} : id ∈ DVal.idsL ds ↔ ∃ d ∈ ds, id ∈ d.ids := by
  induction ds with
  | nil => simp [DVal.idsL]
  | cons x xs ih => simp [DVal.idsL, ih]

theorem VRel.oneCell {c : Ctx} {μ : Nat → Loc} {v : Value} {d : DVal} (h : VRel c μ v d) (hc : d.isCell = true) : v.oneCell' = true := by
  cases d with
  | dead => simp [DVal.isCell] at hc
  | undef => simp [DVal.isCell] at hc
  | agg _ => simp [DVal.isCell] at hc
  | tup _ => simp [DVal.isCell] at hc
  | deadc => exact h
  | b x => simp only [VRel] at h; subst h; rfl
  | i k x => simp only [VRel] at h; subst h; rfl
  | s x => simp only [VRel] at h; rw [h.1]; rfl
  | ro e xs tk => simp only [VRel] at h; obtain ⟨h, _⟩ := h; simp only [Ty.repS] at h; obtain ⟨a, cap, e, _⟩ := h; cases e; rfl
  | nilS => simp only [VRel] at h; obtain ⟨a, rfl⟩ := h; rfl
  | sref id vw =>
    rcases vw with _ | ⟨o, l⟩
    · simp only [VRel] at h; obtain ⟨a, len, cap, sz, _, rfl⟩ := h; rfl
    · simp only [VRel] at h; obtain ⟨a, len, cap, sz, a', _, _, _, rfl, _⟩ := h; rfl
  | vptr id off => simp only [VRel] at h; obtain ⟨B, o, _, rfl⟩ := h; rfl
  | eptr id i off => simp only [VRel] at h; obtain ⟨b, o, len, cap, sz, _, _, rfl⟩ := h; rfl
  | rop t x off => simp only [VRel] at h; obtain ⟨b, o, _, _, rfl⟩ := h; rfl
  | fn f ds => simp only [VRel] at h; obtain ⟨vs, rfl, _⟩ := h; rfl

theorem cells_of_oneCell {v : Value} (h : v.oneCell' = true) : v.cells = #[v] := by cases v <;> simp_all [Value.oneCell', Value.cells]

theorem VRel.cells {c : Ctx} {μ : Nat → Loc} {v : Value} {d : DVal} (h : VRel c μ v d) (hc : d.cells.all DVal.isCell = true) : VsRel c μ v.cells.toList d.cells := by
  by_cases ha : ∃ ds, d = .agg ds
  · obtain ⟨ds, rfl⟩ := ha
    simp only [VRel] at h; obtain ⟨vs, rfl, h⟩ := h; exact h
  · have hd : d.cells = [d] := by cases d <;> first | rfl | exact absurd ⟨_, rfl⟩ ha
    rw [hd] at hc ⊢
    simp only [List.all_cons, List.all_nil, Bool.and_true] at hc
    rw [cells_of_oneCell (h.oneCell hc)]
    simp only [VsRel]
    exact ⟨v, [], rfl, h, rfl⟩

/-- What a list of one's own is, but for one list inside, which is held beside it: with any other head and any list in that place it is whole again. -/
def Wand (w : World) (a : Option Addr) (cap : Nat) (e : Ty) (xs : List e.D) (i off : Nat) (u : Ty) (h : Loc) (fp : List Nat) : Prop :=
  ∃ a' len' cap' e' b o C E, h = .hdr a' len' cap' (Ty.size e') ∧ u = .sl e' ∧ a = some ⟨b, o, none⟩ ∧ b ∈ fp ∧ w.heap[b]? = some (.cells C E (0, 0)) ∧
  C[o + i * e.size + off]? = some (.slice a' len' cap') ∧
  ∀ (w' : World) (C' : Array Value) (hd : Value) (ys : u.D) (fp' : List Nat), w'.heap[b]? = some (.cells C' E (0, 0)) → C'.size = C.size → (∀ j, j ≠ o + i * e.size + off → C'[j]? = C[j]?) →
    C'[o + i * e.size + off]? = some hd → (∀ b' ∈ fp, b' ≠ b → w'.heap[b']? = w.heap[b']?) → u.repO w' [hd] ys fp' →
    ∃ x x' fp'', xs[i]? = some x ∧ e.setOff x off u ys = some x' ∧ (Ty.sl e).repO w' [.slice a xs.length cap] (xs.set i x') fp'' ∧ fp''.Perm (fp ++ fp')

def VarRel (c : Ctx) (μ : Nat → Loc) (w : World) (id : Nat) (fp : List Nat) : DVar → Prop
  | .var cs => ∃ B o C E, μ id = .at B o ∧ fp = [B] ∧ w.heap[B]? = some (.cells C E (0, 0)) ∧ o + cs.length ≤ C.size ∧
      VsRel c μ (cellsAt w B o cs.length) cs ∧ cs.all DVal.isCell = true ∧ (B < c.w0.heap.size → ∀ j, j < cs.length → c.M B (o + j))
  | .arr e xs => ∃ a cap, μ id = .hdr a xs.length cap e.size ∧ (Ty.sl e).repO w [.slice a xs.length cap] xs fp ∧ (∀ b ∈ fp, b < c.w0.heap.size → ∀ j, c.M b j)
  | .foc e xs x i off u id' => ∃ a cap, μ id = .hdr a xs.length cap e.size ∧ Wand w a cap e xs i off u (μ id') fp ∧ (∀ b ∈ fp, b < c.w0.heap.size → ∀ j, c.M b j) ∧ xs.length ≤ cap ∧ (cap = 0 ∨ ∃ b o, a = some ⟨b, o, none⟩) ∧ xs[i]? = some x

structure RelV (c : Ctx) (μ : Nat → Loc) (fp : Nat → List Nat) (v : Env) (w : World) : Prop where
  rel : ∀ id x, v id = some x → VarRel c μ w id (fp id) x
  nodup : ∀ id x, v id = some x → (fp id).Nodup
  sep : ∀ id id', id ≠ id' → v id ≠ none → v id' ≠ none → ∀ b ∈ fp id, b ∉ fp id'
  notS : ∀ id, v id ≠ none → ∀ b ∈ fp id, ¬ c.S b
  lt : ∀ id, v id ≠ none → ∀ b ∈ fp id, b < w.heap.size

/-- What has become of the memory that was there at the start. -/
structure Ev (c : Ctx) (w : World) : Prop where
  size : c.w0.heap.size ≤ w.heap.size
  os : w.os = c.w0.os
  output : w.output = c.w0.output
  S : ∀ b, c.S b → w.heap[b]? = c.w0.heap[b]?
  old : ∀ b, b < c.w0.heap.size → w.heap[b]? = c.w0.heap[b]? ∨ ∃ C C' E, c.w0.heap[b]? = some (.cells C E (0, 0)) ∧ w.heap[b]? = some (.cells C' E (0, 0)) ∧ C'.size = C.size ∧ ∀ j, ¬ c.M b j → C'[j]? = C[j]?
  frozen : ∀ a, w.frozen? a = c.w0.frozen? a

/-- No number of a variable is met that has not been given. -/
structure Known (s : FSt) : Prop where
  t : ∀ j, ∀ id ∈ (s.t j).ids, s.k id
  v : ∀ id x, s.v id = some x → s.k id ∧ ∀ id' ∈ x.ids, s.k id'

structure RelX (c : Ctx) (μ : Nat → Loc) (fp : Nat → List Nat) (s : FSt) (n : Nat) (a : Act) (w : World) : Prop where
  tm : ∀ j, VRel c μ (a.tmps.getD j Go.undef) (s.t j)
  n : n ≤ a.tmps.size
  defers : a.defers = []
  vs : RelV c μ fp s.v w
  known : Known s
  ev : Ev c w
  fix : ∀ id, id < 64 → s.k id ∧ μ id = c.loc id

def Rel (c : Ctx) (s : FSt) (n : Nat) (a : Act) (w : World) : Prop := ∃ μ fp, RelX c μ fp s n a w

/-! ## How memory moves -/
theorem heap_setRow_ne {w : World} {g k : Nat} {cs : Array Value} (h : k ≠ g) : (w.setRow g cs).heap[k]? = w.heap[k]? := setRow_other w g k cs h

theorem frozen?_alloc (w : World) (C : Array Value) (E : TypeId) (a : Addr) : (w.alloc (.cells C E)).frozen? a = w.frozen? a := by
  rcases Nat.lt_trichotomy a.block w.heap.size with h | h | h
  · simp only [World.frozen?]
    rw [heap_alloc_old w _ a.block h]
  · simp only [World.frozen?]
    have e2 : w.heap[a.block]? = none := by rw [h]; simp
    have e1 : (w.alloc (.cells C E)).heap[a.block]? = some (.cells C E (0, 0)) := by rw [h]; exact heap_alloc_new w _
    rw [e1, e2]
    simp
  · simp only [World.frozen?]
    have e2 : w.heap[a.block]? = none := by simp; omega
    have e1 : (w.alloc (.cells C E)).heap[a.block]? = none := by simp; omega
    rw [e1, e2]
theorem frozen?_setRow {w : World} {b : Nat} {C C' : Array Value} {E : TypeId} (hb : w.heap[b]? = some (.cells C E (0, 0))) (a : Addr) : (w.setRow b C').frozen? a = w.frozen? a := by
  simp only [World.frozen?]
  by_cases h : a.block = b
  · rw [h, setRow_heap w b C C' E (0, 0) hb, hb]
  · rw [setRow_other w b a.block C' h]
theorem Ev.alloc {c : Ctx} {w : World} (h : Ev c w) (C : Array Value) (E : TypeId) : Ev c (w.alloc (.cells C E)) where
  size := by simp; have := h.size; omega
  os := h.os
  output := h.output
  S b hb := by
    have := c.hS b hb; have := h.size
    rw [heap_alloc_old w _ b (by omega)]; exact h.S b hb
  old b hb := by
    have := h.size
    rw [heap_alloc_old w _ b (by omega)]; exact h.old b hb
  frozen a := (frozen?_alloc w C E a).trans (h.frozen a)
theorem Ev.drew {c : Ctx} {w : World} (h : Ev c w) : Ev c w.drew := ⟨h.size, h.os, h.output, h.S, h.old, h.frozen⟩

theorem Ev.setRow {c : Ctx} {w : World} (h : Ev c w) {b : Nat} {C C' : Array Value} {E : TypeId} (hb : w.heap[b]? = some (.cells C E (0, 0))) (hs : ¬ c.S b)
    (hz : C'.size = C.size) (hm : b < c.w0.heap.size → ∀ j, ¬ c.M b j → C'[j]? = C[j]?) : Ev c (w.setRow b C') where
  size := by simp; exact h.size
  os := h.os
  output := h.output
  S b' hb' := by
    have : b' ≠ b := fun e => hs (e ▸ hb')
    rw [setRow_other w b b' C' this]; exact h.S b' hb'
  old b' hb' := by
    by_cases e : b' = b
    · subst e
      rw [setRow_heap w b' C C' E (0, 0) hb]
      rcases h.old b' hb' with h1 | ⟨C0, C1, E1, h0, h1, h2, h3⟩
      · exact .inr ⟨C, C', E, by rw [← h1, hb], rfl, hz, hm hb'⟩
      · rw [hb] at h1; cases h1
        exact .inr ⟨C0, C', E, h0, rfl, hz.trans h2, fun j hj => (hm hb' j hj).trans (h3 j hj)⟩
    · rw [setRow_other w b b' C' e]; exact h.old b' hb'
  frozen a := (frozen?_setRow hb a).trans (h.frozen a)

theorem cellsAt_of {w : World} {b : Nat} {C : Array Value} {E : TypeId} {fr : Nat × Nat} (h : w.heap[b]? = some (.cells C E fr)) (o n : Nat) : cellsAt w b o n = (C.toList.drop o).take n := by
  simp [cellsAt, h]

theorem Wand.frame {w w' : World} {a : Option Addr} {cap : Nat} {e : Ty} {xs : List e.D} {i off : Nat} {u : Ty} {h : Loc} {fp : List Nat}
    (hw : Wand w a cap e xs i off u h fp) (hs : ∀ b ∈ fp, w'.heap[b]? = w.heap[b]?) : Wand w' a cap e xs i off u h fp := by
  obtain ⟨a', len', cap', e', b, o, C, E, h1, h2, h3, h4, h5, h6, h7⟩ := hw
  exact ⟨a', len', cap', e', b, o, C, E, h1, h2, h3, h4, (hs b h4).trans h5, h6, fun w'' C' hd ys fp' q1 q2 q3 q4 q5 => h7 w'' C' hd ys fp' q1 q2 q3 q4 fun b' hb hne => (q5 b' hb hne).trans (hs b' hb)⟩

/-- A variable stays what it is where its blocks and its numbers do. -/
theorem VarRel.frame {c : Ctx} {μ μ' : Nat → Loc} {w w' : World} {id : Nat} {fp : List Nat} {x : DVar} (h : VarRel c μ w id fp x)
    (hs : ∀ b ∈ fp, w'.heap[b]? = w.heap[b]?) (hμ : μ' id = μ id) (hi : ∀ id' ∈ x.ids, μ' id' = μ id') : VarRel c μ' w' id fp x := by
  cases x with
  | var cs =>
    obtain ⟨B, o, C, E, h1, rfl, h2, h3, h4, h5, h6⟩ := h
    refine ⟨B, o, C, E, hμ.trans h1, rfl, (hs B (by simp)).trans h2, h3, ?_, h5, h6⟩
    rw [cellsAt_congr (hs B (by simp))]
    exact VsRel.mono cs hi h4
  | arr e xs =>
    obtain ⟨a, cap, h1, h2, h3⟩ := h
    exact ⟨a, cap, hμ.trans h1, Ty.repO_congr _ h2 hs, h3⟩
  | foc e xs x i off u id' =>
    obtain ⟨a, cap, h1, h2, h3, h4⟩ := h
    refine ⟨a, cap, hμ.trans h1, ?_, h3, h4⟩
    rw [hi id' (by simp [DVar.ids])]
    exact h2.frame hs

theorem RelV.frame {c : Ctx} {μ μ' : Nat → Loc} {fp : Nat → List Nat} {v : Env} {w w' : World} (h : RelV c μ fp v w) (hz : w.heap.size ≤ w'.heap.size)
    (hs : ∀ id, v id ≠ none → ∀ b ∈ fp id, w'.heap[b]? = w.heap[b]?) (hμ : ∀ id x, v id = some x → μ' id = μ id ∧ ∀ id' ∈ x.ids, μ' id' = μ id') : RelV c μ' fp v w' where
  rel id x hx := (h.rel id x hx).frame (hs id (by simp [hx])) (hμ id x hx).1 (hμ id x hx).2
  nodup := h.nodup
  sep := h.sep
  notS := h.notS
  lt id hx b hb := Nat.lt_of_lt_of_le (h.lt id hx b hb) hz
end Go.Proofs.Ytjcinikojcfebaa.Dm
