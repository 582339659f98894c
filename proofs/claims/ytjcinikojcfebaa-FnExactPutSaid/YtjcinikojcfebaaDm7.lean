/- The data machine, part 7: the table of types; how the variables change; operations that only look. -/
import Derived.Test.YtjcinikojcfebaaDm6
namespace Go.Proofs.Ytjcinikojcfebaa.Dm
open Go

/-! ## Types -/
mutual
def Ty.zeroV : Ty → List Value
  | .bool => [.bool false]
  | .int k => [.int k 0]
  | .str => [.string ⟨#[]⟩]
  | .sl _ => [.slice none 0 0]
  | .st fs => fs.zeroV
def Tys.zeroV : Tys → List Value
  | .nil => []
  | .cons t ts => t.zeroV ++ ts.zeroV
end
/-- What holds of every type of the table. -/
def BaseOk (P : Program) (t : Ty) (tid : TypeId) : Prop :=
  ∃ i z, P.info? tid = some i ∧ i.size = t.size ∧ i.bytes ≤ 1024 ∧ i.zero = some z ∧ z.cells.toList = t.zeroV ∧ 0 < t.size
mutual
def Ty.Ok (P : Program) : Ty → TypeId → Prop
  | .bool, tid => BaseOk P .bool tid ∧ P.underlying tid = some .bool
  | .int k, tid => BaseOk P (.int k) tid ∧ P.underlying tid = some (.int k)
  | .str, tid => BaseOk P .str tid ∧ P.underlying tid = some .string
  | .sl e, tid => BaseOk P (.sl e) tid ∧ ∃ eid, P.underlying tid = some (.slice eid) ∧ e.Ok P eid
  | .st fs, tid => BaseOk P (.st fs) tid ∧ ∃ fields, P.underlying tid = some (.struct fields) ∧ fs.OkF P fields.toList 0
def Tys.OkF (P : Program) : Tys → List Field → Nat → Prop
  | .nil, fs, _ => fs = []
  | .cons t ts, fs, off => ∃ f r, fs = f :: r ∧ f.offset = off ∧ t.Ok P f.type ∧ ts.OkF P r (off + t.size)
end
theorem Ty.Ok.base {P : Program} {t : Ty} {tid : TypeId} (h : t.Ok P tid) : BaseOk P t tid := by
  cases t <;> simp only [Ty.Ok] at h <;> exact h.1
section
variable {P : Program} {w : World}
theorem Ty.Ok.run_size {t : Ty} {tid : TypeId} (h : t.Ok P tid) : (sizeOf tid).run P w = .ok t.size w := by
  obtain ⟨i, z, h1, h2, _⟩ := h.base
  simp [sizeOf, typeInfo, h1, h2]
theorem Ty.Ok.run_isAgg {t : Ty} {tid : TypeId} (h : t.Ok P tid) : (isAgg tid).run P w = .ok t.isSt w := by
  cases t <;> simp only [Ty.Ok] at h
  · simp [isAgg, run_underlying h.2, Ty.isSt]
  · simp [isAgg, run_underlying h.2, Ty.isSt]
  · simp [isAgg, run_underlying h.2, Ty.isSt]
  · obtain ⟨_, e, h, _⟩ := h; simp [isAgg, run_underlying h, Ty.isSt]
  · obtain ⟨_, e, h, _⟩ := h; simp [isAgg, run_underlying h, Ty.isSt]
theorem Ty.Ok.run_zero {t : Ty} {tid : TypeId} (h : t.Ok P tid) : ∃ z, (zeroValue tid).run P w = .ok z w ∧ z.cells.toList = t.zeroV := by
  obtain ⟨i, z, h1, h2, _, h4, h5, _⟩ := h.base
  exact ⟨z, by simp [zeroValue, typeInfo, h1, h4], h5⟩
theorem Ty.Ok.pos {t : Ty} {tid : TypeId} (h : t.Ok P tid) : 0 < t.size := by
  obtain ⟨i, z, _, _, _, _, _, h⟩ := h.base; exact h
end
mutual
theorem Ty.zeroV_length : (t : Ty) → t.zeroV.length = t.size
  | .bool => rfl
  | .int _ => rfl
  | .str => rfl
  | .sl _ => rfl
  | .st fs => by simp only [Ty.zeroV, Ty.size]; exact Tys.zeroV_length fs
theorem Tys.zeroV_length : (t : Tys) → t.zeroV.length = t.size
  | .nil => rfl
  | .cons t ts => by simp [Tys.zeroV, Tys.size, Ty.zeroV_length t, Tys.zeroV_length ts]
end
mutual
theorem Ty.zero_repO (w : World) : (t : Ty) → t.repO w t.zeroV t.zero []
  | .bool => by simp [Ty.repO, Ty.zeroV, Ty.zero]
  | .int _ => by simp [Ty.repO, Ty.zeroV, Ty.zero]
  | .str => by simp [Ty.repO, Ty.zeroV, Ty.zero]
  | .sl e => repO_nil w e none
  | .st fs => by simp only [Ty.repO, Ty.zeroV]; exact Tys.zero_repO w fs
theorem Tys.zero_repO (w : World) : (t : Tys) → t.repO w t.zeroV t.zero []
  | .nil => by simp [Tys.repO, Tys.zeroV]
  | .cons t ts => by
    simp only [Tys.repO, Tys.zeroV]
    exact ⟨t.zeroV, ts.zeroV, [], [], rfl, rfl, Ty.zero_repO w t, Tys.zero_repO w ts⟩
end
/-- A field of a struct type. -/
theorem Tys.OkF.field {P : Program} : (ts : Tys) → {fs : List Field} → {o : Nat} → ts.OkF P fs o → {k : Nat} → {r : Nat × Ty} → ts.offset k = some r →
    ∃ f, fs[k]? = some f ∧ f.offset = o + r.1 ∧ r.2.Ok P f.type ∧ r.1 + r.2.size ≤ ts.size
  | .nil, _, _, _, k, r, hk => by simp [Tys.offset] at hk
  | .cons t ts, fs, o, h, k, r, hk => by
    simp only [Tys.OkF] at h
    obtain ⟨f, q, rfl, h1, h2, h3⟩ := h
    cases k with
    | zero =>
      simp only [Tys.offset, Option.some.injEq] at hk
      subst hk
      exact ⟨f, rfl, by simpa using h1, h2, by simp [Tys.size]⟩
    | succ k =>
      simp only [Tys.offset] at hk
      obtain ⟨r', hr', rfl⟩ := Option.map_eq_some_iff.1 hk
      obtain ⟨f', e1, e2, e3, e4⟩ := Tys.OkF.field ts h3 hr'
      exact ⟨f', by simpa using e1, by simp [e2]; omega, e3, by simp [Tys.size]; omega⟩
theorem Ty.Ok.field {P : Program} {t : Ty} {tid : TypeId} (h : t.Ok P tid) {k : Nat} {r : Nat × Ty} (hk : t.field k = some r) :
    ∃ fields f, P.underlying tid = some (.struct fields) ∧ fields[k]? = some f ∧ f.offset = r.1 ∧ r.2.Ok P f.type ∧ r.1 + r.2.size ≤ t.size := by
  cases t <;> simp [Ty.field] at hk
  rename_i fs
  simp only [Ty.Ok] at h
  obtain ⟨_, fields, hu, hf⟩ := h
  obtain ⟨f, e1, e2, e3, e4⟩ := Tys.OkF.field fs hf hk
  exact ⟨fields, f, hu, by simpa using e1, by simpa using e2, e3, by simpa [Ty.size] using e4⟩

/-! ## Variables, changed -/
def updF (v : Env) : Upd → Env
  | [] => v
  | (id, x) :: r => updF (fun k => if k = id then x else v k) r
theorem updF_append (v : Env) (a b : Upd) : updF v (a ++ b) = updF (updF v a) b := by
  induction a generalizing v with
  | nil => rfl
  | cons x a ih => obtain ⟨id, y⟩ := x; simp only [List.cons_append, updF]; exact ih _
theorem updF_none (v : Env) (l : List Nat) (k : Nat) : updF v (l.map fun id => (id, none)) k = if k ∈ l then none else v k := by
  induction l generalizing v with
  | nil => simp [updF]
  | cons x l ih =>
    simp only [List.map_cons, updF, ih, List.mem_cons]
    by_cases h1 : k ∈ l
    · simp [h1]
    · by_cases h2 : k = x <;> simp [h1, h2]
theorem updF_produce (v : Env) (l : List Nat) (id : Nat) (x : DVar) (k : Nat) : updF v ((l.map fun i => (i, none)) ++ [(id, some x)]) k = if k = id then some x else if k ∈ l then none else v k := by
  rw [updF_append]
  simp only [updF, updF_none]
theorem lookV_set (v : List (Nat × DVar)) (id : Nat) (x : DVar) (k : Nat) : lookV (setV v id x) k = if k = id then some x else lookV v k := by
  induction v with
  | nil => simp only [setV, lookV]; by_cases h : id = k
           · simp [h]
           · simp [h, show ¬ k = id from fun e => h e.symm]
  | cons a v ih =>
    obtain ⟨j, y⟩ := a
    simp only [setV]
    split
    · rename_i h; subst h
      simp only [lookV]
      by_cases h : j = k
      · simp [h]
      · simp [h, show ¬ k = j from fun e => h e.symm]
    · rename_i h
      simp only [lookV]
      by_cases h' : j = k
      · subst h'; simp [h]
      · simp [h', ih]
theorem lookV_erase (v : List (Nat × DVar)) (id : Nat) (k : Nat) : lookV (eraseV v id) k = if k = id then none else lookV v k := by
  induction v with
  | nil => simp [eraseV, lookV]
  | cons a v ih =>
    obtain ⟨j, y⟩ := a
    simp only [eraseV]
    split
    · rename_i h; subst h
      rw [ih]
      simp only [lookV]
      by_cases h : k = j
      · simp [h]
      · simp [h, show ¬ j = k from fun e => h e.symm]
    · rename_i h
      simp only [lookV, ih]
      by_cases h' : j = k
      · subst h'; simp [h]
      · simp [h']
theorem lookV_upd (u : Upd) : ∀ (v : List (Nat × DVar)), lookV (updV v u) = updF (lookV v) u := by
  induction u with
  | nil => intro v; rfl
  | cons a u ih =>
    intro v
    obtain ⟨id, x⟩ := a
    cases x with
    | none => simp only [updV, updF, ih]; congr 1; funext k; exact lookV_erase v id k
    | some x => simp only [updV, updF, ih]; congr 1; funext k; exact lookV_set v id x k

/-- Some variables go, one comes (or is changed): of blocks that no other one has. -/
theorem RelV.produce' {c : Ctx} {μ μ' : Nat → Loc} {fp : Nat → List Nat} {v : Env} {w w' : World} (h : RelV c μ fp v w) (rem : List Nat) (id0 : Nat) (x0 : DVar) (f0 : List Nat)
    (hμ : ∀ id x, v id = some x → id ≠ id0 → id ∉ rem → μ' id = μ id ∧ ∀ id' ∈ x.ids, μ' id' = μ id')
    (hheap : ∀ id, v id ≠ none → id ≠ id0 → id ∉ rem → ∀ b ∈ fp id, w'.heap[b]? = w.heap[b]?) (hsize : w.heap.size ≤ w'.heap.size)
    (hrel : VarRel c μ' w' id0 f0 x0) (hnd : f0.Nodup)
    (hf : ∀ b ∈ f0, ¬ c.S b ∧ b < w'.heap.size ∧ ∀ id, v id ≠ none → id ≠ id0 → id ∉ rem → b ∉ fp id) :
    RelV c μ' (fun k => if k = id0 then f0 else fp k) (updF v ((rem.map fun i => (i, none)) ++ [(id0, some x0)])) w' := by
  have hold : ∀ {k : Nat}, k ≠ id0 → updF v ((rem.map fun i => (i, none)) ++ [(id0, some x0)]) k ≠ none → k ∉ rem ∧ v k ≠ none := by
    intro k hk hn
    rw [updF_produce, if_neg hk] at hn
    split at hn
    · exact absurd rfl hn
    · exact ⟨‹_›, hn⟩
  have hfar : ∀ {k : Nat}, k ≠ id0 → updF v ((rem.map fun i => (i, none)) ++ [(id0, some x0)]) k ≠ none → ∀ b ∈ fp k, b ∉ f0 := by
    intro k hk hn b hb hb0
    obtain ⟨hr, hv⟩ := hold hk hn
    exact (hf b hb0).2.2 k hv hk hr hb
  constructor
  · intro k x hx
    by_cases hk : k = id0
    · subst hk
      rw [updF_produce, if_pos rfl] at hx
      cases hx
      simp only [if_true]
      exact hrel
    · obtain ⟨hr, hv⟩ := hold hk (by rw [hx]; simp)
      rw [updF_produce, if_neg hk, if_neg hr] at hx
      simp only [if_neg hk]
      exact (h.rel k x hx).frame (hheap k hv hk hr) (hμ k x hx hk hr).1 (hμ k x hx hk hr).2
  · intro k x hx
    by_cases hk : k = id0
    · simp only [if_pos hk]; exact hnd
    · obtain ⟨hr, hv⟩ := hold hk (by rw [hx]; simp)
      rw [updF_produce, if_neg hk, if_neg hr] at hx
      simp only [if_neg hk]; exact h.nodup k x hx
  · intro k k' hne hv hv' b hb
    by_cases hk : k = id0
    · have hk' : k' ≠ id0 := fun e => hne (hk.trans e.symm)
      simp only [if_pos hk] at hb
      simp only [if_neg hk']
      intro hb'
      exact hfar hk' hv' b hb' hb
    · simp only [if_neg hk] at hb
      by_cases hk' : k' = id0
      · simp only [if_pos hk']; exact hfar hk hv b hb
      · simp only [if_neg hk']
        exact h.sep k k' hne (hold hk hv).2 (hold hk' hv').2 b hb
  · intro k hv b hb
    by_cases hk : k = id0
    · simp only [if_pos hk] at hb
      exact (hf b hb).1
    · simp only [if_neg hk] at hb
      exact h.notS k (hold hk hv).2 b hb
  · intro k hv b hb
    by_cases hk : k = id0
    · simp only [if_pos hk] at hb
      exact (hf b hb).2.1
    · simp only [if_neg hk] at hb
      exact Nat.lt_of_lt_of_le (h.lt k (hold hk hv).2 b hb) hsize
/-- The same: of the blocks of those that go, and of new ones. -/
theorem RelV.produce {c : Ctx} {μ μ' : Nat → Loc} {fp : Nat → List Nat} {v : Env} {w w' : World} (h : RelV c μ fp v w) (ev : Ev c w) (rem : List Nat) (id0 : Nat) (x0 : DVar) (f0 : List Nat)
    (hμ : ∀ id x, v id = some x → id ≠ id0 → id ∉ rem → μ' id = μ id ∧ ∀ id' ∈ x.ids, μ' id' = μ id')
    (hheap : ∀ id, v id ≠ none → id ≠ id0 → id ∉ rem → ∀ b ∈ fp id, w'.heap[b]? = w.heap[b]?) (hsize : w.heap.size ≤ w'.heap.size)
    (hrel : VarRel c μ' w' id0 f0 x0) (hnd : f0.Nodup)
    (hf : ∀ b ∈ f0, (w.heap.size ≤ b ∧ b < w'.heap.size) ∨ ∃ id, (id = id0 ∨ id ∈ rem) ∧ v id ≠ none ∧ b ∈ fp id) :
    RelV c μ' (fun k => if k = id0 then f0 else fp k) (updF v ((rem.map fun i => (i, none)) ++ [(id0, some x0)])) w' := by
  refine h.produce' rem id0 x0 f0 hμ hheap hsize hrel hnd fun b hb => ?_
  rcases hf b hb with ⟨h1, h2⟩ | ⟨id, h1, h2, h3⟩
  · exact ⟨fun hs => by have := c.hS b hs; have := ev.size; omega, h2, fun id hv _ _ hb' => by have := h.lt id hv b hb'; omega⟩
  · refine ⟨h.notS id h2 b h3, Nat.lt_of_lt_of_le (h.lt id h2 b h3) hsize, fun k hv hk hr hb' => h.sep k id ?_ hv h2 b hb' h3⟩
    rintro rfl
    rcases h1 with h1 | h1
    · exact hk h1
    · exact hr h1

/-! ## Operands -/
theorem ofValue_rel (c : Ctx) (μ : Nat → Loc) (v : Value) : VRel c μ v (ofValue v) := by
  unfold ofValue
  split
  · simp [VRel]
  · simp [VRel]
  · split
    · rename_i s h
      simp only [VRel]
      exact ⟨trivial, h⟩
    · simp [VRel]
  · simp [VRel]
  · simp [VRel]

theorem ev_rel {c : Ctx} {μ : Nat → Loc} {t : Nat → DVal} {a : Act} (h : ∀ j, VRel c μ (a.tmps.getD j Go.undef) (t j)) (x : Operand) : VRel c μ (a.eval x) (evF t x) := by
  cases x with
  | tmp j => exact h j
  | const v => exact ofValue_rel c μ v
  | func f => simp [evF, Act.eval, VRel, VsRel]
  | global g => simp [evF, VRel]

/-- What a step has come to: the value, the variables, the memory. -/
structure Post (c : Ctx) (μ : Nat → Loc) (s : FSt) (r : Res) (v' : Value) (w' : World) (μ' : Nat → Loc) (fp' : Nat → List Nat) : Prop where
  agree : ∀ id, s.k id → μ' id = μ id
  val : VRel c μ' v' r.1
  vs : RelV c μ' fp' (updF s.v r.2) w'
  ev : Ev c w'

/-- An operation does what the machine says. -/
def Sim (c : Ctx) (μ : Nat → Loc) (s : FSt) (o : Oper) (a : Act) (w : World) (r : Res) : Prop :=
  ∀ (K : Act → World → Prop) (Q : Exit → Act → World → Prop), (∀ v' w' μ' fp', Post c μ s r v' w' μ' fp' → K (a.put o.dst v') w') → o.wp c.P a w K Q

theorem sim_value {c : Ctx} {μ μ' : Nat → Loc} {fp' : Nat → List Nat} {s : FSt} {o : Oper} {a : Act} {w w' : World} {r : Res} {v' : Value}
    (hr : (execOp a.eval o).run c.P w = .ok (.value v') w') (hp : Post c μ s r v' w' μ' fp') : Sim c μ s o a w r := by
  intro K Q h
  simp only [Oper.wp, hr, Oper.upon_value]
  exact h _ _ _ _ hp
theorem sim_skip {c : Ctx} {μ μ' : Nat → Loc} {fp' : Nat → List Nat} {s : FSt} {o : Oper} {a : Act} {w w' : World} {r : Res}
    (hr : (execOp a.eval o).run c.P w = .ok .skip w') (hp : Post c μ s r Go.undef w' μ' fp') : Sim c μ s o a w r := by
  intro K Q h
  simp only [Oper.wp, hr, Oper.upon_skip]
  exact h _ _ _ _ hp
/-- Nothing but a value. -/
theorem sim_pure {c : Ctx} {μ : Nat → Loc} {fp : Nat → List Nat} {s : FSt} {n : Nat} {o : Oper} {a : Act} {w : World} {d : DVal} {v' : Value} (h : RelX c μ fp s n a w)
    (hr : (execOp a.eval o).run c.P w = .ok (.value v') w) (hv : VRel c μ v' d) : Sim c μ s o a w (d, []) :=
  sim_value hr ⟨fun _ _ => rfl, hv, h.vs, h.ev⟩
end Go.Proofs.Ytjcinikojcfebaa.Dm
