/- The data machine, part 13: memory: new variables, loads. -/
import Derived.Test.YtjcinikojcfebaaDm12
import Derived.Laws.CopyRow
namespace Go.Proofs.Ytjcinikojcfebaa.Dm
open Go

mutual
theorem Ty.thaw_isCell : (t : Ty) → (x : t.D) → (n : Nat) → (t.thaw x n).1.all DVal.isCell = true
  | .bool, _, _ => rfl
  | .int _, _, _ => rfl
  | .str, _, _ => rfl
  | .sl _, _, _ => rfl
  | .st fs, x, n => Tys.thaw_isCell fs x n
theorem Tys.thaw_isCell : (t : Tys) → (x : t.D) → (n : Nat) → (t.thaw x n).1.all DVal.isCell = true
  | .nil, _, _ => rfl
  | .cons t ts, x, n => by
    show ((t.thaw x.1 n).1 ++ (ts.thaw x.2 (t.thaw x.1 n).2.2).1).all DVal.isCell = true
    rw [List.all_append, Ty.thaw_isCell t x.1 n, Tys.thaw_isCell ts x.2 _]; rfl
end
mutual
theorem Ty.thaw_len : (t : Ty) → (x : t.D) → (n : Nat) → (t.thaw x n).1.length = t.size
  | .bool, _, _ => rfl
  | .int _, _, _ => rfl
  | .str, _, _ => rfl
  | .sl _, _, _ => rfl
  | .st fs, x, n => Tys.thaw_len fs x n
theorem Tys.thaw_len : (t : Tys) → (x : t.D) → (n : Nat) → (t.thaw x n).1.length = t.size
  | .nil, _, _ => rfl
  | .cons t ts, x, n => by
    show ((t.thaw x.1 n).1 ++ (ts.thaw x.2 (t.thaw x.1 n).2.2).1).length = t.size + ts.size
    rw [List.length_append, Ty.thaw_len t x.1 n, Tys.thaw_len ts x.2 _]
end

section
variable {c : Ctx} {μ : Nat → Loc} {fp : Nat → List Nat} {s : FSt} {n : Nat} {o : Oper} {a : Act} {w : World} {r : Res} {C : Cx} {E : Env}

theorem cellsAt_alloc {w : World} {C : Array Value} {E : TypeId} {k : Nat} (h : C.size = k) : cellsAt (w.alloc (.cells C E)) w.heap.size 0 k = C.toList := by
  rw [cellsAt_of (heap_alloc_new w _)]
  simp [List.take_of_length_le, h]

/-- A new variable in memory. -/
theorem new_var {K : Nat → Prop} {μ : Nat → Loc} {fp : Nat → List Nat} {v : Env} {w : World} (hv : RelV c μ fp v w) (ev : Ev c w) (hK : ∀ id x, v id = some x → K id ∧ ∀ id' ∈ x.ids, K id')
    {fr : Nat} (hfr : ¬ K fr) {cs : List DVal} {C : Array Value} {T : TypeId} (hr : VsRel c μ C.toList cs) (hc : cs.all DVal.isCell = true) (hids : ∀ id ∈ DVal.idsL cs, id ≠ fr) :
    (∀ id, K id → (fun id => if id = fr then Loc.at w.heap.size 0 else μ id) id = μ id) ∧
    RelV c (fun id => if id = fr then .at w.heap.size 0 else μ id) (fun k => if k = fr then [w.heap.size] else fp k) (updF v [(fr, some (.var cs))]) (w.alloc (.cells C T)) ∧ Ev c (w.alloc (.cells C T)) := by
  have ha : ∀ id, K id → (fun id => if id = fr then Loc.at w.heap.size 0 else μ id) id = μ id := fun id hi => if_neg fun (e : id = fr) => hfr (e ▸ hi)
  refine ⟨ha, ?_, ev.alloc _ _⟩
  have hl := hr.length
  refine hv.produce ev [] fr (.var cs) [w.heap.size] (fun id x hx _ _ => ⟨ha id (hK id x hx).1, fun i hi => ha i ((hK id x hx).2 i hi)⟩)
    (fun id hn _ _ b hb => heap_alloc_old w _ b (hv.lt id hn b hb)) (by simp) ?_ (by simp) (by simp)
  refine ⟨w.heap.size, 0, C, T, by simp, rfl, heap_alloc_new w _, by simp [← hl], ?_, hc, fun hlt => ?_⟩
  · rw [cellsAt_alloc (by simp [← hl])]
    exact VsRel.mono cs (fun id hi => if_neg (hids id hi)) hr
  · have := ev.size; omega

variable (h : RelX c μ fp s n a w)
include h

/-- The numbers that an operation may give. -/
theorem sim_alloc (hC : CxOk C c.P) {t : TypeId} (ho : o.op = .alloc t) {fr : Nat}
    (hfr : ∀ id, fr ≤ id → id < fr + 64 → ¬ s.k id)
    (hr : (Out.of (C.ty t) fun t => if (t.thaw t.zero (fr + 1)).2.2 ≤ fr + 64 then
      .ret (.vptr fr 0, news (t.thaw t.zero (fr + 1)).2.1 ++ [(fr, some (.var (t.thaw t.zero (fr + 1)).1))]) else .fail).eval = some r) : Sim c μ s o a w r := by
  replace hr := of_eval hr
  obtain ⟨ty, hty, hr⟩ := hr
  have hok := hC.ty t ty hty
  split at hr
  case isFalse => cases hr
  rename_i h64
  obtain ⟨z, hz, hzc⟩ := hok.run_zero (w := w)
  have hle := Ty.thaw_le ty ty.zero (fr + 1)
  obtain ⟨μ1, fp1, r1, ch⟩ := h.thaw_zero ty (k := fr + 1) (fun id h1 h2 => hfr id (by omega) (by omega))
  have hk : ¬ (s.k fr ∨ (fr + 1 ≤ fr ∧ fr < (ty.thaw ty.zero (fr + 1)).2.2)) := by
    rintro (hk | hk)
    · exact hfr fr (Nat.le_refl _) (by omega) hk
    · omega
  obtain ⟨q1, q2, q3⟩ := new_var (T := t) ch.rel h.ev ch.known hk (by rw [hzc]; exact r1) (Ty.thaw_isCell ty _ _) (fun id hi => by have := Ty.thaw_ids ty ty.zero (fr + 1) id hi; omega)
  have hr := Option.some.inj hr
  subst hr
  refine sim_value (v' := .pointer (some ⟨w.heap.size, 0, none⟩)) (fp' := fun k => if k = fr then [w.heap.size] else fp1 k) (by simp [execOp, ho, Instr.alloc, hz, newVar, newRow]) ⟨fun id hi => (q1 id (.inl hi)).trans (ch.agree id hi), ?_, ?_, q3⟩
  · simp only [VRel]; exact ⟨w.heap.size, 0, by simp, rfl⟩
  · rw [updF_append]; exact q2

theorem sim_box {t : TypeId} {x : Operand} (ho : o.op = .box t x) {fr : Nat} (hfr : ¬ s.k fr)
    (hr : (Out.of (C.ty t) fun t => if (evF s.t x).cells.length = t.size ∧ (evF s.t x).cells.all DVal.isCell = true then .ret (.vptr fr 0, [(fr, some (.var (evF s.t x).cells))]) else .fail).eval = some r) : Sim c μ s o a w r := by
  have hx := h.ev_rel x
  obtain ⟨ty, hty, hr⟩ := of_eval hr
  split at hr
  · rename_i hc
    have hr := Option.some.inj hr
    subst hr
    have hx' := hx.cells hc.2
    obtain ⟨q1, q2, q3⟩ := new_var (T := t) h.vs h.ev h.known.v hfr hx' hc.2 (fun id hi e => by
      subst e
      refine hfr ?_
      cases x with
      | tmp j =>
        refine h.known.t j id ?_
        cases hd : s.t j <;> simp only [evF, hd, DVal.cells] at hi <;> first | (simpa [DVal.idsL] using hi) | (simpa [DVal.ids] using hi)
      | const v => simp only [evF, ofValue] at hi; split at hi <;> (try split at hi) <;> simp [DVal.cells, DVal.idsL, DVal.ids] at hi
      | func f => simp [evF, DVal.cells, DVal.idsL, DVal.ids] at hi
      | global g => simp [evF, DVal.cells, DVal.idsL, DVal.ids] at hi)
    refine sim_value (v' := .pointer (some ⟨w.heap.size, 0, none⟩)) (by simp [execOp, ho, Instr.box, newVar, newRow]) ⟨q1, ?_, q2, q3⟩
    simp only [VRel]; exact ⟨w.heap.size, 0, by simp, rfl⟩
  · cases hr

theorem sim_makeSlice (hC : CxOk C c.P) {t : TypeId} {x y : Operand} (ho : o.op = .makeSlice t x y) {fr : Nat} (hfr : ¬ s.k fr)
    (hr : (Out.of (C.ty t) fun t => .of (isSl t) fun e => .of (getI (evF s.t x)) fun n => .of (getI (evF s.t y)) fun m =>
      .ite (decide (0 ≤ n ∧ n ≤ m ∧ m ≤ (LIM : Int))) (.ret (.sref fr none, [(fr, some (.arr e (List.replicate n.toNat e.zero)))])) .fail).eval = some r) : Sim c μ s o a w r := by
  have hx := h.ev_rel x
  have hy := h.ev_rel y
  obtain ⟨ty, hty, hr⟩ := of_eval hr
  obtain ⟨e, he, hr⟩ := of_eval hr
  obtain ⟨l, hl, hr⟩ := of_eval hr
  obtain ⟨m, hm, hr⟩ := of_eval hr
  have hty : C.ty t = some (.sl e) := isSl_eq he ▸ hty
  obtain ⟨eid, hu, hok⟩ := (hC.ty t _ hty).sl
  obtain ⟨kl, el⟩ := getI_eq hl
  obtain ⟨km, em⟩ := getI_eq hm
  rw [el] at hx; rw [em] at hy
  simp only [VRel] at hx hy
  rcases ite_eval hr with ⟨h0, hr⟩ | ⟨_, hr⟩
  · have h0 : 0 ≤ l ∧ l ≤ m ∧ m ≤ (LIM : Int) := of_decide_eq_true h0
    have hr := Option.some.inj hr
    subst hr
    obtain ⟨i, z, hi, hs, hb, hz, hzc, hpos⟩ := hok.base
    have hbytes : (i.bytes : Int) * m ≤ 281474976710656 := by
      have h1 : (i.bytes : Int) * m ≤ 1024 * m := Int.mul_le_mul_of_nonneg_right (by omega) (by omega)
      unfold LIM at h0; omega
    have hrun := run_make (P := c.P) w t eid i z hu hi hz kl km l m h0.1 h0.2.1 hbytes (by unfold LIM at h0; omega)
    have hrel : VarRel c (fun id => if id = fr then .hdr (some ⟨w.heap.size, 0, none⟩) (List.replicate l.toNat e.zero).length m.toNat e.size else μ id) (w.alloc (.cells (madeCells z.cells (m.toNat * i.size)) eid)) fr [w.heap.size] (.arr e (List.replicate l.toNat e.zero)) := by
      refine ⟨some ⟨w.heap.size, 0, none⟩, m.toNat, by simp, ?_, fun b hb' hlt => ?_⟩
      · simp only [Ty.repO]
        refine ⟨_, m.toNat, rfl, by rw [List.length_replicate]; unfold LIM at h0; unfold BIG; omega, .inr ⟨w.heap.size, 0, _, eid, List.replicate l.toNat [], rfl, heap_alloc_new w _, ?_, by simp, by simp, ?_⟩⟩
        · rw [size_madeCells, hs]; omega
        · intro j y f hy' hf
          have hj : j < l.toNat := by have := (List.getElem?_eq_some_iff.1 hf).1; simpa using this
          have hy2 : (List.replicate l.toNat e.zero)[j]? = some y := hy'
          have hf2 : (List.replicate l.toNat ([] : List Nat))[j]? = some f := hf
          rw [List.getElem?_replicate, if_pos hj] at hy2 hf2
          cases hy2; cases hf2
          have : cellsAt (w.alloc (.cells (madeCells z.cells (m.toNat * i.size)) eid)) w.heap.size (0 + j * e.size) e.size = e.zeroV := by
            rw [cellsAt_of (heap_alloc_new w _)]
            have hzl : e.zeroV.length = e.size := Ty.zeroV_length e
            have hzs : z.cells.size = e.size := by rw [← hzl, ← hzc]; simp
            apply List.ext_getElem?
            intro k
            by_cases hk : k < e.size
            · rw [List.getElem?_take_of_lt hk, List.getElem?_drop, Array.getElem?_toList]
              have hjk : 0 + j * e.size + k < m.toNat * i.size := by
                rw [hs]
                have : (j + 1) * e.size ≤ m.toNat * e.size := Nat.mul_le_mul_right _ (by omega)
                rw [Nat.add_mul] at this; omega
              have hmod : (0 + j * e.size + k) % z.cells.size = k := by
                rw [hzs, Nat.zero_add, Nat.add_comm, Nat.add_mul_mod_self_right, Nat.mod_eq_of_lt hk]
              rw [← hzc, Array.getElem?_toList]
              simp only [madeCells]
              rw [Array.getElem?_map, Array.getElem?_range, if_pos hjk, Option.map_some, hmod]
              have : k < z.cells.size := by omega
              simp [this]
            · rw [List.getElem?_eq_none (by simp; omega), List.getElem?_eq_none (by omega)]
          rw [this]
          exact Ty.zero_repO _ e
      · simp at hb'; subst hb'; have := h.ev.size; omega
    obtain ⟨q1, q2⟩ := h.new hfr [] _ _ _ (fun id hn _ b hb' => heap_alloc_old w _ b (h.vs.lt id hn b hb')) (by simp) hrel (by simp) (by simp)
    refine sim_value (v' := .slice (some ⟨w.heap.size, 0, none⟩) l.toNat m.toNat) (by simp [execOp, ho, hx, hy, hrun]) ⟨q1, ?_, q2, h.ev.alloc _ _⟩
    simp only [VRel]
    exact ⟨some ⟨w.heap.size, 0, none⟩, (List.replicate l.toNat e.zero).length, m.toNat, e.size, by simp, by rw [List.length_replicate]⟩
  · cases hr
end
end Go.Proofs.Ytjcinikojcfebaa.Dm
