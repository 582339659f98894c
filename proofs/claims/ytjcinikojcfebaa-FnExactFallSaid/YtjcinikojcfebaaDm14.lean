/- The data machine, part 14: memory: loads and stores. -/
import Derived.Test.YtjcinikojcfebaaDm13
namespace Go.Proofs.Ytjcinikojcfebaa.Dm
open Go

section
variable {c : Ctx} {μ : Nat → Loc} {fp : Nat → List Nat} {s : FSt} {n : Nat} {o : Oper} {a : Act} {w : World} {r : Res} {C : Cx} {E : Env}

theorem updF_two (v : Env) (l : Upd) (x y : Nat × Option DVar) : updF (updF v (l ++ [x])) ((([] : List Nat).map fun i => (i, none)) ++ [y]) = updF v (l ++ [x, y]) := by
  rw [← updF_append]; simp

/-- What a load gives, out of the cells. -/
def outV (t : Ty) (cs : List Value) : Value := if t.isSt = true then .agg cs.toArray else cs.headD Go.undef

theorem cellsAt_sub {w : World} {B o k m n : Nat} (h : k + m ≤ n) : cellsAt w B (o + k) m = ((cellsAt w B o n).drop k).take m := by
  unfold cellsAt
  split
  · rename_i C _ _ _
    rw [List.drop_take, List.drop_drop, List.take_take, Nat.min_eq_left (by omega)]
  · simp

theorem cell_of_cellsAt {w : World} {B o n j : Nat} {v : Value} (h : (cellsAt w B o n)[j]? = some v) : w.cell? ⟨B, o + j, none⟩ = some v := by
  unfold cellsAt at h
  split at h
  · rename_i C T fr hb
    have hj : j < n := by
      rcases Nat.lt_or_ge j n with h' | h'
      · exact h'
      · rw [List.getElem?_eq_none (by simp; omega)] at h; cases h
    rw [List.getElem?_take_of_lt hj, List.getElem?_drop, Array.getElem?_toList] at h
    simp [World.cell?, hb, h]
  · simp at h

theorem loadVar_run {P : Program} {t : Ty} {tid : TypeId} (hok : t.Ok P tid) {B o' : Nat} {cs : List Value} (hcs : cellsAt w B o' t.size = cs) (hl : cs.length = t.size) :
    (loadVar tid ⟨B, o', none⟩).run P w = .ok (outV t cs) w := by
  have hcell : ∀ j v, cs[j]? = some v → w.cell? ((⟨B, o', none⟩ : Addr).add j) = some v := by
    intro j v hv
    have : (⟨B, o', none⟩ : Addr).add j = ⟨B, o' + j, none⟩ := by unfold Addr.add; split <;> simp_all
    rw [this]
    exact cell_of_cellsAt (n := t.size) (by rw [hcs]; exact hv)
  cases hst : t.isSt with
  | true =>
    have := run_loadCells_list (P := P) w ⟨B, o', none⟩ cs hcell
    rw [hl] at this
    simp [loadVar, hok.run_isAgg, hst, hok.run_size, this, outV]
  | false =>
    have h1 : t.size = 1 := by cases t <;> simp_all [Ty.size, Ty.isSt]
    rw [h1] at hl
    obtain ⟨v, rfl⟩ := List.length_eq_one_iff.1 hl
    have := hcell 0 v rfl
    have h0 : (⟨B, o', none⟩ : Addr).add 0 = ⟨B, o', none⟩ := by simp [Addr.add]
    rw [h0] at this
    simp [loadVar, hok.run_isAgg, hst, outV, run_load, this]

theorem mkVal_rel {t : Ty} {cs : List Value} {ds : List DVal} (h : VsRel c μ cs ds) (hl : ds.length = t.size) : VRel c μ (outV t cs) (mkVal t ds) := by
  cases hst : t.isSt with
  | true =>
    simp only [mkVal, hst, outV, if_true, VRel]
    exact ⟨_, rfl, by simpa using h⟩
  | false =>
    have h1 : t.size = 1 := by cases t <;> simp_all [Ty.size, Ty.isSt]
    rw [h1] at hl
    obtain ⟨d, rfl⟩ := List.length_eq_one_iff.1 hl
    simp only [VsRel] at h
    obtain ⟨v, vs', rfl, h, rfl⟩ := h
    rw [mkVal_one hst]
    simpa [outV, hst] using h

mutual
theorem Ty.flatR_len : (t : Ty) → (x : t.D) → (t.flatR x).length = t.size
  | .bool, _ => rfl
  | .int _, _ => rfl
  | .str, _ => rfl
  | .sl _, _ => rfl
  | .st fs, x => Tys.flatR_len fs x
theorem Tys.flatR_len : (t : Tys) → (x : t.D) → (t.flatR x).length = t.size
  | .nil, _ => rfl
  | .cons t ts, x => by
    show (t.flatR x.1 ++ ts.flatR x.2).length = t.size + ts.size
    rw [List.length_append, Ty.flatR_len t, Tys.flatR_len ts]
end
mutual
theorem Ty.flatO_len : (t : Ty) → (x : t.D) → (t.flatO x).length = t.size
  | .bool, _ => rfl
  | .int _, _ => rfl
  | .str, _ => rfl
  | .sl _, _ => rfl
  | .st fs, x => Tys.flatO_len fs x
theorem Tys.flatO_len : (t : Tys) → (x : t.D) → (t.flatO x).length = t.size
  | .nil, _ => rfl
  | .cons t ts, x => by
    show (t.flatO x.1 ++ ts.flatO x.2).length = t.size + ts.size
    rw [List.length_append, Ty.flatO_len t, Tys.flatO_len ts]
end

theorem perm_mid (b : Nat) (p f1 fm f2 q : List Nat) : (b :: (p ++ (f1 ++ fm ++ f2) ++ q)).Perm ((b :: (p ++ f1 ++ f2 ++ q)) ++ fm) := by
  refine List.Perm.cons b ?_
  have h1 : p ++ (f1 ++ fm ++ f2) ++ q = (p ++ f1) ++ (fm ++ (f2 ++ q)) := by simp [List.append_assoc]
  have h2 : (p ++ f1 ++ f2 ++ q).append fm = (p ++ f1) ++ ((f2 ++ q) ++ fm) := by show (p ++ f1 ++ f2 ++ q) ++ fm = _; simp [List.append_assoc]
  rw [h1, h2]
  exact (List.perm_append_comm).append_left _

/-- A part of a row of cells. -/
theorem mid_cells {w : World} {B o n : Nat} {pre mid post : List Value} (h : cellsAt w B o n = pre ++ mid ++ post) : cellsAt w B (o + pre.length) mid.length = mid := by
  have hl : (cellsAt w B o n).length ≤ n := by
    unfold cellsAt; split
    · simp only [List.length_take]; omega
    · simp
  rw [h] at hl
  simp only [List.length_append] at hl
  rw [cellsAt_sub (n := n) (by omega), h]
  simp

variable (h : RelX c μ fp s n a w)
include h

theorem sim_load (hC : CxOk C c.P) (hE : ∀ id x, E id = some x → s.v id = some x) {t : TypeId} {x : Operand} (ho : o.op = .load t x) {fr : Nat} (hfr : ¬ s.k fr)
    (hr : (Out.of (C.ty t) fun t => loadD E t (evF s.t x) fr).eval = some r) : Sim c μ s o a w r := by
  have hx := h.ev_rel x
  replace hr := of_eval hr
  obtain ⟨ty, hty, hr⟩ := hr
  have hok := hC.ty t ty hty
  have run : ∀ (B o' : Nat) (cs : List Value), a.eval x = .pointer (some ⟨B, o', none⟩) → cellsAt w B o' ty.size = cs → cs.length = ty.size → (execOp a.eval o).run c.P w = .ok (.value (outV ty cs)) w := by
    intro B o' cs hv hcs hl
    simp [execOp, ho, hv, Instr.loadAt, Instr.sureAddr, loadVar_run hok hcs hl]
  unfold loadD at hr
  split at hr
  · rename_i id off e
    rw [e] at hx
    simp only [VRel] at hx
    obtain ⟨B, o', hm, hv⟩ := hx
    split at hr
    · rename_i cs hid
      split at hr
      · rename_i hle
        rw [ret1_eval hr]
        obtain ⟨B2, o2, D, T, q1, q2, q3, q4, q5, q6, _⟩ := h.vs.rel id _ (hE _ _ hid)
        rw [hm] at q1; cases q1
        have hl := q5.length
        have hsub : cellsAt w B (o' + off) ty.size = ((cellsAt w B o' cs.length).drop off).take ty.size := cellsAt_sub hle
        refine sim_pure h (run B (o' + off) _ hv hsub (by simp [hl]; omega)) ?_
        exact mkVal_rel ((q5.drop off).take ty.size) (by simp; omega)
      · cases hr
    · cases hr
  · rename_i t' x' off e
    rw [e] at hx
    simp only [VRel] at hx
    obtain ⟨b, o', hb, hrep, hv⟩ := hx
    replace hr := of_eval hr
    obtain ⟨y, hy, hr⟩ := hr
    rw [ret1_eval hr]
    obtain ⟨pre, mid, post, e1, e2, hm⟩ := Ty.repS_get t' hrep hy
    have hl := Ty.repS_size ty hm
    have hcs := mid_cells e1
    rw [hl, e2] at hcs
    refine sim_pure h (run b (o' + off) mid hv (by rw [cellsAt_congr (h.ev.S b hb)]; exact hcs) hl) ?_
    exact mkVal_rel (Ty.flatR_rel ty hm) (Ty.flatR_len ty y)
  · rename_i id i off e
    rw [e] at hx
    simp only [VRel] at hx
    obtain ⟨b, o', len, cap, sz, hm, hi, hv⟩ := hx
    replace hr := of_eval hr
    obtain ⟨vr, hvr, hr⟩ := hr
    replace hr := of_eval hr
    obtain ⟨⟨e', xs⟩, hu, hr⟩ := hr
    replace hr := get_eval hr
    obtain ⟨z, hz, hr⟩ := hr
    replace hr := of_eval hr
    obtain ⟨y, hy, hr⟩ := hr
    obtain ⟨ad, cap', f, g1, g2, g3, g4, g5, g6⟩ := unfoc_rel h.vs hE hvr hu
    rw [hm] at g1; cases g1
    obtain ⟨b2, o2, D, T, p, fi, q, k1, k2, k3, k4, k5, k6, k7⟩ := repO_item g2 hz
    cases k1
    obtain ⟨pre, mid, post, f1, fm, f2, l1, l2, l3, l4, l5⟩ := Ty.repO_lens e' k6 hy
    have hl := Ty.repO_size ty l4
    have hcs := mid_cells l1
    rw [hl, l2] at hcs
    have run' := run b (o' + i * e'.size + off) mid hv hcs hl
    split at hr
    · -- a slice inside: held beside
      rename_i es y'
      have hr := Option.some.inj hr
      subst hr
      have hnd : f.Nodup := g3.nodup_iff.2 (h.vs.nodup_ids _ g4 fun k hk => (g5 k hk).1)
      simp only [Ty.repO] at l4
      obtain ⟨a', cap2, hmid, hc2, l4'⟩ := l4
      have l4 : (Ty.sl es).repO w [.slice a' (List.length y') cap2] y' fm := by simp only [Ty.repO]; exact ⟨a', cap2, rfl, hc2, l4'⟩
      have e0 : f = b :: (p ++ fi ++ q) := k5
      have hperm : f.Perm ((b :: (p ++ f1 ++ f2 ++ q)) ++ fm) := by rw [e0, l3]; exact perm_mid b p f1 fm f2 q
      have hnd2 : ((b :: (p ++ f1 ++ f2 ++ q)) ++ fm).Nodup := hperm.nodup_iff.1 hnd
      have hna := List.nodup_append.1 hnd2
      have hsub1 : ∀ b' ∈ b :: (p ++ f1 ++ f2 ++ q), b' ∈ f := fun b' hb' => hperm.mem_iff.2 (List.mem_append.2 (.inl hb'))
      have hsub2 : ∀ b' ∈ fm, b' ∈ f := fun b' hb' => hperm.mem_iff.2 (List.mem_append.2 (.inr hb'))
      have hne : id ≠ fr := fun e => hfr (e ▸ (h.known.v id vr (hE _ _ hvr)).1)
      have ha : ∀ k, s.k k → (fun k => if k = fr then Loc.hdr a' (List.length y') cap2 es.size else μ k) k = μ k := fun k hk => if_neg fun (e : k = fr) => hfr (e ▸ hk)
      have hvar : VarRel c (fun k => if k = fr then Loc.hdr a' (List.length y') cap2 es.size else μ k) w id (b :: (p ++ f1 ++ f2 ++ q)) (.foc e' xs z i off (.sl es) fr) := by
        refine ⟨some ⟨b, o', none⟩, cap, (ha id (h.known.v id vr (hE _ _ hvr)).1).trans hm, ?_, fun b' hb' hlt => g6 b' (hsub1 b' hb') hlt, k4, .inr ⟨b, o', rfl⟩, hz⟩
        have hposD : D[o' + i * e'.size + off]? = some (.slice a' (List.length y') cap2) := by
          have := cell_of_cellsAt (w := w) (B := b) (o := o' + i * e'.size + off) (n := 1) (j := 0) (v := .slice a' (List.length y') cap2) (by
            have := hcs; rw [show (Ty.sl es).size = 1 from rfl] at this; rw [this, hmid]; rfl)
          simpa [World.cell?, k2] using this
        refine ⟨a', List.length y', cap2, es, b, o', D, T, if_pos rfl, rfl, rfl, by simp, k2, hposD, fun w' D' hd ys fp' hb' hsz' hoth hat hsame hys => ?_⟩
        have hnb : b ∉ p ++ f1 ++ f2 ++ q := (List.nodup_cons.1 hna.1).1
        have hmem : ∀ b' ∈ p ++ f1 ++ f2 ++ q, w'.heap[b']? = w.heap[b']? := fun b' hm' => hsame b' (by simp at hm' ⊢; simp [hm']) (fun e => hnb (e ▸ hm'))
        obtain ⟨x', hx1, hx2⟩ := l5 w' [hd] ys fp' (fun b' hb' => hmem b' (by simp at hb' ⊢; rcases hb' with h | h <;> simp [h])) hys
        refine ⟨z, x', b :: (p ++ (f1 ++ fp' ++ f2) ++ q), hz, hx1, ?_, perm_mid b p f1 fp' f2 q⟩
        have hpl : pre.length + 1 + post.length = e'.size := by
          have := Ty.repO_size e' k6; rw [l1, hmid] at this; simp at this; omega
        refine k7 w' x' (f1 ++ fp' ++ f2) D' hb' hsz' (fun j hj => hoth j (by
          rintro rfl
          rw [Nat.add_mul] at hj
          omega)) (fun b' hb' => hmem b' (by simp at hb' ⊢; rcases hb' with h | h <;> simp [h])) (fun hb' => hnb (by simp at hb' ⊢; rcases hb' with h | h <;> simp [h])) ?_
        have hcw : cellsAt w' b (o' + i * e'.size) e'.size = pre ++ [hd] ++ post := by
          have hw0 : cellsAt w b (o' + i * e'.size) e'.size = pre ++ [.slice a' (List.length y') cap2] ++ post := by rw [l1, hmid]
          rw [cellsAt_of k2] at hw0
          rw [cellsAt_of hb']
          apply List.ext_getElem?
          intro k
          have hk0 := congrArg (fun l => l[k]?) hw0
          by_cases hk : k < e'.size
          · rw [List.getElem?_take_of_lt hk, List.getElem?_drop, Array.getElem?_toList] at hk0 ⊢
            by_cases hko : k = off
            · subst hko
              rw [hat, ← l2]
              simp
            · rw [hoth (o' + i * e'.size + k) (by omega), hk0]
              rw [List.append_assoc, List.append_assoc]
              rcases Nat.lt_or_ge k pre.length with h' | h'
              · rw [List.getElem?_append_left h', List.getElem?_append_left h']
              · rw [List.getElem?_append_right h', List.getElem?_append_right h']
                cases hkk : k - pre.length with
                | zero => omega
                | succ m => simp
          · rw [List.getElem?_eq_none (by simp; omega), List.getElem?_eq_none (by simp; omega)]
        rw [hcw]
        exact hx2
      have h1 := h.vs.produce (μ' := fun k => if k = fr then Loc.hdr a' (List.length y') cap2 es.size else μ k) (w' := w) h.ev (focIds vr) id (.foc e' xs z i off (.sl es) fr) (b :: (p ++ f1 ++ f2 ++ q))
        (fun k x hx _ _ => ⟨ha k (h.known.v k x hx).1, fun k' hk' => ha k' ((h.known.v k x hx).2 k' hk')⟩) (fun _ _ _ _ _ _ => rfl) (Nat.le_refl _) hvar hna.1
        (fun b' hb' => by
          obtain ⟨k, hk, hb2⟩ := List.mem_flatMap.1 (g3.mem_iff.1 (hsub1 b' hb'))
          exact .inr ⟨k, List.mem_cons.1 hk, (g5 k hk).1, hb2⟩)
      have h2 := h1.produce' (μ' := fun k => if k = fr then Loc.hdr a' (List.length y') cap2 es.size else μ k) (w' := w) [] fr (.arr es y') fm
        (fun _ _ _ _ _ => ⟨rfl, fun _ _ => rfl⟩) (fun _ _ _ _ _ _ => rfl) (Nat.le_refl _) ⟨a', cap2, if_pos rfl, l4, fun b' hb' hlt => g6 b' (hsub2 b' hb') hlt⟩ hna.2.1
        (fun b' hb' => by
          obtain ⟨k, hk, hb2⟩ := List.mem_flatMap.1 (g3.mem_iff.1 (hsub2 b' hb'))
          refine ⟨h.vs.notS k (g5 k hk).1 b' hb2, h.vs.lt k (g5 k hk).1 b' hb2, fun k' hk' hkf _ hb3 => ?_⟩
          by_cases hid : k' = id
          · rw [if_pos hid] at hb3
            exact hna.2.2 b' hb3 b' hb' rfl
          · rw [if_neg hid] at hb3
            rw [updF_produce, if_neg hid] at hk'
            split at hk'
            · exact hk' rfl
            · rename_i hnr
              refine h.vs.sep k' k ?_ hk' (g5 k hk).1 b' hb3 hb2
              rintro rfl
              rcases List.mem_cons.1 hk with hk | hk
              · exact hid hk
              · exact hnr hk)
      rw [updF_two] at h2
      refine sim_value run' ⟨ha, ?_, h2, h.ev⟩
      rw [hmid]
      simp only [outV, Ty.isSt, Bool.false_eq_true, if_false, List.headD_cons, VRel]
      exact ⟨a', List.length y', cap2, es.size, by simp, rfl⟩
    · rename_i hns
      rw [ret1_eval hr]
      exact sim_pure h run' (mkVal_rel (Ty.flatO_rel ty l4) (Ty.flatO_len ty y))
  · cases hr
end
end Go.Proofs.Ytjcinikojcfebaa.Dm
