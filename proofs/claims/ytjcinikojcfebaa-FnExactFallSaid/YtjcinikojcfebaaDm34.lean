/- The data machine, part 34: a call, from what is told of the function: the variables behind it. -/
import Derived.Test.YtjcinikojcfebaaDm33
namespace Go.Proofs.Ytjcinikojcfebaa.Dm
open Go

def MutOk (μ : Nat → Loc) : List Cm → List DVal → Prop
  | .b :: r, _ :: q => MutOk μ r q
  | .i _ :: r, _ :: q => MutOk μ r q
  | .s :: r, _ :: q => MutOk μ r q
  | .ro _ :: r, _ :: q => MutOk μ r q
  | .own _ :: r, _ :: q => MutOk μ r q
  | .mut e :: r, d :: q => (d = .nilS ∨ ∃ id a len cap, d = .sref id none ∧ μ id = .hdr a len cap e.size) ∧ MutOk μ r q
  | [], _ => True
  | _, [] => False

section
variable {c : Ctx} {K0 : Nat → Prop} {μ0 : Nat → Loc} {fp0 : Nat → List Nat} {v0 : Env} {w0 w : World} {E EL : Env}

theorem mutL_loc (h : RelV c μ0 fp0 v0 w0) (hE : ∀ id x, E id = some x → v0 id = some x) {e : Ty} {d : DVal} {z : List e.D × List Nat} (hz : mutL E e d = some z) :
    d = .nilS ∨ ∃ id a len cap, d = .sref id none ∧ μ0 id = .hdr a len cap e.size := by
  unfold mutL at hz
  split at hz
  · exact .inl rfl
  · rename_i id
    right
    replace hz : (E id).bind (fun v => (unfoc E v).bind fun x => (Ty.cast (.sl x.1) (.sl e) x.2).map fun y => (y, id :: focIds v)) = some z := hz
    obtain ⟨y, hy, hz⟩ := Option.bind_eq_some_iff.1 hz
    obtain ⟨⟨e', ys⟩, hu, hz⟩ := Option.bind_eq_some_iff.1 hz
    obtain ⟨zs, hc, rfl⟩ := Option.map_eq_some_iff.1 hz
    obtain ⟨he, hxs⟩ := cast_sl hc
    clear hc hz
    subst he
    obtain ⟨a, cap, f, h1, _⟩ := unfoc_rel h hE hy hu
    exact ⟨id, a, _, cap, rfl, h1⟩
  · cases hz

theorem takeC_mutOk (h : RelV c μ0 fp0 v0 w0) (hE : ∀ id x, E id = some x → v0 id = some x) : (l : List Cm) → {ds : List DVal} → {r : cmD l × List Nat} → takeC E EL l ds = some r → MutOk μ0 l ds
  | [], ds, r, _ => by simp [MutOk]
  | .b :: l, ds, r, hf => by
    cases ds with
    | nil => cases hf
    | cons d q =>
      cases d <;> try (cases hf; done)
      rename_i x
      obtain ⟨y, hy, rfl⟩ := Option.map_eq_some_iff.1 (show ((takeC E EL l q).map fun y => ((x, y.1), y.2)) = some r from hf)
      exact takeC_mutOk h hE l hy
  | .i k :: l, ds, r, hf => by
    cases ds with
    | nil => cases hf
    | cons d q =>
      cases d <;> try (cases hf; done)
      rename_i k' x
      replace hf : (if k = k' then (takeC E EL l q).map fun y => ((x, y.1), y.2) else none) = some r := hf
      split at hf
      case isFalse => cases hf
      obtain ⟨y, hy, rfl⟩ := Option.map_eq_some_iff.1 hf
      exact takeC_mutOk h hE l hy
  | .s :: l, ds, r, hf => by
    cases ds with
    | nil => cases hf
    | cons d q =>
      cases d <;> try (cases hf; done)
      rename_i x
      obtain ⟨y, hy, rfl⟩ := Option.map_eq_some_iff.1 (show ((takeC E EL l q).map fun y => ((x, y.1), y.2)) = some r from hf)
      exact takeC_mutOk h hE l hy
  | .ro e :: l, ds, r, hf => by
    cases ds with
    | nil => cases hf
    | cons d q =>
      replace hf : ((listOf EL e d).bind fun x => (takeC E EL l q).map fun y => ((x, y.1), y.2)) = some r := hf
      obtain ⟨x, hx, hf⟩ := Option.bind_eq_some_iff.1 hf
      obtain ⟨y, hy, rfl⟩ := Option.map_eq_some_iff.1 hf
      exact takeC_mutOk h hE l hy
  | .own e :: l, ds, r, hf => by
    cases ds with
    | nil => cases hf
    | cons d q =>
      replace hf : ((takeL E e d).bind fun z => (takeC E EL l q).map fun y => ((z.1, y.1), z.2 ++ y.2)) = some r := hf
      obtain ⟨z, hz, hf⟩ := Option.bind_eq_some_iff.1 hf
      obtain ⟨y, hy, rfl⟩ := Option.map_eq_some_iff.1 hf
      exact takeC_mutOk h hE l hy
  | .mut e :: l, ds, r, hf => by
    cases ds with
    | nil => cases hf
    | cons d q =>
      replace hf : ((mutL E e d).bind fun z => (takeC E EL l q).map fun y => ((z.1, y.1), z.2 ++ y.2)) = some r := hf
      obtain ⟨z, hz, hf⟩ := Option.bind_eq_some_iff.1 hf
      obtain ⟨y, hy, rfl⟩ := Option.map_eq_some_iff.1 hf
      exact ⟨mutL_loc h hE hz, takeC_mutOk h hE l hy⟩

theorem backV_rel : (l : List Cm) → ∀ {vs : List Value} {ds : List DVal} {y : backVD l} {f rest : List Nat} {K : Nat → Prop} {μ : Nat → Loc} {fp : Nat → List Nat} {v : Env},
    Pool c K μ fp v w (f ++ rest) → VsRel c μ0 vs ds → (∀ id ∈ DVal.idsL ds, K0 id) → (∀ id, K0 id → K id ∧ μ id = μ0 id) → MutOk μ0 l ds → backRepV w l vs y f → (∀ b ∈ f, b < c.w0.heap.size → ∀ j, c.M b j) →
    ∃ fp', Pool c K μ fp' (updF v (news (backV l ds y))) w rest
  | [], vs, ds, y, f, rest, K, μ, fp, v, h, hr, _, _, _, hb, _ => by
    simp only [backRepV] at hb
    obtain ⟨rfl, rfl⟩ := hb
    exact ⟨fp, h⟩
  | .b :: r, vs, ds, y, f, rest, K, μ, fp, v, h, hr, hi, hk, hm, hb, hM => by
    simp only [backRepV] at hb
    obtain ⟨v1, vs', rfl, hb⟩ := hb
    cases ds with
    | nil => simp [MutOk] at hm
    | cons d q =>
      simp only [VsRel] at hr
      obtain ⟨_, _, e, hd, hr⟩ := hr
      cases e
      exact backV_rel r h hr (fun id hi' => hi id (by simp [DVal.idsL, hi'])) hk hm hb hM
  | .i _ :: r, vs, ds, y, f, rest, K, μ, fp, v, h, hr, hi, hk, hm, hb, hM => by
    simp only [backRepV] at hb
    obtain ⟨v1, vs', rfl, hb⟩ := hb
    cases ds with
    | nil => simp [MutOk] at hm
    | cons d q =>
      simp only [VsRel] at hr
      obtain ⟨_, _, e, hd, hr⟩ := hr
      cases e
      exact backV_rel r h hr (fun id hi' => hi id (by simp [DVal.idsL, hi'])) hk hm hb hM
  | .s :: r, vs, ds, y, f, rest, K, μ, fp, v, h, hr, hi, hk, hm, hb, hM => by
    simp only [backRepV] at hb
    obtain ⟨v1, vs', rfl, hb⟩ := hb
    cases ds with
    | nil => simp [MutOk] at hm
    | cons d q =>
      simp only [VsRel] at hr
      obtain ⟨_, _, e, hd, hr⟩ := hr
      cases e
      exact backV_rel r h hr (fun id hi' => hi id (by simp [DVal.idsL, hi'])) hk hm hb hM
  | .ro _ :: r, vs, ds, y, f, rest, K, μ, fp, v, h, hr, hi, hk, hm, hb, hM => by
    simp only [backRepV] at hb
    obtain ⟨v1, vs', rfl, hb⟩ := hb
    cases ds with
    | nil => simp [MutOk] at hm
    | cons d q =>
      simp only [VsRel] at hr
      obtain ⟨_, _, e, hd, hr⟩ := hr
      cases e
      exact backV_rel r h hr (fun id hi' => hi id (by simp [DVal.idsL, hi'])) hk hm hb hM
  | .own _ :: r, vs, ds, y, f, rest, K, μ, fp, v, h, hr, hi, hk, hm, hb, hM => by
    simp only [backRepV] at hb
    obtain ⟨v1, vs', rfl, hb⟩ := hb
    cases ds with
    | nil => simp [MutOk] at hm
    | cons d q =>
      simp only [VsRel] at hr
      obtain ⟨_, _, e, hd, hr⟩ := hr
      cases e
      exact backV_rel r h hr (fun id hi' => hi id (by simp [DVal.idsL, hi'])) hk hm hb hM
  | .mut e :: r, vs, ds, y, f, rest, K, μ, fp, v, h, hr, hi, hk, hm, hb, hM => by
    simp only [backRepV] at hb
    obtain ⟨v1, vs', f1, f2, rfl, rfl, hx, hb⟩ := hb
    cases ds with
    | nil => simp [MutOk] at hm
    | cons d q =>
      simp only [VsRel] at hr
      obtain ⟨_, _, e', hd, hr⟩ := hr
      cases e'
      simp only [MutOk] at hm
      have h' : Pool c K μ fp v w (f1 ++ (f2 ++ rest)) := by rw [← List.append_assoc]; exact h
      rcases hm.1 with rfl | ⟨id, a, len, cap, rfl, hμ⟩
      · exact backV_rel r h'.drop hr (fun id hi' => hi id (by simp [DVal.idsL, hi'])) hk hm.2 hb (fun b hb => hM b (by simp [hb]))
      · simp only [VRel] at hd
        obtain ⟨a', len', cap', sz, g1, rfl⟩ := hd
        rw [hμ] at g1; cases g1
        have hid : K0 id := hi id (by simp [DVal.idsL, DVal.ids])
        have hx' := hx
        simp only [Ty.repO] at hx'
        obtain ⟨a2, cap2, e2, _, _⟩ := hx'
        cases e2
        have hvar : VarRel c μ w id f1 (.arr e y.1) := ⟨a, cap, (hk id hid).2.trans hμ, hx, fun b hb => hM b (by simp [hb])⟩
        have h2 := h'.add (K' := K) (μ' := μ) (id0 := id) (fun _ _ => rfl) (fun _ hi => hi) (hk id hid).1 (fun _ hi => by cases hi) hvar
        obtain ⟨fp', h3⟩ := backV_rel r h2 hr (fun id hi' => hi id (by simp [DVal.idsL, hi'])) hk hm.2 hb (fun b hb => hM b (by simp [hb]))
        exact ⟨fp', h3⟩

theorem idsL_splice {l new : List DVal} {off id : Nat} (h : id ∈ DVal.idsL (spliceL l off new)) : id ∈ DVal.idsL l ∨ id ∈ DVal.idsL new := by
  obtain ⟨d, hd, hi⟩ := mem_idsL.1 h
  simp only [spliceL, List.mem_append] at hd
  rcases hd with (hd | hd) | hd
  · exact .inl (mem_idsL.2 ⟨d, List.mem_of_mem_take hd, hi⟩)
  · exact .inr (mem_idsL.2 ⟨d, hd, hi⟩)
  · exact .inl (mem_idsL.2 ⟨d, List.mem_of_mem_drop hd, hi⟩)

/-- How the places of variables have changed. -/
def Places (w0 w : World) (g : List (Nat × Nat × Nat)) : Prop :=
  ∀ B o m, (B, o, m) ∈ g → ∃ C C' T, w0.heap[B]? = some (.cells C T (0, 0)) ∧ w.heap[B]? = some (.cells C' T (0, 0)) ∧ C'.size = C.size ∧ ∀ j, ¬ (o ≤ j ∧ j < o + m) → C'[j]? = C[j]?

theorem cells_spliced {C C' : Array Value} {o off n L : Nat} (hz : C'.size = C.size) (hC : o + L ≤ C.size) (hn : off + n ≤ L) (hj : ∀ j, ¬ (o + off ≤ j ∧ j < o + off + n) → C'[j]? = C[j]?) :
    (C'.toList.drop o).take L = ((C.toList.drop o).take L).take off ++ (C'.toList.drop (o + off)).take n ++ ((C.toList.drop o).take L).drop (off + n) := by
  apply List.ext_getElem?
  intro i
  have h1 : (List.take off (List.take L (List.drop o C.toList))).length = off := by simp; omega
  have h2 : (List.take n (List.drop (o + off) C'.toList)).length = n := by simp; omega
  have hg : ∀ j, C'.toList[j]? = C'[j]? := fun j => Array.getElem?_toList
  have hg' : ∀ j, C.toList[j]? = C[j]? := fun j => Array.getElem?_toList
  rw [List.getElem?_append, List.getElem?_append, List.length_append, h1, h2]
  by_cases hi : i < L
  · rw [List.getElem?_take_of_lt hi, List.getElem?_drop, hg]
    by_cases h3 : i < off
    · rw [if_pos (by omega), if_pos h3, List.getElem?_take_of_lt h3, List.getElem?_take_of_lt hi, List.getElem?_drop, hg', hj _ (by omega)]
    · by_cases h4 : i < off + n
      · rw [if_pos h4, if_neg h3, List.getElem?_take_of_lt (by omega), List.getElem?_drop, hg]
        congr 1; omega
      · rw [if_neg h4, List.getElem?_drop, List.getElem?_take_of_lt (by omega), List.getElem?_drop, hg', hj _ (by omega)]
        congr 1; omega
  · rw [List.getElem?_eq_none (by simp; omega), if_neg (by omega), List.getElem?_drop, List.getElem?_eq_none (by simp; omega)]

theorem backI_rel (hv0 : RelV c μ0 fp0 v0 w0) (hE : ∀ id x, E id = some x → v0 id = some x) (hK0 : ∀ id x, v0 id = some x → K0 id ∧ ∀ id' ∈ x.ids, K0 id') {S' : Nat → Prop} :
    (it : Item) → ∀ {d : Value} {dd : DVal} {r : cmD it.cs × List Nat} {y : backID it} {f0 f rest : List Nat} {g : List (Nat × Nat × Nat)} {n : Nat} {K : Nat → Prop} {μ : Nat → Loc} {fp : Nat → List Nat} {v : Env},
    Pool c K μ fp v w (f ++ g.map (·.1) ++ rest) → VRel c μ0 d dd → (∀ id ∈ dd.ids, K0 id) → (∀ id, K0 id → K id ∧ μ id = μ0 id) → takeI E EL it dd = some r → ItemRep S' w0 it d r.1 f0 g → BackRep w0 w it d y f →
    (∀ b ∈ f, b < c.w0.heap.size → ∀ j, c.M b j) → Places w0 w g → (∀ id, n ≤ id → id < (backI E it dd y n).2 → ¬ K id) →
    n ≤ (backI E it dd y n).2 ∧ Entered c K μ v w rest n (backI E it dd y n).2 (backI E it dd y n).1 fun _ => True
  | ⟨false, a, cs⟩, d, dd, r, y, f0, f, rest, g, n, K, μ, fp, v, h, hd, hi, hk, ht, hr, hb, hM, _, _ => by
    simp only [ItemRep] at hr
    obtain ⟨rfl, _⟩ := hr
    replace ht : (if isAgg dd = a ∧ dd.cells.all DVal.isCell = true then takeC E EL cs dd.cells else none) = some r := ht
    split at ht
    case isFalse => cases ht
    rename_i hc
    have hids : ∀ id ∈ DVal.idsL dd.cells, K0 id := by
      intro id hid
      refine hi id ?_
      by_cases ha : ∃ ds, dd = .agg ds
      · obtain ⟨ds, rfl⟩ := ha; exact hid
      · have hdd : dd.cells = [dd] := by cases dd <;> first | rfl | exact absurd ⟨_, rfl⟩ ha
        rw [hdd] at hid
        simpa [DVal.idsL] using hid
    obtain ⟨fp', h1⟩ := backV_rel cs (by simpa using h) (hd.cells hc.2) hids hk (takeC_mutOk hv0 hE cs ht) hb hM
    exact ⟨Nat.le_refl n, μ, fp', trivial, h1.weaken fun _ => .inl, fun _ _ => rfl⟩
  | ⟨true, a, cs⟩, d, dd, r, y, f0, f, rest, g, n, K, μ, fp, v, h, hd, hi, hk, ht, hr, hb, hM, hP, hfr => by
    cases dd <;> try (cases ht; done)
    rename_i id off
    replace ht : (match E id with | some (.var l) => if off + cs.length ≤ l.length then (takeC E EL cs ((l.drop off).take cs.length)).map fun y => (y.1, id :: y.2) else none | _ => none) = some r := ht
    split at ht
    case h_2 => cases ht
    rename_i l hid
    split at ht
    case isFalse => cases ht
    rename_i hl
    have hv := hE id _ hid
    have hKid := hK0 id _ hv
    obtain ⟨B, o, C, T, h1, h2, h3, h4, h5, h6, h7⟩ := hv0.rel id _ hv
    simp only [VRel] at hd
    obtain ⟨B', o', e1, rfl⟩ := hd
    rw [h1] at e1; cases e1
    simp only [ItemRep] at hr
    obtain ⟨B2, o2, C2, T2, rfl, e2, _, _, hr⟩ := hr
    simp only [Value.pointer.injEq, Option.some.injEq, Addr.mk.injEq, and_true] at e2
    obtain ⟨rfl, rfl⟩ := e2
    obtain ⟨B3, o3, e3, hb⟩ := hb
    simp only [Value.pointer.injEq, Option.some.injEq, Addr.mk.injEq, and_true] at e3
    obtain ⟨rfl, rfl⟩ := e3
    obtain ⟨C1, C', T', p1, p2, p3, p4⟩ := hP B (o + off) cs.length (by simp)
    rw [h3] at p1; cases p1
    have hsub : cellsAt w0 B (o + off) cs.length = ((cellsAt w0 B o l.length).drop off).take cs.length := cellsAt_sub (by omega)
    have hbk : backI E ⟨true, a, cs⟩ (.vptr id off) y n = ((backP cs ((l.drop off).take cs.length) y n).2.1 ++ [(id, .var (spliceL l off (backP cs ((l.drop off).take cs.length) y n).1))], (backP cs ((l.drop off).take cs.length) y n).2.2) := by
      show (match E id with | some (.var l) => _ | _ => _) = _
      rw [hid]
    rw [hbk] at hfr ⊢
    simp only at hfr ⊢
    have hpart : ∀ i ∈ DVal.idsL ((l.drop off).take cs.length), K0 i := fun i hi' => by
      obtain ⟨q, hq, hqi⟩ := mem_idsL.1 hi'
      exact hKid.2 i (mem_idsL.2 ⟨q, List.mem_of_mem_drop (List.mem_of_mem_take hq), hqi⟩)
    have hcell : ((l.drop off).take cs.length).all DVal.isCell = true := by
      rw [List.all_eq_true] at h6 ⊢
      exact fun q hq => h6 q (List.mem_of_mem_drop (List.mem_of_mem_take hq))
    have hlen : (cellsAt w B (o + off) cs.length).length = cs.length := by
      rw [cellsAt_of p2]; simp; omega
    obtain ⟨μ1, fp1, g1, g2, g3⟩ := backP_rel (K0 := K0) (μ0 := μ0) cs (rest := [B] ++ rest) (by simpa using h) (by rw [hsub]; exact (h5.drop off).take cs.length) hpart hk hb hM hfr
    have hle := backP_le cs ((l.drop off).take cs.length) y n
    have hok := backP_ok (K := K0) cs ((l.drop off).take cs.length) y n hcell hpart
    have hnl : (backP cs ((l.drop off).take cs.length) y n).1.length = cs.length := by rw [← g1.length, hlen]
    have hag : ∀ i, K0 i → μ1 i = μ0 i := fun i hi' => (g3 i (hk i hi').1).trans (hk i hi').2
    have hvar : VarRel c μ1 w id [B] (.var (spliceL l off (backP cs ((l.drop off).take cs.length) y n).1)) := by
      refine ⟨B, o, C', T, (hag id hKid.1).trans h1, rfl, p2, ?_, ?_, spliceL_isCell h6 hok.1, ?_⟩
      · rw [spliceL_length (by omega)]; omega
      · rw [spliceL_length (by omega), cellsAt_of p2, cells_spliced p3 h4 hl p4]
        have := spliceL_rel (VsRel.mono l (fun i hi' => hag i (hKid.2 i hi')) h5) g1 off
        rw [hlen] at this
        rw [cellsAt_of h3, cellsAt_of p2] at this
        exact this
      · intro hlt j hj
        rw [spliceL_length (by omega)] at hj
        exact h7 hlt j hj
    refine ⟨hle, μ1, fun k => if k = id then [B] else fp1 k, trivial, ?_, g3⟩
    rw [news_append, updF_append]
    refine g2.add (μ' := μ1) (fun _ _ => rfl) (fun _ hi' => hi') (.inl (hk id hKid.1).1) (fun i hi' => ?_) hvar
    rcases idsL_splice hi' with hi' | hi'
    · exact .inl (hk i (hKid.2 i hi')).1
    · rcases hok.2 i hi' with q | q
      · exact .inl (hk i q).1
      · exact .inr q

theorem backI_le {E : Env} : (it : Item) → (d : DVal) → (y : backID it) → (n : Nat) → n ≤ (backI E it d y n).2
  | ⟨false, _, cs⟩, d, y, n => Nat.le_refl n
  | ⟨true, a, cs⟩, d, y, n => by
    cases d <;> try exact Nat.le_refl n
    rename_i id off
    show n ≤ (match E id with | some (.var l) => ((backP cs ((l.drop off).take cs.length) y n).2.1 ++ [(id, DVar.var (spliceL l off (backP cs ((l.drop off).take cs.length) y n).1))], (backP cs ((l.drop off).take cs.length) y n).2.2) | _ => (([], n) : List (Nat × DVar) × Nat)).2
    split
    · exact backP_le _ _ _ _
    · exact Nat.le_refl n
theorem backIs_le {E : Env} : (l : List Item) → (ds : List DVal) → (y : backD l) → (n : Nat) → n ≤ (backIs E l ds y n).2
  | [], _, _, n => Nat.le_refl n
  | it :: l, [], _, n => Nat.le_refl n
  | it :: l, d :: q, y, n => Nat.le_trans (backI_le it d y.1 n) (backIs_le l q y.2 _)

theorem backIs_rel (hv0 : RelV c μ0 fp0 v0 w0) (hE : ∀ id x, E id = some x → v0 id = some x) (hK0 : ∀ id x, v0 id = some x → K0 id ∧ ∀ id' ∈ x.ids, K0 id') {S' : Nat → Prop} :
    (l : List Item) → ∀ {vs : List Value} {ds : List DVal} {r : itemsD l × List Nat} {y : backD l} {f0 f rest : List Nat} {g : List (Nat × Nat × Nat)} {n : Nat} {K : Nat → Prop} {μ : Nat → Loc} {fp : Nat → List Nat} {v : Env},
    Pool c K μ fp v w (f ++ g.map (·.1) ++ rest) → VsRel c μ0 vs ds → (∀ id ∈ DVal.idsL ds, K0 id) → (∀ id, K0 id → K id ∧ μ id = μ0 id) → takeIs E EL l ds = some r → ItemsRep S' w0 l vs r.1 f0 g → BacksRep w0 w l vs y f →
    (∀ b ∈ f, b < c.w0.heap.size → ∀ j, c.M b j) → Places w0 w g → (∀ id, n ≤ id → id < (backIs E l ds y n).2 → ¬ K id) →
    n ≤ (backIs E l ds y n).2 ∧ Entered c K μ v w rest n (backIs E l ds y n).2 (backIs E l ds y n).1 fun _ => True
  | [], vs, ds, r, y, f0, f, rest, g, n, K, μ, fp, v, h, hd, hi, hk, ht, hr, hb, hM, _, _ => by
    simp only [ItemsRep] at hr
    obtain ⟨rfl, rfl, rfl⟩ := hr
    simp only [BacksRep] at hb
    obtain ⟨_, rfl⟩ := hb
    exact ⟨Nat.le_refl n, μ, fp, trivial, Pool.weaken (show Pool c K μ fp v w rest by simpa using h) fun _ => .inl, fun _ _ => rfl⟩
  | it :: l, vs, ds, r, y, f0, f, rest, g, n, K, μ, fp, v, h, hd, hi, hk, ht, hr, hb, hM, hP, hfr => by
    cases ds with
    | nil => cases ht
    | cons d q =>
      replace ht : ((takeI E EL it d).bind fun x => (takeIs E EL l q).map fun y => ((x.1, y.1), x.2 ++ y.2)) = some r := ht
      obtain ⟨z, hz, ht⟩ := Option.bind_eq_some_iff.1 ht
      obtain ⟨z2, hz2, rfl⟩ := Option.map_eq_some_iff.1 ht
      simp only [ItemsRep] at hr
      obtain ⟨d1, vs', f1, f2, g1, g2, rfl, rfl, rfl, hr1, hr⟩ := hr
      simp only [BacksRep] at hb
      obtain ⟨d2, vs2, b1, b2, e, rfl, hb1, hb⟩ := hb
      cases e
      simp only [VsRel] at hd
      obtain ⟨d3, vs3, e, hd1, hd⟩ := hd
      cases e
      have hp : (b1 ++ b2 ++ (g1 ++ g2).map (·.1) ++ rest).Perm (b1 ++ g1.map (·.1) ++ (b2 ++ g2.map (·.1) ++ rest)) := by
        rw [List.map_append]
        refine (List.Perm.append_right rest (perm_items b1 b2 _ _)).trans ?_
        rw [List.append_assoc]
      have e1 : (backIs E (it :: l) (d :: q) y n).2 = (backIs E l q y.2 (backI E it d y.1 n).2).2 := rfl
      have e2 : (backIs E (it :: l) (d :: q) y n).1 = (backI E it d y.1 n).1 ++ (backIs E l q y.2 (backI E it d y.1 n).2).1 := rfl
      rw [e1] at hfr ⊢
      rw [e2]
      have hle2 : (backI E it d y.1 n).2 ≤ (backIs E l q y.2 (backI E it d y.1 n).2).2 := backIs_le l q y.2 _
      obtain ⟨l1, μ1, fp1, _, q2, q3⟩ := backI_rel hv0 hE hK0 it (h.perm hp) hd1 (fun id hi' => hi id (by simp [DVal.idsL, hi'])) hk hz hr1 hb1 (fun b hb => hM b (by simp [hb])) (fun B o m hm => hP B o m (by simp [hm])) (fun id p1 p2 => hfr id p1 (by omega))
      obtain ⟨l2, μ2, fp2, _, p2, p3⟩ := backIs_rel hv0 hE hK0 l q2 hd (fun id hi' => hi id (by simp [DVal.idsL, hi'])) (fun id hi' => ⟨.inl (hk id hi').1, (q3 id (hk id hi').1).trans (hk id hi').2⟩) hz2 hr hb (fun b hb => hM b (by simp [hb]))
        (fun B o m hm => hP B o m (by simp [hm])) (fun id p1 p2 p3 => p3.elim (hfr id (by omega) p2) (by omega))
      refine ⟨by omega, μ2, fp2, trivial, ?_, fun id hi' => (p3 id (.inl hi')).trans (q3 id hi')⟩
      rw [news_append, updF_append]
      refine p2.weaken fun id hi' => ?_
      rcases hi' with (hi' | hi') | hi'
      · exact .inl hi'
      · right; omega
      · right; omega
end
end Go.Proofs.Ytjcinikojcfebaa.Dm
