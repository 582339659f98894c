/- The data machine (a part). -/
import Derived.Test.YtnnpnkegpkladaaGreatM3
import Derived.KernelRfl
import Derived.WalkKit
import Derived.ProofKit
import Derived.OpenShut
import Derived.JoinedCond
import Derived.Carry
import Derived.Laws.Runes
import Derived.Laws.BitsLemmas
import Derived.JoinedOf
import Derived.Lib.SliceRun
namespace Go.Proofs.YtnnpnkegpkladaaGreat.Dm
section
open Go
def MutOk (μ : Nat → Loc) : List Cm → List DVal → Prop
  | .b :: r, _ :: q => MutOk μ r q
  | .i _ :: r, _ :: q => MutOk μ r q
  | .s :: r, _ :: q => MutOk μ r q
  | .e :: r, _ :: q => MutOk μ r q
  | .ro _ :: r, _ :: q => MutOk μ r q
  | .own _ :: r, _ :: q => MutOk μ r q
  | .mut e :: r, d :: q => (d = .nilS ∨ ∃ id a len cap, d = .sref id none ∧ μ id = .hdr a len cap e.size) ∧ MutOk μ r q
  | [], _ => True
  | _, [] => False
section
variable {c c0 : Ctx} {K0 : Nat → Prop} {μ0 : Nat → Loc} {fp0 : Nat → List Nat} {v0 : Env} {w0 w : World} {E EL : Env}
theorem mutL_loc (h : ∀ id x, v0 id = some x → VarRel c0 μ0 w0 id (fp0 id) x) (hE : ∀ id x, E id = some x → v0 id = some x) {e : Ty} {d : DVal} {z : List e.D × List Nat} (hz : mutL E e d = some z) :
    d = .nilS ∨ ∃ id a len cap, d = .sref id none ∧ μ0 id = .hdr a len cap e.size := by
  unfold mutL at hz
  split at hz
  · exact .inl rfl
  · rename_i id
    right
    replace hz : (E id).bind (fun v => (unfoc E v).bind fun x => (Ty.cast (.sl x.1) (.sl e) x.2).map fun y => (y, id :: focIds v)) = some z := hz
    obtain ⟨y, hy, hz⟩ := Option.bind_eq_some_iff.1 hz
    obtain ⟨⟨e', ys⟩, hu, hz⟩ := Option.bind_eq_some_iff.1 hz
    obtain ⟨zs, hc, rfl⟩ := Option.map_eq_some_iff.1 hz
    obtain ⟨he, hxs⟩ := cast_sl hc
    clear hc hz
    subst he
    obtain ⟨a, cap, f, h1, _⟩ := unfoc_rel' h hE hy hu
    exact ⟨id, a, _, cap, rfl, h1⟩
  · cases hz
theorem takeC_mutOk (h : ∀ id x, v0 id = some x → VarRel c0 μ0 w0 id (fp0 id) x) (hE : ∀ id x, E id = some x → v0 id = some x) : (l : List Cm) → {ds : List DVal} → {r : cmD l × List Nat} → takeC E EL l ds = some r → MutOk μ0 l ds
  | [], ds, r, _ => by simp [MutOk]
  | .b :: l, ds, r, hf => by
    cases ds with
    | nil => cases hf
    | cons d q =>
      cases d <;> try (cases hf; done)
      rename_i x
      obtain ⟨y, hy, rfl⟩ := Option.map_eq_some_iff.1 (show ((takeC E EL l q).map fun y => ((x, y.1), y.2)) = some r from hf)
      exact takeC_mutOk h hE l hy
  | .i k :: l, ds, r, hf => by
    cases ds with
    | nil => cases hf
    | cons d q =>
      cases d <;> try (cases hf; done)
      rename_i k' x
      replace hf : (if k = k' then (takeC E EL l q).map fun y => ((x, y.1), y.2) else none) = some r := hf
      split at hf
      case isFalse => cases hf
      obtain ⟨y, hy, rfl⟩ := Option.map_eq_some_iff.1 hf
      exact takeC_mutOk h hE l hy
  | .s :: l, ds, r, hf => by
    cases ds with
    | nil => cases hf
    | cons d q =>
      cases d <;> try (cases hf; done)
      rename_i x
      obtain ⟨y, hy, rfl⟩ := Option.map_eq_some_iff.1 (show ((takeC E EL l q).map fun y => ((x, y.1), y.2)) = some r from hf)
      exact takeC_mutOk h hE l hy
  | .e :: l, ds, r, hf => by
    cases ds with
    | nil => cases hf
    | cons d q =>
      cases d <;> try (cases hf; done)
      rename_i x
      obtain ⟨y, hy, rfl⟩ := Option.map_eq_some_iff.1 (show ((takeC E EL l q).map fun y => ((x, y.1), y.2)) = some r from hf)
      exact takeC_mutOk h hE l hy
  | .ro e :: l, ds, r, hf => by
    cases ds with
    | nil => cases hf
    | cons d q =>
      replace hf : ((listOf EL e d).bind fun x => (takeC E EL l q).map fun y => ((x, y.1), y.2)) = some r := hf
      obtain ⟨x, hx, hf⟩ := Option.bind_eq_some_iff.1 hf
      obtain ⟨y, hy, rfl⟩ := Option.map_eq_some_iff.1 hf
      exact takeC_mutOk h hE l hy
  | .own e :: l, ds, r, hf => by
    cases ds with
    | nil => cases hf
    | cons d q =>
      replace hf : ((takeL E e d).bind fun z => (takeC E EL l q).map fun y => ((z.1, y.1), z.2 ++ y.2)) = some r := hf
      obtain ⟨z, hz, hf⟩ := Option.bind_eq_some_iff.1 hf
      obtain ⟨y, hy, rfl⟩ := Option.map_eq_some_iff.1 hf
      exact takeC_mutOk h hE l hy
  | .mut e :: l, ds, r, hf => by
    cases ds with
    | nil => cases hf
    | cons d q =>
      replace hf : ((mutL E e d).bind fun z => (takeC E EL l q).map fun y => ((z.1, y.1), z.2 ++ y.2)) = some r := hf
      obtain ⟨z, hz, hf⟩ := Option.bind_eq_some_iff.1 hf
      obtain ⟨y, hy, rfl⟩ := Option.map_eq_some_iff.1 hf
      exact ⟨mutL_loc h hE hz, takeC_mutOk h hE l hy⟩
theorem backV_rel : (l : List Cm) → ∀ {vs : List Value} {ds : List DVal} {y : backVD l} {f rest : List Nat} {K : Nat → Prop} {μ : Nat → Loc} {fp : Nat → List Nat} {v : Env},
    Pool c K μ fp v w (f ++ rest) → VsRel c μ0 vs ds → (∀ id ∈ DVal.idsL ds, K0 id) → (∀ id, K0 id → K id ∧ μ id = μ0 id) → MutOk μ0 l ds → backRepV c.fz w l vs y f → (∀ b ∈ f, b < c.w0.heap.size → ∀ j, c.M b j) →
    ∃ fp', Pool c K μ fp' (updF v (news (backV l ds y))) w rest
  | [], vs, ds, y, f, rest, K, μ, fp, v, h, hr, _, _, _, hb, _ => by
    simp only [backRepV] at hb
    obtain ⟨rfl, rfl⟩ := hb
    exact ⟨fp, h⟩
  | .b :: r, vs, ds, y, f, rest, K, μ, fp, v, h, hr, hi, hk, hm, hb, hM => by
    simp only [backRepV] at hb
    obtain ⟨v1, vs', rfl, hb⟩ := hb
    cases ds with
    | nil => simp [MutOk] at hm
    | cons d q =>
      simp only [VsRel] at hr
      obtain ⟨_, _, e, hd, hr⟩ := hr
      cases e
      exact backV_rel r h hr (fun id hi' => hi id (by simp [DVal.idsL, hi'])) hk hm hb hM
  | .i _ :: r, vs, ds, y, f, rest, K, μ, fp, v, h, hr, hi, hk, hm, hb, hM => by
    simp only [backRepV] at hb
    obtain ⟨v1, vs', rfl, hb⟩ := hb
    cases ds with
    | nil => simp [MutOk] at hm
    | cons d q =>
      simp only [VsRel] at hr
      obtain ⟨_, _, e, hd, hr⟩ := hr
      cases e
      exact backV_rel r h hr (fun id hi' => hi id (by simp [DVal.idsL, hi'])) hk hm hb hM
  | .s :: r, vs, ds, y, f, rest, K, μ, fp, v, h, hr, hi, hk, hm, hb, hM => by
    simp only [backRepV] at hb
    obtain ⟨v1, vs', rfl, hb⟩ := hb
    cases ds with
    | nil => simp [MutOk] at hm
    | cons d q =>
      simp only [VsRel] at hr
      obtain ⟨_, _, e, hd, hr⟩ := hr
      cases e
      exact backV_rel r h hr (fun id hi' => hi id (by simp [DVal.idsL, hi'])) hk hm hb hM
  | .e :: r, vs, ds, y, f, rest, K, μ, fp, v, h, hr, hi, hk, hm, hb, hM => by
    simp only [backRepV] at hb
    obtain ⟨v1, vs', rfl, hb⟩ := hb
    cases ds with
    | nil => simp [MutOk] at hm
    | cons d q =>
      simp only [VsRel] at hr
      obtain ⟨_, _, e, hd, hr⟩ := hr
      cases e
      exact backV_rel r h hr (fun id hi' => hi id (by simp [DVal.idsL, hi'])) hk hm hb hM
  | .ro _ :: r, vs, ds, y, f, rest, K, μ, fp, v, h, hr, hi, hk, hm, hb, hM => by
    simp only [backRepV] at hb
    obtain ⟨v1, vs', rfl, hb⟩ := hb
    cases ds with
    | nil => simp [MutOk] at hm
    | cons d q =>
      simp only [VsRel] at hr
      obtain ⟨_, _, e, hd, hr⟩ := hr
      cases e
      exact backV_rel r h hr (fun id hi' => hi id (by simp [DVal.idsL, hi'])) hk hm hb hM
  | .own _ :: r, vs, ds, y, f, rest, K, μ, fp, v, h, hr, hi, hk, hm, hb, hM => by
    simp only [backRepV] at hb
    obtain ⟨v1, vs', rfl, hb⟩ := hb
    cases ds with
    | nil => simp [MutOk] at hm
    | cons d q =>
      simp only [VsRel] at hr
      obtain ⟨_, _, e, hd, hr⟩ := hr
      cases e
      exact backV_rel r h hr (fun id hi' => hi id (by simp [DVal.idsL, hi'])) hk hm hb hM
  | .mut e :: r, vs, ds, y, f, rest, K, μ, fp, v, h, hr, hi, hk, hm, hb, hM => by
    simp only [backRepV] at hb
    obtain ⟨v1, vs', f1, f2, rfl, rfl, hx, hb⟩ := hb
    cases ds with
    | nil => simp [MutOk] at hm
    | cons d q =>
      simp only [VsRel] at hr
      obtain ⟨_, _, e', hd, hr⟩ := hr
      cases e'
      simp only [MutOk] at hm
      have h' : Pool c K μ fp v w (f1 ++ (f2 ++ rest)) := by rw [← List.append_assoc]; exact h
      rcases hm.1 with rfl | ⟨id, a, len, cap, rfl, hμ⟩
      · exact backV_rel r h'.drop hr (fun id hi' => hi id (by simp [DVal.idsL, hi'])) hk hm.2 hb (fun b hb => hM b (by simp [hb]))
      · simp only [VRel] at hd
        obtain ⟨a', len', cap', sz, g1, rfl⟩ := hd
        rw [hμ] at g1; cases g1
        have hid : K0 id := hi id (by simp [DVal.idsL, DVal.ids])
        have hx' := hx
        simp only [Ty.repO] at hx'
        obtain ⟨a2, cap2, e2, _, _⟩ := hx'
        cases e2
        have hvar : VarRel c μ w id f1 (.arr e y.1) := ⟨a, cap, (hk id hid).2.trans hμ, hx, fun b hb => hM b (by simp [hb])⟩
        have h2 := h'.add (K' := K) (μ' := μ) (id0 := id) (fun _ _ => rfl) (fun _ hi => hi) (hk id hid).1 (fun _ hi => by cases hi) hvar
        obtain ⟨fp', h3⟩ := backV_rel r h2 hr (fun id hi' => hi id (by simp [DVal.idsL, hi'])) hk hm.2 hb (fun b hb => hM b (by simp [hb]))
        exact ⟨fp', h3⟩
theorem idsL_splice {l new : List DVal} {off id : Nat} (h : id ∈ DVal.idsL (spliceL l off new)) : id ∈ DVal.idsL l ∨ id ∈ DVal.idsL new := by
  obtain ⟨d, hd, hi⟩ := mem_idsL.1 h
  simp only [spliceL, List.mem_append] at hd
  rcases hd with (hd | hd) | hd
  · exact .inl (mem_idsL.2 ⟨d, List.mem_of_mem_take hd, hi⟩)
  · exact .inr (mem_idsL.2 ⟨d, hd, hi⟩)
  · exact .inl (mem_idsL.2 ⟨d, List.mem_of_mem_drop hd, hi⟩)
def Places (w0 w : World) (g : List (Nat × Nat × Nat)) : Prop :=
  ∀ B o m, (B, o, m) ∈ g → ∃ C C' T, w0.heap[B]? = some (.cells C T (0, 0)) ∧ w.heap[B]? = some (.cells C' T (0, 0)) ∧ C'.size = C.size ∧ ∀ j, ¬ (o ≤ j ∧ j < o + m) → C'[j]? = C[j]?
theorem cells_spliced {C C' : Array Value} {o off n L : Nat} (hz : C'.size = C.size) (hC : o + L ≤ C.size) (hn : off + n ≤ L) (hj : ∀ j, ¬ (o + off ≤ j ∧ j < o + off + n) → C'[j]? = C[j]?) :
    (C'.toList.drop o).take L = ((C.toList.drop o).take L).take off ++ (C'.toList.drop (o + off)).take n ++ ((C.toList.drop o).take L).drop (off + n) := by
  apply List.ext_getElem?
  intro i
  have h1 : (List.take off (List.take L (List.drop o C.toList))).length = off := by simp; omega
  have h2 : (List.take n (List.drop (o + off) C'.toList)).length = n := by simp; omega
  have hg : ∀ j, C'.toList[j]? = C'[j]? := fun j => Array.getElem?_toList
  have hg' : ∀ j, C.toList[j]? = C[j]? := fun j => Array.getElem?_toList
  rw [List.getElem?_append, List.getElem?_append, List.length_append, h1, h2]
  by_cases hi : i < L
  · rw [List.getElem?_take_of_lt hi, List.getElem?_drop, hg]
    by_cases h3 : i < off
    · rw [if_pos (by omega), if_pos h3, List.getElem?_take_of_lt h3, List.getElem?_take_of_lt hi, List.getElem?_drop, hg', hj _ (by omega)]
    · by_cases h4 : i < off + n
      · rw [if_pos h4, if_neg h3, List.getElem?_take_of_lt (by omega), List.getElem?_drop, hg]
        congr 1; omega
      · rw [if_neg h4, List.getElem?_drop, List.getElem?_take_of_lt (by omega), List.getElem?_drop, hg', hj _ (by omega)]
        congr 1; omega
  · rw [List.getElem?_eq_none (by simp; omega), if_neg (by omega), List.getElem?_drop, List.getElem?_eq_none (by simp; omega)]
theorem backI_rel (hv0 : ∀ id x, v0 id = some x → VarRel c0 μ0 w0 id (fp0 id) x) (hx0 : ∀ (ds : List DVal) {vs : List Value}, VsRel c0 μ0 vs ds → VsRel c μ0 vs ds) (hM0 : ∀ b j, (b < c0.w0.heap.size → c0.M b j) → b < c.w0.heap.size → c.M b j) (hE : ∀ id x, E id = some x → v0 id = some x) (hK0 : ∀ id x, v0 id = some x → K0 id ∧ ∀ id' ∈ x.ids, K0 id') {S' : Nat → Prop} :
    (it : Item) → ∀ {d : Value} {dd : DVal} {r : cmD it.cs × List Nat} {y : backID it} {f0 f rest : List Nat} {g : List (Nat × Nat × Nat)} {n : Nat} {K : Nat → Prop} {μ : Nat → Loc} {fp : Nat → List Nat} {v : Env},
    Pool c K μ fp v w (f ++ g.map (·.1) ++ rest) → VRel c μ0 d dd → (∀ id ∈ dd.ids, K0 id) → (∀ id, K0 id → K id ∧ μ id = μ0 id) → takeI E EL it dd = some r → ItemRep S' w0 it d r.1 f0 g → BackRep c.fz w0 w it d y f →
    (∀ b ∈ f, b < c.w0.heap.size → ∀ j, c.M b j) → Places w0 w g → (∀ id, n ≤ id → id < (backI E it dd y n).2 → ¬ K id) →
    n ≤ (backI E it dd y n).2 ∧ Entered c K μ v w rest n (backI E it dd y n).2 (backI E it dd y n).1 fun _ => True
  | ⟨false, a, cs⟩, d, dd, r, y, f0, f, rest, g, n, K, μ, fp, v, h, hd, hi, hk, ht, hr, hb, hM, _, _ => by
    simp only [ItemRep] at hr
    obtain ⟨rfl, _⟩ := hr
    replace ht : (if isAgg dd = a ∧ dd.cells.all DVal.isCell = true then takeC E EL cs dd.cells else none) = some r := ht
    split at ht
    case isFalse => cases ht
    rename_i hc
    have hids : ∀ id ∈ DVal.idsL dd.cells, K0 id := by
      intro id hid
      refine hi id ?_
      by_cases ha : ∃ ds, dd = .agg ds
      · obtain ⟨ds, rfl⟩ := ha; exact hid
      · have hdd : dd.cells = [dd] := by cases dd <;> first | rfl | exact absurd ⟨_, rfl⟩ ha
        rw [hdd] at hid
        simpa [DVal.idsL] using hid
    obtain ⟨fp', h1⟩ := backV_rel cs (by simpa using h) (hd.cells hc.2) hids hk (takeC_mutOk hv0 hE cs ht) hb hM
    exact ⟨Nat.le_refl n, μ, fp', trivial, h1.weaken fun _ => .inl, fun _ _ => rfl⟩
  | ⟨true, a, cs⟩, d, dd, r, y, f0, f, rest, g, n, K, μ, fp, v, h, hd, hi, hk, ht, hr, hb, hM, hP, hfr => by
    cases dd <;> try (cases ht; done)
    rename_i id off
    replace ht : (match E id with | some (.var l) => if off + cs.length ≤ l.length then (takeC E EL cs ((l.drop off).take cs.length)).map fun y => (y.1, id :: y.2) else none | _ => none) = some r := ht
    split at ht
    case h_2 => cases ht
    rename_i l hid
    split at ht
    case isFalse => cases ht
    rename_i hl
    have hv := hE id _ hid
    have hKid := hK0 id _ hv
    obtain ⟨B, o, C, T, h1, h2, h3, h4, h5, h6, h7⟩ := hv0 id _ hv
    replace h5 := hx0 _ h5
    simp only [VRel] at hd
    obtain ⟨B', o', e1, rfl⟩ := hd
    rw [h1] at e1; cases e1
    simp only [ItemRep] at hr
    obtain ⟨B2, o2, C2, T2, rfl, e2, _, _, hr⟩ := hr
    simp only [Value.pointer.injEq, Option.some.injEq, Addr.mk.injEq, and_true] at e2
    obtain ⟨rfl, rfl⟩ := e2
    obtain ⟨B3, o3, e3, hb⟩ := hb
    simp only [Value.pointer.injEq, Option.some.injEq, Addr.mk.injEq, and_true] at e3
    obtain ⟨rfl, rfl⟩ := e3
    obtain ⟨C1, C', T', p1, p2, p3, p4⟩ := hP B (o + off) cs.length (by simp)
    rw [h3] at p1; cases p1
    have hsub : cellsAt w0 B (o + off) cs.length = ((cellsAt w0 B o l.length).drop off).take cs.length := cellsAt_sub (by omega)
    have hbk : backI E ⟨true, a, cs⟩ (.vptr id off) y n = ((backP cs ((l.drop off).take cs.length) y n).2.1 ++ [(id, .var (spliceL l off (backP cs ((l.drop off).take cs.length) y n).1))], (backP cs ((l.drop off).take cs.length) y n).2.2) := by
      show (match E id with | some (.var l) => _ | _ => _) = _
      rw [hid]
    rw [hbk] at hfr ⊢
    simp only at hfr ⊢
    have hpart : ∀ i ∈ DVal.idsL ((l.drop off).take cs.length), K0 i := fun i hi' => by
      obtain ⟨q, hq, hqi⟩ := mem_idsL.1 hi'
      exact hKid.2 i (mem_idsL.2 ⟨q, List.mem_of_mem_drop (List.mem_of_mem_take hq), hqi⟩)
    have hcell : ((l.drop off).take cs.length).all DVal.isCell = true := by
      rw [List.all_eq_true] at h6 ⊢
      exact fun q hq => h6 q (List.mem_of_mem_drop (List.mem_of_mem_take hq))
    have hlen : (cellsAt w B (o + off) cs.length).length = cs.length := by
      rw [cellsAt_of p2]; simp; omega
    obtain ⟨μ1, fp1, g1, g2, g3⟩ := backP_rel (K0 := K0) (μ0 := μ0) cs (rest := [B] ++ rest) (by simpa using h) (by rw [hsub]; exact (h5.drop off).take cs.length) hpart hk hb hM hfr
    have hle := backP_le cs ((l.drop off).take cs.length) y n
    have hok := backP_ok (K := K0) cs ((l.drop off).take cs.length) y n hcell hpart
    have hnl : (backP cs ((l.drop off).take cs.length) y n).1.length = cs.length := by rw [← g1.length, hlen]
    have hag : ∀ i, K0 i → μ1 i = μ0 i := fun i hi' => (g3 i (hk i hi').1).trans (hk i hi').2
    have hvar : VarRel c μ1 w id [B] (.var (spliceL l off (backP cs ((l.drop off).take cs.length) y n).1)) := by
      refine ⟨B, o, C', T, (hag id hKid.1).trans h1, rfl, p2, ?_, ?_, spliceL_isCell h6 hok.1, ?_⟩
      · rw [spliceL_length (by omega)]; omega
      · rw [spliceL_length (by omega), cellsAt_of p2, cells_spliced p3 h4 hl p4]
        have := spliceL_rel (VsRel.mono l (fun i hi' => hag i (hKid.2 i hi')) h5) g1 off
        rw [hlen] at this
        rw [cellsAt_of h3, cellsAt_of p2] at this
        exact this
      · intro hlt j hj
        rw [spliceL_length (by omega)] at hj
        exact hM0 B (o + j) (fun q => h7 q j hj) hlt
    refine ⟨hle, μ1, fun k => if k = id then [B] else fp1 k, trivial, ?_, g3⟩
    rw [news_append, updF_append]
    refine g2.add (μ' := μ1) (fun _ _ => rfl) (fun _ hi' => hi') (.inl (hk id hKid.1).1) (fun i hi' => ?_) hvar
    rcases idsL_splice hi' with hi' | hi'
    · exact .inl (hk i (hKid.2 i hi')).1
    · rcases hok.2 i hi' with q | q
      · exact .inl (hk i q).1
      · exact .inr q
theorem backI_le {E : Env} : (it : Item) → (d : DVal) → (y : backID it) → (n : Nat) → n ≤ (backI E it d y n).2
  | ⟨false, _, cs⟩, d, y, n => Nat.le_refl n
  | ⟨true, a, cs⟩, d, y, n => by
    cases d <;> try exact Nat.le_refl n
    rename_i id off
    show n ≤ (match E id with | some (.var l) => ((backP cs ((l.drop off).take cs.length) y n).2.1 ++ [(id, DVar.var (spliceL l off (backP cs ((l.drop off).take cs.length) y n).1))], (backP cs ((l.drop off).take cs.length) y n).2.2) | _ => (([], n) : List (Nat × DVar) × Nat)).2
    split
    · exact backP_le _ _ _ _
    · exact Nat.le_refl n
theorem backIs_le {E : Env} : (l : List Item) → (ds : List DVal) → (y : backD l) → (n : Nat) → n ≤ (backIs E l ds y n).2
  | [], _, _, n => Nat.le_refl n
  | it :: l, [], _, n => Nat.le_refl n
  | it :: l, d :: q, y, n => Nat.le_trans (backI_le it d y.1 n) (backIs_le l q y.2 _)
theorem backIs_rel (hv0 : ∀ id x, v0 id = some x → VarRel c0 μ0 w0 id (fp0 id) x) (hx0 : ∀ (ds : List DVal) {vs : List Value}, VsRel c0 μ0 vs ds → VsRel c μ0 vs ds) (hM0 : ∀ b j, (b < c0.w0.heap.size → c0.M b j) → b < c.w0.heap.size → c.M b j) (hE : ∀ id x, E id = some x → v0 id = some x) (hK0 : ∀ id x, v0 id = some x → K0 id ∧ ∀ id' ∈ x.ids, K0 id') {S' : Nat → Prop} :
    (l : List Item) → ∀ {vs : List Value} {ds : List DVal} {r : itemsD l × List Nat} {y : backD l} {f0 f rest : List Nat} {g : List (Nat × Nat × Nat)} {n : Nat} {K : Nat → Prop} {μ : Nat → Loc} {fp : Nat → List Nat} {v : Env},
    Pool c K μ fp v w (f ++ g.map (·.1) ++ rest) → VsRel c μ0 vs ds → (∀ id ∈ DVal.idsL ds, K0 id) → (∀ id, K0 id → K id ∧ μ id = μ0 id) → takeIs E EL l ds = some r → ItemsRep S' w0 l vs r.1 f0 g → BacksRep c.fz w0 w l vs y f →
    (∀ b ∈ f, b < c.w0.heap.size → ∀ j, c.M b j) → Places w0 w g → (∀ id, n ≤ id → id < (backIs E l ds y n).2 → ¬ K id) →
    n ≤ (backIs E l ds y n).2 ∧ Entered c K μ v w rest n (backIs E l ds y n).2 (backIs E l ds y n).1 fun _ => True
  | [], vs, ds, r, y, f0, f, rest, g, n, K, μ, fp, v, h, hd, hi, hk, ht, hr, hb, hM, _, _ => by
    simp only [ItemsRep] at hr
    obtain ⟨rfl, rfl, rfl⟩ := hr
    simp only [BacksRep] at hb
    obtain ⟨_, rfl⟩ := hb
    exact ⟨Nat.le_refl n, μ, fp, trivial, Pool.weaken (show Pool c K μ fp v w rest by simpa using h) fun _ => .inl, fun _ _ => rfl⟩
  | it :: l, vs, ds, r, y, f0, f, rest, g, n, K, μ, fp, v, h, hd, hi, hk, ht, hr, hb, hM, hP, hfr => by
    cases ds with
    | nil => cases ht
    | cons d q =>
      replace ht : ((takeI E EL it d).bind fun x => (takeIs E EL l q).map fun y => ((x.1, y.1), x.2 ++ y.2)) = some r := ht
      obtain ⟨z, hz, ht⟩ := Option.bind_eq_some_iff.1 ht
      obtain ⟨z2, hz2, rfl⟩ := Option.map_eq_some_iff.1 ht
      simp only [ItemsRep] at hr
      obtain ⟨d1, vs', f1, f2, g1, g2, rfl, rfl, rfl, hr1, hr⟩ := hr
      simp only [BacksRep] at hb
      obtain ⟨d2, vs2, b1, b2, e, rfl, hb1, hb⟩ := hb
      cases e
      simp only [VsRel] at hd
      obtain ⟨d3, vs3, e, hd1, hd⟩ := hd
      cases e
      have hp : (b1 ++ b2 ++ (g1 ++ g2).map (·.1) ++ rest).Perm (b1 ++ g1.map (·.1) ++ (b2 ++ g2.map (·.1) ++ rest)) := by
        rw [List.map_append]
        refine (List.Perm.append_right rest (perm_items b1 b2 _ _)).trans ?_
        rw [List.append_assoc]
      have e1 : (backIs E (it :: l) (d :: q) y n).2 = (backIs E l q y.2 (backI E it d y.1 n).2).2 := rfl
      have e2 : (backIs E (it :: l) (d :: q) y n).1 = (backI E it d y.1 n).1 ++ (backIs E l q y.2 (backI E it d y.1 n).2).1 := rfl
      rw [e1] at hfr ⊢
      rw [e2]
      have hle2 : (backI E it d y.1 n).2 ≤ (backIs E l q y.2 (backI E it d y.1 n).2).2 := backIs_le l q y.2 _
      obtain ⟨l1, μ1, fp1, _, q2, q3⟩ := backI_rel hv0 hx0 hM0 hE hK0 it (h.perm hp) hd1 (fun id hi' => hi id (by simp [DVal.idsL, hi'])) hk hz hr1 hb1 (fun b hb => hM b (by simp [hb])) (fun B o m hm => hP B o m (by simp [hm])) (fun id p1 p2 => hfr id p1 (by omega))
      obtain ⟨l2, μ2, fp2, _, p2, p3⟩ := backIs_rel hv0 hx0 hM0 hE hK0 l q2 hd (fun id hi' => hi id (by simp [DVal.idsL, hi'])) (fun id hi' => ⟨.inl (hk id hi').1, (q3 id (hk id hi').1).trans (hk id hi').2⟩) hz2 hr hb (fun b hb => hM b (by simp [hb]))
        (fun B o m hm => hP B o m (by simp [hm])) (fun id p1 p2 p3 => p3.elim (hfr id (by omega) p2) (by omega))
      refine ⟨by omega, μ2, fp2, trivial, ?_, fun id hi' => (p3 id (.inl hi')).trans (q3 id hi')⟩
      rw [news_append, updF_append]
      refine p2.weaken fun id hi' => ?_
      rcases hi' with (hi' | hi') | hi'
      · exact .inl hi'
      · right; omega
      · right; omega
end
end
section
open Go
variable {z : Fz}
theorem fst_inj : ∀ {g : List (Nat × Nat × Nat)}, (g.map (·.1)).Nodup → ∀ {B : Nat} {x y : Nat × Nat}, (B, x) ∈ g → (B, y) ∈ g → x = y
  | [], _, _, _, _, h, _ => by cases h
  | a :: g, hn, B, x, y, h1, h2 => by
    simp only [List.map_cons, List.nodup_cons] at hn
    rcases List.mem_cons.1 h1 with e1 | h1
    · rcases List.mem_cons.1 h2 with e2 | h2
      · rw [← e1] at e2; cases e2; rfl
      · exact absurd (List.mem_map.2 ⟨_, h2, by rw [← e1]⟩) hn.1
    · rcases List.mem_cons.1 h2 with e2 | h2
      · exact absurd (List.mem_map.2 ⟨_, h1, by rw [← e2]⟩) hn.1
      · exact fst_inj hn.2 h1 h2
theorem resV_rel {c : Ctx} {μ : Nat → Loc} {vs : List Value} {ds : List DVal} (h : VsRel c μ vs ds) : VRel c μ (retV vs) (resV ds) := by
  match ds, h with
  | [], h => simp only [VsRel] at h; subst h; simp only [retV, resV, VRel]; exact ⟨_, rfl, by simp [VsRel]⟩
  | [d], h =>
    simp only [VsRel] at h
    obtain ⟨v, vs', rfl, h1, rfl⟩ := h
    exact h1
  | d1 :: d2 :: ds, h =>
    have h' := h
    simp only [VsRel] at h
    obtain ⟨v, vs', rfl, _, v2, vs2, rfl, _, _⟩ := h
    simp only [retV, resV, VRel]
    exact ⟨_, rfl, h'⟩
theorem same_arr {C C' : Array Value} (h : ∀ j : Nat, C'[j]? = C[j]?) : C' = C := by
  apply Array.ext_getElem?
  exact h
theorem ItemsRep_cells {S : Nat → Prop} {w : World} : (l : List Item) → {vs : List Value} → {x : itemsD l} → {f : List Nat} → {g : List (Nat × Nat × Nat)} → ItemsRep S w l vs x f g → ∀ B o m, (B, o, m) ∈ g → ∃ C T, w.heap[B]? = some (.cells C T (0, 0))
  | [], _, _, _, _, h => by simp only [ItemsRep] at h; obtain ⟨_, rfl, rfl⟩ := h; simp
  | it :: r, _, _, _, _, h => by
    simp only [ItemsRep] at h; obtain ⟨v, vs', f1, f2, g1, g2, rfl, rfl, rfl, h1, h⟩ := h
    intro B o m hm
    rcases List.mem_append.1 hm with hm | hm
    · obtain ⟨p, a, cs⟩ := it
      cases p with
      | false => simp only [ItemRep] at h1; rw [h1.1] at hm; cases hm
      | true =>
        simp only [ItemRep] at h1
        obtain ⟨B', o', C, T, rfl, _, hb, _⟩ := h1
        simp only [List.mem_singleton, Prod.mk.injEq] at hm
        obtain ⟨rfl, _, _⟩ := hm
        exact ⟨C, T, hb⟩
    · exact ItemsRep_cells r h B o m hm
theorem backRepV_lt {w : World} : (l : List Cm) → {vs : List Value} → {y : backVD l} → {f : List Nat} → backRepV z w l vs y f → ∀ b ∈ f, b < w.heap.size
  | [], _, _, _, h => by simp only [backRepV] at h; rw [h.2]; simp
  | .b :: r, _, _, _, h => by simp only [backRepV] at h; obtain ⟨_, vs', rfl, h⟩ := h; exact backRepV_lt r h
  | .i _ :: r, _, _, _, h => by simp only [backRepV] at h; obtain ⟨_, vs', rfl, h⟩ := h; exact backRepV_lt r h
  | .s :: r, _, _, _, h => by simp only [backRepV] at h; obtain ⟨_, vs', rfl, h⟩ := h; exact backRepV_lt r h
  | .e :: r, _, _, _, h => by simp only [backRepV] at h; obtain ⟨_, vs', rfl, h⟩ := h; exact backRepV_lt r h
  | .ro e :: r, _, _, _, h => by simp only [backRepV] at h; obtain ⟨_, vs', rfl, h⟩ := h; exact backRepV_lt r h
  | .own e :: r, _, _, _, h => by simp only [backRepV] at h; obtain ⟨_, vs', rfl, h⟩ := h; exact backRepV_lt r h
  | .mut e :: r, _, _, _, h => by
    simp only [backRepV] at h; obtain ⟨_, vs', f1, f2, rfl, rfl, h1, h⟩ := h
    intro b hb
    rcases List.mem_append.1 hb with hb | hb
    · exact Ty.repO_lt _ h1 b hb
    · exact backRepV_lt r h b hb
theorem backRepP_lt {w : World} : (l : List Cm) → {os vs : List Value} → {y : backPD l} → {f : List Nat} → backRepP z w l os vs y f → ∀ b ∈ f, b < w.heap.size
  | [], _, _, _, _, h => by simp only [backRepP] at h; rw [h.2.2]; simp
  | .b :: r, _, _, _, _, h => by simp only [backRepP] at h; obtain ⟨_, _, vs', rfl, rfl, h⟩ := h; exact backRepP_lt r h
  | .i _ :: r, _, _, _, _, h => by simp only [backRepP] at h; obtain ⟨_, _, vs', rfl, rfl, h⟩ := h; exact backRepP_lt r h
  | .s :: r, _, _, _, _, h => by simp only [backRepP] at h; obtain ⟨_, _, vs', rfl, rfl, _, h⟩ := h; exact backRepP_lt r h
  | .e :: r, _, _, _, _, h => by simp only [backRepP] at h; obtain ⟨_, _, _, vs', rfl, rfl, _, h⟩ := h; exact backRepP_lt r h
  | .ro e :: r, _, _, _, _, h => by simp only [backRepP] at h; obtain ⟨_, _, vs', rfl, rfl, h⟩ := h; exact backRepP_lt r h
  | .own e :: r, _, _, _, _, h => by
    simp only [backRepP] at h; obtain ⟨_, _, _, vs', f1, f2, rfl, rfl, rfl, h1, h⟩ := h
    intro b hb
    rcases List.mem_append.1 hb with hb | hb
    · exact Ty.repO_lt _ h1 b hb
    · exact backRepP_lt r h b hb
  | .mut e :: r, _, _, _, _, h => by
    simp only [backRepP] at h; obtain ⟨_, _, _, vs', f1, f2, rfl, rfl, rfl, h1, h⟩ := h
    intro b hb
    rcases List.mem_append.1 hb with hb | hb
    · exact Ty.repO_lt _ h1 b hb
    · exact backRepP_lt r h b hb
theorem backsRep_lt {w w' : World} : (l : List Item) → {vs : List Value} → {y : backD l} → {f : List Nat} → BacksRep z w w' l vs y f → ∀ b ∈ f, b < w'.heap.size
  | [], _, _, _, h => by simp only [BacksRep] at h; rw [h.2]; simp
  | it :: r, _, _, _, h => by
    simp only [BacksRep] at h; obtain ⟨v, vs', f1, f2, rfl, rfl, h1, h⟩ := h
    intro b hb
    rcases List.mem_append.1 hb with hb | hb
    · obtain ⟨p, a, cs⟩ := it
      cases p with
      | false => exact backRepV_lt cs h1 b hb
      | true => obtain ⟨B, o, _, h1⟩ := h1; exact backRepP_lt cs h1 b hb
    · exact backsRep_lt r h b hb
theorem itsP_true (l : List Item) : itsP (fun _ => true) l = true := by
  unfold itsP
  rw [List.all_eq_true]
  intro it _
  rw [List.all_eq_true]
  intro x _
  cases x <;> rfl
theorem backRepV_conv {p : Ty → Bool} {z z' : Fz} {w : World} (H : ∀ (e : Ty), p e = true → ∀ (cs : List Value) (x : List e.D) (f : List Nat), (Ty.sl e).repO z w cs x f → (Ty.sl e).repO z' w cs x f) :
    (l : List Cm) → l.all (cmP p) = true → {vs : List Value} → {y : backVD l} → {f : List Nat} → backRepV z w l vs y f → backRepV z' w l vs y f
  | [], _, _, _, _, h => by simp only [backRepV] at h ⊢; exact h
  | .b :: r, hn, _, _, _, h => by simp only [backRepV] at h ⊢; obtain ⟨a, vs', e, h⟩ := h; exact ⟨a, vs', e, backRepV_conv H r (by simpa [cmP] using hn) h⟩
  | .i _ :: r, hn, _, _, _, h => by simp only [backRepV] at h ⊢; obtain ⟨a, vs', e, h⟩ := h; exact ⟨a, vs', e, backRepV_conv H r (by simpa [cmP] using hn) h⟩
  | .s :: r, hn, _, _, _, h => by simp only [backRepV] at h ⊢; obtain ⟨a, vs', e, h⟩ := h; exact ⟨a, vs', e, backRepV_conv H r (by simpa [cmP] using hn) h⟩
  | .e :: r, hn, _, _, _, h => by simp only [backRepV] at h ⊢; obtain ⟨a, vs', e, h⟩ := h; exact ⟨a, vs', e, backRepV_conv H r (by simpa [cmP] using hn) h⟩
  | .ro _ :: r, hn, _, _, _, h => by simp only [backRepV] at h ⊢; obtain ⟨a, vs', e, h⟩ := h; exact ⟨a, vs', e, backRepV_conv H r (by simpa [cmP] using hn) h⟩
  | .own _ :: r, hn, _, _, _, h => by
    simp only [List.all_cons, Bool.and_eq_true] at hn
    simp only [backRepV] at h ⊢; obtain ⟨a, vs', e, h⟩ := h; exact ⟨a, vs', e, backRepV_conv H r hn.2 h⟩
  | .mut e :: r, hn, _, _, _, h => by
    simp only [List.all_cons, Bool.and_eq_true, cmP] at hn
    simp only [backRepV] at h ⊢
    obtain ⟨a, vs', f1, f2, e1, e2, h1, h⟩ := h
    exact ⟨a, vs', f1, f2, e1, e2, H e hn.1 _ _ _ h1, backRepV_conv H r hn.2 h⟩
theorem backRepP_conv {p : Ty → Bool} {z z' : Fz} {w : World} (H : ∀ (e : Ty), p e = true → ∀ (cs : List Value) (x : List e.D) (f : List Nat), (Ty.sl e).repO z w cs x f → (Ty.sl e).repO z' w cs x f) :
    (l : List Cm) → l.all (cmP p) = true → {os vs : List Value} → {y : backPD l} → {f : List Nat} → backRepP z w l os vs y f → backRepP z' w l os vs y f
  | [], _, _, _, _, _, h => by simp only [backRepP] at h ⊢; exact h
  | .b :: r, hn, _, _, _, _, h => by simp only [backRepP] at h ⊢; obtain ⟨a, b, vs', e1, e2, h⟩ := h; exact ⟨a, b, vs', e1, e2, backRepP_conv H r (by simpa [cmP] using hn) h⟩
  | .i _ :: r, hn, _, _, _, _, h => by simp only [backRepP] at h ⊢; obtain ⟨a, b, vs', e1, e2, h⟩ := h; exact ⟨a, b, vs', e1, e2, backRepP_conv H r (by simpa [cmP] using hn) h⟩
  | .s :: r, hn, _, _, _, _, h => by simp only [backRepP] at h ⊢; obtain ⟨a, b, vs', e1, e2, e3, h⟩ := h; exact ⟨a, b, vs', e1, e2, e3, backRepP_conv H r (by simpa [cmP] using hn) h⟩
  | .e :: r, hn, _, _, _, _, h => by simp only [backRepP] at h ⊢; obtain ⟨a, b, v, vs', e1, e2, e3, h⟩ := h; exact ⟨a, b, v, vs', e1, e2, e3, backRepP_conv H r (by simpa [cmP] using hn) h⟩
  | .ro _ :: r, hn, _, _, _, _, h => by simp only [backRepP] at h ⊢; obtain ⟨a, b, vs', e1, e2, h⟩ := h; exact ⟨a, b, vs', e1, e2, backRepP_conv H r (by simpa [cmP] using hn) h⟩
  | .own e :: r, hn, _, _, _, _, h => by
    simp only [List.all_cons, Bool.and_eq_true, cmP] at hn
    simp only [backRepP] at h ⊢
    obtain ⟨a, b, v, vs', f1, f2, e1, e2, e3, h1, h⟩ := h
    exact ⟨a, b, v, vs', f1, f2, e1, e2, e3, H e hn.1 _ _ _ h1, backRepP_conv H r hn.2 h⟩
  | .mut e :: r, hn, _, _, _, _, h => by
    simp only [List.all_cons, Bool.and_eq_true, cmP] at hn
    simp only [backRepP] at h ⊢
    obtain ⟨a, b, v, vs', f1, f2, e1, e2, e3, h1, h⟩ := h
    exact ⟨a, b, v, vs', f1, f2, e1, e2, e3, H e hn.1 _ _ _ h1, backRepP_conv H r hn.2 h⟩
theorem backsRep_conv {p : Ty → Bool} {z z' : Fz} {w w' : World} (H : ∀ (e : Ty), p e = true → ∀ (cs : List Value) (x : List e.D) (f : List Nat), (Ty.sl e).repO z w' cs x f → (Ty.sl e).repO z' w' cs x f) :
    (l : List Item) → itsP p l = true → {vs : List Value} → {y : backD l} → {f : List Nat} → BacksRep z w w' l vs y f → BacksRep z' w w' l vs y f
  | [], _, _, _, _, h => by simp only [BacksRep] at h ⊢; exact h
  | it :: r, hn, _, _, _, h => by
    have hn' : it.cs.all (cmP p) = true ∧ itsP p r = true := by simpa [itsP] using hn
    simp only [BacksRep] at h ⊢
    obtain ⟨v, vs', f1, f2, e1, e2, h1, h⟩ := h
    refine ⟨v, vs', f1, f2, e1, e2, ?_, backsRep_conv H r hn'.2 h⟩
    obtain ⟨q, a, cs⟩ := it
    cases q with
    | false => exact backRepV_conv H cs hn'.1 h1
    | true => obtain ⟨B, o, e3, h1⟩ := h1; exact ⟨B, o, e3, backRepP_conv H cs hn'.1 h1⟩
theorem con_view {P : Program} {K : Con} (hK : K.Ok P) {u : Nat × (Int → Int × Int)} (hu : K.vw = some u) {ds : List DVal} {E : Env} {r : Res} (ho : (viewD E u.1 u.2 ds).eval = some r)
    (c : Ctx) (μ : Nat → Loc) (fp : Nat → List Nat) (s : FSt) (w : World) (vs : List Value) (hv : RelV c μ fp s.v w) (ev : Ev c w) (hvs : VsRel c μ vs ds)
    (hE : ∀ id x, E id = some x → s.v id = some x) :
    Called P K.f vs.toArray w fun v' w' => ∃ c' μ' fp', Ext c c' ∧ Post c' μ s r v' w' μ' fp' := by
  unfold Con.Ok at hK
  rw [hu] at hK
  replace hK : ∀ (ad : Option Addr) (len cap : Nat) (n : Int) (w : World), len ≤ cap → 0 ≤ (u.2 n).1 → (u.2 n).1 ≤ (u.2 n).2 → (u.2 n).2 ≤ (len : Int) →
      Called P K.f #[.slice ad len cap, .int .i64 n] w fun v' w' => v' = .slice (if cap = (u.2 n).1.toNat then ad else ad.map (·.add ((u.2 n).1.toNat * u.1))) ((u.2 n).2.toNat - (u.2 n).1.toNat) (cap - (u.2 n).1.toNat) ∧ w' = w := hK
  unfold viewD at ho
  split at ho
  · rename_i id n
    obtain ⟨m, hm, hr⟩ := of_eval ho
    split at hr
    · rename_i hsz
      rcases ite_eval hr with ⟨h0, hr⟩ | ⟨_, hr⟩
      · have h0 := of_decide_eq_true h0
        rw [ret1_eval hr]
        obtain ⟨ad, len, cap, g1, g2, g3, g4⟩ := itemSize_rel hv hE hsz
        simp only [VsRel, VRel] at hvs
        obtain ⟨v1, _, rfl, ⟨ad', len', cap', sz, q1, rfl⟩, v2, _, rfl, rfl, rfl⟩ := hvs
        rw [g1] at q1; cases q1
        obtain rfl : len = m := Option.some.inj (g4.symm.trans hm)
        refine (hK ad len cap n w g2 h0.1 h0.2.1 h0.2.2).mono fun v' w' ⟨hv', hw'⟩ => ?_
        subst hw'
        refine ⟨c, μ, fp, Ext.refl c, ⟨fun _ _ => rfl, ?_, hv, ev⟩⟩
        rw [hv']
        simp only [VRel, Nat.zero_add]
        refine ⟨ad, len, cap, u.1, _, g1, by omega, g2, rfl, ?_⟩
        by_cases hcc : cap = (u.2 n).1.toNat
        · left; omega
        · right
          obtain ⟨b, o', rfl⟩ := g3 (by omega)
          refine ⟨b, o', rfl, ?_⟩
          rw [if_neg hcc]
          simp only [Option.map_some, Addr.add]
          split <;> simp_all
      · cases hr
    · cases hr
  · rename_i e xs tk n
    split at ho
    · rename_i hsz
      rcases ite_eval ho with ⟨h0, hr⟩ | ⟨_, hr⟩
      · have h0 := of_decide_eq_true h0
        rw [ret1_eval hr]
        simp only [VsRel, VRel] at hvs
        obtain ⟨v1, _, rfl, ⟨hrep, _⟩, v2, _, rfl, rfl, rfl⟩ := hvs
        have hv0 : ∃ ad cap, v1 = .slice ad xs.length cap ∧ xs.length ≤ cap ∧ (xs = [] ∨ ∃ b o', ad = some ⟨b, o', none⟩) := by
          simp only [Ty.repS] at hrep
          obtain ⟨ad, cap, e1, hc, h3⟩ := hrep
          refine ⟨ad, cap, (List.cons.inj e1).1, hc.1, ?_⟩
          rcases h3 with h3 | ⟨b, o', h3, _⟩
          · exact .inl h3
          · exact .inr ⟨b, o', h3⟩
        obtain ⟨ad, cap, rfl, hc, had⟩ := hv0
        refine (hK ad xs.length cap n w hc h0.1 h0.2.1 h0.2.2).mono fun v' w' ⟨hv', hw'⟩ => ?_
        subst hw'
        refine ⟨c, μ, fp, Ext.refl c, ⟨fun _ _ => rfl, ?_, hv, ev⟩⟩
        rw [hv']
        simp only [VRel]
        refine ⟨?_, by simp⟩
        by_cases hx0 : xs = []
        · subst hx0
          simp only [List.length_nil] at h0 ⊢
          have e1 : (u.2 n).2.toNat - (u.2 n).1.toNat = 0 := by omega
          rw [e1]
          simp only [List.take_zero]
          simp only [Ty.repS]
          exact ⟨_, _, rfl, ⟨Nat.zero_le _, Nat.zero_le _⟩, .inl rfl⟩
        · obtain ⟨b, o', rfl⟩ := had.resolve_left hx0
          refine repS_sub hrep (by omega) ?_
          by_cases hcc : cap = (u.2 n).1.toNat
          · left; omega
          · right; refine ⟨b, o', rfl, ?_⟩
            rw [if_neg hcc]
            simp only [Option.map_some, Addr.add, hsz]
            split <;> simp_all
      · cases hr
    · cases ho
  · cases ho
theorem con_call {P : Program} {K : Con} (hK : K.Ok P) (hvw : K.vw = none) {ds : List DVal} {E : Env} {fr : Nat} {o : Out Res} {r : Res} (hcall : K.call ds E fr = some o) (ho : o.eval = some r)
    (c : Ctx) (μ : Nat → Loc) (fp : Nat → List Nat) (s : FSt) (w : World) (vs : List Value) (hP : c.P = P) (hv : RelV c μ fp s.v w) (hkn : Known s) (ev : Ev c w) (hvs : VsRel c μ vs ds) (hids : ∀ id ∈ DVal.idsL ds, s.k id)
    (hE : ∀ id x, E id = some x → s.v id = some x) (hfr : ∀ id, fr ≤ id → id < fr + 64 → ¬ s.k id) :
    Called P K.f vs.toArray w fun v' w' => ∃ c' μ' fp', Ext c c' ∧ Post c' μ s r v' w' μ' fp' := by
  unfold Con.Ok at hK
  rw [hvw] at hK
  unfold Con.call at hcall
  obtain ⟨is, his, hcall⟩ := Option.bind_eq_some_iff.1 hcall
  obtain ⟨x, hx, hcall⟩ := Option.bind_eq_some_iff.1 hcall
  split at hcall
  case isFalse => cases hcall
  rename_i hc
  obtain ⟨hnd, hlend⟩ := hc
  obtain rfl := Option.some.inj hcall
  obtain ⟨y, hy, hr⟩ := bind_eval ho
  obtain ⟨ivs, hiv, rfl, hsub⟩ := unlay_rel K.lay his hvs
  have hids' : ∀ id ∈ DVal.idsL is, s.k id := fun id hi => hids id (hsub id hi)
  have hn := nodupB_iff _ hnd
  -- what is lent
  generalize hEL : lendE K E is = EL at hx hlend
  have hEL' : ∀ id x, EL id = some x → s.v id = some x := by
    intro id z hz
    rw [← hEL] at hz
    unfold lendE at hz
    by_cases hl : K.lend = true
    · rw [if_pos hl] at hz
      cases h0 : takeIs E E K.its is with
      | none => rw [h0] at hz; cases hz
      | some q =>
        rw [h0] at hz
        replace hz : (if q.2.contains id = true then none else E id) = some z := hz
        split at hz
        · cases hz
        · exact hE id z hz
    · rw [if_neg hl] at hz
      cases hz
  have hELn : K.lend = false → ∀ id, EL id = none := by
    intro hl id
    rw [← hEL]
    unfold lendE
    rw [if_neg (by simp [hl])]
    rfl
  have hout : ∀ id ∈ x.2, EL id = none := by
    intro id hi
    rcases hlend with hl | ⟨_, hl⟩
    · exact hELn hl id
    · have := List.all_eq_true.1 hl id hi
      cases he : EL id with
      | none => rfl
      | some z => rw [he] at this; cases this
  let S' : Nat → Prop := fun b => c.S b ∨ ∃ id, EL id ≠ none ∧ b ∈ fp id
  have hvn : ∀ id, EL id ≠ none → s.v id ≠ none := fun id hi => by
    obtain ⟨z, hz⟩ := Option.ne_none_iff_exists'.1 hi
    rw [hEL' id z hz]; simp
  have hS' : SOk S' w := by
    refine ⟨?_, c.hS.2.mono (fun b hb => .inl hb) ev.S⟩
    rintro b (hb | ⟨id, hi, hb⟩)
    · exact Nat.lt_of_lt_of_le (c.hS.1 b hb) ev.size
    · exact hv.lt id (hvn id hi) b hb
  obtain ⟨f, g, hrep, hg⟩ := takeIs_rel hv ev hE hEL' (S' := S') (fun b hb => .inl hb) (fun id hi b hb => .inr ⟨id, hi, hb⟩) K.its hiv hx hn
  have hfar : ∀ b ∈ f ++ g.map (·.1), ∀ id, s.v id ≠ none → id ∉ x.2 → b ∉ fp id := by
    intro b hb id hi hni hb'
    obtain ⟨i, him, hm⟩ := hg.mem b hb
    exact hv.sep i id (fun e => hni (e ▸ him)) (hg.there i him).1 hi b hm hb'
  have hnotS : ∀ b ∈ f ++ g.map (·.1), ¬ S' b := by
    rintro b hb (hs | ⟨id, hi, hm⟩)
    · obtain ⟨i, him, hm⟩ := hg.mem b hb
      exact hv.notS i (hg.there i him).1 b hm hs
    · refine hfar b hb id (hvn id hi) (fun him => hi (hout id him)) hm
  have hlt := ItemsRep_lt K.its hrep
  refine (hK x.1 y hy S' w hS' ivs f g hrep hg.nodup hnotS).mono fun v' w' hd => ?_
  obtain ⟨⟨rvs, f1, g1, f2, rfl, ⟨S2, _, hs2, hs3, hrs, hbk⟩, hnd2, hfresh⟩, hev⟩ := hd
  have hsize := hev.size
  have hsize : w.heap.size ≤ w'.heap.size := hsize
  have hcw : c.w0.heap.size ≤ w.heap.size := ev.size
  have hgn : (g.map (·.1)).Nodup := (List.nodup_append.1 hg.nodup).2.1
  -- the memory
  have hev' : Ev c w' := by
    refine ev.comp hev rfl (fun b hb => .inl hb) fun b j hb hm => ?_
    rcases hm with hm | ⟨o, m, hm, h1, h2⟩
    · exact hg.may b hm hb j
    · have := hg.mayG b o m hm hb (j - o) (by omega)
      rwa [show o + (j - o) = j by omega] at this
  have hsame : ∀ id, s.v id ≠ none → id ∉ x.2 → ∀ b ∈ fp id, w'.heap[b]? = w.heap[b]? := by
    intro id hi hni b hb
    rcases hev.old b (hv.lt id hi b hb) with e | ⟨C, C', T, h1, h2, h3, h4⟩ | ⟨hm, _⟩
    · exact e
    · have h1 : w.heap[b]? = some (.cells C T (0, 0)) := h1
      have : C' = C := same_arr fun j => h4 j fun hm => by
        rcases hm with hm | ⟨o, m, hm, _, _⟩
        · exact hfar b (by simp [hm]) id hi hni hb
        · exact hfar b (List.mem_append.2 (.inr (List.mem_map.2 ⟨_, hm, rfl⟩))) id hi hni hb
      rw [h2, h1, this]
    · rcases hm with hm | ⟨o, m, hm, _, _⟩
      · exact absurd (by simp [hm]) fun q => hfar b q id hi hni hb
      · exact absurd (List.mem_append.2 (.inr (List.mem_map.2 ⟨_, hm, rfl⟩))) fun q => hfar b q id hi hni hb
  have hplaces : Places w w' g := by
    intro B o m hm
    have hB : B ∈ f ++ g.map (·.1) := List.mem_append.2 (.inr (List.mem_map.2 ⟨_, hm, rfl⟩))
    obtain ⟨C0, T0, hC0⟩ := ItemsRep_cells K.its hrep B o m hm
    rcases hev.old B (hlt B hB) with e | ⟨C, C', T, h1, h2, h3, h4⟩ | ⟨_, _, _, _, h1, _⟩
    · have e : w'.heap[B]? = w.heap[B]? := e
      exact ⟨C0, C0, T0, hC0, by rw [e, hC0], rfl, fun _ _ => rfl⟩
    · refine ⟨C, C', T, h1, h2, h3, fun j hj => h4 j fun hm' => ?_⟩
      rcases hm' with hm' | ⟨o', m', hm', q1, q2⟩
      · exact (List.nodup_append.1 hg.nodup).2.2 B hm' B (List.mem_map.2 ⟨_, hm, rfl⟩) rfl
      · have := fst_inj hgn hm hm'
        cases this
        exact hj ⟨q1, q2⟩
    · have h1 : w.heap[B]? = some (.stringIter _ _) := h1
      rw [hC0] at h1; cases h1
  -- the variables that are left
  let v0 : Env := updF s.v (x.2.map fun k => (k, none))
  have hv0 : ∀ id, v0 id = if id ∈ x.2 then none else s.v id := fun id => updF_none s.v x.2 id
  have hv0n : ∀ id, v0 id ≠ none → id ∉ x.2 ∧ s.v id ≠ none := by
    intro id hi
    rw [hv0] at hi
    split at hi
    · exact absurd rfl hi
    · exact ⟨‹_›, hi⟩
  have hrel0 : RelV c μ fp v0 w' := hv.less (fun id => by
    rw [hv0]
    split
    · exact .inl rfl
    · exact .inr rfl) hsize fun id hi b hb => hsame id (hv0n id hi).2 (hv0n id hi).1 b hb
  have hperm : (f1 ++ g1.map (·.1) ++ (f2 ++ g.map (·.1))).Perm (f2 ++ g.map (·.1) ++ (f1 ++ g1.map (·.1) ++ [])) := by
    rw [List.append_nil]; exact List.perm_append_comm
  have hltr := ItemsRep_lt K.rs hrs
  have hin : ∀ b ∈ f2 ++ g.map (·.1) ++ (f1 ++ g1.map (·.1) ++ []), (b ∈ f ++ g.map (·.1)) ∨ w.heap.size ≤ b := by
    intro b hb
    simp only [List.append_nil, List.mem_append] at hb
    rcases hb with (hb | hb) | hb
    · exact (hfresh b (by simp [hb])).imp (fun h => by simp [h]) id
    · left; simp only [List.mem_append]; exact .inr hb
    · exact (hfresh b (by simp only [List.mem_append]; exact .inl hb)).imp (fun h => by simp [h]) id
  -- the context from here on
  let Sn : Nat → Prop := fun b => c.S b ∨ (K.lend = false ∧ S2 b)
  have hSn2 : ∀ b, Sn b → c.S b ∨ w.heap.size ≤ b ∨ b ∈ f := by
    rintro b (hb | ⟨hl, hb⟩)
    · exact .inl hb
    · rcases (hs2 b hb).1 with (h | ⟨id, hi, _⟩) | h
      · exact .inl h
      · exact absurd (hELn hl id) hi
      · exact .inr h
  have hSn : SOk Sn w' := by
    refine ⟨?_, c.hS.2.mono (fun b hb => .inl hb) hev'.S⟩
    rintro b (hb | ⟨_, hb⟩)
    · have := c.hS.1 b hb; omega
    · exact (hs2 b hb).2
  have hext : Ext c (c.next w' Sn hSn) := Ext.next hev' (fun b hb => .inl hb) fun b hb => by
    rcases hSn2 b hb with h | h | h
    · exact .inl h
    · exact .inr (.inl (Nat.le_trans hcw h))
    · rcases Nat.lt_or_ge b c.w0.heap.size with hlt' | hge
      · exact .inr (.inr (hg.may b h hlt'))
      · exact .inr (.inl hge)
  have hpool : Pool (c.next w' Sn hSn) s.k μ fp v0 w' (f2 ++ g.map (·.1) ++ (f1 ++ g1.map (·.1) ++ [])) := by
    refine ⟨hrel0.next hext fun id hi b hb hs => ?_, fun id z hz => ?_, hperm.nodup_iff.1 hnd2, fun id hi b hb hb' => ?_, fun b hb => ?_⟩
    · rcases hSn2 b hs with h | h | h
      · exact hrel0.notS id hi b hb h
      · have := hv.lt id (hv0n id hi).2 b hb; omega
      · exact hfar b (List.mem_append.2 (.inl h)) id (hv0n id hi).2 (hv0n id hi).1 hb
    · have hz' : s.v id = some z := by
        have := hv0n id (by rw [hz]; simp)
        rw [hv0, if_neg this.1] at hz
        exact hz
      exact hkn.v id z hz'
    · obtain ⟨h1, h2⟩ := hv0n id hi
      rcases hin b hb' with h | h
      · exact hfar b h id h2 h1 hb
      · have := hv.lt id h2 b hb; omega
    · constructor
      · rintro (hs | ⟨_, hs⟩)
        · rcases hin b hb with h | h
          · exact hnotS b h (.inl hs)
          · have := c.hS.1 b hs; omega
        · exact hs3 b (hperm.mem_iff.2 hb) hs
      · simp only [List.append_nil, List.mem_append] at hb
        rcases hb with (hb | hb) | hb
        · exact backsRep_lt K.its hbk b hb
        · exact Nat.lt_of_lt_of_le (hlt b (by simp only [List.mem_append]; exact .inr hb)) hsize
        · exact hltr b (by simpa only [List.mem_append] using hb)
  have hMf : ∀ b, (b ∈ f ∨ w.heap.size ≤ b) → b < c.w0.heap.size → ∀ j, c.M b j := by
    intro b hb hlt' j
    rcases hb with hb | hb
    · exact hg.may b hb hlt' j
    · omega
  have hMn : ∀ b, (b ∈ f ∨ w.heap.size ≤ b) → ∀ j, (c.next w' Sn hSn).M b j := by
    intro b hb j
    rcases Nat.lt_or_ge b c.w0.heap.size with hlt | hge
    · exact .inl (hMf b hb hlt j)
    · exact .inr hge
  -- what comes back, and what is new
  unfold after at hr
  simp only at hr
  split at hr
  case isFalse => cases hr
  rename_i hcnt
  obtain rfl := Option.some.inj hr
  rw [enterIs_N] at hcnt
  have hle := itsN_le K.rs (backIs E K.its is y.2 fr).2
  replace hbk : BacksRep (c.next w' Sn hSn).fz w w' K.its ivs y.2 f2 := by
    rcases hlend with hl | ⟨hl, _⟩
    · exact backsRep_conv (p := fun _ => true) (fun e _ _ _ _ h => Ty.repO_mono (show Fz.le ⟨S2, w'⟩ ⟨Sn, w'⟩ from fun b hb => ⟨.inr ⟨hl, hb⟩, rfl⟩) _ h) K.its (itsP_true K.its) hbk
    · exact backsRep_conv (p := Ty.noFz) (fun e he _ _ _ h => Ty.repO_noFz (.sl e) he h) K.its hl.2 hbk
  obtain ⟨hle2, μ1, fp1, _, hp1, ha1⟩ := backIs_rel hv.rel (fun ds _ hr => VsRel.ext hext ds hr) (fun b j hb _ => by
    rcases Nat.lt_or_ge b c.w0.heap.size with hlt' | hge
    · exact .inl (hb hlt')
    · exact .inr hge) hE hkn.v K.its hpool (VsRel.ext hext _ hiv) hids' (fun id hi => ⟨hi, rfl⟩) hx hrep hbk (fun b hb _ => hMn b (hfresh b (by simp [hb]))) hplaces
    (fun id q1 q2 => hfr id q1 (by omega))
  have hrs' : ItemsRep Sn w' K.rs rvs y.1 f1 g1 := by
    rcases hlend with hl | ⟨hl, _⟩
    · exact ItemsRep_S (fun b hb => .inr ⟨hl, hb⟩) K.rs hrs
    · exact ItemsRep_roFree K.rs hl.1 hrs
  obtain ⟨μ2, fp2, hres, hp2, ha2⟩ := enterIs_rel false (fun b hb => ⟨hb, rfl⟩) K.rs hp1 hrs' (ToksIs_false _ _ _) (fun b hb _ => hMn b (hfresh b (by simp [hb])))
    (fun B o m hm _ j _ => hMn B (hfresh B (by simp only [List.mem_append, List.mem_map]; exact .inl (.inr ⟨_, hm, rfl⟩))) (o + j)) (n := (backIs E K.its is y.2 fr).2)
    (fun id q1 q2 q3 => q3.elim (hfr id (by omega) (by omega)) (by omega))
  refine ⟨_, μ2, fp2, hext, ⟨fun id hi => (ha2 id (.inl hi)).trans (ha1 id hi), resV_rel hres, ?_, Ev.start _⟩⟩
  rw [updF_append, news_append, updF_append]
  exact hp2.rel
theorem callL_ok {P : Program} : ∀ (l : List Con), (∀ K ∈ l, K.Ok P) → ∀ {C : Cx}, (C.call = callL l) → CallsOk C P := by
  intro l hl C hC f ds E fr r hr c μ fp s w vs hP hv hkn ev hvs hids hE hfr
  rw [hC] at hr
  clear hC
  induction l with
  | nil => cases hr
  | cons K l ih =>
    simp only [callL] at hr
    split at hr
    · rename_i e; subst e
      split at hr
      · rename_i v e
        exact con_view (hl K (by simp)) e hr c μ fp s w vs hv ev hvs hE
      · rename_i e0
        split at hr
        · rename_i o e
          exact con_call (hl K (by simp)) e0 e hr c μ fp s w vs hP hv hkn ev hvs hids hE hfr
        · exact ih (fun K hK => hl K (by simp [hK])) hr
    · exact ih (fun K hK => hl K (by simp [hK])) hr
end
section
open Go
variable {z : Fz}
mutual
def Ty.WF : (t : Ty) → t.D → Prop
  | .str, x => List.length x ≤ BIG
  | .sl e, xs => List.length xs ≤ BIG ∧ ∀ (i : Nat) (y : e.D), nth (α := e.D) xs i = some y → e.WF y
  | .fz e, xs => List.length xs ≤ BIG ∧ ∀ (i : Nat) (y : e.D), nth (α := e.D) xs i = some y → e.WF y
  | .st fs, x => fs.WF x
  | .bool, _ => True
  | .int _, _ => True
def Tys.WF : (ts : Tys) → ts.D → Prop
  | .nil, _ => True
  | .cons t ts, x => t.WF x.1 ∧ ts.WF x.2
end
mutual
theorem Ty.repS_WF {S : Nat → Prop} {w : World} : (t : Ty) → {cs : List Value} → {x : t.D} → t.repS S w cs x → t.WF x
  | .bool, _, _, _ => by simp [Ty.WF]
  | .int _, _, _, _ => by simp [Ty.WF]
  | .str, _, _, h => by simp only [Ty.repS] at h; simp only [Ty.WF]; exact h.2
  | .sl e, _, xs, h => by
    simp only [Ty.repS] at h
    obtain ⟨a, cap, _, hc, h⟩ := h
    simp only [Ty.WF]
    refine ⟨hc.2, fun i y hy => ?_⟩
    rcases h with h | ⟨b, o, _, _, hi⟩
    · subst h; simp [nth] at hy
    · exact Ty.repS_WF e (hi i y hy)
  | .fz e, _, xs, h => by
    simp only [Ty.repS] at h
    obtain ⟨a, cap, _, hc, h⟩ := h
    simp only [Ty.WF]
    refine ⟨hc.2, fun i y hy => ?_⟩
    rcases h with h | ⟨b, o, _, _, hi⟩
    · subst h; simp [nth] at hy
    · exact Ty.repS_WF e (hi i y hy)
  | .st fs, _, _, h => by simp only [Ty.repS] at h; simp only [Ty.WF]; exact Tys.repS_WF fs h
theorem Tys.repS_WF {S : Nat → Prop} {w : World} : (t : Tys) → {cs : List Value} → {x : t.D} → t.repS S w cs x → t.WF x
  | .nil, _, _, _ => by simp [Tys.WF]
  | .cons t ts, _, _, h => by
    simp only [Tys.repS] at h; obtain ⟨c1, c2, _, h1, h2⟩ := h
    simp only [Tys.WF]; exact ⟨Ty.repS_WF t h1, Tys.repS_WF ts h2⟩
end
mutual
theorem Ty.repO_WF {w : World} : (t : Ty) → {cs : List Value} → {x : t.D} → {f : List Nat} → t.repO z w cs x f → t.WF x
  | .bool, _, _, _, _ => by simp [Ty.WF]
  | .int _, _, _, _, _ => by simp [Ty.WF]
  | .str, _, _, _, h => by simp only [Ty.repO] at h; simp only [Ty.WF]; exact h.2.2
  | .sl e, _, xs, _, h => by
    simp only [Ty.repO] at h
    obtain ⟨a, cap, _, hc, h⟩ := h
    simp only [Ty.WF]
    refine ⟨hc.2, fun i y hy => ?_⟩
    have hlt : i < List.length xs := (List.getElem?_eq_some_iff.1 hy).1
    rcases h with ⟨h0, _⟩ | ⟨b, o, c, E, fps, _, _, _, hl, _, hi⟩
    · omega
    · exact Ty.repO_WF e (hi i y (fps[i]'(hl ▸ hlt)) hy (List.getElem?_eq_getElem _))
  | .fz e, _, _, _, h => by simp only [Ty.repO] at h; exact Ty.repS_WF (.fz e) h.1
  | .st fs, _, _, _, h => by simp only [Ty.repO] at h; simp only [Ty.WF]; exact Tys.repO_WF fs h
theorem Tys.repO_WF {w : World} : (t : Tys) → {cs : List Value} → {x : t.D} → {f : List Nat} → t.repO z w cs x f → t.WF x
  | .nil, _, _, _, _ => by simp [Tys.WF]
  | .cons t ts, _, _, _, h => by
    simp only [Tys.repO] at h; obtain ⟨c1, c2, f1, f2, _, _, h1, h2⟩ := h
    simp only [Tys.WF]; exact ⟨Ty.repO_WF t h1, Tys.repO_WF ts h2⟩
end
theorem repO_WF {w : World} {t : Ty} {cs : List Value} {x : t.D} {f : List Nat} (h : t.repO z w cs x f) : t.WF x := Ty.repO_WF t h
def cmWF : (l : List Cm) → cmD l → Prop
  | [], _ => True
  | .b :: r, x => cmWF r x.2
  | .i _ :: r, x => cmWF r x.2
  | .s :: r, x => List.length x.1 ≤ BIG ∧ cmWF r x.2
  | .e :: r, x => cmWF r x.2
  | .ro e :: r, x => (Ty.sl e).WF x.1 ∧ cmWF r x.2
  | .own e :: r, x => (Ty.sl e).WF x.1 ∧ cmWF r x.2
  | .mut e :: r, x => (Ty.sl e).WF x.1 ∧ cmWF r x.2
def itemsWF : (l : List Item) → itemsD l → Prop
  | [], _ => True
  | it :: r, x => cmWF it.cs x.1 ∧ itemsWF r x.2
theorem cmRep_WF {S : Nat → Prop} {w : World} : (l : List Cm) → {vs : List Value} → {x : cmD l} → {f : List Nat} → cmRep S w l vs x f → cmWF l x
  | [], _, _, _, _ => by simp [cmWF]
  | .b :: r, _, _, _, h => by simp only [cmRep] at h; obtain ⟨vs', rfl, h⟩ := h; exact cmRep_WF r h
  | .i _ :: r, _, _, _, h => by simp only [cmRep] at h; obtain ⟨vs', rfl, h⟩ := h; exact cmRep_WF r h
  | .s :: r, _, _, _, h => by simp only [cmRep] at h; obtain ⟨vs', rfl, hl, h⟩ := h; exact ⟨hl, cmRep_WF r h⟩
  | .e :: r, _, _, _, h => by simp only [cmRep] at h; obtain ⟨_, vs', rfl, hl, h⟩ := h; exact cmRep_WF r h
  | .ro e :: r, _, _, _, h => by simp only [cmRep] at h; obtain ⟨v, vs', rfl, h1, h⟩ := h; exact ⟨Ty.repS_WF _ h1, cmRep_WF r h⟩
  | .own e :: r, _, _, _, h => by simp only [cmRep] at h; obtain ⟨v, vs', f1, f2, rfl, rfl, h1, h⟩ := h; exact ⟨repO_WF h1, cmRep_WF r h⟩
  | .mut e :: r, _, _, _, h => by simp only [cmRep] at h; obtain ⟨v, vs', f1, f2, rfl, rfl, h1, h⟩ := h; exact ⟨repO_WF h1, cmRep_WF r h⟩
theorem ItemsRep_WF {S : Nat → Prop} {w : World} : (l : List Item) → {vs : List Value} → {x : itemsD l} → {f : List Nat} → {g : List (Nat × Nat × Nat)} → ItemsRep S w l vs x f g → itemsWF l x
  | [], _, _, _, _, _ => by simp [itemsWF]
  | it :: r, _, _, _, _, h => by
    simp only [ItemsRep] at h; obtain ⟨v, vs', f1, f2, g1, g2, rfl, rfl, rfl, h1, h⟩ := h
    refine ⟨?_, ItemsRep_WF r h⟩
    obtain ⟨p, a, cs⟩ := it
    cases p with
    | false => simp only [ItemRep] at h1; exact cmRep_WF cs h1.2.1
    | true => simp only [ItemRep] at h1; obtain ⟨_, _, _, _, _, _, _, _, h1⟩ := h1; exact cmRep_WF cs h1
theorem layD_rel {c : Ctx} {μ : Nat → Loc} : (l : Lay) → {vs : List Value} → {ds : List DVal} → VsRel c μ vs ds → VsRel c μ (layV l vs) (layD l ds)
  | [], _, _, _ => by simp [layV, layD, VsRel]
  | none :: l, vs, ds, h => by
    cases ds with
    | nil => simp only [VsRel] at h; subst h; exact layD_rel l (by simp [VsRel])
    | cons d ds =>
      simp only [VsRel] at h
      obtain ⟨v, vs', rfl, h1, h2⟩ := h
      simp only [layV, layD, VsRel]
      exact ⟨v, _, rfl, h1, layD_rel l h2⟩
  | some (g, k) :: l, vs, ds, h => by
    simp only [layV, layD, VsRel, VRel]
    exact ⟨_, _, rfl, ⟨_, rfl, h.take k⟩, layD_rel l (h.drop k)⟩
theorem layD_ids : (l : Lay) → {ds : List DVal} → ∀ id ∈ DVal.idsL (layD l ds), id ∈ DVal.idsL ds
  | [], _ => by intro id h; cases h
  | none :: l, [] => fun id h => layD_ids l id h
  | none :: l, d :: ds => by
    intro id h
    simp only [layD, DVal.idsL, List.mem_append] at h ⊢
    exact h.imp (fun h => h) (layD_ids l id)
  | some (g, k) :: l, ds => by
    intro id h
    simp only [layD, DVal.idsL, DVal.ids, List.mem_append] at h
    rcases h with h | h
    · obtain ⟨d, hd, hi⟩ := mem_idsL.1 h
      exact mem_idsL.2 ⟨d, List.mem_of_mem_take hd, hi⟩
    · obtain ⟨d, hd, hi⟩ := mem_idsL.1 (layD_ids l id h)
      exact mem_idsL.2 ⟨d, List.mem_of_mem_drop hd, hi⟩
def tokC : List Cm → List Value → Nat → Nat → Value
  | .b :: r, _ :: vs, n => tokC r vs n
  | .i _ :: r, _ :: vs, n => tokC r vs n
  | .s :: r, _ :: vs, n => tokC r vs n
  | .e :: r, _ :: vs, n => tokC r vs n
  | .ro _ :: r, v :: vs, n => fun k => if k = n then v else tokC r vs (n + 1) k
  | .own _ :: r, _ :: vs, n => tokC r vs (n + 1)
  | .mut _ :: r, _ :: vs, n => tokC r vs (n + 1)
  | _, _, _ => fun _ => Go.undef
def tokI (w : World) : Item → Value → Nat → Nat → Value
  | ⟨false, _, cs⟩, v, n => tokC cs v.cells.toList n
  | ⟨true, _, cs⟩, .pointer (some a), n => tokC cs (cellsAt w a.block a.off cs.length) (n + 1)
  | ⟨true, _, _⟩, _, _ => fun _ => Go.undef
def tokIs (w : World) : List Item → List Value → Nat → Nat → Value
  | it :: r, v :: vs, n => fun k => if k < itN it n then tokI w it v n k else tokIs w r vs (itN it n) k
  | _, _, _ => fun _ => Go.undef
theorem Toks_of {c : Ctx} {tk : Bool} : (l : List Cm) → {vs : List Value} → {n : Nat} → (∀ k, n ≤ k → k < cmN l n → c.tok k = tokC l vs n k) → Toks c tk l vs n
  | [], _, _, _ => by simp [Toks]
  | .b :: r, [], _, _ => by simp [Toks]
  | .i _ :: r, [], _, _ => by simp [Toks]
  | .s :: r, [], _, _ => by simp [Toks]
  | .e :: r, [], _, _ => by simp [Toks]
  | .ro _ :: r, [], _, _ => by simp [Toks]
  | .own _ :: r, [], _, _ => by simp [Toks]
  | .mut _ :: r, [], _, _ => by simp [Toks]
  | .b :: r, _ :: vs, n, h => Toks_of r h
  | .i _ :: r, _ :: vs, n, h => Toks_of r h
  | .s :: r, _ :: vs, n, h => Toks_of r h
  | .e :: r, _ :: vs, n, h => Toks_of r h
  | .ro _ :: r, v :: vs, n, h => by
    have l1 := cmN_le r (n + 1)
    have h : ∀ k, n ≤ k → k < cmN r (n + 1) → c.tok k = if k = n then v else tokC r vs (n + 1) k := h
    refine ⟨fun _ => ?_, Toks_of r fun k h1 h2 => ?_⟩
    · rw [h n (Nat.le_refl n) (by omega), if_pos rfl]
    · rw [h k (by omega) h2, if_neg (by omega)]
  | .own _ :: r, _ :: vs, n, h => Toks_of r fun k h1 h2 => h k (by omega) h2
  | .mut _ :: r, _ :: vs, n, h => Toks_of r fun k h1 h2 => h k (by omega) h2
theorem ToksIs_of {c : Ctx} {tk : Bool} {w : World} : (l : List Item) → {vs : List Value} → {n : Nat} → (∀ k, n ≤ k → k < itsN l n → c.tok k = tokIs w l vs n k) → ToksIs c tk w l vs n
  | [], _, _, _ => by simp [ToksIs]
  | it :: r, [], _, _ => by simp [ToksIs]
  | it :: r, v :: vs, n, h => by
    have h : ∀ k, n ≤ k → k < itsN r (itN it n) → c.tok k = if k < itN it n then tokI w it v n k else tokIs w r vs (itN it n) k := h
    have l1 := itN_le it n
    have l2 := itsN_le r (itN it n)
    refine ⟨?_, ToksIs_of r fun k h1 h2 => ?_⟩
    · obtain ⟨p, a, cs⟩ := it
      cases p with
      | false =>
        refine Toks_of cs fun k h1 h2 => ?_
        have h2 : k < itN ⟨false, a, cs⟩ n := h2
        rw [h k h1 (by omega), if_pos h2]; rfl
      | true =>
        intro B o e
        subst e
        refine Toks_of cs fun k h1 h2 => ?_
        have h2 : k < itN ⟨true, a, cs⟩ n := h2
        rw [h k (by omega) (by omega), if_pos h2]; rfl
    · rw [h k (by omega) h2, if_neg (by omega)]
def resGet (tmps : Array Value) : ResultVar → Sem Value
  | .tmp t => pure (tmps.getD t Go.undef)
  | .cell a t => do loadVar t (← asAddr (tmps.getD a Go.undef))
theorem results_list {fn : Func} {rl : List ResultVar} (h : fn.results = rl.toArray) (hl : rl.length ≤ 6) {tmps : Array Value} {P : Program} {w : World} {vals : List Value}
    (hv : rl.map (fun r => (resGet tmps r).run P w) = vals.map fun v => .ok v w) : (results fn tmps).run P w = .ok (retV vals) w := by
  have he : results fn tmps = (do
      let vs ← fn.results.mapM (resGet tmps)
      pure (if h : vs.size = 1 then vs[0] else .tuple vs)) := by
    unfold results
    congr 1
  rw [he, h]
  clear he h
  rcases rl with _ | ⟨a, _ | ⟨b, _ | ⟨c, _ | ⟨d, _ | ⟨e, _ | ⟨f, _ | ⟨g, l⟩⟩⟩⟩⟩⟩⟩ <;> rcases vals with _ | ⟨u1, _ | ⟨u2, _ | ⟨u3, _ | ⟨u4, _ | ⟨u5, _ | ⟨u6, _ | ⟨u7, m⟩⟩⟩⟩⟩⟩⟩ <;>
    first
      | (simp at hv; done)
      | (exfalso; simp only [List.length_cons] at hl; omega)
      | (simp at hv; simp [hv, retV]; done)
      | simp [retV]
theorem resDs_rel {c : Ctx} {C : Cx} (hC : CxOk C c.P) {μ : Nat → Loc} {fp : Nat → List Nat} {s : DSt} {n : Nat} {a : Act} {w : World} (h : RelX c μ fp s.f n a w) :
    ∀ (rl : List ResultVar) {ds : List DVal}, resDs C s rl = some ds → ∃ vals, VsRel c μ vals ds ∧ rl.map (fun r => (resGet a.tmps r).run c.P w) = vals.map fun v => .ok v w
  | [], ds, hd => by
    cases hd
    exact ⟨[], by simp [VsRel], rfl⟩
  | r :: l, ds, hd => by
    simp only [resDs] at hd
    obtain ⟨d, h1, hd⟩ := Option.bind_eq_some_iff.1 hd
    obtain ⟨q, h2, rfl⟩ := Option.map_eq_some_iff.1 hd
    obtain ⟨vals, g1, g2⟩ := resDs_rel hC h l h2
    have hone : ∃ v, VRel c μ v d ∧ (resGet a.tmps r).run c.P w = .ok v w := by
      cases r with
      | tmp j =>
        obtain rfl := Option.some.inj h1
        exact ⟨_, h.tm j, by simp [resGet]⟩
      | cell j t =>
        simp only [resD] at h1
        split at h1
        case h_2 => cases h1
        rename_i id off hj
        split at h1
        case h_2 => cases h1
        rename_i cs hcs
        obtain ⟨ty, hty, h1⟩ := Option.bind_eq_some_iff.1 h1
        split at h1
        case isFalse => cases h1
        rename_i hle
        obtain rfl := Option.some.inj h1
        have hv := h.tm j
        have hj : s.f.t j = .vptr id off := hj
        rw [hj] at hv
        simp only [VRel] at hv
        obtain ⟨B, o, e1, e2⟩ := hv
        have hcs : s.f.v id = some (.var cs) := env_of_v hcs
        obtain ⟨B', o', D, T, e3, e4, e5, e6, e7, e8, _⟩ := h.vs.rel id _ hcs
        rw [e1] at e3; cases e3
        have hsub : cellsAt w B (o + off) ty.size = ((cellsAt w B o cs.length).drop off).take ty.size := cellsAt_sub hle
        have hr : VsRel c μ (cellsAt w B (o + off) ty.size) ((cs.drop off).take ty.size) := by rw [hsub]; exact (e7.drop off).take ty.size
        have hlen : ((cs.drop off).take ty.size).length = ty.size := by simp; omega
        refine ⟨_, mkVal_rel hr hlen, ?_⟩
        simp only [resGet, e2]
        have := loadVar_run (w := w) (hC.ty t ty hty) (B := B) (o' := o + off) rfl (hr.length.trans hlen)
        simpa [asAddr] using this
    obtain ⟨v, hv, hrun⟩ := hone
    exact ⟨v :: vals, by simp only [VsRel]; exact ⟨v, vals, rfl, hv, g1⟩, by simp only [List.map_cons, hrun, g2]⟩
theorem enterIs_ids (tk : Bool) : (l : List Item) → (x : itemsD l) → (n : Nat) → ∀ id ∈ DVal.idsL (enterIs tk l x n).1, n ≤ id ∧ id < itsN l n
  | [], _, _ => by intro id h; cases h
  | it :: r, x, n => by
    intro id h
    have h : id ∈ (enterI tk it x.1 n).1.ids ++ DVal.idsL (enterIs tk r x.2 (enterI tk it x.1 n).2.2).1 := h
    rw [enterI_N] at h
    have l1 := itN_le it n
    have l2 := itsN_le r (itN it n)
    simp only [itsN]
    rcases List.mem_append.1 h with h | h
    · have := enterI_ids tk it x.1 n id h; omega
    · have := enterIs_ids tk r x.2 _ id h; omega
theorem gpos {S : Nat → Prop} {w : World} : (l : List Item) → {vs : List Value} → {x : itemsD l} → {f : List Nat} → {g : List (Nat × Nat × Nat)} → (l.all fun it => decide (0 < it.cs.length)) = true → ItemsRep S w l vs x f g → ∀ B o m, (B, o, m) ∈ g → 0 < m
  | [], _, _, _, _, _, h => by simp only [ItemsRep] at h; obtain ⟨_, rfl, rfl⟩ := h; simp
  | it :: r, _, _, _, _, hp, h => by
    simp only [ItemsRep] at h; obtain ⟨v, vs', f1, f2, g1, g2, rfl, rfl, rfl, h1, h⟩ := h
    simp only [List.all_cons, Bool.and_eq_true, decide_eq_true_eq] at hp
    intro B o m hm
    rcases List.mem_append.1 hm with hm | hm
    · obtain ⟨p, a, cs⟩ := it
      cases p with
      | false => simp only [ItemRep] at h1; rw [h1.1] at hm; cases hm
      | true =>
        simp only [ItemRep] at h1
        obtain ⟨B', o', C, T, rfl, _, hb, _⟩ := h1
        simp only [List.mem_singleton, Prod.mk.injEq] at hm
        obtain ⟨rfl, _, rfl⟩ := hm
        exact hp.1
    · exact gpos r hp.2 h B o m hm
mutual
theorem VRel.setLoc {c : Ctx} {l μ : Nat → Loc} : {v : Value} → (d : DVal) → VRel c μ v d → VRel { c with loc := l } μ v d
  | _, .dead, h => h
  | _, .deadc, h => h
  | _, .undef, h => h
  | _, .b _, h => h
  | _, .i _ _, h => h
  | _, .s _, h => h
  | _, .ro _ _ _, h => h
  | _, .nilS, h => h
  | _, .sref id none, h => h
  | _, .sref id (some (o, l)), h => h
  | _, .vptr id off, h => h
  | _, .eptr id i off, h => h
  | _, .rop _ _ _, h => h
  | _, .er _, h => h
  | _, .agg ds, h => by simp only [VRel] at h ⊢; obtain ⟨vs, e, h⟩ := h; exact ⟨vs, e, VsRel.setLoc ds h⟩
  | _, .tup ds, h => by simp only [VRel] at h ⊢; obtain ⟨vs, e, h⟩ := h; exact ⟨vs, e, VsRel.setLoc ds h⟩
  | _, .fn f ds, h => by simp only [VRel] at h ⊢; obtain ⟨vs, e, h⟩ := h; exact ⟨vs, e, VsRel.setLoc ds h⟩
theorem VsRel.setLoc {c : Ctx} {l μ : Nat → Loc} : {vs : List Value} → (ds : List DVal) → VsRel c μ vs ds → VsRel { c with loc := l } μ vs ds
  | _, [], h => h
  | _, d :: ds, h => by
    simp only [VsRel] at h ⊢; obtain ⟨v, vs', e, h1, h2⟩ := h
    exact ⟨v, vs', e, VRel.setLoc d h1, VsRel.setLoc ds h2⟩
end
theorem RelV.setLoc {c : Ctx} {l μ : Nat → Loc} {fp : Nat → List Nat} {v : Env} {w : World} (h : RelV c μ fp v w) : RelV { c with loc := l } μ fp v w := by
  refine ⟨fun id x hx => ?_, h.nodup, h.sep, h.notS, h.lt⟩
  have := h.rel id x hx
  cases x with
  | var cs =>
    obtain ⟨B, o, C, E, h1, h2, h3, h4, h5, h6, h7⟩ := this
    exact ⟨B, o, C, E, h1, h2, h3, h4, VsRel.setLoc cs h5, h6, h7⟩
  | arr e xs => exact this
  | foc e xs x i off u id' => exact this
  | it _ _ => exact this
structure BodyOk (P : Program) (C : Cx) (K : Con) (fn : Func) (code : Code) (rtm : List ResultVar) (A : Nat → Option LoopAnn) : Prop where
  func : P.funcs[K.f]? = some fn
  body : fn.body = some code
  name : (fn.name == "runtime.NumGoroutine") = false
  res : fn.results = rtm.toArray
  few : rtm.length ≤ 6
  cnt : itsN K.its 0 ≤ 64
  pos : (K.rs.all fun it => decide (0 < it.cs.length)) = true
  run : ∀ x y, itemsWF K.its x → (K.F x).eval = some y → (bodyOut C A code K.its K.lay fn.ntmps K.rs rtm x).eval = some y
theorem plainIts_cm {S : Nat → Prop} {w : World} : (l : List Cm) → (l.all fun c => match c with | .own _ => false | .mut _ => false | _ => true) = true → {vs : List Value} → {x : cmD l} → {f : List Nat} → cmRep S w l vs x f → f = []
  | [], _, _, _, _, h => by simp only [cmRep] at h; exact h.2
  | .b :: r, hp, _, _, _, h => by simp only [cmRep] at h; obtain ⟨vs', _, h⟩ := h; exact plainIts_cm r (by simpa using hp) h
  | .i _ :: r, hp, _, _, _, h => by simp only [cmRep] at h; obtain ⟨vs', _, h⟩ := h; exact plainIts_cm r (by simpa using hp) h
  | .s :: r, hp, _, _, _, h => by simp only [cmRep] at h; obtain ⟨vs', _, _, h⟩ := h; exact plainIts_cm r (by simpa using hp) h
  | .e :: r, hp, _, _, _, h => by simp only [cmRep] at h; obtain ⟨_, vs', _, _, h⟩ := h; exact plainIts_cm r (by simpa using hp) h
  | .ro e :: r, hp, _, _, _, h => by simp only [cmRep] at h; obtain ⟨v, vs', _, _, h⟩ := h; exact plainIts_cm r (by simpa using hp) h
  | .own e :: r, hp, _, _, _, _ => by simp at hp
  | .mut e :: r, hp, _, _, _, _ => by simp at hp
theorem plainIts_nil {S : Nat → Prop} {w : World} : (l : List Item) → plainIts l = true → {vs : List Value} → {x : itemsD l} → {f : List Nat} → {g : List (Nat × Nat × Nat)} → ItemsRep S w l vs x f g → f = [] ∧ g = []
  | [], _, _, _, _, _, h => by simp only [ItemsRep] at h; exact h.2
  | ⟨true, _, _⟩ :: r, hp, _, _, _, _, _ => by simp [plainIts] at hp
  | ⟨false, a, cs⟩ :: r, hp, _, _, _, _, h => by
    simp only [plainIts, List.all_cons, Bool.and_eq_true] at hp
    simp only [ItemsRep] at h
    obtain ⟨v, vs', f1, f2, g1, g2, _, rfl, rfl, h1, h⟩ := h
    simp only [ItemRep] at h1
    obtain ⟨rfl, h1, _⟩ := h1
    obtain rfl := plainIts_cm cs hp.1.2 h1
    obtain ⟨rfl, rfl⟩ := plainIts_nil r hp.2 h
    exact ⟨rfl, rfl⟩
structure BodySim (P : Program) (C : Cx) (K : Con) (fn : Func) (code : Code) (rtm : List ResultVar) : Prop where
  func : P.funcs[K.f]? = some fn
  body : fn.body = some code
  name : (fn.name == "runtime.NumGoroutine") = false
  res : fn.results = rtm.toArray
  few : rtm.length ≤ 6
  cnt : itsN K.its 0 ≤ 64
  pos : (K.rs.all fun it => decide (0 < it.cs.length)) = true
  run : ∀ x y, itemsWF K.its x → (K.F x).eval = some y → ∀ (c : Ctx) (n : Nat) (a : Act) (w : World), c.P = P → DRel c n (entry K.its K.lay fn.ntmps x) a w →
    code.wp P (fun e a' w' => ∃ ex s', e = exOf ex ∧ DRel c n s' a' w' ∧ (∀ m, ex ≠ .exit m) ∧ leave C K.its K.rs rtm s' = some y) a w
theorem con_of_sim {P : Program} {C : Cx} {K : Con} {fn : Func} {code : Code} {rtm : List ResultVar} (hC : CxOk C P) (h : BodySim P C K fn code rtm) (hvw : K.vw = none := by rfl) : K.Ok P := by
  unfold Con.Ok
  rw [hvw]
  intro x y hy S w hS ivs f g hrep hnd hns
  refine ⟨⟨fn, h.func, h.name, by rw [h.body]; rfl⟩, calls_of_wp h.func h.body ?_⟩
  have hev0 : ∀ tok loc, Ev (ctxOf P S w f g tok loc hS) w := fun tok loc => ⟨Nat.le_refl _, rfl, rfl, fun _ _ => rfl, fun _ _ => .inl rfl, fun _ _ => rfl⟩
  have hlt := ItemsRep_lt K.its hrep
  -- the variables at the start
  have hen : ∃ μ fp, VsRel (ctxOf P S w f g (tokIs w K.its ivs 0) μ hS) μ ivs (enterIs true K.its x 0).1 ∧
      Pool (ctxOf P S w f g (tokIs w K.its ivs 0) μ hS) (fun id => False ∨ (0 ≤ id ∧ id < itsN K.its 0)) μ fp (updF (fun _ => none) (news (enterIs true K.its x 0).2.1)) w [] := by
    let c0 := ctxOf P S w f g (tokIs w K.its ivs 0) default hS
    have hpool : Pool c0 (fun _ => False) default (fun _ => []) (fun _ => none) w (f ++ g.map (·.1) ++ []) := by
      rw [List.append_nil]
      refine ⟨⟨by simp, by simp, by simp, by simp, by simp⟩, by simp, hnd, by simp, fun b hb => ⟨hns b hb, hlt b hb⟩⟩
    obtain ⟨μ, fp, h1, h2, _⟩ := enterIs_rel true (S := S) (fun b hb => ⟨hb, rfl⟩) K.its hpool hrep (ToksIs_of K.its fun k _ _ => rfl) (fun b hb _ j => .inl hb)
      (fun B o m hb _ j hj => .inr ⟨o, m, hb, by omega, by omega⟩) (fun _ _ _ h => h)
    refine ⟨μ, fp, VsRel.setLoc (c := c0) _ h1, ⟨RelV.setLoc (c := c0) h2.rel, h2.known, h2.nodup, h2.far, h2.ok⟩⟩
  obtain ⟨μ, fp, hvs, hpool⟩ := hen
  let c := ctxOf P S w f g (tokIs w K.its ivs 0) μ hS
  have hids : ∀ id ∈ DVal.idsL (enterIs true K.its x 0).1, id < 64 := fun id hi => Nat.lt_of_lt_of_le (enterIs_ids true K.its x 0 id hi).2 h.cnt
  have hlay := layD_rel K.lay hvs
  have hsz : (layV K.lay ivs).length = (layD K.lay (enterIs true K.its x 0).1).length := hlay.length
  have hk64 : ∀ id, id < 64 → id / 64 ∈ [0] := fun id hi => by rw [Nat.div_eq_of_lt hi]; simp
  have hund : ∀ m, VsRel c μ (List.replicate m Go.undef) (List.replicate m .undef) := fun m => by
    induction m with
    | zero => simp [VsRel]
    | succ m ih => simp only [List.replicate_succ, VsRel]; exact ⟨_, _, rfl, by simp [VRel], ih⟩
  let n := (entry K.its K.lay fn.ntmps x).t.length
  have htm : VsRel c μ ((layV K.lay ivs).toArray ++ Array.replicate (fn.ntmps - (layV K.lay ivs).toArray.size) Go.undef).toList (entry K.its K.lay fn.ntmps x).t := by
    simp only [Array.toList_append, Array.toList_replicate, List.size_toArray]
    rw [hsz]
    exact hlay.append (hund _)
  have hD : DRel c n (entry K.its K.lay fn.ntmps x) { tmps := (layV K.lay ivs).toArray ++ Array.replicate (fn.ntmps - (layV K.lay ivs).toArray.size) Go.undef, defers := [] } w := by
    refine ⟨⟨c, μ, fp, Ext.refl c, ?_, ?_, rfl, ?_, ⟨?_, ?_⟩, hev0 _ _, fun id hi => ⟨hk64 id hi, rfl⟩⟩, fun d b hf => (by cases hf), rfl⟩
    · intro j
      show VRel c μ _ ((entry K.its K.lay fn.ntmps x).t.getD j .dead)
      rw [List.getD_eq_getElem?_getD]
      cases hj : (entry K.its K.lay fn.ntmps x).t[j]? with
      | none => simp [VRel]
      | some d =>
        obtain ⟨u, hu, hr⟩ := htm.get hj
        rw [Array.getD_eq_getD_getElem?, ← Array.getElem?_toList, hu]
        exact hr
    · show (entry K.its K.lay fn.ntmps x).t.length ≤ Array.size _
      rw [← htm.length, Array.length_toList]
      exact Nat.le_refl _
    · show RelV c μ fp (lookV (updV [] (news (enterIs true K.its x 0).2.1) ++ [])) w
      rw [List.append_nil, lookV_upd]
      exact hpool.rel
    · intro j id hi
      have hi : id ∈ ((entry K.its K.lay fn.ntmps x).t.getD j .dead).ids := hi
      rw [List.getD_eq_getElem?_getD] at hi
      cases hj : (entry K.its K.lay fn.ntmps x).t[j]? with
      | none => rw [hj] at hi; cases hi
      | some d =>
        rw [hj] at hi
        have hm := List.mem_of_getElem? hj
        simp only [entry, List.mem_append, List.mem_replicate] at hm
        refine hk64 id (hids id (layD_ids K.lay id ?_))
        rcases hm with hm | ⟨_, rfl⟩
        · exact mem_idsL.2 ⟨d, hm, hi⟩
        · cases hi
    · intro id z hz
      have hz : lookV (updV [] (news (enterIs true K.its x 0).2.1) ++ []) id = some z := hz
      rw [List.append_nil, lookV_upd] at hz
      have := hpool.known id z hz
      have hh : ∀ i, (False ∨ 0 ≤ i ∧ i < itsN K.its 0) → i / 64 ∈ [0] := fun i hi => hk64 i (by have := h.cnt; rcases hi with hi | hi; exact hi.elim; omega)
      exact ⟨hh id this.1, fun i hi => hh i (this.2 i hi)⟩
  -- the run
  refine wp_mono (h.run x y (ItemsRep_WF K.its hrep) hy c n _ w rfl hD) fun e a' w' he => ?_
  obtain ⟨ex, s', rfl, he, hne, hlv⟩ := he
  have hfin : a'.defers = [] ∧ ∃ v, (results fn a'.tmps).run P w' = .ok v w' ∧ Done P S w hS K ivs f g y v w' := by
    have hz := hlv
    obtain ⟨⟨c1, μ', fp', he1, hx⟩, _, _⟩ := he
    have hP1 : c1.P = P := he1.P
    unfold leave at hz
    obtain ⟨dr, hdr, hz⟩ := Option.bind_eq_some_iff.1 hz
    obtain ⟨rvs, hvs', hrun'⟩ := resDs_rel (by rw [hP1]; exact hC) hx rtm hdr
    rw [hP1] at hrun'
    refine ⟨hx.defers, _, results_list h.res h.few hrun', ?_⟩
    obtain ⟨p, hp, hz⟩ := Option.bind_eq_some_iff.1 hz
    obtain ⟨q, hq, hz⟩ := Option.bind_eq_some_iff.1 hz
    split at hz
    case isFalse => cases hz
    rename_i hcond
    obtain ⟨hn, hEL⟩ := hcond
    obtain rfl := Option.some.inj hz
    have hn := nodupB_iff _ hn
    have hna := List.nodup_append.1 hn
    generalize hEq : leaveE K.its K.rs (lookV s'.v) dr = EL at hp hEL
    have hELs : ∀ id z, EL id = some z → lookV s'.v id = some z ∧ (∃ e xs, z = .arr e xs) ∧ plainIts K.its = true := by
      intro id z hz
      rw [← hEq] at hz
      unfold leaveE at hz
      split at hz
      case isFalse => cases hz
      rename_i hpl
      cases hy2 : takeIs (lookV s'.v) (lookV s'.v) K.rs dr with
      | none => rw [hy2] at hz; cases hz
      | some y2 =>
        rw [hy2] at hz
        have hz : (match lessE (lookV s'.v) y2.2 id with | some (.arr e xs) => some (DVar.arr e xs) | _ => none) = some z := hz
        cases he2 : lessE (lookV s'.v) y2.2 id with
        | none => rw [he2] at hz; cases hz
        | some v =>
          rw [he2] at hz
          cases v with
          | var _ => cases hz
          | foc _ _ _ _ _ _ _ => cases hz
          | it _ _ => cases hz
          | arr e xs =>
            obtain rfl := Option.some.inj hz
            unfold lessE at he2
            split at he2
            · cases he2
            · exact ⟨he2, ⟨e, xs, rfl⟩, hpl.2⟩
    have hELout : ∀ id ∈ p.2 ++ q.2, EL id = none := by
      intro id hi
      rcases hEL with hr | hr
      · rw [← hEq]
        unfold leaveE
        rw [if_neg (by simp [hr])]
        rfl
      · have := List.all_eq_true.1 hr id hi
        cases he : EL id with
        | none => rfl
        | some z => rw [he] at this; cases this
    have hEn : ∀ id, EL id ≠ none → s'.f.v id ≠ none := fun id hi => by
      obtain ⟨z, hz⟩ := Option.ne_none_iff_exists'.1 hi
      rw [show s'.f.v id = some z from env_of_v (hELs id z hz).1]; simp
    let S2 : Nat → Prop := fun b => c1.S b ∨ ∃ id, EL id ≠ none ∧ b ∈ fp' id
    obtain ⟨f1, g1, h1, h2⟩ := takeIs_rel (EL := EL) hx.vs hx.ev (fun _ _ h => env_of_v h) (fun id z hz => env_of_v (hELs id z hz).1) (S' := S2) (fun _ h => .inl h) (fun id hi b hb => .inr ⟨id, hi, hb⟩) K.rs hvs' hp hna.1
    have hag : ∀ id, id < 64 → μ' id = μ id := fun id hi => (hx.fix id hi).2.trans (congrFun he1.loc id)
    have hivs : VsRel c1 μ' ivs (enterIs true K.its x 0).1 := VsRel.ext he1 _ (VsRel.mono _ (fun id hi => hag id (hids id hi)) hvs)
    obtain ⟨f2, h3, h4⟩ := takeBs_rel hx.vs (fun _ _ h => env_of_v h) K.its hrep (ToksIs_of K.its fun k _ _ => congrFun he1.tok k) hivs hq hna.2.1
    have h5 := h2.toGoneB.append hx.vs h4 hn
    have hperm : (f1 ++ f2 ++ (g1 ++ g).map (·.1)).Perm (f1 ++ g1.map (·.1) ++ (f2 ++ g.map (·.1))) := by rw [List.map_append]; exact perm_items _ _ _ _
    have hnd' := hperm.nodup_iff.1 h5.nodup
    have hsz1 : w.heap.size ≤ c1.w0.heap.size := he1.ev.size
    refine ⟨⟨_, f1, g1, f2, rfl, ⟨S2, fun b hb => .inl (he1.S b hb), ?_, ?_, h1, backsRep_conv (p := fun _ => true) (fun e _ _ _ _ h => Ty.repO_mono (show Fz.le c1.fz ⟨S2, _⟩ from fun b hb => ⟨.inl hb, hx.ev.S b hb⟩) _ h) K.its (itsP_true K.its) h3⟩, hnd', fun b hb => ?_⟩, ?_⟩
    · rintro b (hb | ⟨id, hi, hb⟩)
      · refine ⟨?_, Nat.lt_of_lt_of_le (c1.hS.1 b hb) hx.ev.size⟩
        rcases he1.new b hb with q | q | q
        · exact .inl q
        · exact .inr (.inl q)
        · by_cases hbf : b ∈ f
          · exact .inr (.inr hbf)
          · exfalso
            have q : ∀ j, b ∈ f ∨ ∃ o m, (b, o, m) ∈ g ∧ o ≤ j ∧ j < o + m := q
            obtain ⟨o, m, hm, _, _⟩ := (q 0).resolve_left hbf
            obtain ⟨o', m', hm', _, h2⟩ := (q (o + m)).resolve_left hbf
            have := fst_inj (List.nodup_append.1 hnd).2.1 hm hm'
            cases this
            omega
      · refine ⟨.inr ?_, hx.vs.lt id (hEn id hi) b hb⟩
        obtain ⟨z, hz⟩ := Option.ne_none_iff_exists'.1 hi
        obtain ⟨hz1, ⟨e, xs, rfl⟩, hpl⟩ := hELs id z hz
        obtain ⟨a, cap, _, _, hM⟩ := hx.vs.rel id _ (env_of_v hz1)
        rcases Nat.lt_or_ge b w.heap.size with hlt' | hge
        · have hm := he1.M b 0 hlt' (hM b hb (Nat.lt_of_lt_of_le hlt' hsz1) 0)
          obtain ⟨rfl, rfl⟩ := plainIts_nil K.its hpl hrep
          rcases hm with hm | ⟨_, _, hm, _⟩ <;> cases hm
        · exact .inl hge
    · intro b hb hs
      obtain ⟨id, hi, hm⟩ := h5.mem b (hperm.mem_iff.2 hb)
      have ht := (h5.there id hi).1
      rcases hs with hs | ⟨id', hi', hb'⟩
      · exact hx.vs.notS id ht b hm hs
      · exact hx.vs.sep id id' (fun e => hi' (e ▸ hELout id hi)) ht (hEn id' hi') b hm hb'
    · rcases Nat.lt_or_ge b w.heap.size with hlt' | hge
      · left
        have hlt1 : b < c1.w0.heap.size := Nat.lt_of_lt_of_le hlt' hsz1
        have hM : ∀ j, c.M b j ∨ ∃ o m, (b, o, m) ∈ g1 := by
          intro j
          simp only [List.mem_append, List.mem_map] at hb
          rcases hb with (hb | ⟨⟨B, o, m⟩, hb, rfl⟩) | hb
          · exact .inl (he1.M b j hlt' (h2.may b hb hlt1 j))
          · exact .inr ⟨o, m, hb⟩
          · exact .inl (he1.M b j hlt' (h4.may b hb hlt1 j))
        have hng : b ∉ g.map (·.1) := fun hg => by
          simp only [List.nodup_append] at hnd'
          simp only [List.mem_append] at hb
          rcases hb with hb | hb
          · exact hnd'.2.2 b (by simpa using hb) b (by simp only [List.mem_append]; exact .inr hg) rfl
          · exact hnd'.2.1.2.2 b hb b hg rfl
        have hnm : ∀ j, c.M b j → b ∈ f := fun j hj => by
          rcases hj with hj | ⟨o, m, hj, _⟩
          · exact hj
          · exact absurd (List.mem_map.2 ⟨_, hj, rfl⟩) hng
        rcases hM 0 with hm | ⟨o, m, hm⟩
        · exact hnm 0 hm
        · exact hnm _ (he1.M _ _ hlt' (h2.mayG b o m hm hlt1 0 (gpos K.rs h.pos h1 b o m hm)))
      · exact .inr hge
    · have := he1.back hx.ev
      exact ⟨this.size, this.os, this.output, this.S, this.old, this.frozen⟩
  cases ex with
  | normal => exact hfin
  | ret => exact hfin
  | exit m => exact absurd rfl (hne m)
theorem end_sound {c : Ctx} {n : Nat} {C : Cx} (hC : CxOk C c.P) (hF : CallsOk C c.P) (hm : c.P.follows .mixedOrders = true) {An : Nat → Option LoopAnn} {B : Code} {its rs : List Item} {rtm : List ResultVar} {s : DSt} {a : Act} {w : World} (h : DRel c n s a w) {y : itemsD rs × backD its}
    (hr : ((dexec C An B s).bind fun r => match r.1 with | .exit _ => Out.fail | _ => .of (leave C its rs rtm r.2) .ret).eval = some y) :
    B.wp c.P (fun e a' w' => ∃ ex s', e = exOf ex ∧ DRel c n s' a' w' ∧ (∀ m, ex ≠ .exit m) ∧ leave C its rs rtm s' = some y) a w := by
  obtain ⟨⟨ex, s'⟩, hq, hr⟩ := bind_eval hr
  refine wp_mono (dexec_sound hC hF hm An B s _ a w hq h) fun e a' w' he => ?_
  obtain ⟨rfl, he⟩ := he
  cases ex with
  | exit m => cases hr
  | normal =>
    obtain ⟨z, hz, hr⟩ := of_eval hr
    obtain rfl := Option.some.inj hr
    exact ⟨.normal, s', rfl, he, fun m => by simp, hz⟩
  | ret =>
    obtain ⟨z, hz, hr⟩ := of_eval hr
    obtain rfl := Option.some.inj hr
    exact ⟨.ret, s', rfl, he, fun m => by simp, hz⟩
theorem con_of_body {P : Program} {C : Cx} {K : Con} {fn : Func} {code : Code} {rtm : List ResultVar} {A : Nat → Option LoopAnn} (hC : CxOk C P) (hF : CallsOk C P) (hm : P.follows .mixedOrders = true) (h : BodyOk P C K fn code rtm A) (hvw : K.vw = none := by rfl) : K.Ok P :=
  con_of_sim hC ⟨h.func, h.body, h.name, h.res, h.few, h.cnt, h.pos, fun x y hw hy c n a w hP hD => by
    subst hP
    exact end_sound hC hF hm hD (h.run x y hw hy)⟩ hvw
end
section
open Go
mutual
def Ty.zeroB : Ty → List Value → Option (List Value)
  | .bool, .bool false :: r => some r
  | .int k, .int k' n :: r => if k = k' ∧ n = 0 then some r else none
  | .str, .string s :: r => if s.data.toList.isEmpty = true then some r else none
  | .sl _, .slice none 0 0 :: r => some r
  | .fz _, .slice none 0 0 :: r => some r
  | .st fs, cs => fs.zeroB cs
  | _, _ => none
def Tys.zeroB : Tys → List Value → Option (List Value)
  | .nil, cs => some cs
  | .cons t ts, cs => (t.zeroB cs).bind fun r => ts.zeroB r
end
mutual
theorem Ty.zeroB_ok : (t : Ty) → {cs r : List Value} → t.zeroB cs = some r → cs = t.zeroV ++ r
  | .bool, cs, r, h => by
    cases cs with
    | nil => cases h
    | cons v q =>
      cases v <;> try (cases h; done)
      rename_i b
      cases b <;> cases h
      rfl
  | .int k, cs, r, h => by
    cases cs with
    | nil => cases h
    | cons v q =>
      cases v <;> try (cases h; done)
      rename_i k' n
      replace h : (if k = k' ∧ n = 0 then some q else none) = some r := h
      split at h
      · rename_i hc; obtain ⟨rfl, rfl⟩ := hc; cases h; rfl
      · cases h
  | .str, cs, r, h => by
    cases cs with
    | nil => cases h
    | cons v q =>
      cases v <;> try (cases h; done)
      rename_i s
      replace h : (if s.data.toList.isEmpty = true then some q else none) = some r := h
      split at h
      · rename_i hc
        cases h
        have : s = ⟨#[]⟩ := by
          have h1 := List.isEmpty_iff.1 hc
          apply ByteArray.ext
          apply Array.ext'
          exact h1
        rw [this]; rfl
      · cases h
  | .sl _, cs, r, h => by
    cases cs with
    | nil => cases h
    | cons v q =>
      cases v <;> try (cases h; done)
      rename_i a l c
      cases a <;> cases l <;> cases c <;> cases h
      rfl
  | .fz _, cs, r, h => by
    cases cs with
    | nil => cases h
    | cons v q =>
      cases v <;> try (cases h; done)
      rename_i a l c
      cases a <;> cases l <;> cases c <;> cases h
      rfl
  | .st fs, cs, r, h => by
    simp only [Ty.zeroV]
    exact Tys.zeroB_ok fs h
theorem Tys.zeroB_ok : (t : Tys) → {cs r : List Value} → t.zeroB cs = some r → cs = t.zeroV ++ r
  | .nil, cs, r, h => by cases h; rfl
  | .cons t ts, cs, r, h => by
    replace h : ((t.zeroB cs).bind fun r => ts.zeroB r) = some r := h
    obtain ⟨q, h1, h2⟩ := Option.bind_eq_some_iff.1 h
    rw [Ty.zeroB_ok t h1, Tys.zeroB_ok ts h2]
    simp [Tys.zeroV]
end
def baseB (P : Program) (t : Ty) (tid : TypeId) : Bool :=
  match P.info? tid with
  | some i =>
    match i.zero with
    | some z =>
      match t.zeroB z.cells.toList with
      | some [] => decide (i.size = t.size) && decide (i.bytes ≤ 1024) && decide (0 < t.size)
      | _ => false
    | none => false
  | none => false
theorem baseB_ok {P : Program} {t : Ty} {tid : TypeId} (h : baseB P t tid = true) : BaseOk P t tid := by
  unfold baseB at h
  split at h
  · rename_i i hi
    split at h
    · rename_i z hz
      split at h
      · rename_i hzb
        simp only [Bool.and_eq_true, decide_eq_true_eq] at h
        exact ⟨i, z, hi, h.1.1, h.1.2, hz, by have := Ty.zeroB_ok t hzb; simpa using this, h.2⟩
      · cases h
    · cases h
  · cases h
mutual
def Ty.okB (P : Program) : Ty → TypeId → Bool
  | .bool, tid => baseB P .bool tid && (match P.underlying tid with | some .bool => true | _ => false)
  | .int k, tid => baseB P (.int k) tid && (match P.underlying tid with | some (.int k') => decide (k = k') | _ => false)
  | .str, tid => baseB P .str tid && (match P.underlying tid with | some .string => true | _ => false)
  | .sl e, tid => baseB P (.sl e) tid && (match P.underlying tid with | some (.slice eid) => e.okB P eid | _ => false)
  | .fz e, tid => baseB P (.fz e) tid && (match P.underlying tid with | some (.slice eid) => e.okB P eid | _ => false)
  | .st fs, tid => baseB P (.st fs) tid && (match P.underlying tid with | some (.struct fields) => fs.okFB P fields.toList 0 | _ => false)
def Tys.okFB (P : Program) : Tys → List Field → Nat → Bool
  | .nil, [], _ => true
  | .cons t ts, f :: r, off => decide (f.offset = off) && t.okB P f.type && ts.okFB P r (off + t.size)
  | _, _, _ => false
end
mutual
theorem Ty.okB_ok {P : Program} : (t : Ty) → {tid : TypeId} → t.okB P tid = true → t.Ok P tid
  | .bool, tid, h => by
    simp only [Ty.okB, Bool.and_eq_true] at h
    simp only [Ty.Ok]
    refine ⟨baseB_ok h.1, ?_⟩
    have h2 := h.2
    split at h2
    · assumption
    · cases h2
  | .int k, tid, h => by
    simp only [Ty.okB, Bool.and_eq_true] at h
    simp only [Ty.Ok]
    refine ⟨baseB_ok h.1, ?_⟩
    have h2 := h.2
    split at h2
    · rename_i e; rw [e, of_decide_eq_true h2]
    · cases h2
  | .str, tid, h => by
    simp only [Ty.okB, Bool.and_eq_true] at h
    simp only [Ty.Ok]
    refine ⟨baseB_ok h.1, ?_⟩
    have h2 := h.2
    split at h2
    · assumption
    · cases h2
  | .sl e, tid, h => by
    simp only [Ty.okB, Bool.and_eq_true] at h
    simp only [Ty.Ok]
    refine ⟨baseB_ok h.1, ?_⟩
    have h2 := h.2
    split at h2
    · rename_i eid he; exact ⟨eid, he, Ty.okB_ok e h2⟩
    · cases h2
  | .fz e, tid, h => by
    simp only [Ty.okB, Bool.and_eq_true] at h
    simp only [Ty.Ok]
    refine ⟨baseB_ok h.1, ?_⟩
    have h2 := h.2
    split at h2
    · rename_i eid he; exact ⟨eid, he, Ty.okB_ok e h2⟩
    · cases h2
  | .st fs, tid, h => by
    simp only [Ty.okB, Bool.and_eq_true] at h
    simp only [Ty.Ok]
    refine ⟨baseB_ok h.1, ?_⟩
    have h2 := h.2
    split at h2
    · rename_i fields he; exact ⟨fields, he, Tys.okFB_ok fs h2⟩
    · cases h2
theorem Tys.okFB_ok {P : Program} : (t : Tys) → {fs : List Field} → {off : Nat} → t.okFB P fs off = true → t.OkF P fs off
  | .nil, fs, off, h => by
    cases fs with
    | nil => simp [Tys.OkF]
    | cons f r => cases h
  | .cons t ts, fs, off, h => by
    cases fs with
    | nil => cases h
    | cons f r =>
      simp only [Tys.okFB, Bool.and_eq_true, decide_eq_true_eq] at h
      simp only [Tys.OkF]
      exact ⟨f, r, rfl, h.1.1, Ty.okB_ok t h.1.2, Tys.okFB_ok ts h.2⟩
end
def findT : List (Nat × Ty) → Nat → Option Ty
  | [], _ => none
  | (a, t) :: r, n => bif Nat.beq a n then some t else findT r n
theorem findT_mem {l : List (Nat × Ty)} {n : Nat} {t : Ty} (h : findT l n = some t) : (n, t) ∈ l := by
  induction l with
  | nil => cases h
  | cons a l ih =>
    obtain ⟨k, u⟩ := a
    simp only [findT] at h
    cases hb : Nat.beq k n with
    | true => rw [hb] at h; cases h; rw [Nat.eq_of_beq_eq_true hb]; simp
    | false => rw [hb] at h; simp [ih h]
def tabB (P : Program) (tab : List (Nat × Ty)) : Bool := tab.all fun x => x.2.okB P x.1
def eqvB (P : Program) (tid : TypeId) : Bool :=
  if tid < ERR then !P.stoodInHeld tid && !P.eqGuardType P.depth tid && (match P.underlying tid with | some (.struct fields) => fields.toList.all fun f => f.name != "_" | _ => false)
  else match P.underlying (tid - ERR) with | some (.interface _) => true | _ => false
theorem eqvB_ok {P : Program} {tid : TypeId} (h : eqvB P tid = true) : EqOk P tid := by
  unfold eqvB at h
  by_cases hlt : tid < ERR
  · rw [if_pos hlt] at h
    refine ⟨fun _ => ?_, fun k hk => absurd hlt (Nat.not_lt.2 (hk ▸ Nat.le_add_left ERR k))⟩
    simp only [Bool.and_eq_true, Bool.not_eq_true'] at h
    refine ⟨h.1.1, h.1.2, ?_⟩
    have h2 := h.2
    split at h2
    · rename_i fields he
      refine ⟨fields, he, fun f hf => ?_⟩
      have := List.all_eq_true.1 h2 f hf
      simpa using this
    · cases h2
  · rw [if_neg hlt] at h
    refine ⟨fun q => absurd q hlt, fun k hk => ?_⟩
    have e : tid - ERR = k := by rw [hk]; exact Nat.add_sub_cancel k ERR
    rw [e] at h
    split at h
    · rename_i ms hm
      have e2 : P.methodsAt k = ms := by unfold Program.methodsAt; rw [hm]
      rw [e2]
      exact hm
    · cases h
def cxOf' (tab : List (Nat × Ty)) (eqT : List Nat) (l : List Con) : Cx := { ty := findT tab, eqv := fun n => eqT.any fun m => Nat.beq m n, call := callL l }
theorem cxOf'_ok {P : Program} {tab : List (Nat × Ty)} {eqT : List Nat} (h1 : tabB P tab = true) (h2 : eqT.all (eqvB P) = true) (l : List Con) : CxOk (cxOf' tab eqT l) P where
  ty tid t h := Ty.okB_ok t (List.all_eq_true.1 h1 _ (findT_mem h))
  eqv tid h := by
    obtain ⟨m, hm, e⟩ := List.any_eq_true.1 h
    rw [← Nat.eq_of_beq_eq_true e]
    exact eqvB_ok (List.all_eq_true.1 h2 m hm)
def annOf : List (Nat × LoopAnn) → Nat → Option LoopAnn
  | [], _ => none
  | (a, t) :: r, n => bif Nat.beq a n then some t else annOf r n
def codeOf (f : Func) : Code := f.body.getD .skip
theorem codeOf_eq {f : Func} (h : f.body.isSome = true) : f.body = some (codeOf f) := by
  unfold codeOf
  cases hb : f.body with
  | none => rw [hb] at h; cases h
  | some c => rfl
end
section
open Go Go.ChangeShapes Go.WideShapes Go.ChangeAt Go.RowKit
section
variable {H : Type} {enc : TypeId × Value → H} {P : Program} {w : World} {base : Nat} {sp : Nat → Bool} {held : Bool}
theorem cell?_cellsAt {b o : Nat} : ∀ (n : Nat) {cs : List Value}, cs.length = n → (∀ i, i < n → w.cell? ⟨b, o + i, none⟩ = cs[i]?) → 0 < n → cellsAt w b o n = cs := by
  intro n cs hl h hn
  have h0 := h 0 hn
  unfold World.cell? at h0
  cases hb : w.heap[b]? with
  | none => simp only [hb] at h0; rw [List.getElem?_eq_getElem (by omega)] at h0; cases h0
  | some ob =>
    cases ob with
    | map _ _ => simp only [hb] at h0; rw [List.getElem?_eq_getElem (by omega)] at h0; cases h0
    | cells C E fr =>
      simp only [cellsAt, hb]
      apply List.ext_getElem?
      intro i
      by_cases hi : i < n
      · have hi' := h i hi
        unfold World.cell? at hi'
        simp only [hb] at hi'
        rw [List.getElem?_take_of_lt hi, List.getElem?_drop, Array.getElem?_toList, ← hi']
        rfl
      · rw [List.getElem?_eq_none (by simp; omega), List.getElem?_eq_none (by omega)]
    | _ => simp only [hb] at h0; rw [List.getElem?_eq_getElem (by omega)] at h0; cases h0
theorem cells?_cellsAt {a : Addr} {n : Nat} {cs : List Value} (h : w.cells? base a n = some cs) (hn : 0 < n) : a.spot = none ∧ a.block < w.heap.size ∧ cellsAt w a.block a.off n = cs := by
  obtain ⟨_, hl, hc⟩ := World.cells?_some h
  have h0 := hc 0 hn
  have hsome : ∃ v, w.cell? a = some v := by
    rw [show a.add 0 = a from by simp [Addr.add]] at h0
    exact ⟨cs[0]'(by omega), by rw [h0, List.getElem?_eq_getElem]⟩
  obtain ⟨v, hv⟩ := hsome
  have hsp : a.spot = none := by
    unfold World.cell? at hv
    cases hs : a.spot with
    | none => rfl
    | some s =>
      rw [hs] at hv
      split at hv <;> simp_all
  have hbl : a.block < w.heap.size := by
    unfold World.cell? at hv
    cases hb : w.heap[a.block]? with
    | none => rw [hb] at hv; cases hv
    | some ob => exact (Array.getElem?_eq_some_iff.1 hb).1
  refine ⟨hsp, hbl, cell?_cellsAt n hl (fun i hi => ?_) hn⟩
  rw [← hc i hi]
  congr 1
  obtain ⟨b, o, s⟩ := a
  simp only at hsp
  subst hsp
  simp only [Addr.add]
  split
  · rename_i e; subst e; rfl
  · rfl
theorem Ty.Ok.cellsOf {t : Ty} {tid : TypeId} (h : t.Ok P tid) : P.cellsOf tid = t.size := by
  obtain ⟨i, z, h1, h2, _⟩ := h.base
  simp [Program.cellsOf, h1, h2]
theorem choose_list {α : Type} {n : Nat} {p : Nat → α → Prop} (h : ∀ i, i < n → ∃ x, p i x) : ∃ xs : List α, xs.length = n ∧ ∀ i x, xs[i]? = some x → p i x := by
  induction n with
  | zero => exact ⟨[], rfl, by simp⟩
  | succ n ih =>
    obtain ⟨xs, h1, h2⟩ := ih fun i hi => h i (by omega)
    obtain ⟨y, hy⟩ := h n (by omega)
    refine ⟨xs ++ [y], by simp [h1], fun i x hx => ?_⟩
    rcases Nat.lt_or_ge i xs.length with hi | hi
    · rw [List.getElem?_append_left hi] at hx; exact h2 i x hx
    · rw [List.getElem?_append_right hi] at hx
      cases hk : i - xs.length with
      | zero => rw [hk] at hx; simp at hx; subst hx; rwa [show i = n by omega]
      | succ k => rw [hk] at hx; simp at hx
mutual
theorem Ty.trod : (t : Ty) → {tid : TypeId} → {fuel : Nat} → {cs : List Value} → {y : DataW H × List MemPlace} → t.Ok P tid → DataW.trod enc P w base sp held fuel tid cs = some y → ∃ x, t.repS (fun b => b < w.heap.size) w cs x
  | .bool, tid, fuel, cs, y, hok, h => by
    simp only [Ty.Ok] at hok
    obtain ⟨b, rfl, _⟩ := DataW.trod_bool hok.2 h
    exact ⟨b, by simp [Ty.repS]⟩
  | .int k, tid, fuel, cs, y, hok, h => by
    simp only [Ty.Ok] at hok
    obtain ⟨n, rfl, _⟩ := DataW.trod_int hok.2 h
    exact ⟨n, by simp [Ty.repS]⟩
  | .str, tid, fuel, cs, y, hok, h => by
    simp only [Ty.Ok] at hok
    obtain ⟨s, rfl, _, hs⟩ := DataW.trod_string hok.2 h
    refine ⟨s.data.toList, ?_⟩
    simp only [Ty.repS]
    refine ⟨trivial, ?_⟩
    have hmax : maxLen = BIG := by unfold maxLen; decide
    exact hmax ▸ hs
  | .sl e, tid, fuel, cs, y, hok, h => by
    simp only [Ty.Ok] at hok
    obtain ⟨_, eid, hu, hoke⟩ := hok
    rcases DataW.trod_slice hu h with ⟨rfl, _⟩ | ⟨a, len, cap, elems, rest, n, _, rfl, _, _, hl, hm, hel, hi, _⟩
    · exact ⟨[], repS_nil _ w e none⟩
    have hmax : maxLen = BIG := by unfold maxLen; decide
    rw [hoke.cellsOf] at hi
    have hpos := hoke.pos
    have hex : ∀ i, i < len → ∃ x : e.D, a.block < w.heap.size ∧ (a.add (i * e.size)).spot = none ∧ e.repS (fun b => b < w.heap.size) w (cellsAt w (a.add (i * e.size)).block (a.add (i * e.size)).off e.size) x := by
      intro i hlt
      have h1 := hi i hlt
      rw [List.getElem?_eq_getElem (by omega)] at h1
      obtain ⟨cs', hc, h2⟩ := Option.bind_eq_some_iff.1 h1
      obtain ⟨q1, q2, q3⟩ := cells?_cellsAt hc hpos
      obtain ⟨x, hx⟩ := Ty.trod e hoke h2
      refine ⟨x, ?_, q1, by rw [q3]; exact hx⟩
      have : (a.add (i * e.size)).block = a.block := by unfold Addr.add; split <;> rfl
      rw [← this]; exact q2
    obtain ⟨xs, hxl, hxs⟩ := choose_list hex
    refine ⟨xs, ?_⟩
    simp only [Ty.repS]
    refine ⟨some a, cap, by rw [← hxl], ⟨by rw [hxl]; exact hl, by rw [hxl, ← hmax]; omega⟩, ?_⟩
    by_cases h0 : xs = []
    · exact .inl h0
    right
    have hp : 0 < xs.length := List.length_pos_iff.2 h0
    have hz := hxs 0 xs[0] (List.getElem?_eq_getElem hp)
    have hsp : a.spot = none := by simpa [Addr.add] using hz.2.1
    refine ⟨a.block, a.off, by obtain ⟨b, o, s⟩ := a; simp only at hsp; subst hsp; rfl, hz.1, fun i y hy => ?_⟩
    have := (hxs i y hy).2.2
    obtain ⟨b, o, s⟩ := a
    simp only at hsp
    subst hsp
    unfold Addr.add at this
    split at this
    · rename_i e0; rw [e0]; exact this
    · exact this
  | .fz e, tid, fuel, cs, y, hok, h => by
    simp only [Ty.Ok] at hok
    obtain ⟨_, eid, hu, hoke⟩ := hok
    rcases DataW.trod_slice hu h with ⟨rfl, _⟩ | ⟨a, len, cap, elems, rest, n, _, rfl, _, _, hl, hm, hel, hi, _⟩
    · exact ⟨[], repS_fz.2 (repS_nil _ w e none)⟩
    have hmax : maxLen = BIG := by unfold maxLen; decide
    rw [hoke.cellsOf] at hi
    have hpos := hoke.pos
    have hex : ∀ i, i < len → ∃ x : e.D, a.block < w.heap.size ∧ (a.add (i * e.size)).spot = none ∧ e.repS (fun b => b < w.heap.size) w (cellsAt w (a.add (i * e.size)).block (a.add (i * e.size)).off e.size) x := by
      intro i hlt
      have h1 := hi i hlt
      rw [List.getElem?_eq_getElem (by omega)] at h1
      obtain ⟨cs', hc, h2⟩ := Option.bind_eq_some_iff.1 h1
      obtain ⟨q1, q2, q3⟩ := cells?_cellsAt hc hpos
      obtain ⟨x, hx⟩ := Ty.trod e hoke h2
      refine ⟨x, ?_, q1, by rw [q3]; exact hx⟩
      have : (a.add (i * e.size)).block = a.block := by unfold Addr.add; split <;> rfl
      rw [← this]; exact q2
    obtain ⟨xs, hxl, hxs⟩ := choose_list hex
    refine ⟨xs, ?_⟩
    simp only [Ty.repS]
    refine ⟨some a, cap, by rw [← hxl], ⟨by rw [hxl]; exact hl, by rw [hxl, ← hmax]; omega⟩, ?_⟩
    by_cases h0 : xs = []
    · exact .inl h0
    right
    have hp : 0 < xs.length := List.length_pos_iff.2 h0
    have hz := hxs 0 xs[0] (List.getElem?_eq_getElem hp)
    have hsp : a.spot = none := by simpa [Addr.add] using hz.2.1
    refine ⟨a.block, a.off, by obtain ⟨b, o, s⟩ := a; simp only at hsp; subst hsp; rfl, hz.1, fun i y hy => ?_⟩
    have := (hxs i y hy).2.2
    obtain ⟨b, o, s⟩ := a
    simp only at hsp
    subst hsp
    unfold Addr.add at this
    split at this
    · rename_i e0; rw [e0]; exact this
    · exact this
  | .st fs, tid, fuel, cs, y, hok, h => by
    simp only [Ty.Ok] at hok
    obtain ⟨hbase, fields, hu, hf⟩ := hok
    obtain ⟨xs, n, _, _, hl, hxl, hi⟩ := DataW.trod_struct hu h
    have hcs : P.cellsOf tid = (Ty.st fs).size := by
      obtain ⟨i, z, h1, h2, _⟩ := hbase
      simp [Program.cellsOf, h1, h2]
    have := Tys.trod (n := n) (off := 0) (cs := cs) fs hf (by rw [hl, hcs]; simp [Ty.size]) (fun i f hfi => by
      have hfi' : fields[i]? = some f := by simpa using hfi
      rw [hi i f hfi', List.getElem?_eq_getElem (by have := (Array.getElem?_eq_some_iff.1 hfi').1; omega)]
      exact ⟨_, rfl⟩)
    obtain ⟨x, hx⟩ := this
    refine ⟨x, ?_⟩
    simp only [Ty.repS]
    simpa using hx
theorem Tys.trod {n : Nat} : (ts : Tys) → {fs : List Field} → {off : Nat} → {cs : List Value} → ts.OkF P fs off → cs.length = off + ts.size →
    (∀ (i : Nat) (f : Field), fs[i]? = some f → ∃ z, DataW.trod enc P w base sp held n f.type ((cs.drop f.offset).take (P.cellsOf f.type)) = some z) → ∃ x, ts.repS (fun b => b < w.heap.size) w (cs.drop off) x
  | .nil, fs, off, cs, hok, hl, h => by
    refine ⟨(), ?_⟩
    simp only [Tys.repS]
    simp only [Tys.size] at hl
    exact List.drop_of_length_le (by omega)
  | .cons t ts, fs, off, cs, hok, hl, h => by
    simp only [Tys.OkF] at hok
    obtain ⟨f, r, rfl, rfl, h1, h2⟩ := hok
    obtain ⟨z, hz⟩ := h 0 f rfl
    rw [h1.cellsOf] at hz
    obtain ⟨x1, hx1⟩ := Ty.trod t h1 hz
    simp only [Tys.size] at hl
    obtain ⟨x2, hx2⟩ := Tys.trod (n := n) ts h2 (by omega) (fun i g hg => h (i + 1) g (by simpa using hg))
    refine ⟨(x1, x2), ?_⟩
    simp only [Tys.repS]
    refine ⟨_, _, ?_, hx1, hx2⟩
    rw [← List.drop_drop, List.take_append_drop]
end
end
mutual
def Ty.flatCm : Ty → List Cm
  | .bool => [.b]
  | .int k => [.i k]
  | .str => [.s]
  | .sl e => [.ro e]
  | .fz e => [.ro e]
  | .st fs => fs.flatCm
def Tys.flatCm : Tys → List Cm
  | .nil => []
  | .cons t ts => t.flatCm ++ ts.flatCm
end
def Ty.item (t : Ty) : Item := ⟨false, t.isSt, t.flatCm⟩
theorem cmRep_append {S : Nat → Prop} {w : World} {l' : List Cm} {vs' : List Value} {x' : cmD l'} {f' : List Nat} (h' : cmRep S w l' vs' x' f') : (l : List Cm) → {vs : List Value} → {x : cmD l} → {f : List Nat} → cmRep S w l vs x f → ∃ z, cmRep S w (l ++ l') (vs ++ vs') z (f ++ f')
  | [], _, _, _, h => by simp only [cmRep] at h; obtain ⟨rfl, rfl⟩ := h; exact ⟨x', h'⟩
  | .b :: r, _, x, _, h => by
    simp only [cmRep] at h
    obtain ⟨vs', rfl, h⟩ := h
    obtain ⟨z, hz⟩ := cmRep_append h' r h
    exact ⟨(x.1, z), by simp only [List.cons_append, cmRep]; exact ⟨_, rfl, hz⟩⟩
  | .i _ :: r, _, x, _, h => by
    simp only [cmRep] at h
    obtain ⟨vs', rfl, h⟩ := h
    obtain ⟨z, hz⟩ := cmRep_append h' r h
    exact ⟨(x.1, z), by simp only [List.cons_append, cmRep]; exact ⟨_, rfl, hz⟩⟩
  | .s :: r, _, x, _, h => by
    simp only [cmRep] at h
    obtain ⟨vs', rfl, hl, h⟩ := h
    obtain ⟨z, hz⟩ := cmRep_append h' r h
    exact ⟨(x.1, z), by simp only [List.cons_append, cmRep]; exact ⟨_, rfl, hl, hz⟩⟩
  | .e :: r, _, x, _, h => by
    simp only [cmRep] at h
    obtain ⟨_, vs', rfl, hl, h⟩ := h
    obtain ⟨z, hz⟩ := cmRep_append h' r h
    exact ⟨(x.1, z), by simp only [List.cons_append, cmRep]; exact ⟨_, _, rfl, hl, hz⟩⟩
  | .ro e :: r, _, x, _, h => by
    simp only [cmRep] at h
    obtain ⟨v, vs', rfl, h1, h⟩ := h
    obtain ⟨z, hz⟩ := cmRep_append h' r h
    exact ⟨(x.1, z), by simp only [List.cons_append, cmRep]; exact ⟨_, _, rfl, h1, hz⟩⟩
  | .own e :: r, _, x, _, h => by
    simp only [cmRep] at h
    obtain ⟨v, vs', f1, f2, rfl, rfl, h1, h⟩ := h
    obtain ⟨z, hz⟩ := cmRep_append h' r h
    exact ⟨(x.1, z), by simp only [List.cons_append, cmRep]; exact ⟨_, _, f1, _, rfl, by simp, h1, hz⟩⟩
  | .mut e :: r, _, x, _, h => by
    simp only [cmRep] at h
    obtain ⟨v, vs', f1, f2, rfl, rfl, h1, h⟩ := h
    obtain ⟨z, hz⟩ := cmRep_append h' r h
    exact ⟨(x.1, z), by simp only [List.cons_append, cmRep]; exact ⟨_, _, f1, _, rfl, by simp, h1, hz⟩⟩
mutual
theorem Ty.flat_rep' {S : Nat → Prop} {w : World} : (t : Ty) → {cs : List Value} → {x : t.D} → t.repS S w cs x → ∃ z, cmRep S w t.flatCm cs z []
  | .bool, cs, x, h => by simp only [Ty.repS] at h; subst h; exact ⟨(x, ()), by simp [Ty.flatCm, cmRep]⟩
  | .int _, cs, x, h => by simp only [Ty.repS] at h; subst h; exact ⟨(x, ()), by simp [Ty.flatCm, cmRep]⟩
  | .str, cs, x, h => by simp only [Ty.repS] at h; obtain ⟨rfl, hl⟩ := h; exact ⟨(x, ()), by simp only [Ty.flatCm, cmRep]; exact ⟨_, rfl, hl, by simp⟩⟩
  | .sl e, cs, x, h => by
    have h' := h
    simp only [Ty.repS] at h
    obtain ⟨a, cap, rfl, _⟩ := h
    exact ⟨(x, ()), by simp only [Ty.flatCm, cmRep]; exact ⟨_, _, rfl, h', by simp⟩⟩
  | .fz e, cs, x, h => by
    have h' := repS_fz.1 h
    simp only [Ty.repS] at h
    obtain ⟨a, cap, rfl, _⟩ := h
    exact ⟨(x, ()), by simp only [Ty.flatCm, cmRep]; exact ⟨_, _, rfl, h', by simp⟩⟩
  | .st fs, cs, x, h => Tys.flat_rep' fs (by simpa only [Ty.repS] using h)
theorem Tys.flat_rep' {S : Nat → Prop} {w : World} : (t : Tys) → {cs : List Value} → {x : t.D} → t.repS S w cs x → ∃ z, cmRep S w t.flatCm cs z []
  | .nil, cs, x, h => by simp only [Tys.repS] at h; subst h; exact ⟨(), by simp [Tys.flatCm, cmRep]⟩
  | .cons t ts, cs, x, h => by
    simp only [Tys.repS] at h
    obtain ⟨c1, c2, rfl, h1, h2⟩ := h
    obtain ⟨z1, g1⟩ := Ty.flat_rep' t h1
    obtain ⟨z2, g2⟩ := Tys.flat_rep' ts h2
    obtain ⟨z, g⟩ := cmRep_append g2 t.flatCm g1
    exact ⟨z, by simpa only [Tys.flatCm, List.append_nil] using g⟩
end
def ParsOk (P : Program) : List Ty → List TypeId → Prop
  | [], [] => True
  | t :: ts, i :: is => t.Ok P i ∧ ParsOk P ts is
  | _, _ => False
def parsB (P : Program) : List Ty → List TypeId → Bool
  | [], [] => true
  | t :: ts, i :: is => t.okB P i && parsB P ts is
  | _, _ => false
theorem parsB_ok {P : Program} : ∀ {ts : List Ty} {is : List TypeId}, parsB P ts is = true → ParsOk P ts is
  | [], [], _ => trivial
  | [], _ :: _, h => by cases h
  | _ :: _, [], h => by cases h
  | t :: ts, i :: is, h => by
    simp only [parsB, Bool.and_eq_true] at h
    exact ⟨Ty.okB_ok t h.1, parsB_ok h.2⟩
section
variable {H : Type} {enc : TypeId × Value → H} {P : Program} {w : World} {base : Nat} {sp : Nat → Bool} {held : Bool}
theorem okWide_one {t : Ty} {tid : TypeId} (hok : t.Ok P tid) {b0 : Nat} {v : Value} (h : Value.okWide P w .any b0 tid v) : (t.isSt = true → ∃ us, v = .agg us) ∧ (t.isSt = false → v.oneCell' = true) := by
  cases t with
  | st fs =>
    simp only [Ty.Ok] at hok
    obtain ⟨_, fields, hu, _⟩ := hok
    obtain ⟨cs, hcs, _⟩ := okWide_struct hu h
    exact ⟨fun _ => ⟨cs, hcs⟩, fun e => (by cases e)⟩
  | bool =>
    simp only [Ty.Ok] at hok
    refine ⟨fun e => (by cases e), fun _ => ?_⟩
    simp only [Value.okWide, hok.2, Cell.okWide] at h
    cases v <;> simp_all [Cell.ok, Value.oneCell']
  | int k =>
    simp only [Ty.Ok] at hok
    refine ⟨fun e => (by cases e), fun _ => ?_⟩
    simp only [Value.okWide, hok.2, Cell.okWide] at h
    cases v <;> simp_all [Cell.ok, Value.oneCell']
  | str =>
    simp only [Ty.Ok] at hok
    refine ⟨fun e => (by cases e), fun _ => ?_⟩
    obtain ⟨s, rfl⟩ := okWide_string hok.2 h
    rfl
  | sl e =>
    simp only [Ty.Ok] at hok
    obtain ⟨_, eid, hu, _⟩ := hok
    refine ⟨fun e => (by cases e), fun _ => ?_⟩
    obtain ⟨a, len, cap, rfl⟩ := okWide_slice hu h
    rfl
  | fz e =>
    simp only [Ty.Ok] at hok
    obtain ⟨_, eid, hu, _⟩ := hok
    refine ⟨fun e => (by cases e), fun _ => ?_⟩
    obtain ⟨a, len, cap, rfl⟩ := okWide_slice hu h
    rfl
theorem args_rep {b0 : Nat} : ∀ {ts : List Ty} {tids : List TypeId} {vs : List Value} {ds : List (DataW H)} {p : List MemPlace}, ParsOk P ts tids →
    (∀ (j : Nat) t v, tids[j]? = some t → vs[j]? = some v → Value.okWide P w .any b0 t v) → DataW.TrodAll enc P w base sp held tids vs ds p → ∃ x, ItemsRep (fun b => b < w.heap.size) w (ts.map Ty.item) vs x [] []
  | [], [], vs, ds, p, _, _, h => by
    obtain ⟨rfl, _, _⟩ := trodAll_nil h
    exact ⟨(), (⟨rfl, rfl, rfl⟩ : ItemsRep (fun b => b < w.heap.size) w [] [] () [] [])⟩
  | [], _ :: _, _, _, _, hp, _, _ => hp.elim
  | _ :: _, [], _, _, _, hp, _, _ => hp.elim
  | t :: ts, i :: is, vs, ds, p, hp, hv, h => by
    obtain ⟨v, vs', d, ds', p1, p2, rfl, rfl, rfl, h1, h2⟩ := trodAll_cons h
    obtain ⟨fuel, h1⟩ := h1
    obtain ⟨x, hx⟩ := Ty.trod t hp.1 h1
    obtain ⟨z, hz⟩ := Ty.flat_rep' t hx
    obtain ⟨y, hy⟩ := args_rep (ts := ts) hp.2 (fun j t v ht hv' => hv (j + 1) t v (by simpa using ht) (by simpa using hv')) h2
    have := okWide_one hp.1 (hv 0 i v rfl rfl)
    have hone : ItemRep (fun b => b < w.heap.size) w ⟨false, t.isSt, t.flatCm⟩ v z [] [] := ⟨rfl, hz, this.1, this.2⟩
    have hall : ItemsRep (fun b => b < w.heap.size) w (t.item :: ts.map Ty.item) (v :: vs') (z, y) [] [] := by
      simp only [ItemsRep]
      exact ⟨v, vs', [], [], [], [], rfl, rfl, rfl, hone, hy⟩
    exact ⟨(z, y), hall⟩
end
theorem layV_none : ∀ (ts : List Ty) (vs : List Value), vs.length = ts.length → layV (ts.map fun _ => none) vs = vs
  | [], vs, h => by simp at h; subst h; rfl
  | _ :: ts, [], h => by simp at h
  | _ :: ts, v :: vs, h => by simp only [List.map_cons, layV]; rw [layV_none ts vs (by simpa using h)]
theorem same_of_ev {P : Program} {S : Nat → Prop} {w w' : World} {tok : Nat → Value} {loc : Nat → Loc} {hS : SOk S w} (h : Ev (ctxOf P S w [] [] tok loc hS) w') : ∀ i, i < w.heap.size → w'.heap[i]? = w.heap[i]? := by
  intro i hi
  rcases h.old i hi with e | ⟨C, C', E, h1, h2, h3, h4⟩ | ⟨hm, _⟩
  · exact e
  · have h1 : w.heap[i]? = some (.cells C E (0, 0)) := h1
    have : C' = C := same_arr fun j => h4 j fun hm => by
      rcases hm with hm | ⟨_, _, hm, _⟩ <;> cases hm
    rw [h2, h1, this]
  · rcases hm with hm | ⟨_, _, hm, _⟩ <;> cases hm
structure Kept (W w' : World) : Prop where
  frame : W.keptBut w' (fun _ => False)
  froz : ∀ a, a.block < W.heap.size → w'.frozen? a = W.frozen? a
theorem kept_of_ev {P : Program} {S : Nat → Prop} {w w' : World} {tok : Nat → Value} {loc : Nat → Loc} {hS : SOk S w} (h : Ev (ctxOf P S w [] [] tok loc hS) w') : Kept w w' := by
  have hsame := same_of_ev h
  refine ⟨⟨h.os, h.output, fun i hi => ?_⟩, h.frozen⟩
  rw [hsame i hi]
  cases w.heap[i]? with
  | none => trivial
  | some o => cases o <;> simp
section
variable {P : Program} {H : Type} {enc : TypeId × Value → H}
theorem post_of_kept {f : Func} {s : ChangeSpec} {apart fresh handsOn again : Bool} {W W' : World} {args : Array Value} {v : Value} {ds gs : List (DataW H)} {before pa pv : List MemPlace}
    (hW : DataW.Whole enc P f.params.toList s.vars apart W args.toList ds gs before)
    (hres : ∀ (b : Nat) (sp : Nat → Bool) (hd : Bool), DataW.TrodAll enc P W' b sp hd f.resultTypes.toList (v.resultList f.resultTypes.size) (s.fn H (ds ++ gs)).results [])
    (hargs : ∀ sp : Nat → Bool, (∀ p ∈ before, sp p.block = true) → DataW.TrodAll enc P W' 0 sp true f.params.toList args.toList (s.fn H (ds ++ gs)).args pa)
    (hvars : ∀ sp : Nat → Bool, (∀ p ∈ before, sp p.block = true) → DataW.TrodVars enc P W' sp s.vars (s.fn H (ds ++ gs)).vars pv)
    (hps : before = pa ++ pv) (hk : Kept W W')
    (hok : ∀ (j : Nat) (t : TypeId) (r : Value), f.resultTypes[j]? = some t → (v.resultList f.resultTypes.size)[j]? = some r → Value.okWide P W' .any 0 t r) :
    s.post enc P f apart fresh handsOn again W args v W' := by
  have hlt := hW.lt
  have hold : ∀ p ∈ before, (fun b => decide (b < W.heap.size)) p.block = true := fun p hp => by simpa using hlt p hp
  refine ⟨ds, gs, before, [], pa, pv, hW, hres _ _ _, hargs _ hold, hvars _ hold, World.keptBut_mono (fun _ h => h.elim) hk.frame, fun _ => ?_⟩
  obtain ⟨_, _, _, _, _, hz, hn⟩ := hW
  refine ⟨hok, _, _, ([] ++ pa) ++ pv, ⟨[] ++ pa, pv, trodAll_append (hargs _ (fun _ _ => rfl)) (hres _ _ _), hvars _ (fun _ _ => rfl), rfl, ?_, ?_⟩, ?_⟩
  · intro b off hp
    have hm : MemPlace.cell b off ∈ before := by rw [hps]; simpa using hp
    rw [hk.froz _ (hlt _ hm)]
    exact hz b off hm
  · intro ha
    have := hn ha
    rw [hps] at this
    simpa using this
  · intro p hp _
    rw [hps]
    simpa using hp
end
theorem law_calls {P : Program} {f : Nat} {lend : Bool} {ts : List Ty} {tids : List TypeId} {F : itemsD (ts.map Ty.item) → Out (itemsD [⟨false, false, [.b]⟩] × backD (ts.map Ty.item))} {H : Type} {enc : TypeId × Value → H} {w : World} {base b0 : Nat} {sp : Nat → Bool} {held : Bool}
    (hK : Con.Ok P { f := f, lend := lend, its := ts.map Ty.item, lay := ts.map fun _ => none, rs := [⟨false, false, [.b]⟩], F := F }) (hp : ParsOk P ts tids)
    (hF : ∀ x, itemsWF (ts.map Ty.item) x → ∃ z, (F x).eval = some (((true, ()), ()), z)) {args : Array Value} {ds : List (DataW H)} {p : List MemPlace}
    (hv : ∀ (j : Nat) t v, tids[j]? = some t → args[j]? = some v → Value.okWide P w .any b0 t v) (h : DataW.TrodAll enc P w base sp held tids args.toList ds p) (hT : Tabs (fun b => b < w.heap.size) w := by intro p hp; simp [tabs] at hp) :
    Calls P f args w fun e w' => e = .returned (.bool true) ∧ Kept w w' ∧ ∀ b, b < w.heap.size → w'.heap[b]? = w.heap[b]? := by
  obtain ⟨x, hx⟩ := args_rep hp (fun j t v ht hv' => hv j t v ht (by simpa using hv')) h
  obtain ⟨z, hz⟩ := hF x (ItemsRep_WF _ hx)
  have hc := (hK x _ hz (fun b => b < w.heap.size) w ⟨fun b hb => hb, hT⟩ args.toList [] [] hx (by simp) (by simp)).2
  have hl : args.toList.length = ts.length := by
    have := ItemsRep.length _ hx
    simpa using this
  have harg : (layV (ts.map fun _ => none) args.toList).toArray = args := by rw [layV_none ts _ hl]
  have hc : Calls P f (layV (ts.map fun _ => none) args.toList).toArray w _ := hc
  rw [harg] at hc
  refine Calls.mono hc fun e w' he => ?_
  cases e with
  | panicked _ => exact he.elim
  | outgrown => exact he.elim
  | returned v =>
    obtain ⟨⟨rvs, f1, g1, f2, rfl, ⟨_, _, _, _, hr, _⟩, _⟩, hev⟩ := he
    refine ⟨?_, kept_of_ev hev, same_of_ev hev⟩
    simp only [ItemsRep, ItemRep] at hr
    obtain ⟨v, vs', _, _, _, _, rfl, _, _, ⟨_, hr, _, ho⟩, rfl, _⟩ := hr
    simp only [cmRep] at hr
    obtain ⟨q, hq, rfl, _⟩ := hr
    rw [cells_of_oneCell (ho trivial)] at hq
    simp only [retV]
    simp only [List.cons.injEq, and_true] at hq
    rw [hq]
end
section
open Go Go.ChangeShapes Go.WideShapes Go.ChangeAt Go.RowKit
section
variable {α β γ : Type} {f : α → Out (Round α β γ)}
theorem iter_again {n : Nat} {x x' : α} (h : (f x).eval = some (.again x')) : iter f (n + 1) x = iter f n x' := by simp only [iter, h]
theorem iter_out' {n : Nat} {x : α} {y : β} (h : (f x).eval = some (.out y)) (hn : 0 < n) : iter f n x = some (.inl y) := by
  cases n with
  | zero => omega
  | succ n => simp only [iter, h]
theorem iter_ret' {n : Nat} {x : α} {z : γ} (h : (f x).eval = some (.ret z)) (hn : 0 < n) : iter f n x = some (.inr z) := by
  cases n with
  | zero => omega
  | succ n => simp only [iter, h]
theorem iter_steps (s : Nat → α) : ∀ (m n : Nat), (∀ i, i < m → (f (s i)).eval = some (.again (s (i + 1)))) → iter f (m + n) (s 0) = iter f n (s m)
  | 0, n, _ => by rw [Nat.zero_add]
  | m + 1, n, h => by
    have h1 := iter_steps s m (1 + n) fun i hi => h i (by omega)
    rw [show m + 1 + n = m + (1 + n) by omega, h1, show 1 + n = n + 1 by omega, iter_again (h m (by omega))]
theorem iter_steps' (s : Nat → α) (m n : Nat) (hm : m ≤ n) (h : ∀ i, i < m → (f (s i)).eval = some (.again (s (i + 1)))) : iter f n (s 0) = iter f (n - m) (s m) := by
  have := iter_steps s m (n - m) h
  rwa [show m + (n - m) = n by omega] at this
theorem iter_out (s : Nat → α) (m : Nat) {n : Nat} {y : β} (hm : m < n) (h : ∀ i, i < m → (f (s i)).eval = some (.again (s (i + 1)))) (hy : (f (s m)).eval = some (.out y)) : iter f n (s 0) = some (.inl y) := by
  rw [iter_steps' s m n (by omega) h, iter_out' hy (by omega)]
theorem iter_ret (s : Nat → α) (m : Nat) {n : Nat} {z : γ} (hm : m < n) (h : ∀ i, i < m → (f (s i)).eval = some (.again (s (i + 1)))) (hz : (f (s m)).eval = some (.ret z)) : iter f n (s 0) = some (.inr z) := by
  rw [iter_steps' s m n (by omega) h, iter_ret' hz (by omega)]
theorem iter_scan (s : Nat → α) (p : Nat → Bool) (m : Nat) {n : Nat} {y : β} {z : γ} (hm : m < n) (h : ∀ i, i < m → p i = true → (f (s i)).eval = some (.again (s (i + 1)))) (hz : ∀ i, i < m → p i = false → (f (s i)).eval = some (.ret z))
    (hy : (f (s m)).eval = some (.out y)) : iter f n (s 0) = some (if (List.range m).all p = true then .inl y else .inr z) := by
  by_cases ha : (List.range m).all p = true
  · rw [if_pos ha]
    rw [List.all_eq_true] at ha
    exact iter_out s m hm (fun i hi => h i hi (ha i (List.mem_range.2 hi))) hy
  · rw [if_neg ha]
    have hex : ∃ i, i < m ∧ p i = false := by
      rw [List.all_eq_true] at ha
      simp only [Classical.not_forall] at ha
      obtain ⟨i, hi, hp⟩ := ha
      exact ⟨i, List.mem_range.1 hi, by simpa using hp⟩
    obtain ⟨i, ⟨hi, hp⟩, hmin⟩ := exists_least hex
    exact iter_ret s i (by omega) (fun j hj => h j (by omega) (by
      cases hpj : p j with
      | true => rfl
      | false => have := hmin j ⟨by omega, hpj⟩; omega)) (hz i hi hp)
end
theorem iter1_out {α β : Type} {f : α → Out (Round α β Empty)} (s : Nat → α) (m : Nat) {n : Nat} {y : β} (hm : m < n) (h : ∀ i, i < m → (f (s i)).eval = some (.again (s (i + 1)))) (hy : (f (s m)).eval = some (.out y)) : iter1 f n (s 0) = some y := by
  unfold iter1
  rw [iter_out s m hm h hy]
  rfl
theorem lt_fuel {m : Nat} (h : m ≤ BIG) : m < FUEL := Nat.lt_of_le_of_lt h (by decide)
theorem eval_ite_t {ρ : Type} {c : Bool} {a b : Out ρ} (h : c = true) : (Out.ite c a b).eval = a.eval := by subst h; rfl
theorem eval_ite_f {ρ : Type} {c : Bool} {a b : Out ρ} (h : c = false) : (Out.ite c a b).eval = b.eval := by subst h; rfl
theorem eval_get_some {ρ α : Type} {o : Option α} {k : α → Out ρ} {x : α} (h : o = some x) : (Out.get o k).eval = (k x).eval := by subst h; rfl
theorem eval_alt_l {ρ α β : Type} {k : α → Out ρ} {h : β → Out ρ} (x : α) : (Out.alt (.inl x) k h).eval = (k x).eval := rfl
theorem wrap_succ {i : Nat} (h : i < BIG) : IntKind.i64.wrap ((i : Int) + 1) = ((i + 1 : Nat) : Int) := by
  unfold BIG at h
  rw [IntKind.wrap_i64]
  omega
theorem wrap_id {n : Int} (h0 : -9223372036854775808 ≤ n) (h1 : n ≤ 9223372036854775807) : IntKind.i64.wrap n = n := by
  rw [IntKind.wrap_i64]
  omega
theorem nth_get {α : Type} {l : List α} {i : Nat} (h : i < l.length) : nth l (Int.toNat (i : Int)) = some l[i] := by
  show l[_]? = _
  rw [Int.toNat_natCast, List.getElem?_eq_getElem h]
section
variable {H : Type} {enc : TypeId × Value → H} {P : Program} {base : Nat} {sp : Nat → Bool}
theorem trodAll_stays {W W' : World} (hl : laidOutB P = true) (hs : ∀ b, b < W.heap.size → W'.heap[b]? = W.heap[b]?) : ∀ {ts : List TypeId} {vs : List Value} {ds : List (DataW H)} {ps : List MemPlace}, (ts.all fun t => P.readableRec t && decide (t < P.types.size)) = true →
    DataW.TrodAll enc P W base (fun _ => true) true ts vs ds ps → (∀ p ∈ ps, p.block < W.heap.size) → (∀ p ∈ ps, sp p.block = true) → DataW.TrodAll enc P W' base sp true ts vs ds ps
  | [], _, _, _, _, h, _, _ => by
    obtain ⟨rfl, rfl, rfl⟩ := trodAll_nil h
    exact trodAll_mk0
  | t :: ts, vs, ds, ps, ht, h, hlt, hsp => by
    obtain ⟨v, vs', d, ds', p1, p2, rfl, rfl, rfl, h1, h2⟩ := trodAll_cons h
    simp only [List.all_cons, Bool.and_eq_true, decide_eq_true_eq] at ht
    refine trodAll_cons_mk ?_ (trodAll_stays hl hs ht.2 h2 (fun p hp => hlt p (by simp [hp])) (fun p hp => hsp p (by simp [hp])))
    refine WideElems.Trod_stays hl ht.1.1 ht.1.2 h1 (fun p hp => ?_) (fun p hp => hsp p (by simp [hp]))
    have := hs p.block (hlt p (by simp [hp]))
    cases p with
    | cell b off => simp only [World.sameAt, World.cell?]; rw [show W'.heap[b]? = W.heap[b]? from this]
    | map b => exact this
end
end
section
open Go
abbrev sp : Char := Char.ofNat 32
theorem words_split : ∀ (w : List Char) (r : List Char), (∀ c ∈ w, c ≠ sp) → wordsSigns (w ++ sp :: r) = w :: wordsSigns r
  | [], r, _ => rfl
  | c :: w, r, h => by
    have hc : c ≠ sp := h c (by simp)
    have ih := words_split w r fun d hd => h d (by simp [hd])
    rw [List.cons_append]
    unfold wordsSigns
    split
    · rename_i e; cases e
    · rename_i e
      have : c = sp := (List.cons.inj e).1
      exact absurd this hc
    · rename_i c' r' _ e
      obtain ⟨rfl, rfl⟩ := List.cons.inj e
      rw [ih]
      exact congrArg (fun l => (c :: w) :: l) (wordsSigns.eq_def r)
def noSp (w : List Char) : Bool := w.all fun c => !decide (c = sp)
theorem noSp_ok {w : List Char} (h : noSp w = true) : ∀ c ∈ w, c ≠ sp := fun c hc e => by
  have := List.all_eq_true.1 h c hc
  simp [e] at this
theorem words_behind {s : String} {a b d r : List Char} (hs : s = String.ofList (a ++ sp :: (b ++ sp :: (d ++ sp :: r)))) (ha : noSp a = true) (hb : noSp b = true) (hd : noSp d = true) (hm : (a == "harness".toList) = true) (hsum : isSumSigns b = true) :
    behindMainWord (wordsSigns s.toList) = d :: wordsSigns r := by
  rw [hs, String.toList_ofList, words_split a _ (noSp_ok ha), words_split b _ (noSp_ok hb), words_split d _ (noSp_ok hd)]
  show (if ((a == "harness".toList || a == "ownmain".toList) && isSumSigns b) = true then d :: wordsSigns r else _) = _
  rw [hm, hsum]
  rfl
def ch (l : List Nat) : List Char := l.map Char.ofNat
section
variable {P : Program} {q : List (List Char)}
theorem make_cut (hr : behindMainWord (wordsSigns P.initOrder.toList) = ch [99, 117, 116] :: q) : P.make = some .cut := by
  unfold Program.make
  rw [hr]
  have h1 : (ch [99, 117, 116] == "gc".toList || ch [99, 117, 116] == "spec".toList) = false := by kernel_rfl
  have h2 : (ch [99, 117, 116] == "cut".toList) = true := by kernel_rfl
  simp only [h1, h2, Bool.true_or, if_true, Bool.false_eq_true, if_false]
theorem strip_cut : stripLifts liftWords (ch [99, 117, 116] :: q) = ([], ch [99, 117, 116] :: q) := by kernel_rfl
theorem lifts_cut (hr : behindMainWord (wordsSigns P.initOrder.toList) = ch [99, 117, 116] :: q) : P.liftsFinal = false := by
  unfold Program.liftsFinal Program.headLifts
  simp only [hr, strip_cut]
  kernel_rfl
theorem mayEnter_cut (hr : behindMainWord (wordsSigns P.initOrder.toList) = ch [99, 117, 116] :: q) (h1 : P.laysLater = false) (h2 : P.bearsReflect = false) (h3 : P.doorFits [] = true) : P.mayEnter = true := by
  unfold Program.mayEnter
  rw [hr]
  simp only [strip_cut, h1, h2, h3]
  kernel_rfl
end
end
section
open Go
def DSt.drop2 (s : DSt) (i j : Nat) : DSt := { s with t := (s.t.set i .dead).set j .dead, kn := [] }
theorem DRel.drop2 {c : Ctx} {n : Nat} {s : DSt} {a : Act} {w : World} (h : DRel c n s a w) {i j : Nat} (hi : i < n) (hj : j < n) (u v : Value) : DRel c n (s.drop2 i j) ((a.put (some i) u).put (some j) v) w := by
  obtain ⟨⟨c1, μ, fp, he, hx⟩, _, hl⟩ := h
  have hs : ∀ k, (s.drop2 i j).t.getD k .dead = if j = k ∨ i = k then .dead else s.t.getD k .dead := fun k => by
    unfold DSt.drop2
    simp only
    rw [getD_set (by simp; omega), getD_set (by omega)]
    by_cases e : j = k <;> by_cases e' : i = k <;> simp [e, e']
  refine ⟨⟨c1, μ, fp, he, ⟨fun k => ?_, ?_, by rw [put_defers, put_defers]; exact hx.defers, hx.vs, ⟨fun k id hid => ?_, hx.known.2⟩, hx.ev, hx.fix⟩⟩, ?_, by simp [DSt.drop2, hl]⟩
  · show VRel c1 μ _ ((s.drop2 i j).t.getD k .dead)
    rw [hs]
    by_cases e : j = k ∨ i = k
    · rw [if_pos e]; simp [VRel]
    · rw [if_neg e, put_get (n := n) (by rw [put_size]; exact hx.n) (by intro d hd; cases hd; exact hj), if_neg (fun q => e (.inl (Option.some.inj q))), put_get (n := n) hx.n (by intro d hd; cases hd; exact hi), if_neg (fun q => e (.inr (Option.some.inj q)))]
      exact hx.tm k
  · rw [put_size, put_size]; exact hx.n
  · have hid : id ∈ ((s.drop2 i j).t.getD k .dead).ids := hid
    rw [hs] at hid
    split at hid
    · cases hid
    · exact hx.known.1 k id hid
  · intro d b hf; cases hf
theorem wpOp_value {P : Program} {ops : Array Oper} {Q : Exit → Act → World → Prop} {i : Nat} {K : Act → World → Prop} {a : Act} {w : World} {o : Oper} {v : Value} (ho : ops[i]? = some o) (hg : o.guard = none)
    (hr : (execOp a.eval o).run P w = .ok (.value v) w) (h : K (a.put o.dst v) w) : wpOp P ops Q i K a w := by
  unfold wpOp
  have hw : Region.wanted o (yielded ops a.tmps) = true := by simp [Region.wanted, hg]
  simp only [ho, hw, if_true]
  left
  unfold Oper.wp
  rw [hr]
  exact h
theorem ask_nil {c : Ctx} {n : Nat} {s : DSt} {a : Act} {w : World} (h : DRel c n s a w) (hn : 5 ≤ n) {e : Ty} {x : List e.D} {tk : Option Nat} (h0 : s.t.getD 0 .dead = .ro e x tk) {tid te : TypeId} (hU : c.P.underlying tid = some (.slice te)) {rid : Nat} {o3 o4 : Oper} {A : Code} {Q : Exit → Act → World → Prop}
    (h3 : o3.op = .move (.tmp 0)) (g3 : o3.guard = none) (d3 : o3.dst = some 3) (h4 : o4.op = .binOp .eql tid (.tmp 3) (.const (.slice none 0 0)) tid) (g4 : o4.guard = none) (d4 : o4.dst = some 4)
    (hA : x = [] → ∀ a', DRel c n (s.drop2 3 4) a' w → A.wp c.P Q a' w) (hB : ∀ a', DRel c n (s.drop2 3 4) a' w → Q .normal a' w) :
    (Code.seq (.region rid #[o3, o4] false) (.cond (.tmp 4) A .skip)).wp c.P Q a w := by
  obtain ⟨⟨c1, μ, fp, he, hx⟩, hk, hl⟩ := h
  have h : DRel c n s a w := ⟨⟨c1, μ, fp, he, hx⟩, hk, hl⟩
  have hv := hx.tm 0
  rw [show s.f.t 0 = s.t.getD 0 .dead from rfl, h0] at hv
  simp only [VRel, Ty.repS] at hv
  obtain ⟨⟨ad, cap, hv, hc, hd⟩, _⟩ := hv
  generalize hva : a.tmps.getD 0 Go.undef = v at hv
  have hv : v = .slice ad x.length cap := by simpa using hv
  subst hv
  have hnil : ad.isNone = true → x = [] := fun e1 => by
    rcases hd with hd | ⟨b, o, hd, _⟩
    · exact hd
    · rw [hd] at e1; cases e1
  have hD := h.drop2 (i := 3) (j := 4) (by omega) (by omega) (.slice ad x.length cap) (.bool ad.isNone)
  have he4 : ((a.put (some 3) (.slice ad x.length cap)).put (some 4) (.bool ad.isNone)).eval (.tmp 4) = .bool ad.isNone := by
    show Array.getD _ 4 Go.undef = _
    rw [put_get (n := n) (dst := some 4) (by rw [put_size]; exact hx.n) (fun d hd => by rw [← Option.some.inj hd]; exact (show (4 : Nat) < n by omega)), if_pos rfl]
  refine wp_seq (wp_region ?_)
  show wpOps c.P #[o3, o4] _ [0, 1] a w
  rw [wpOps_cons]
  refine wpOp_value (o := o3) (v := .slice ad x.length cap) rfl g3 (by
    have : a.eval (.tmp 0) = .slice ad x.length cap := hva
    simp [execOp, h3, this]) ?_
  rw [wpOps_cons, d3]
  refine wpOp_value (o := o4) (v := .bool ad.isNone) rfl g4 (by
    have : (a.put (some 3) (.slice ad x.length cap)).eval (.tmp 3) = .slice ad x.length cap := by
      show Array.getD _ 3 Go.undef = _
      rw [put_get (n := n) (dst := some 3) hx.n (fun d hd => by rw [← Option.some.inj hd]; exact (show (3 : Nat) < n by omega)), if_pos rfl]
    have e2 : (a.put (some 3) (.slice ad x.length cap)).eval (.const (.slice none 0 0)) = .slice none 0 0 := rfl
    have hg : (eqGuard .eql tid (.tmp 3) (.const (.slice none 0 0)) (.slice ad x.length cap) (.slice none 0 0)).run c.P w = .ok () w := by simp [eqGuard]
    simp [execOp, h4, this, e2, hg, Go.Lib.run_eql_slice_nil w tid te ad x.length cap 0 0 hU]) ?_
  rw [d4]
  show Code.wp _ _ _ _ _
  cases hb : ad.isNone with
  | true =>
    rw [hb] at he4 hD
    exact wp_cond_true he4 (hA (hnil hb) _ hD)
  | false =>
    rw [hb] at he4 hD
    exact wp_cond_false he4 (wp_skip (hB _ hD))
def askOut (C : Cx) (An : Nat → Option LoopAnn) (R B : Code) (its : List Item) (lay : Lay) (ntmps : Nat) (rs : List Item) (rtm : List ResultVar) (x : itemsD its) : Out (itemsD rs × backD its) :=
  (dexec C An R (entry its lay ntmps x)).bind fun r =>
    match r.1 with
    | .normal => (dexec C An B (r.2.drop2 3 4)).bind fun r =>
      match r.1 with
      | .exit _ => .fail
      | _ => .of (leave C its rs rtm r.2) .ret
    | _ => .fail
theorem ask_run {C : Cx} {c : Ctx} {n : Nat} (hC : CxOk C c.P) (hF : CallsOk C c.P) (hm : c.P.follows .mixedOrders = true) {An : Nat → Option LoopAnn} {R A B : Code} {its rs : List Item} {lay : Lay} {ntmps : Nat} {rtm : List ResultVar} {x : itemsD its} {e : Ty} {l : List e.D} {tk : Option Nat}
    {tid te : TypeId} (hU : c.P.underlying tid = some (.slice te)) {rid : Nat} {o3 o4 : Oper}
    (h3 : o3.op = .move (.tmp 0)) (g3 : o3.guard = none) (d3 : o3.dst = some 3) (h4 : o4.op = .binOp .eql tid (.tmp 3) (.const (.slice none 0 0)) tid) (g4 : o4.guard = none) (d4 : o4.dst = some 4)
    (hs0 : ∀ s1, (dexec C An R (entry its lay ntmps x)).eval = some (.normal, s1) → s1.t.getD 0 .dead = .ro e l tk) (h5 : 5 ≤ n) {y : itemsD rs × backD its}
    (hB : (askOut C An R B its lay ntmps rs rtm x).eval = some y) (hA : l = [] → (askOut C An R A its lay ntmps rs rtm x).eval = some y) {a : Act} {w : World} (h : DRel c n (entry its lay ntmps x) a w)
    (hret : ∀ s r, (dexec C An A s).eval = some r → r.1 = .ret) :
    (Code.seq R (.seq (.seq (.region rid #[o3, o4] false) (.cond (.tmp 4) A .skip)) B)).wp c.P (fun e a' w' => ∃ ex s', e = exOf ex ∧ DRel c n s' a' w' ∧ (∀ m, ex ≠ .exit m) ∧ leave C its rs rtm s' = some y) a w := by
  unfold askOut at hB
  obtain ⟨⟨ex, s1⟩, hq, hB⟩ := bind_eval hB
  refine wp_seq (wp_mono (dexec_sound hC hF hm An R _ _ a w hq h) fun e a1 w1 he => ?_)
  obtain ⟨rfl, he⟩ := he
  cases ex with
  | exit m => cases hB
  | ret => cases hB
  | normal =>
    refine wp_seq (ask_nil he h5 (hs0 s1 hq) hU h3 g3 d3 h4 g4 d4 (fun hl a2 h2 => ?_) (fun a2 h2 => end_sound hC hF hm h2 hB))
    have hA := hA hl
    unfold askOut at hA
    obtain ⟨r2, hq2, hA⟩ := bind_eval hA
    rw [hq] at hq2
    obtain rfl := Option.some.inj hq2
    obtain ⟨r3, hq3, hA⟩ := bind_eval hA
    have hr3 := hret _ _ hq3
    obtain ⟨ex3, s3⟩ := r3
    obtain rfl : ex3 = .ret := hr3
    obtain ⟨z, hz, hA⟩ := of_eval hA
    obtain rfl := Option.some.inj hA
    refine wp_mono (dexec_sound hC hF hm An A _ _ a2 w1 hq3 h2) fun e a' w' he => ?_
    obtain ⟨rfl, he⟩ := he
    exact ⟨.ret, s3, rfl, he, fun m => by simp, hz⟩
theorem ret_last {C : Cx} {An : Nat → Option LoopAnn} {id : Nat} {ops : Array Oper} {d : Bool} {s : DSt} {r : Ex × DSt} (h : (dexec C An (.seq (.region id ops d) .ret) s).eval = some r) : r.1 = .ret := by
  simp only [dexec] at h
  obtain ⟨q, hq, h⟩ := bind_eval h
  obtain ⟨s', _, hq⟩ := bind_eval hq
  obtain rfl := Option.some.inj hq
  obtain rfl := Option.some.inj h
  rfl
def tmp0 : Out (Ex × DSt) → DVal
  | .ret r => r.2.t.getD 0 .dead
  | _ => .dead
theorem con_of_ask {P : Program} {C : Cx} {K : Con} {fn : Func} {code : Code} {rtm : List ResultVar} {An : Nat → Option LoopAnn} (hC : CxOk C P) (hF : CallsOk C P) (hm : P.follows .mixedOrders = true)
    {R B : Code} {rid ia : Nat} {oa : Array Oper} {da : Bool} {o3 o4 : Oper} {tid te : TypeId} {e : Ty} {tk : Option Nat} (l : itemsD K.its → List e.D) (func : P.funcs[K.f]? = some fn) (body : fn.body = some code) (name : (fn.name == "runtime.NumGoroutine") = false) (res : fn.results = rtm.toArray)
    (few : rtm.length ≤ 6) (cnt : itsN K.its 0 ≤ 64) (pos : (K.rs.all fun it => decide (0 < it.cs.length)) = true)
    (hcode : code = .seq R (.seq (.seq (.region rid #[o3, o4] false) (.cond (.tmp 4) (.seq (.region ia oa da) .ret) .skip)) B)) (hU : P.underlying tid = some (.slice te))
    (h3 : o3.op = .move (.tmp 0)) (g3 : o3.guard = none) (d3 : o3.dst = some 3) (h4 : o4.op = .binOp .eql tid (.tmp 3) (.const (.slice none 0 0)) tid) (g4 : o4.guard = none) (d4 : o4.dst = some 4)
    (hs0 : ∀ x, tmp0 (dexec C An R (entry K.its K.lay fn.ntmps x)) = .ro e (l x) tk) (h5 : ∀ x, 5 ≤ (entry K.its K.lay fn.ntmps x).t.length)
    (hB : ∀ x y, itemsWF K.its x → (K.F x).eval = some y → (askOut C An R B K.its K.lay fn.ntmps K.rs rtm x).eval = some y)
    (hA : ∀ x y, itemsWF K.its x → l x = [] → (K.F x).eval = some y → (askOut C An R (.seq (.region ia oa da) .ret) K.its K.lay fn.ntmps K.rs rtm x).eval = some y) (hvw : K.vw = none := by rfl) : K.Ok P := by
  refine con_of_sim hC ⟨func, body, name, res, few, cnt, pos, fun x y hw hy c n a w hP hD => ?_⟩ hvw
  subst hP
  rw [hcode]
  refine ask_run (tk := tk) hC hF hm hU h3 g3 d3 h4 g4 d4 (fun s1 hs => ?_) (hD.len ▸ h5 x) (hB x y hw hy) (fun hl => hA x y hw hl hy) hD fun s r h => ret_last h
  have := hs0 x
  revert hs this
  generalize dexec C An R (entry K.its K.lay fn.ntmps x) = o
  intro hs this
  cases o with
  | ret r => obtain rfl := Option.some.inj hs; exact this
  | _ => cases this
def cSeqL : Code → Code
  | .seq a _ => a
  | _ => .skip
def cSeqR : Code → Code
  | .seq _ b => b
  | _ => .skip
def cThen : Code → Code
  | .cond _ a _ => a
  | _ => .skip
def cOps : Code → Array Oper
  | .region _ ops _ => ops
  | _ => #[]
def cOp (c : Code) (i : Nat) : Oper := (cOps c).getD i ⟨none, .move (.tmp 0), 0, "", #[], none⟩
end
end Go.Proofs.YtnnpnkegpkladaaGreat.Dm
