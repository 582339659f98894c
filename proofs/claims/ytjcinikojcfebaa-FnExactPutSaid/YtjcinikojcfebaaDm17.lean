/- The data machine, part 17: slices built out of parts. -/
import Derived.Test.YtjcinikojcfebaaDm16
namespace Go.Proofs.Ytjcinikojcfebaa.Dm
open Go

/-- The items of a row: each in its cells, of its blocks. -/
def Items (w : World) (e : Ty) (cs : List Value) (xs : List e.D) (fps : List (List Nat)) : Prop :=
  fps.length = xs.length ∧ ∀ (i : Nat) (y : e.D) (f : List Nat), xs[i]? = some y → fps[i]? = some f → e.repO w ((cs.drop (i * e.size)).take e.size) y f

theorem set_flatten {fps : List (List Nat)} {k : Nat} {f : List Nat} (hk : k < fps.length) (h : fps.flatten.Nodup) (hf : f.Nodup) (hd : ∀ b ∈ f, b ∉ fps.flatten) :
    (fps.set k f).flatten.Nodup ∧ ∀ b ∈ (fps.set k f).flatten, b ∈ fps.flatten ∨ b ∈ f := by
  have e1 := flatten_split fps k hk
  have e2 : (fps.set k f).flatten = (fps.take k).flatten ++ f ++ (fps.drop (k + 1)).flatten := by
    rw [List.set_eq_take_append_cons_drop, if_pos hk]; simp
  rw [e1] at h hd
  rw [e2, e1]
  constructor
  · rw [List.nodup_append] at h ⊢
    obtain ⟨h1, h2, h3⟩ := h
    rw [List.nodup_append] at h1
    obtain ⟨h4, h5, h6⟩ := h1
    refine ⟨?_, h2, ?_⟩
    · rw [List.nodup_append]
      exact ⟨h4, hf, fun x hx y hy e => hd y hy (by subst e; simp [hx])⟩
    · intro x hx y hy e
      subst e
      rcases List.mem_append.1 hx with hx | hx
      · exact h3 x (by simp [hx]) x hy rfl
      · exact hd x hx (by simp [hy])
  · intro b hb
    simp only [List.mem_append] at hb ⊢
    rcases hb with (hb | hb) | hb
    · simp [hb]
    · simp [hb]
    · simp [hb]

/-- A row with one item written. -/
theorem chunk_spliced {A : Array Value} {sz k i n : Nat} {vs : List Value} (hv : vs.length = sz) (hA : A.size = n * sz) (hk : k < n) (hi : i < n) :
    ((spliced A (k * sz) vs).toList.drop (i * sz)).take sz = if i = k then vs else (A.toList.drop (i * sz)).take sz := by
  have hkn : (k + 1) * sz ≤ n * sz := Nat.mul_le_mul_right _ hk
  have hin : (i + 1) * sz ≤ n * sz := Nat.mul_le_mul_right _ hi
  rw [Nat.add_mul] at hkn hin
  apply List.ext_getElem?
  intro j
  by_cases hj : j < sz
  · rw [List.getElem?_take_of_lt hj, List.getElem?_drop, Array.getElem?_toList, spliced_get (by omega)]
    by_cases e : i = k
    · subst e
      rw [if_pos (by omega), if_pos rfl]; congr 1; omega
    · rw [if_neg e, List.getElem?_take_of_lt hj, List.getElem?_drop, Array.getElem?_toList, Array.getElem?_toList]
      refine if_neg ?_
      intro ⟨h1, h2⟩
      rcases Nat.lt_or_ge i k with h | h
      · have := Nat.mul_le_mul_right sz (show i + 1 ≤ k from h)
        rw [Nat.add_mul] at this; omega
      · have := Nat.mul_le_mul_right sz (show k + 1 ≤ i by omega)
        rw [Nat.add_mul] at this; omega
  · rw [List.getElem?_eq_none (by simp; omega), List.getElem?_eq_none]
    split
    · omega
    · simp; omega

section
variable {c : Ctx} {μ : Nat → Loc} {fp : Nat → List Nat} {s : FSt} {n : Nat} {o : Oper} {a : Act} {w : World} {r : Res} {C : Cx} {E : Env}

/-- A new slice of items that are there already. -/
theorem items_repO {e : Ty} {xs : List e.D} {fps : List (List Nat)} {A : Array Value} {T : TypeId} {cap : Nat} (hi : Items w e A.toList xs fps) (hc : xs.length ≤ cap ∧ xs.length ≤ BIG) (hA : cap * e.size ≤ A.size) (hlt : ∀ b ∈ fps.flatten, b < w.heap.size) :
    (Ty.sl e).repO (w.alloc (.cells A T)) [.slice (some ⟨w.heap.size, 0, none⟩) xs.length cap] xs (w.heap.size :: fps.flatten) := by
  simp only [Ty.repO]
  refine ⟨_, cap, rfl, hc, .inr ⟨w.heap.size, 0, A, T, fps, rfl, heap_alloc_new w _, by omega, hi.1, rfl, ?_⟩⟩
  intro i y f hy hf
  have hy : xs[i]? = some y := hy
  have hf : fps[i]? = some f := hf
  have h1 := hi.2 i y f hy hf
  rw [cellsAt_of (heap_alloc_new w _), Nat.zero_add]
  refine Ty.repO_congr e h1 fun b hb => heap_alloc_old w _ b (hlt b ?_)
  exact List.mem_flatten.2 ⟨f, List.mem_of_getElem? hf, hb⟩

theorem fillList_rel (hv : RelV c μ fp s.v w) (hE : ∀ id x, E id = some x → s.v id = some x) {e : Ty} {ev : Operand → DVal} {av : Operand → Value} :
    ∀ (ps : List (Nat × Operand)) (A : Array Value) (xs : List e.D) (fps : List (List Nat)) (g : List Nat) (r : List e.D × List Nat), (∀ x ∈ ps, VRel c μ (av x.2) (ev x.2)) → A.size = xs.length * e.size →
      Items w e A.toList xs fps → Gone c fp s.v E g fps.flatten → fillList E e ev ps xs g = some r →
      ∃ A' fps', Instr.fill (fun i => some (i * e.size, e.size)) A (ps.map fun x => (x.1, av x.2)) = some A' ∧ A'.size = xs.length * e.size ∧ r.1.length = xs.length ∧ Items w e A'.toList r.1 fps' ∧ Gone c fp s.v E r.2 fps'.flatten
  | [], A, xs, fps, g, r, _, hz, hi, hg, h => by
    simp only [fillList, Option.some.injEq] at h; subst h
    exact ⟨A, fps, rfl, hz, rfl, hi, hg⟩
  | (k, x) :: ps, A, xs, fps, g, r, hev, hz, hi, hg, h => by
    simp only [fillList] at h
    split at h
    · cases h
    rename_i hcond
    simp only [not_or] at hcond
    obtain ⟨hkl, hcell⟩ := hcond
    have hk : k < xs.length := by omega
    have hcell : (ev x).cells.all DVal.isCell = true := boolTrue hcell
    obtain ⟨y, hy, h⟩ := Option.bind_eq_some_iff.1 h
    split at h
    · cases h
    rename_i hdis
    have hvx := (hev (k, x) (by simp)).cells hcell
    obtain ⟨f, hf, hgf⟩ := takeAll_rel hv hE hvx hy
    have hl := Ty.repO_size e hf
    have hin : (k + 1) * e.size ≤ xs.length * e.size := Nat.mul_le_mul_right _ hk
    rw [Nat.add_mul] at hin
    have hdis' : ∀ i ∈ y.2, i ∉ g := fun i hi hi' => hdis (List.any_eq_true.2 ⟨i, hi, by simpa using hi'⟩)
    have hfar : ∀ b ∈ f, b ∉ fps.flatten := fun b h1 h2 => by
      obtain ⟨i1, hi1, hb1⟩ := hgf.mem b h1
      obtain ⟨i2, hi2, hb2⟩ := hg.mem b h2
      exact hv.sep i1 i2 (fun e => hdis' i1 hi1 (e ▸ hi2)) (hgf.there i1 hi1).1 (hg.there i2 hi2).1 b hb1 hb2
    obtain ⟨n1, n2⟩ := set_flatten (f := f) (by rw [hi.1]; exact hk) hg.nodup hgf.nodup hfar
    rw [List.map_cons, run_fill (off := k * e.size) (size := e.size) rfl (by rw [← hl]; simp) (by omega)]
    have := fillList_rel hv hE ps (spliced A (k * e.size) (av x).cells.toList) (xs.set k y.1) (fps.set k f) (g ++ y.2) r (fun z hz => hev z (by simp [hz]))
      (by rw [spliced_size (by rw [hl]; omega), List.length_set]; exact hz)
      ⟨by simp [hi.1], fun i z f' hz' hf' => by
        have hil : i < xs.length := by have := (List.getElem?_eq_some_iff.1 hz').1; simpa using this
        rw [chunk_spliced hl hz hk hil]
        by_cases e : i = k
        · subst e
          rw [if_pos rfl]
          rw [List.getElem?_set_self hil] at hz'
          rw [List.getElem?_set_self (by rw [hi.1]; exact hil)] at hf'
          cases hz'; cases hf'
          exact hf
        · rw [if_neg e]
          rw [List.getElem?_set_ne (Ne.symm e)] at hz' hf'
          exact hi.2 i z f' hz' hf'⟩
      ⟨fun b hb => by
        rcases n2 b hb with hb | hb
        · obtain ⟨i, hi, hb⟩ := hg.mem b hb; exact ⟨i, by simp [hi], hb⟩
        · obtain ⟨i, hi, hb⟩ := hgf.mem b hb; exact ⟨i, by simp [hi], hb⟩, n1,
        fun i hi => by
          rcases List.mem_append.1 hi with hi | hi
          · exact hg.there i hi
          · exact hgf.there i hi,
        fun b hb hlt j => by
          rcases n2 b hb with hb | hb
          · exact hg.may b hb hlt j
          · exact hgf.may b hb hlt j⟩ h
    simpa using this

theorem zeros_items {e : Ty} {z : Array Value} (hz : z.toList = e.zeroV) (n : Nat) : Items w e (madeCells z (n * e.size)).toList (List.replicate n e.zero) (List.replicate n []) := by
  refine ⟨by simp, fun i y f hy hf => ?_⟩
  have hi : i < n := by have := (List.getElem?_eq_some_iff.1 hf).1; simpa using this
  rw [List.getElem?_replicate, if_pos hi] at hy hf
  cases hy; cases hf
  have hzl : e.zeroV.length = e.size := Ty.zeroV_length e
  have hzs : z.size = e.size := by rw [← hzl, ← hz]; simp
  have hin : (i + 1) * e.size ≤ n * e.size := Nat.mul_le_mul_right _ hi
  rw [Nat.add_mul] at hin
  have : ((madeCells z (n * e.size)).toList.drop (i * e.size)).take e.size = e.zeroV := by
    apply List.ext_getElem?
    intro k
    by_cases hk : k < e.size
    · rw [List.getElem?_take_of_lt hk, List.getElem?_drop, Array.getElem?_toList]
      have hmod : (i * e.size + k) % z.size = k := by
        rw [hzs, Nat.add_comm, Nat.add_mul_mod_self_right, Nat.mod_eq_of_lt hk]
      rw [← hz, Array.getElem?_toList]
      simp only [madeCells]
      rw [Array.getElem?_map, Array.getElem?_range, if_pos (by omega), Option.map_some, hmod]
      have : k < z.size := by omega
      simp [this]
    · rw [List.getElem?_eq_none (by simp; omega), List.getElem?_eq_none (by omega)]
  rw [this]
  exact Ty.zero_repO _ e

variable (h : RelX c μ fp s n a w)
include h

theorem sim_buildSlice (hC : CxOk C c.P) (hE : ∀ id x, E id = some x → s.v id = some x) {t : TypeId} {m : Nat} {ps : Array (Nat × Operand)} (ho : o.op = .buildSlice t m ps) {fr : Nat} (hfr : ¬ s.k fr)
    (hr : (Out.of (C.ty t) fun t => .of (isSl t) fun e => if m * e.size ≤ 16777216 then
      .of (fillList E e (evF s.t) ps.toList (List.replicate m e.zero) []) fun y => .ret (.sref fr none, (y.2.map fun k => (k, none)) ++ [(fr, some (.arr e y.1))]) else .fail).eval = some r) : Sim c μ s o a w r := by
  replace hr := of_eval hr
  obtain ⟨ty, hty, hr⟩ := hr
  replace hr := of_eval hr
  obtain ⟨e, he, hr⟩ := hr
  have hty : C.ty t = some (.sl e) := isSl_eq he ▸ hty
  obtain ⟨eid, hu, hok⟩ := (hC.ty t _ hty).sl
  split at hr
  case isFalse => cases hr
  rename_i hm
  replace hr := of_eval hr
  obtain ⟨y, hy, hr⟩ := hr
  have hr := Option.some.inj hr
  subst hr
  obtain ⟨i, z, hi, hs, hb, hz, hzc, hpos⟩ := hok.base
  have hzl : e.zeroV.length = e.size := Ty.zeroV_length e
  obtain ⟨A', fps, hA, hAs, hyl, hit, hg⟩ := fillList_rel (av := a.eval) h.vs hE ps.toList (madeCells z.cells (m * e.size)) _ (List.replicate m []) [] y (fun x _ => h.ev_rel x.2) (by rw [size_madeCells, List.length_replicate]) (zeros_items hzc m)
    ⟨by simp, by simp, by simp, by simp⟩ hy
  simp only [List.length_replicate] at hAs hyl
  have hlt : ∀ b ∈ fps.flatten, b < w.heap.size := fun b hb => by
    obtain ⟨k, hk, hb⟩ := hg.mem b hb
    exact h.vs.lt k (hg.there k hk).1 b hb
  have hrun : (execOp a.eval o).run c.P w = .ok (.value (.slice (some ⟨w.heap.size, 0, none⟩) m m)) (w.alloc (.cells A' eid)) := by
    have hzr : (zeroValue eid).run c.P w = .ok z w := by simp [zeroValue, typeInfo, hi, hz]
    have hfill : Instr.fill (fun i => some (i * e.size, e.size)) ((Array.range (m * e.size)).map (z.cells[· % z.cells.size]!)) (ps.toList.map fun x => (x.1, a.eval x.2)) = some A' := hA
    by_cases h0 : m * e.size = 0
    · have hm0 : m = 0 := by rcases Nat.mul_eq_zero.1 h0 with h | h <;> omega
      subst hm0
      have hfill : Instr.fill (fun i => some (i * e.size, e.size)) ((Array.range 0).map fun _ => default) (ps.toList.map fun x => (x.1, a.eval x.2)) = some A' := by
        rw [← hfill]; simp only [Nat.zero_mul]; congr 1; simp
      simp [execOp, ho, Instr.buildSlice, run_underlying hu, hok.run_size, hfill, newRow]
    · have : ¬ (16777216 < m * e.size) := by omega
      simp [execOp, ho, Instr.buildSlice, run_underlying hu, hok.run_size, this, h0, hzr, hfill, newRow]
  have hrel := items_repO (T := eid) (cap := m) hit ⟨by omega, by unfold BIG; have : m * 1 ≤ m * e.size := Nat.mul_le_mul_left _ (by omega); omega⟩ (by omega) hlt
  rw [hyl] at hrel
  have hvar : VarRel c (fun id => if id = fr then .hdr (some ⟨w.heap.size, 0, none⟩) y.1.length m e.size else μ id) (w.alloc (.cells A' eid)) fr (w.heap.size :: fps.flatten) (.arr e y.1) := by
    refine ⟨some ⟨w.heap.size, 0, none⟩, m, by simp, by rw [hyl]; exact hrel, fun b hb hlt' => ?_⟩
    rcases List.mem_cons.1 hb with rfl | hb
    · have := h.ev.size; omega
    · exact hg.may b hb hlt'
  obtain ⟨q1, q2⟩ := h.new hfr y.2 _ _ _ (fun id hn _ b hb' => heap_alloc_old w _ b (h.vs.lt id hn b hb')) (by simp) hvar
    (List.nodup_cons.2 ⟨fun hb => Nat.lt_irrefl _ (hlt _ hb), hg.nodup⟩) (fun b hb => by
      rcases List.mem_cons.1 hb with rfl | hb
      · exact .inl ⟨Nat.le_refl _, by simp⟩
      · obtain ⟨k, hk, hb⟩ := hg.mem b hb
        exact .inr ⟨k, hk, (hg.there k hk).1, hb⟩)
  refine sim_value hrun ⟨q1, ?_, q2, h.ev.alloc _ _⟩
  simp only [VRel]
  exact ⟨some ⟨w.heap.size, 0, none⟩, y.1.length, m, e.size, by simp, by rw [hyl]⟩
end
end Go.Proofs.Ytjcinikojcfebaa.Dm
