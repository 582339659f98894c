/- The data machine, part 15: memory: stores. -/
import Derived.Test.YtjcinikojcfebaaDm14
namespace Go.Proofs.Ytjcinikojcfebaa.Dm
open Go

section
variable {c : Ctx} {μ : Nat → Loc} {fp : Nat → List Nat} {s : FSt} {n : Nat} {o : Oper} {a : Act} {w : World} {r : Res} {C : Cx} {E : Env}

theorem VsRel.oneCell : {vs : List Value} → {ds : List DVal} → VsRel c μ vs ds → ds.all DVal.isCell = true → ∀ v ∈ vs, v.oneCell' = true
  | _, [], h, _ => by simp only [VsRel] at h; subst h; simp
  | _, d :: ds, h, hc => by
    simp only [VsRel] at h; obtain ⟨v, vs', rfl, h1, h⟩ := h
    simp only [List.all_cons, Bool.and_eq_true] at hc
    intro u hu
    rcases List.mem_cons.1 hu with rfl | hu
    · exact h1.oneCell hc.1
    · exact VsRel.oneCell h hc.2 u hu

/-- The cells of a block, some of them written. -/
def spliced (D : Array Value) (pos : Nat) (vs : List Value) : Array Value := (D.toList.take pos ++ vs ++ D.toList.drop (pos + vs.length)).toArray
theorem spliced_size {D : Array Value} {pos : Nat} {vs : List Value} (h : pos + vs.length ≤ D.size) : (spliced D pos vs).size = D.size := by
  simp [spliced]; omega
theorem spliced_get {D : Array Value} {pos : Nat} {vs : List Value} (h : pos + vs.length ≤ D.size) (j : Nat) :
    (spliced D pos vs)[j]? = if pos ≤ j ∧ j < pos + vs.length then vs[j - pos]? else D[j]? := by
  have hl : (D.toList.take pos).length = pos := by simp; omega
  simp only [spliced, List.getElem?_toArray]
  rw [List.append_assoc]
  rcases Nat.lt_or_ge j pos with h1 | h1
  · rw [List.getElem?_append_left (by omega), List.getElem?_take_of_lt h1, if_neg (by omega), Array.getElem?_toList]
  · rw [List.getElem?_append_right (by omega), hl]
    rcases Nat.lt_or_ge j (pos + vs.length) with h2 | h2
    · rw [List.getElem?_append_left (by omega), if_pos ⟨h1, h2⟩]
    · rw [List.getElem?_append_right (by omega), List.getElem?_drop, if_neg (by omega), Array.getElem?_toList]
      congr 1; omega

theorem storeVar_run {P : Program} {t : Ty} {tid : TypeId} (hok : t.Ok P tid) {B pos : Nat} {D : Array Value} {T : TypeId} (hb : w.heap[B]? = some (.cells D T (0, 0))) {v : Value} (hl : v.cells.toList.length = t.size)
    (hfit : pos + t.size ≤ D.size) (h1 : ∀ u ∈ v.cells.toList, u.oneCell' = true) :
    (storeVar tid ⟨B, pos, none⟩ v).run P w = .ok () (w.setRow B (spliced D pos v.cells.toList)) := by
  have hst := run_storeCells_at (P := P) B pos T v.cells.toList 0 D w hb (by omega) h1
  have hs : v.cells.size = t.size := by rw [← hl]; simp
  simp only [Nat.add_zero] at hst
  simp [storeVar, hok.run_size, hs, hst, spliced]

/-- The cells of a row, where some of the block's were written. -/
theorem cellsAt_spliced {w : World} {B o' k n : Nat} {D : Array Value} {T : TypeId} (hb : w.heap[B]? = some (.cells D T (0, 0))) {vs : List Value} (hk : k + vs.length ≤ n) (hn : o' + n ≤ D.size) :
    cellsAt (w.setRow B (spliced D (o' + k) vs)) B o' n = (cellsAt w B o' n).take k ++ vs ++ (cellsAt w B o' n).drop (k + vs.length) := by
  rw [cellsAt_of (setRow_heap w B D _ T _ hb), cellsAt_of hb]
  apply List.ext_getElem?
  intro j
  have hl : ((D.toList.drop o').take n).length = n := by simp; omega
  rcases Nat.lt_or_ge j n with hj | hj
  · rw [List.getElem?_take_of_lt hj, List.getElem?_drop, Array.getElem?_toList, spliced_get (by omega), List.append_assoc]
    rcases Nat.lt_or_ge j k with h1 | h1
    · rw [if_neg (by omega), List.getElem?_append_left (by simp; omega), List.getElem?_take_of_lt h1, List.getElem?_take_of_lt hj, List.getElem?_drop, Array.getElem?_toList]
    · rw [List.getElem?_append_right (by simp; omega)]
      have e1 : (((D.toList.drop o').take n).take k).length = k := by simp; omega
      rw [e1]
      rcases Nat.lt_or_ge j (k + vs.length) with h2 | h2
      · rw [if_pos (by omega), List.getElem?_append_left (by omega)]
        congr 1; omega
      · rw [if_neg (by omega), List.getElem?_append_right (by omega), List.getElem?_drop]
        rw [List.getElem?_take_of_lt (by omega), List.getElem?_drop, Array.getElem?_toList]
        congr 1; omega
  · rw [List.getElem?_eq_none (by simp; omega), List.getElem?_eq_none (by simp; omega)]

theorem spliceL_rel {vs us : List Value} {ds es : List DVal} (h : VsRel c μ vs ds) (h' : VsRel c μ us es) (off : Nat) : VsRel c μ (vs.take off ++ us ++ vs.drop (off + us.length)) (spliceL ds off es) := by
  unfold spliceL
  rw [h'.length]
  exact ((h.take off).append h').append (h.drop _)
theorem spliceL_length {ds es : List DVal} {off : Nat} (h : off + es.length ≤ ds.length) : (spliceL ds off es).length = ds.length := by
  simp [spliceL]; omega
theorem spliceL_isCell {ds es : List DVal} {off : Nat} (h : ds.all DVal.isCell = true) (h' : es.all DVal.isCell = true) : (spliceL ds off es).all DVal.isCell = true := by
  simp only [spliceL, List.all_append, Bool.and_eq_true, List.all_eq_true] at *
  exact ⟨⟨fun x hx => h x (List.mem_of_mem_take hx), h'⟩, fun x hx => h x (List.mem_of_mem_drop hx)⟩

theorem boolNot {b : Bool} (h : ¬ b = true) : b = false := by cases b <;> simp_all
theorem boolTrue {b : Bool} (h : ¬ b = false) : b = true := by cases b <;> simp_all

variable (h : RelX c μ fp s n a w)
include h

theorem sim_store (hC : CxOk C c.P) (hE : ∀ id x, E id = some x → s.v id = some x) {t : TypeId} {x y : Operand} (ho : o.op = .store t x y)
    (hr : (Out.of (C.ty t) fun t => storeD E t (evF s.t x) (evF s.t y)).eval = some r) : Sim c μ s o a w r := by
  have hx := h.ev_rel x
  have hy := h.ev_rel y
  replace hr := of_eval hr
  obtain ⟨ty, hty, hr⟩ := hr
  have hok := hC.ty t ty hty
  have run : ∀ (B pos : Nat) (D : Array Value) (T : TypeId), a.eval x = .pointer (some ⟨B, pos, none⟩) → w.heap[B]? = some (.cells D T (0, 0)) → (a.eval y).cells.toList.length = ty.size → pos + ty.size ≤ D.size →
      (∀ u ∈ (a.eval y).cells.toList, u.oneCell' = true) → (execOp a.eval o).run c.P w = .ok .skip (w.setRow B (spliced D pos (a.eval y).cells.toList)) := by
    intro B pos D T hv hb hl hf h1
    simp [execOp, ho, hv, Instr.storeAt, Instr.sureAddr, storeVar_run hok hb hl hf h1]
  unfold storeD at hr
  split at hr
  · rename_i id off e
    rw [e] at hx
    simp only [VRel] at hx
    obtain ⟨B, o', hm, hv⟩ := hx
    split at hr
    · rename_i cs hid
      split at hr
      · rename_i hc
        obtain ⟨hc1, hc2, hc3⟩ := hc
        have hr := Option.some.inj hr
        subst hr
        have hy' := hy.cells hc3
        have hvl := hy'.length
        obtain ⟨B2, o2, D, T, q1, q2, q3, q4, q5, q6, q7⟩ := h.vs.rel id _ (hE _ _ hid)
        rw [hm] at q1; cases q1
        have hrun := run B (o' + off) D T hv q3 (by omega) (by omega) (hy'.oneCell hc3)
        have hlen : (spliceL cs off (evF s.t y).cells).length = cs.length := spliceL_length (by omega)
        have hvar : VarRel c μ (w.setRow B (spliced D (o' + off) (a.eval y).cells.toList)) id [B] (.var (spliceL cs off (evF s.t y).cells)) := by
          refine ⟨B, o', _, T, hm, rfl, setRow_heap w B D _ T _ q3, ?_, ?_, spliceL_isCell q6 hc3, ?_⟩
          · rw [spliced_size (by omega), hlen]; exact q4
          · rw [hlen, cellsAt_spliced q3 (by omega) q4]
            exact spliceL_rel q5 hy' off
          · rw [hlen]; exact q7
        have hprod := h.vs.produce (μ' := μ) (w' := w.setRow B (spliced D (o' + off) (a.eval y).cells.toList)) h.ev [] id _ [B] (fun _ _ _ _ _ => ⟨rfl, fun _ _ => rfl⟩)
          (fun k hk hne _ b hb => setRow_other w B b _ (fun e => by
            subst e
            exact h.vs.sep k id hne hk (by rw [hE _ _ hid]; simp) b hb (by rw [q2]; simp))) (by simp) hvar (by simp)
          (fun b hb => .inr ⟨id, .inl rfl, by rw [hE _ _ hid]; simp, by rw [q2]; exact hb⟩)
        refine sim_skip hrun ⟨fun _ _ => rfl, by simp [VRel], hprod, ?_⟩
        refine h.ev.setRow q3 (fun hs => h.vs.notS id (by rw [hE _ _ hid]; simp) B (by rw [q2]; simp) hs) (spliced_size (by omega)) (fun hlt j hj => ?_)
        rw [spliced_get (by omega)]
        rw [if_neg]
        rintro ⟨h1, h2⟩
        refine hj ?_
        have := q7 hlt (j - o') (by omega)
        rwa [show o' + (j - o') = j by omega] at this
      · cases hr
    · cases hr
  · rename_i id i off e
    rw [e] at hx
    simp only [VRel] at hx
    obtain ⟨b, o', len, cap, sz, hm, hi, hv⟩ := hx
    replace hr := of_eval hr
    obtain ⟨vr, hvr, hr⟩ := hr
    replace hr := of_eval hr
    obtain ⟨yy, hyy, hr⟩ := hr
    split at hr
    · cases hr
    rename_i hnot
    simp only [not_or] at hnot
    obtain ⟨hnid, hcell⟩ := hnot
    have hcell : (evF s.t y).cells.all DVal.isCell = true := by cases hq : (evF s.t y).cells.all DVal.isCell <;> simp_all
    have hnid : id ∉ yy.2 := by simpa using hnid
    have hy' := hy.cells hcell
    obtain ⟨fy, hfy, hgone⟩ := takeAll_rel h.vs hE hy' hyy
    have hvl := Ty.repO_size ty hfy
    have hvid : s.v id ≠ none := by rw [hE _ _ hvr]; simp
    split at hr
    · -- the list that is held beside goes back, changed
      split at hr
      · rename_i e' xs x0 j off' u id' _
        split at hr
        · rename_i hq
          obtain ⟨rfl, hbeq⟩ := hq
          have htu := Ty.beq_eq _ _ hbeq
          subst htu
          replace hr := ite_eval hr
          rcases hr with ⟨hij, hr⟩ | ⟨_, hr⟩
          · have hij : i = j := by simpa using hij
            subst hij
            replace hr := get_eval hr
            obtain ⟨z, hz, hr⟩ := hr
            replace hr := of_eval hr
            obtain ⟨z', hz', hr⟩ := hr
            have hr := Option.some.inj hr
            subst hr
            obtain ⟨ad, cap2, g1, ⟨a', len', cap', e3, bb, ob, CC, EE, w1, w2, w3, w4, w5, w6, w7⟩, g3, g4, g5⟩ := h.vs.rel id _ (hE _ _ hvr)
            rw [hm] at g1; cases g1
            cases w3
            have hsz1 : ty.size = 1 := by rw [w2]; rfl
            have hposlt : o' + i * e'.size + off < CC.size := (Array.getElem?_eq_some_iff.1 w6).1
            have hrun := run b (o' + i * e'.size + off) CC EE hv w5 hvl (by omega) (hy'.oneCell hcell)
            rw [hsz1] at hvl
            obtain ⟨hd, hhd⟩ := List.length_eq_one_iff.1 hvl
            rw [hhd] at hrun hfy
            have hbfy : b ∉ fy := fun hbf => by
              obtain ⟨k, hk, hkb⟩ := hgone.mem b hbf
              exact h.vs.sep id k (fun e => hnid (e ▸ hk)) hvid (hgone.there k hk).1 b w4 hkb
            have hother : ∀ b', b' ≠ b → (w.setRow b (spliced CC (o' + i * e'.size + off) [hd])).heap[b']? = w.heap[b']? := fun b' hne => setRow_other w b b' _ hne
            have hsp := spliced_get (D := CC) (pos := o' + i * e'.size + off) (vs := [hd]) (by simp; omega)
            obtain ⟨z0, z1, f'', k1, k2, k3, k4⟩ := w7 (w.setRow b (spliced CC (o' + i * e'.size + off) [hd])) _ hd yy.1 fy (setRow_heap w b CC _ EE _ w5) (spliced_size (by simp; omega))
              (fun j hj => by rw [hsp, if_neg]; simp; omega) (by rw [hsp, if_pos (by simp)]; simp) (fun b' _ hne => hother b' hne) (Ty.repO_congr ty hfy fun b' hb' => hother b' fun e => hbfy (e ▸ hb'))
            have hz : xs[i]? = some z := hz
            rw [hz] at k1; cases k1
            rw [hz'] at k2; cases k2
            have hnd : f''.Nodup := k4.nodup_iff.2 (by
              rw [List.nodup_append]
              refine ⟨h.vs.nodup id _ (hE _ _ hvr), hgone.nodup, fun b1 h1 b2 h2 e => ?_⟩
              subst e
              obtain ⟨k, hk, hkb⟩ := hgone.mem b1 h2
              exact h.vs.sep id k (fun e => hnid (e ▸ hk)) hvid (hgone.there k hk).1 b1 h1 hkb)
            have hprod := h.vs.produce (μ' := μ) (w' := w.setRow b (spliced CC (o' + i * e'.size + off) [hd])) h.ev yy.2 id (.arr e' (xs.set i z')) f'' (fun _ _ _ _ _ => ⟨rfl, fun _ _ => rfl⟩)
              (fun k hk hne _ b' hb' => hother b' (fun e => by subst e; exact h.vs.sep k id hne hk hvid b' hb' w4)) (by simp)
              ⟨some ⟨b, o', none⟩, cap, by simpa using hm, by simpa using k3, fun b' hb' hlt => by
                rcases List.mem_append.1 (k4.mem_iff.1 hb') with h1 | h1
                · exact g3 b' h1 hlt
                · exact hgone.may b' h1 hlt⟩ hnd
              (fun b' hb' => by
                rcases List.mem_append.1 (k4.mem_iff.1 hb') with h1 | h1
                · exact .inr ⟨id, .inl rfl, hvid, h1⟩
                · obtain ⟨k, hk, hkb⟩ := hgone.mem b' h1
                  exact .inr ⟨k, .inr hk, (hgone.there k hk).1, hkb⟩)
            refine sim_skip hrun ⟨fun _ _ => rfl, by simp [VRel], hprod, ?_⟩
            exact h.ev.setRow w5 (fun hs => h.vs.notS id hvid b w4 hs) (spliced_size (by simp; omega)) (fun hlt j hj => absurd (g3 b w4 hlt j) hj)
          · cases hr
        · cases hr
      · cases hr
    · rename_i hnf
      have hnf : ∀ k ∈ yy.2, k ∉ focIds vr := fun k hk hk' => hnf (List.any_eq_true.2 ⟨k, hk, by simpa using hk'⟩)
      replace hr := of_eval hr
      obtain ⟨⟨e', xs⟩, hu, hr⟩ := hr
      replace hr := get_eval hr
      obtain ⟨z, hz, hr⟩ := hr
      replace hr := of_eval hr
      obtain ⟨z', hz', hr⟩ := hr
      have hr := Option.some.inj hr
      subst hr
      obtain ⟨ad, cap', f, g1, g2, g3, g4, g5, g6⟩ := unfoc_rel h.vs hE hvr hu
      rw [hm] at g1; cases g1
      obtain ⟨b2, o2, D, T, p, fi, q, k1, k2, k3, k4, k5, k6, k7⟩ := repO_item g2 hz
      cases k1
      obtain ⟨y0, hy0⟩ := Ty.getOff_of_set e' hz'
      obtain ⟨pre, mid, post, f1, fm, f2, l1, l2, l3, l4, l5⟩ := Ty.repO_lens e' k6 hy0
      have hml := Ty.repO_size ty l4
      have hel := Ty.repO_size e' k6
      have hlen3 : pre.length + ty.size + post.length = e'.size := by rw [← hel, l1]; simp [hml]; omega
      have hnd : f.Nodup := g3.nodup_iff.2 (h.vs.nodup_ids _ g4 fun k hk => (g5 k hk).1)
      have hin : o' + (i + 1) * e'.size ≤ D.size := by
        have : (i + 1) * e'.size ≤ cap * e'.size := Nat.mul_le_mul_right _ (by omega)
        omega
      rw [Nat.add_mul] at hin
      have hrun := run b (o' + i * e'.size + off) D T hv k2 hvl (by omega) (hy'.oneCell hcell)
      have hbf : b ∈ f := by rw [k5]; simp
      -- the blocks of what comes are not the list's
      have hfar : ∀ b' ∈ fy, b' ∉ f := fun b' h1 h2 => by
        obtain ⟨k, hk, hkb⟩ := hgone.mem b' h1
        obtain ⟨k', hk', hkb'⟩ := List.mem_flatMap.1 (g3.mem_iff.1 h2)
        refine h.vs.sep k k' ?_ (hgone.there k hk).1 (g5 k' hk').1 b' hkb hkb'
        rintro rfl
        rcases List.mem_cons.1 hk' with e | e
        · exact hnid (e ▸ hk)
        · exact hnf k hk e
      have hother : ∀ b', b' ≠ b → (w.setRow b (spliced D (o' + i * e'.size + off) (a.eval y).cells.toList)).heap[b']? = w.heap[b']? := fun b' hne => setRow_other w b b' _ hne
      rw [k5, l3] at hnd hfar
      have hnb : b ∉ p ++ (f1 ++ fm ++ f2) ++ q := (List.nodup_cons.1 hnd).1
      have hsame : ∀ b' ∈ p ++ (f1 ++ fm ++ f2) ++ q, (w.setRow b (spliced D (o' + i * e'.size + off) (a.eval y).cells.toList)).heap[b']? = w.heap[b']? := fun b' hb' => hother b' fun e => hnb (e ▸ hb')
      obtain ⟨x', hx1, hx2⟩ := l5 (w.setRow b (spliced D (o' + i * e'.size + off) (a.eval y).cells.toList)) (a.eval y).cells.toList yy.1 fy
        (fun b' hb' => hsame b' (by simp at hb' ⊢; rcases hb' with h | h <;> simp [h])) (Ty.repO_congr ty hfy fun b' hb' => hother b' fun e => hfar b' hb' (by simp [e]))
      rw [hz'] at hx1; cases hx1
      have hcw : cellsAt (w.setRow b (spliced D (o' + i * e'.size + off) (a.eval y).cells.toList)) b (o' + i * e'.size) e'.size = pre ++ (a.eval y).cells.toList ++ post := by
        rw [cellsAt_spliced k2 (by omega) (by omega), l1, hvl, ← l2]
        simp [← hml, List.append_assoc]
      have hrep := k7 (w.setRow b (spliced D (o' + i * e'.size + off) (a.eval y).cells.toList)) z' (f1 ++ fy ++ f2) _ (setRow_heap w b D _ T _ k2) (spliced_size (by omega))
        (fun j hj => by rw [spliced_get (by omega), if_neg]; rw [Nat.add_mul] at hj; omega)
        (fun b' hb' => hsame b' (by simp at hb' ⊢; rcases hb' with h | h <;> simp [h])) (fun hb' => hnb (by simp at hb' ⊢; rcases hb' with h | h <;> simp [h])) (by rw [hcw]; exact hx2)
      have hperm1 : (b :: (p ++ (f1 ++ fy ++ f2) ++ q)).Perm ((b :: (p ++ f1 ++ f2 ++ q)) ++ fy) := perm_mid b p f1 fy f2 q
      have hperm0 : (b :: (p ++ (f1 ++ fm ++ f2) ++ q)).Perm ((b :: (p ++ f1 ++ f2 ++ q)) ++ fm) := perm_mid b p f1 fm f2 q
      have hsub : ∀ b' ∈ b :: (p ++ f1 ++ f2 ++ q), b' ∈ b :: (p ++ (f1 ++ fm ++ f2) ++ q) := fun b' hb' => hperm0.mem_iff.2 (List.mem_append.2 (.inl hb'))
      have hnd' : (b :: (p ++ (f1 ++ fy ++ f2) ++ q)).Nodup := hperm1.nodup_iff.2 (by
        rw [List.nodup_append]
        refine ⟨(List.nodup_append.1 (hperm0.nodup_iff.1 hnd)).1, hgone.nodup, fun b1 h1 b2 h2 e => ?_⟩
        subst e
        exact hfar b1 h2 (hsub b1 h1))
      have hmem : ∀ b' ∈ b :: (p ++ (f1 ++ fy ++ f2) ++ q), (∃ k ∈ id :: focIds vr, s.v k ≠ none ∧ b' ∈ fp k) ∨ b' ∈ fy := by
        intro b' hb'
        rcases List.mem_append.1 (hperm1.mem_iff.1 hb') with h1 | h1
        · left
          have : b' ∈ f := by rw [k5, l3]; exact hsub b' h1
          obtain ⟨k, hk, hkb⟩ := List.mem_flatMap.1 (g3.mem_iff.1 this)
          exact ⟨k, hk, (g5 k hk).1, hkb⟩
        · exact .inr h1
      have hmay : ∀ b' ∈ b :: (p ++ (f1 ++ fy ++ f2) ++ q), b' < c.w0.heap.size → ∀ j, c.M b' j := by
        intro b' hb' hlt
        rcases List.mem_append.1 (hperm1.mem_iff.1 hb') with h1 | h1
        · exact g6 b' (by rw [k5, l3]; exact hsub b' h1) hlt
        · exact hgone.may b' h1 hlt
      have hprod := h.vs.produce (μ' := μ) (w' := w.setRow b (spliced D (o' + i * e'.size + off) (a.eval y).cells.toList)) h.ev (focIds vr ++ yy.2) id (.arr e' (xs.set i z')) _ (fun _ _ _ _ _ => ⟨rfl, fun _ _ => rfl⟩)
        (fun k hk hne hnr b' hb' => hother b' (fun e => by
          subst e
          obtain ⟨k', hk', hkb'⟩ := List.mem_flatMap.1 (g3.mem_iff.1 hbf)
          refine h.vs.sep k k' ?_ hk (g5 k' hk').1 b' hb' hkb'
          rintro rfl
          rcases List.mem_cons.1 hk' with e | e
          · exact hne e
          · exact hnr (List.mem_append.2 (.inl e)))) (by simp)
        ⟨some ⟨b, o', none⟩, cap, by simpa using hm, by simpa using hrep, hmay⟩ hnd'
        (fun b' hb' => by
          rcases hmem b' hb' with ⟨k, hk, h1, h2⟩ | h1
          · rcases List.mem_cons.1 hk with e | e
            · exact .inr ⟨k, .inl e, h1, h2⟩
            · exact .inr ⟨k, .inr (List.mem_append.2 (.inl e)), h1, h2⟩
          · obtain ⟨k, hk, hkb⟩ := hgone.mem b' h1
            exact .inr ⟨k, .inr (List.mem_append.2 (.inr hk)), (hgone.there k hk).1, hkb⟩)
      refine sim_skip hrun ⟨fun _ _ => rfl, by simp [VRel], hprod, ?_⟩
      refine h.ev.setRow k2 (fun hs => ?_) (spliced_size (by omega)) (fun hlt j hj => absurd (g6 b hbf hlt j) hj)
      obtain ⟨k', hk', hkb'⟩ := List.mem_flatMap.1 (g3.mem_iff.1 hbf)
      exact h.vs.notS k' (g5 k' hk').1 b hkb' hs
  · cases hr
end
end Go.Proofs.Ytjcinikojcfebaa.Dm
