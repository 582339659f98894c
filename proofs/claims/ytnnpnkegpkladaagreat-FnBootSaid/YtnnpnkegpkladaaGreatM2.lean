/- The data machine (a part). -/
import Derived.Test.YtnnpnkegpkladaaGreatM1
import Derived.Laws.Tables
import Derived.Lib.OthersKept
import Derived.Orders
namespace Go.Proofs.YtnnpnkegpkladaaGreat.Dm
section
open Go
section
variable {c : Ctx} {μ : Nat → Loc} {fp : Nat → List Nat} {s : FSt} {n : Nat} {o : Oper} {a : Act} {w : World} {r : Res} {C : Cx} {E : Env}
theorem VsRel.oneCell : {vs : List Value} → {ds : List DVal} → VsRel c μ vs ds → ds.all DVal.isCell = true → ∀ v ∈ vs, v.oneCell' = true
  | _, [], h, _ => by simp only [VsRel] at h; subst h; simp
  | _, d :: ds, h, hc => by
    simp only [VsRel] at h; obtain ⟨v, vs', rfl, h1, h⟩ := h
    simp only [List.all_cons, Bool.and_eq_true] at hc
    intro u hu
    rcases List.mem_cons.1 hu with rfl | hu
    · exact h1.oneCell hc.1
    · exact VsRel.oneCell h hc.2 u hu
def spliced (D : Array Value) (pos : Nat) (vs : List Value) : Array Value := (D.toList.take pos ++ vs ++ D.toList.drop (pos + vs.length)).toArray
theorem spliced_size {D : Array Value} {pos : Nat} {vs : List Value} (h : pos + vs.length ≤ D.size) : (spliced D pos vs).size = D.size := by
  simp [spliced]; omega
theorem spliced_get {D : Array Value} {pos : Nat} {vs : List Value} (h : pos + vs.length ≤ D.size) (j : Nat) :
    (spliced D pos vs)[j]? = if pos ≤ j ∧ j < pos + vs.length then vs[j - pos]? else D[j]? := by
  have hl : (D.toList.take pos).length = pos := by simp; omega
  simp only [spliced, List.getElem?_toArray]
  rw [List.append_assoc]
  rcases Nat.lt_or_ge j pos with h1 | h1
  · rw [List.getElem?_append_left (by omega), List.getElem?_take_of_lt h1, if_neg (by omega), Array.getElem?_toList]
  · rw [List.getElem?_append_right (by omega), hl]
    rcases Nat.lt_or_ge j (pos + vs.length) with h2 | h2
    · rw [List.getElem?_append_left (by omega), if_pos ⟨h1, h2⟩]
    · rw [List.getElem?_append_right (by omega), List.getElem?_drop, if_neg (by omega), Array.getElem?_toList]
      congr 1; omega
theorem storeVar_run {P : Program} {t : Ty} {tid : TypeId} (hok : t.Ok P tid) {B pos : Nat} {D : Array Value} {T : TypeId} (hb : w.heap[B]? = some (.cells D T (0, 0))) {v : Value} (hl : v.cells.toList.length = t.size)
    (hfit : pos + t.size ≤ D.size) (h1 : ∀ u ∈ v.cells.toList, u.oneCell' = true) :
    (storeVar tid ⟨B, pos, none⟩ v).run P w = .ok () (w.setRow B (spliced D pos v.cells.toList)) := by
  have hst := run_storeCells_at (P := P) B pos T v.cells.toList 0 D w hb (by omega) h1
  have hs : v.cells.size = t.size := by rw [← hl]; simp
  simp only [Nat.add_zero] at hst
  simp [storeVar, hok.run_size, hs, hst, spliced]
theorem cellsAt_spliced {w : World} {B o' k n : Nat} {D : Array Value} {T : TypeId} (hb : w.heap[B]? = some (.cells D T (0, 0))) {vs : List Value} (hk : k + vs.length ≤ n) (hn : o' + n ≤ D.size) :
    cellsAt (w.setRow B (spliced D (o' + k) vs)) B o' n = (cellsAt w B o' n).take k ++ vs ++ (cellsAt w B o' n).drop (k + vs.length) := by
  rw [cellsAt_of (setRow_heap w B D _ T _ hb), cellsAt_of hb]
  apply List.ext_getElem?
  intro j
  have hl : ((D.toList.drop o').take n).length = n := by simp; omega
  rcases Nat.lt_or_ge j n with hj | hj
  · rw [List.getElem?_take_of_lt hj, List.getElem?_drop, Array.getElem?_toList, spliced_get (by omega), List.append_assoc]
    rcases Nat.lt_or_ge j k with h1 | h1
    · rw [if_neg (by omega), List.getElem?_append_left (by simp; omega), List.getElem?_take_of_lt h1, List.getElem?_take_of_lt hj, List.getElem?_drop, Array.getElem?_toList]
    · rw [List.getElem?_append_right (by simp; omega)]
      have e1 : (((D.toList.drop o').take n).take k).length = k := by simp; omega
      rw [e1]
      rcases Nat.lt_or_ge j (k + vs.length) with h2 | h2
      · rw [if_pos (by omega), List.getElem?_append_left (by omega)]
        congr 1; omega
      · rw [if_neg (by omega), List.getElem?_append_right (by omega), List.getElem?_drop]
        rw [List.getElem?_take_of_lt (by omega), List.getElem?_drop, Array.getElem?_toList]
        congr 1; omega
  · rw [List.getElem?_eq_none (by simp; omega), List.getElem?_eq_none (by simp; omega)]
theorem spliceL_rel {vs us : List Value} {ds es : List DVal} (h : VsRel c μ vs ds) (h' : VsRel c μ us es) (off : Nat) : VsRel c μ (vs.take off ++ us ++ vs.drop (off + us.length)) (spliceL ds off es) := by
  unfold spliceL
  rw [h'.length]
  exact ((h.take off).append h').append (h.drop _)
theorem spliceL_length {ds es : List DVal} {off : Nat} (h : off + es.length ≤ ds.length) : (spliceL ds off es).length = ds.length := by
  simp [spliceL]; omega
theorem spliceL_isCell {ds es : List DVal} {off : Nat} (h : ds.all DVal.isCell = true) (h' : es.all DVal.isCell = true) : (spliceL ds off es).all DVal.isCell = true := by
  simp only [spliceL, List.all_append, Bool.and_eq_true, List.all_eq_true] at *
  exact ⟨⟨fun x hx => h x (List.mem_of_mem_take hx), h'⟩, fun x hx => h x (List.mem_of_mem_drop hx)⟩
theorem boolTrue {b : Bool} (h : ¬ b = false) : b = true := by cases b <;> simp_all
variable (h : RelX c μ fp s n a w)
include h
theorem sim_store (hC : CxOk C c.P) (hE : ∀ id x, E id = some x → s.v id = some x) {t : TypeId} {x y : Operand} (ho : o.op = .store t x y)
    (hr : (Out.of (C.ty t) fun t => storeD E t (evF s.t x) (evF s.t y)).eval = some r) : Sim c μ s o a w r := by
  have hx := h.ev_rel x
  have hy := h.ev_rel y
  replace hr := of_eval hr
  obtain ⟨ty, hty, hr⟩ := hr
  have hok := hC.ty t ty hty
  have run : ∀ (B pos : Nat) (D : Array Value) (T : TypeId), a.eval x = .pointer (some ⟨B, pos, none⟩) → w.heap[B]? = some (.cells D T (0, 0)) → (a.eval y).cells.toList.length = ty.size → pos + ty.size ≤ D.size →
      (∀ u ∈ (a.eval y).cells.toList, u.oneCell' = true) → (execOp a.eval o).run c.P w = .ok .skip (w.setRow B (spliced D pos (a.eval y).cells.toList)) := by
    intro B pos D T hv hb hl hf h1
    simp [execOp, ho, hv, Instr.storeAt, Instr.sureAddr, storeVar_run hok hb hl hf h1]
  unfold storeD at hr
  split at hr
  · rename_i id off e
    rw [e] at hx
    simp only [VRel] at hx
    obtain ⟨B, o', hm, hv⟩ := hx
    split at hr
    · rename_i cs hid
      split at hr
      · rename_i hc
        obtain ⟨hc1, hc2, hc3⟩ := hc
        have hr := Option.some.inj hr
        subst hr
        have hy' := hy.cells hc3
        have hvl := hy'.length
        obtain ⟨B2, o2, D, T, q1, q2, q3, q4, q5, q6, q7⟩ := h.vs.rel id _ (hE _ _ hid)
        rw [hm] at q1; cases q1
        have hrun := run B (o' + off) D T hv q3 (by omega) (by omega) (hy'.oneCell hc3)
        have hlen : (spliceL cs off (evF s.t y).cells).length = cs.length := spliceL_length (by omega)
        have hvar : VarRel c μ (w.setRow B (spliced D (o' + off) (a.eval y).cells.toList)) id [B] (.var (spliceL cs off (evF s.t y).cells)) := by
          refine ⟨B, o', _, T, hm, rfl, setRow_heap w B D _ T _ q3, ?_, ?_, spliceL_isCell q6 hc3, ?_⟩
          · rw [spliced_size (by omega), hlen]; exact q4
          · rw [hlen, cellsAt_spliced q3 (by omega) q4]
            exact spliceL_rel q5 hy' off
          · rw [hlen]; exact q7
        have hprod := h.vs.produce (μ' := μ) (w' := w.setRow B (spliced D (o' + off) (a.eval y).cells.toList)) h.ev [] id _ [B] (fun _ _ _ _ _ => ⟨rfl, fun _ _ => rfl⟩)
          (fun k hk hne _ b hb => setRow_other w B b _ (fun e => by
            subst e
            exact h.vs.sep k id hne hk (by rw [hE _ _ hid]; simp) b hb (by rw [q2]; simp))) (by simp) hvar (by simp)
          (fun b hb => .inr ⟨id, .inl rfl, by rw [hE _ _ hid]; simp, by rw [q2]; exact hb⟩)
        refine sim_skip hrun ⟨fun _ _ => rfl, by simp [VRel], hprod, ?_⟩
        refine h.ev.setRow q3 (fun hs => h.vs.notS id (by rw [hE _ _ hid]; simp) B (by rw [q2]; simp) hs) (spliced_size (by omega)) (fun hlt j hj => ?_)
        rw [spliced_get (by omega)]
        rw [if_neg]
        rintro ⟨h1, h2⟩
        refine hj ?_
        have := q7 hlt (j - o') (by omega)
        rwa [show o' + (j - o') = j by omega] at this
      · cases hr
    · cases hr
  · rename_i id i off e
    rw [e] at hx
    simp only [VRel] at hx
    obtain ⟨b, o', len, cap, sz, hm, hi, hv⟩ := hx
    replace hr := of_eval hr
    obtain ⟨vr, hvr, hr⟩ := hr
    have hts : (vr.slotTy off ty).size = ty.size := by
      cases vr with
      | arr e' _ => exact (slotTy_eq (Ty.slotTy_or e' off ty)).1
      | foc e' _ _ _ _ _ _ => exact (slotTy_eq (Ty.slotTy_or e' off ty)).1
      | _ => rfl
    have run : ∀ (B pos : Nat) (D : Array Value) (T : TypeId), a.eval x = .pointer (some ⟨B, pos, none⟩) → w.heap[B]? = some (.cells D T (0, 0)) → (a.eval y).cells.toList.length = (vr.slotTy off ty).size → pos + (vr.slotTy off ty).size ≤ D.size →
        (∀ u ∈ (a.eval y).cells.toList, u.oneCell' = true) → (execOp a.eval o).run c.P w = .ok .skip (w.setRow B (spliced D pos (a.eval y).cells.toList)) := by
      rw [hts]; exact run
    clear hok hty hts
    generalize vr.slotTy off ty = ty at hr run
    unfold storeL at hr
    replace hr := of_eval hr
    obtain ⟨yy, hyy, hr⟩ := hr
    split at hr
    · cases hr
    rename_i hnot
    simp only [not_or] at hnot
    obtain ⟨hnid, hcell⟩ := hnot
    have hcell : (evF s.t y).cells.all DVal.isCell = true := by cases hq : (evF s.t y).cells.all DVal.isCell <;> simp_all
    have hnid : id ∉ yy.2 := by simpa using hnid
    have hy' := hy.cells hcell
    obtain ⟨fy, hfy, hgone⟩ := takeAll_rel h.vs hE hy' hyy
    have hvl := Ty.repO_size ty hfy
    have hvid : s.v id ≠ none := by rw [hE _ _ hvr]; simp
    split at hr
    · -- the list that is held beside goes back, changed
      split at hr
      · rename_i e' xs x0 j off' u id' _
        split at hr
        · rename_i hq
          obtain ⟨rfl, hbeq⟩ := hq
          have htu := Ty.beq_eq _ _ hbeq
          subst htu
          replace hr := ite_eval hr
          rcases hr with ⟨hij, hr⟩ | ⟨_, hr⟩
          · have hij : i = j := by simpa using hij
            subst hij
            replace hr := get_eval hr
            obtain ⟨z, hz, hr⟩ := hr
            replace hr := of_eval hr
            obtain ⟨z', hz', hr⟩ := hr
            have hr := Option.some.inj hr
            subst hr
            obtain ⟨ad, cap2, g1, ⟨a', len', cap', e3, bb, ob, CC, EE, w1, w2, w3, w4, w5, w6, w7⟩, g3, g4, g5⟩ := h.vs.rel id _ (hE _ _ hvr)
            rw [hm] at g1; cases g1
            cases w3
            have hsz1 : ty.size = 1 := by rw [w2]; rfl
            have hposlt : o' + i * e'.size + off < CC.size := (Array.getElem?_eq_some_iff.1 w6).1
            have hrun := run b (o' + i * e'.size + off) CC EE hv w5 hvl (by omega) (hy'.oneCell hcell)
            rw [hsz1] at hvl
            obtain ⟨hd, hhd⟩ := List.length_eq_one_iff.1 hvl
            rw [hhd] at hrun hfy
            have hbfy : b ∉ fy := fun hbf => by
              obtain ⟨k, hk, hkb⟩ := hgone.mem b hbf
              exact h.vs.sep id k (fun e => hnid (e ▸ hk)) hvid (hgone.there k hk).1 b w4 hkb
            have hother : ∀ b', b' ≠ b → (w.setRow b (spliced CC (o' + i * e'.size + off) [hd])).heap[b']? = w.heap[b']? := fun b' hne => setRow_other w b b' _ hne
            have hsp := spliced_get (D := CC) (pos := o' + i * e'.size + off) (vs := [hd]) (by simp; omega)
            obtain ⟨z0, z1, f'', k1, k2, k3, k4⟩ := w7 c.fz (w.setRow b (spliced CC (o' + i * e'.size + off) [hd])) _ hd yy.1 fy (Fz.le_refl _) (setRow_heap w b CC _ EE _ w5) (spliced_size (by simp; omega))
              (fun j hj => by rw [hsp, if_neg]; simp; omega) (by rw [hsp, if_pos (by simp)]; simp) (fun b' _ hne => hother b' hne) (Ty.repO_congr ty hfy fun b' hb' => hother b' fun e => hbfy (e ▸ hb'))
            have hz : xs[i]? = some z := hz
            rw [hz] at k1; cases k1
            rw [hz'] at k2; cases k2
            have hnd : f''.Nodup := k4.nodup_iff.2 (by
              rw [List.nodup_append]
              refine ⟨h.vs.nodup id _ (hE _ _ hvr), hgone.nodup, fun b1 h1 b2 h2 e => ?_⟩
              subst e
              obtain ⟨k, hk, hkb⟩ := hgone.mem b1 h2
              exact h.vs.sep id k (fun e => hnid (e ▸ hk)) hvid (hgone.there k hk).1 b1 h1 hkb)
            have hprod := h.vs.produce (μ' := μ) (w' := w.setRow b (spliced CC (o' + i * e'.size + off) [hd])) h.ev yy.2 id (.arr e' (xs.set i z')) f'' (fun _ _ _ _ _ => ⟨rfl, fun _ _ => rfl⟩)
              (fun k hk hne _ b' hb' => hother b' (fun e => by subst e; exact h.vs.sep k id hne hk hvid b' hb' w4)) (by simp)
              ⟨some ⟨b, o', none⟩, cap, by simpa using hm, by simpa using k3, fun b' hb' hlt => by
                rcases List.mem_append.1 (k4.mem_iff.1 hb') with h1 | h1
                · exact g3 b' h1 hlt
                · exact hgone.may b' h1 hlt⟩ hnd
              (fun b' hb' => by
                rcases List.mem_append.1 (k4.mem_iff.1 hb') with h1 | h1
                · exact .inr ⟨id, .inl rfl, hvid, h1⟩
                · obtain ⟨k, hk, hkb⟩ := hgone.mem b' h1
                  exact .inr ⟨k, .inr hk, (hgone.there k hk).1, hkb⟩)
            refine sim_skip hrun ⟨fun _ _ => rfl, by simp [VRel], hprod, ?_⟩
            exact h.ev.setRow w5 (fun hs => h.vs.notS id hvid b w4 hs) (spliced_size (by simp; omega)) (fun hlt j hj => absurd (g3 b w4 hlt j) hj)
          · cases hr
        · cases hr
      · cases hr
    · rename_i hnf
      have hnf : ∀ k ∈ yy.2, k ∉ focIds vr := fun k hk hk' => hnf (.inl (List.any_eq_true.2 ⟨k, hk, by simpa using hk'⟩))
      replace hr := of_eval hr
      obtain ⟨⟨e', xs⟩, hu, hr⟩ := hr
      replace hr := get_eval hr
      obtain ⟨z, hz, hr⟩ := hr
      replace hr := of_eval hr
      obtain ⟨z', hz', hr⟩ := hr
      have hr := Option.some.inj hr
      subst hr
      obtain ⟨ad, cap', f, g1, g2, g3, g4, g5, g6⟩ := unfoc_rel h.vs hE hvr hu
      rw [hm] at g1; cases g1
      obtain ⟨b2, o2, D, T, p, fi, q, k1, k2, k3, k4, k5, k6, k7⟩ := repO_item g2 hz
      cases k1
      obtain ⟨y0, hy0⟩ := Ty.getOff_of_set e' hz'
      obtain ⟨pre, mid, post, f1, fm, f2, l1, l2, l3, l4, l5⟩ := Ty.repO_lens e' k6 hy0
      have hml := Ty.repO_size ty l4
      have hel := Ty.repO_size e' k6
      have hlen3 : pre.length + ty.size + post.length = e'.size := by rw [← hel, l1]; simp [hml]; omega
      have hnd : f.Nodup := g3.nodup_iff.2 (h.vs.nodup_ids _ g4 fun k hk => (g5 k hk).1)
      have hin : o' + (i + 1) * e'.size ≤ D.size := by
        have : (i + 1) * e'.size ≤ cap * e'.size := Nat.mul_le_mul_right _ (by omega)
        omega
      rw [Nat.add_mul] at hin
      have hrun := run b (o' + i * e'.size + off) D T hv k2 hvl (by omega) (hy'.oneCell hcell)
      have hbf : b ∈ f := by rw [k5]; simp
      -- the blocks of what comes are not the list's
      have hfar : ∀ b' ∈ fy, b' ∉ f := fun b' h1 h2 => by
        obtain ⟨k, hk, hkb⟩ := hgone.mem b' h1
        obtain ⟨k', hk', hkb'⟩ := List.mem_flatMap.1 (g3.mem_iff.1 h2)
        refine h.vs.sep k k' ?_ (hgone.there k hk).1 (g5 k' hk').1 b' hkb hkb'
        rintro rfl
        rcases List.mem_cons.1 hk' with e | e
        · exact hnid (e ▸ hk)
        · exact hnf k hk e
      have hother : ∀ b', b' ≠ b → (w.setRow b (spliced D (o' + i * e'.size + off) (a.eval y).cells.toList)).heap[b']? = w.heap[b']? := fun b' hne => setRow_other w b b' _ hne
      rw [k5, l3] at hnd hfar
      have hnb : b ∉ p ++ (f1 ++ fm ++ f2) ++ q := (List.nodup_cons.1 hnd).1
      have hsame : ∀ b' ∈ p ++ (f1 ++ fm ++ f2) ++ q, (w.setRow b (spliced D (o' + i * e'.size + off) (a.eval y).cells.toList)).heap[b']? = w.heap[b']? := fun b' hb' => hother b' fun e => hnb (e ▸ hb')
      obtain ⟨x', hx1, hx2⟩ := l5 c.fz (w.setRow b (spliced D (o' + i * e'.size + off) (a.eval y).cells.toList)) (a.eval y).cells.toList yy.1 fy (Fz.le_refl _)
        (fun b' hb' => hsame b' (by simp at hb' ⊢; rcases hb' with h | h <;> simp [h])) (Ty.repO_congr ty hfy fun b' hb' => hother b' fun e => hfar b' hb' (by simp [e]))
      rw [hz'] at hx1; cases hx1
      have hcw : cellsAt (w.setRow b (spliced D (o' + i * e'.size + off) (a.eval y).cells.toList)) b (o' + i * e'.size) e'.size = pre ++ (a.eval y).cells.toList ++ post := by
        rw [cellsAt_spliced k2 (by omega) (by omega), l1, hvl, ← l2]
        simp [← hml, List.append_assoc]
      have hrep := k7 c.fz (w.setRow b (spliced D (o' + i * e'.size + off) (a.eval y).cells.toList)) z' (f1 ++ fy ++ f2) _ (Fz.le_refl _) (setRow_heap w b D _ T _ k2) (spliced_size (by omega))
        (fun j hj => by rw [spliced_get (by omega), if_neg]; rw [Nat.add_mul] at hj; omega)
        (fun b' hb' => hsame b' (by simp at hb' ⊢; rcases hb' with h | h <;> simp [h])) (fun hb' => hnb (by simp at hb' ⊢; rcases hb' with h | h <;> simp [h])) (by rw [hcw]; exact hx2)
      have hperm1 : (b :: (p ++ (f1 ++ fy ++ f2) ++ q)).Perm ((b :: (p ++ f1 ++ f2 ++ q)) ++ fy) := perm_mid b p f1 fy f2 q
      have hperm0 : (b :: (p ++ (f1 ++ fm ++ f2) ++ q)).Perm ((b :: (p ++ f1 ++ f2 ++ q)) ++ fm) := perm_mid b p f1 fm f2 q
      have hsub : ∀ b' ∈ b :: (p ++ f1 ++ f2 ++ q), b' ∈ b :: (p ++ (f1 ++ fm ++ f2) ++ q) := fun b' hb' => hperm0.mem_iff.2 (List.mem_append.2 (.inl hb'))
      have hnd' : (b :: (p ++ (f1 ++ fy ++ f2) ++ q)).Nodup := hperm1.nodup_iff.2 (by
        rw [List.nodup_append]
        refine ⟨(List.nodup_append.1 (hperm0.nodup_iff.1 hnd)).1, hgone.nodup, fun b1 h1 b2 h2 e => ?_⟩
        subst e
        exact hfar b1 h2 (hsub b1 h1))
      have hmem : ∀ b' ∈ b :: (p ++ (f1 ++ fy ++ f2) ++ q), (∃ k ∈ id :: focIds vr, s.v k ≠ none ∧ b' ∈ fp k) ∨ b' ∈ fy := by
        intro b' hb'
        rcases List.mem_append.1 (hperm1.mem_iff.1 hb') with h1 | h1
        · left
          have : b' ∈ f := by rw [k5, l3]; exact hsub b' h1
          obtain ⟨k, hk, hkb⟩ := List.mem_flatMap.1 (g3.mem_iff.1 this)
          exact ⟨k, hk, (g5 k hk).1, hkb⟩
        · exact .inr h1
      have hmay : ∀ b' ∈ b :: (p ++ (f1 ++ fy ++ f2) ++ q), b' < c.w0.heap.size → ∀ j, c.M b' j := by
        intro b' hb' hlt
        rcases List.mem_append.1 (hperm1.mem_iff.1 hb') with h1 | h1
        · exact g6 b' (by rw [k5, l3]; exact hsub b' h1) hlt
        · exact hgone.may b' h1 hlt
      have hprod := h.vs.produce (μ' := μ) (w' := w.setRow b (spliced D (o' + i * e'.size + off) (a.eval y).cells.toList)) h.ev (focIds vr ++ yy.2) id (.arr e' (xs.set i z')) _ (fun _ _ _ _ _ => ⟨rfl, fun _ _ => rfl⟩)
        (fun k hk hne hnr b' hb' => hother b' (fun e => by
          subst e
          obtain ⟨k', hk', hkb'⟩ := List.mem_flatMap.1 (g3.mem_iff.1 hbf)
          refine h.vs.sep k k' ?_ hk (g5 k' hk').1 b' hb' hkb'
          rintro rfl
          rcases List.mem_cons.1 hk' with e | e
          · exact hne e
          · exact hnr (List.mem_append.2 (.inl e)))) (by simp)
        ⟨some ⟨b, o', none⟩, cap, by simpa using hm, by simpa using hrep, hmay⟩ hnd'
        (fun b' hb' => by
          rcases hmem b' hb' with ⟨k, hk, h1, h2⟩ | h1
          · rcases List.mem_cons.1 hk with e | e
            · exact .inr ⟨k, .inl e, h1, h2⟩
            · exact .inr ⟨k, .inr (List.mem_append.2 (.inl e)), h1, h2⟩
          · obtain ⟨k, hk, hkb⟩ := hgone.mem b' h1
            exact .inr ⟨k, .inr (List.mem_append.2 (.inr hk)), (hgone.there k hk).1, hkb⟩)
      refine sim_skip hrun ⟨fun _ _ => rfl, by simp [VRel], hprod, ?_⟩
      refine h.ev.setRow k2 (fun hs => ?_) (spliced_size (by omega)) (fun hlt j hj => absurd (g6 b hbf hlt j) hj)
      obtain ⟨k', hk', hkb'⟩ := List.mem_flatMap.1 (g3.mem_iff.1 hbf)
      exact h.vs.notS k' (g5 k' hk').1 b hkb' hs
  · cases hr
end
end
section
open Go
theorem fold_cells (off : Nat) : ∀ (l : List Value) (k : Nat) (A : Array Value), off + k + l.length ≤ A.size →
    (l.zipIdx k).foldl (fun cs (x : Value × Nat) => cs.setIfInBounds (off + x.2) x.1) A = spliced A (off + k) l
  | [], k, A, _ => by
    simp [spliced]
  | x :: l, k, A, h => by
    simp only [List.length_cons] at h
    rw [List.zipIdx_cons, List.foldl_cons, show k + 1 = k + 1 from rfl, fold_cells off l (k + 1) _ (by simp; omega)]
    apply Array.ext_getElem?
    intro j
    rw [spliced_get (by simp; omega), spliced_get (by simp; omega)]
    simp only [List.length_cons]
    by_cases h1 : j = off + k
    · subst h1
      rw [if_neg (by omega), if_pos (by omega), Array.getElem?_setIfInBounds, if_pos rfl]
      simp; omega
    · by_cases h2 : off + (k + 1) ≤ j ∧ j < off + (k + 1) + l.length
      · rw [if_pos h2, if_pos (by omega), show j - (off + k) = (j - (off + (k + 1))) + 1 by omega, List.getElem?_cons_succ]
      · rw [if_neg h2, if_neg (by omega), Array.getElem?_setIfInBounds, if_neg (by simpa using fun e => h1 e.symm)]
theorem fold_cells' (off : Nat) (v : Array Value) (A : Array Value) (h : off + v.size ≤ A.size) :
    v.zipIdx.foldl (fun cs (x : Value × Nat) => cs.setIfInBounds (off + x.2) x.1) A = spliced A off v.toList := by
  have := fold_cells off v.toList 0 A (by simpa using h)
  rw [Nat.add_zero] at this
  rw [← this, ← Array.foldl_toList, Array.toList_zipIdx]
theorem run_fill {place : Nat → Option (Nat × Nat)} {A : Array Value} {i : Nat} {v : Value} {r : List (Nat × Value)} {off size : Nat} (hp : place i = some (off, size)) (hv : v.cells.size = size) (h : off + size ≤ A.size) :
    Instr.fill place A ((i, v) :: r) = Instr.fill place (spliced A off v.cells.toList) r := by
  rw [Instr.fill]
  simp only [hp]
  rw [if_neg (by simp [hv]; omega), ← fold_cells' off v.cells A (by omega)]
theorem Tys.OkF.places {P : Program} : (ts : Tys) → ∀ {fs : List Field} {o : Nat}, ts.OkF P fs o →
    ∃ places, fs.mapM (fun f => (P.info? f.type).map fun i => (f.offset, i.size)) = some places ∧ ∀ k r, ts.offset k = some r → places[k]? = some (o + r.1, r.2.size)
  | .nil, fs, o, h => by
    simp only [Tys.OkF] at h; subst h
    exact ⟨[], by simp, fun k r hk => by simp [Tys.offset] at hk⟩
  | .cons t ts, fs, o, h => by
    simp only [Tys.OkF] at h
    obtain ⟨f, q, rfl, h1, h2, h3⟩ := h
    obtain ⟨places, hp, hk⟩ := Tys.OkF.places ts h3
    obtain ⟨i, z, hi, hs, _⟩ := h2.base
    refine ⟨(f.offset, i.size) :: places, by simp [List.mapM_cons, hi, hp], ?_⟩
    intro k r hr
    cases k with
    | zero =>
      simp only [Tys.offset, Option.some.injEq] at hr
      subst hr
      simp [h1, hs]
    | succ k =>
      simp only [Tys.offset] at hr
      obtain ⟨r', hr', rfl⟩ := Option.map_eq_some_iff.1 hr
      simpa [Nat.add_assoc] using hk k r' hr'
section
variable {c : Ctx} {μ : Nat → Loc} {fp : Nat → List Nat} {s : FSt} {n : Nat} {o : Oper} {a : Act} {w : World} {r : Res} {C : Cx} {E : Env}
theorem Ty.field_le {P : Program} {t : Ty} {tid : TypeId} (h : t.Ok P tid) {k : Nat} {r : Nat × Ty} (hk : t.field k = some r) : r.1 + r.2.size ≤ t.size := by
  obtain ⟨_, _, _, _, _, _, h⟩ := h.field hk; exact h
theorem fill_rel {P : Program} {t : Ty} {tid : TypeId} (hok : t.Ok P tid) {place : Nat → Option (Nat × Nat)} (hp : ∀ k r, t.field k = some r → place k = some (r.1, r.2.size)) {ev : Operand → DVal} {av : Operand → Value} :
    ∀ (ps : List (Nat × Operand)) (A : Array Value) (cs cs' : List DVal), (∀ x ∈ ps, VRel c μ (av x.2) (ev x.2)) → A.size = t.size → VsRel c μ A.toList cs → fillAt t ev ps cs = some cs' →
      ∃ A', Instr.fill place A (ps.map fun x => (x.1, av x.2)) = some A' ∧ VsRel c μ A'.toList cs'
  | [], A, cs, cs', _, _, hr, h => by
    simp only [fillAt, Option.some.injEq] at h; subst h
    exact ⟨A, rfl, hr⟩
  | (k, x) :: ps, A, cs, cs', hev, hz, hr, h => by
    simp only [fillAt] at h
    split at h
    · rename_i off u hf
      split at h
      · rename_i hc
        have hx := (hev (k, x) (by simp)).cells hc.2
        have hl := hx.length
        have hle := Ty.field_le hok hf
        have hvs : (av x).cells.size = u.size := by rw [← hc.1, ← hl]; simp
        simp only at hle
        rw [List.map_cons, run_fill (hp k _ hf) hvs (by simp only; omega)]
        refine fill_rel hok hp ps _ _ _ (fun y hy => hev y (by simp [hy])) ?_ ?_ h
        · rw [spliced_size (by simp; omega)]; exact hz
        · have := spliceL_rel hr hx off
          simpa [spliced] using this
      · cases h
    · cases h
variable (h : RelX c μ fp s n a w)
include h
theorem RelX.known_ev (x : Operand) : ∀ id ∈ (evF s.t x).ids, s.k id := by
  intro id hi
  cases x with
  | tmp j => exact h.known.t j id hi
  | const v => simp only [evF, ofValue] at hi; split at hi <;> (try split at hi) <;> simp [DVal.ids] at hi
  | func f => simp [evF, DVal.ids, DVal.idsL] at hi
  | global g => simp [evF, DVal.ids] at hi
theorem sim_build (hC : CxOk C c.P) {t : TypeId} {ps : Array (Nat × Operand)} (ho : o.op = .build t ps) {fr : Nat}
    (hfr : ∀ id, fr ≤ id → id < fr + 64 → ¬ s.k id)
    (hr : (Out.of (C.ty t) fun t => if t.isSt = true ∧ (t.thaw t.zero fr).2.2 ≤ fr + 64 then
      .of (fillAt t (evF s.t) ps.toList (t.thaw t.zero fr).1) fun cs => .ret (.agg cs, news (t.thaw t.zero fr).2.1) else .fail).eval = some r) : Sim c μ s o a w r := by
  replace hr := of_eval hr
  obtain ⟨ty, hty, hr⟩ := hr
  have hok := hC.ty t ty hty
  split at hr
  case isFalse => cases hr
  rename_i hst
  obtain ⟨hst, h64⟩ := hst
  replace hr := of_eval hr
  obtain ⟨cs, hcs, hr⟩ := hr
  have hr := Option.some.inj hr
  subst hr
  obtain ⟨μ1, fp1, r1, ch⟩ := h.thaw_zero ty (k := fr) (fun id h1 h2 => hfr id h1 (by omega))
  obtain ⟨i, z, hi, hs, _, hz, hzc, hpos⟩ := hok.base
  have hev : ∀ x : Operand, VRel c μ1 (a.eval x) (evF s.t x) := fun x => VRel.mono _ (fun id hid => ch.agree id (h.known_ev x id hid)) (h.ev_rel x)
  cases ty with
  | st fs =>
    have hok' := hok
    simp only [Ty.Ok] at hok'
    obtain ⟨_, fields, hu, hf⟩ := hok'
    obtain ⟨places, hp, hk⟩ := Tys.OkF.places fs hf
    have hzs : z.cells.size = (Ty.st fs).size := by rw [← hs]; have := Ty.zeroV_length (Ty.st fs); rw [← hzc] at this; simpa [hs] using this
    obtain ⟨A', hA, hrel⟩ := fill_rel (c := c) (μ := μ1) hok (place := fun i => places.toArray[i]?) (fun k r hr => by simpa using hk k r (by simpa [Ty.field] using hr)) (ev := evF s.t) (av := a.eval) ps.toList z.cells _ cs (fun x _ => hev x.2) hzs (by rw [hzc]; exact r1) hcs
    have hb : c.P.built t ((ps.map fun (i, x) => (i, a.eval x)).toList) = some A' := by
      unfold Program.built
      simp only [hi, hu, hz, hp, Array.toList_map]
      exact hA
    have hrun := run_build (P := c.P) w t _ A' hb
    refine sim_value (v' := .agg A') (by simp [execOp, ho, hrun]) ⟨ch.agree, ?_, ch.rel, h.ev⟩
    simp only [VRel]
    exact ⟨A', rfl, hrel⟩
  | _ => simp [Ty.isSt] at hst
end
end
section
open Go
variable {z : Fz}
def Items (z : Fz) (w : World) (e : Ty) (cs : List Value) (xs : List e.D) (fps : List (List Nat)) : Prop :=
  fps.length = xs.length ∧ ∀ (i : Nat) (y : e.D) (f : List Nat), xs[i]? = some y → fps[i]? = some f → e.repO z w ((cs.drop (i * e.size)).take e.size) y f
theorem set_flatten {fps : List (List Nat)} {k : Nat} {f : List Nat} (hk : k < fps.length) (h : fps.flatten.Nodup) (hf : f.Nodup) (hd : ∀ b ∈ f, b ∉ fps.flatten) :
    (fps.set k f).flatten.Nodup ∧ ∀ b ∈ (fps.set k f).flatten, b ∈ fps.flatten ∨ b ∈ f := by
  have e1 := flatten_split fps k hk
  have e2 : (fps.set k f).flatten = (fps.take k).flatten ++ f ++ (fps.drop (k + 1)).flatten := by
    rw [List.set_eq_take_append_cons_drop, if_pos hk]; simp
  rw [e1] at h hd
  rw [e2, e1]
  constructor
  · rw [List.nodup_append] at h ⊢
    obtain ⟨h1, h2, h3⟩ := h
    rw [List.nodup_append] at h1
    obtain ⟨h4, h5, h6⟩ := h1
    refine ⟨?_, h2, ?_⟩
    · rw [List.nodup_append]
      exact ⟨h4, hf, fun x hx y hy e => hd y hy (by subst e; simp [hx])⟩
    · intro x hx y hy e
      subst e
      rcases List.mem_append.1 hx with hx | hx
      · exact h3 x (by simp [hx]) x hy rfl
      · exact hd x hx (by simp [hy])
  · intro b hb
    simp only [List.mem_append] at hb ⊢
    rcases hb with (hb | hb) | hb
    · simp [hb]
    · simp [hb]
    · simp [hb]
theorem chunk_spliced {A : Array Value} {sz k i n : Nat} {vs : List Value} (hv : vs.length = sz) (hA : A.size = n * sz) (hk : k < n) (hi : i < n) :
    ((spliced A (k * sz) vs).toList.drop (i * sz)).take sz = if i = k then vs else (A.toList.drop (i * sz)).take sz := by
  have hkn : (k + 1) * sz ≤ n * sz := Nat.mul_le_mul_right _ hk
  have hin : (i + 1) * sz ≤ n * sz := Nat.mul_le_mul_right _ hi
  rw [Nat.add_mul] at hkn hin
  apply List.ext_getElem?
  intro j
  by_cases hj : j < sz
  · rw [List.getElem?_take_of_lt hj, List.getElem?_drop, Array.getElem?_toList, spliced_get (by omega)]
    by_cases e : i = k
    · subst e
      rw [if_pos (by omega), if_pos rfl]; congr 1; omega
    · rw [if_neg e, List.getElem?_take_of_lt hj, List.getElem?_drop, Array.getElem?_toList, Array.getElem?_toList]
      refine if_neg ?_
      intro ⟨h1, h2⟩
      rcases Nat.lt_or_ge i k with h | h
      · have := Nat.mul_le_mul_right sz (show i + 1 ≤ k from h)
        rw [Nat.add_mul] at this; omega
      · have := Nat.mul_le_mul_right sz (show k + 1 ≤ i by omega)
        rw [Nat.add_mul] at this; omega
  · rw [List.getElem?_eq_none (by simp; omega), List.getElem?_eq_none]
    split
    · omega
    · simp; omega
section
variable {c : Ctx} {μ : Nat → Loc} {fp : Nat → List Nat} {s : FSt} {n : Nat} {o : Oper} {a : Act} {w : World} {r : Res} {C : Cx} {E : Env}
theorem items_repO {e : Ty} {xs : List e.D} {fps : List (List Nat)} {A : Array Value} {T : TypeId} {cap : Nat} (hi : Items z w e A.toList xs fps) (hc : xs.length ≤ cap ∧ xs.length ≤ BIG) (hA : cap * e.size ≤ A.size) (hlt : ∀ b ∈ fps.flatten, b < w.heap.size) :
    (Ty.sl e).repO z (w.alloc (.cells A T)) [.slice (some ⟨w.heap.size, 0, none⟩) xs.length cap] xs (w.heap.size :: fps.flatten) := by
  simp only [Ty.repO]
  refine ⟨_, cap, rfl, hc, .inr ⟨w.heap.size, 0, A, T, fps, rfl, heap_alloc_new w _, by omega, hi.1, rfl, ?_⟩⟩
  intro i y f hy hf
  have hy : xs[i]? = some y := hy
  have hf : fps[i]? = some f := hf
  have h1 := hi.2 i y f hy hf
  rw [cellsAt_of (heap_alloc_new w _), Nat.zero_add]
  refine Ty.repO_congr e h1 fun b hb => heap_alloc_old w _ b (hlt b ?_)
  exact List.mem_flatten.2 ⟨f, List.mem_of_getElem? hf, hb⟩
theorem fillList_rel (hv : RelV c μ fp s.v w) (hE : ∀ id x, E id = some x → s.v id = some x) {e : Ty} {ev : Operand → DVal} {av : Operand → Value} :
    ∀ (ps : List (Nat × Operand)) (A : Array Value) (xs : List e.D) (fps : List (List Nat)) (g : List Nat) (r : List e.D × List Nat), (∀ x ∈ ps, VRel c μ (av x.2) (ev x.2)) → A.size = xs.length * e.size →
      Items c.fz w e A.toList xs fps → Gone c fp s.v E g fps.flatten → fillList E e ev ps xs g = some r →
      ∃ A' fps', Instr.fill (fun i => some (i * e.size, e.size)) A (ps.map fun x => (x.1, av x.2)) = some A' ∧ A'.size = xs.length * e.size ∧ r.1.length = xs.length ∧ Items c.fz w e A'.toList r.1 fps' ∧ Gone c fp s.v E r.2 fps'.flatten
  | [], A, xs, fps, g, r, _, hz, hi, hg, h => by
    simp only [fillList, Option.some.injEq] at h; subst h
    exact ⟨A, fps, rfl, hz, rfl, hi, hg⟩
  | (k, x) :: ps, A, xs, fps, g, r, hev, hz, hi, hg, h => by
    simp only [fillList] at h
    split at h
    · cases h
    rename_i hcond
    simp only [not_or] at hcond
    obtain ⟨hkl, hcell⟩ := hcond
    have hk : k < xs.length := by omega
    have hcell : (ev x).cells.all DVal.isCell = true := boolTrue hcell
    obtain ⟨y, hy, h⟩ := Option.bind_eq_some_iff.1 h
    split at h
    · cases h
    rename_i hdis
    have hvx := (hev (k, x) (by simp)).cells hcell
    obtain ⟨f, hf, hgf⟩ := takeAll_rel hv hE hvx hy
    have hl := Ty.repO_size e hf
    have hin : (k + 1) * e.size ≤ xs.length * e.size := Nat.mul_le_mul_right _ hk
    rw [Nat.add_mul] at hin
    have hdis' : ∀ i ∈ y.2, i ∉ g := fun i hi hi' => hdis (List.any_eq_true.2 ⟨i, hi, by simpa using hi'⟩)
    have hfar : ∀ b ∈ f, b ∉ fps.flatten := fun b h1 h2 => by
      obtain ⟨i1, hi1, hb1⟩ := hgf.mem b h1
      obtain ⟨i2, hi2, hb2⟩ := hg.mem b h2
      exact hv.sep i1 i2 (fun e => hdis' i1 hi1 (e ▸ hi2)) (hgf.there i1 hi1).1 (hg.there i2 hi2).1 b hb1 hb2
    obtain ⟨n1, n2⟩ := set_flatten (f := f) (by rw [hi.1]; exact hk) hg.nodup hgf.nodup hfar
    rw [List.map_cons, run_fill (off := k * e.size) (size := e.size) rfl (by rw [← hl]; simp) (by omega)]
    have := fillList_rel hv hE ps (spliced A (k * e.size) (av x).cells.toList) (xs.set k y.1) (fps.set k f) (g ++ y.2) r (fun z hz => hev z (by simp [hz]))
      (by rw [spliced_size (by rw [hl]; omega), List.length_set]; exact hz)
      ⟨by simp [hi.1], fun i z f' hz' hf' => by
        have hil : i < xs.length := by have := (List.getElem?_eq_some_iff.1 hz').1; simpa using this
        rw [chunk_spliced hl hz hk hil]
        by_cases e : i = k
        · subst e
          rw [if_pos rfl]
          rw [List.getElem?_set_self hil] at hz'
          rw [List.getElem?_set_self (by rw [hi.1]; exact hil)] at hf'
          cases hz'; cases hf'
          exact hf
        · rw [if_neg e]
          rw [List.getElem?_set_ne (Ne.symm e)] at hz' hf'
          exact hi.2 i z f' hz' hf'⟩
      ⟨fun b hb => by
        rcases n2 b hb with hb | hb
        · obtain ⟨i, hi, hb⟩ := hg.mem b hb; exact ⟨i, by simp [hi], hb⟩
        · obtain ⟨i, hi, hb⟩ := hgf.mem b hb; exact ⟨i, by simp [hi], hb⟩, n1,
        fun i hi => by
          rcases List.mem_append.1 hi with hi | hi
          · exact hg.there i hi
          · exact hgf.there i hi,
        fun b hb hlt j => by
          rcases n2 b hb with hb | hb
          · exact hg.may b hb hlt j
          · exact hgf.may b hb hlt j⟩ h
    simpa using this
theorem zeros_items {zf : Fz} {e : Ty} {z : Array Value} (hz : z.toList = e.zeroV) (n : Nat) : Items zf w e (madeCells z (n * e.size)).toList (List.replicate n e.zero) (List.replicate n []) := by
  refine ⟨by simp, fun i y f hy hf => ?_⟩
  have hi : i < n := by have := (List.getElem?_eq_some_iff.1 hf).1; simpa using this
  rw [List.getElem?_replicate, if_pos hi] at hy hf
  cases hy; cases hf
  have hzl : e.zeroV.length = e.size := Ty.zeroV_length e
  have hzs : z.size = e.size := by rw [← hzl, ← hz]; simp
  have hin : (i + 1) * e.size ≤ n * e.size := Nat.mul_le_mul_right _ hi
  rw [Nat.add_mul] at hin
  have : ((madeCells z (n * e.size)).toList.drop (i * e.size)).take e.size = e.zeroV := by
    apply List.ext_getElem?
    intro k
    by_cases hk : k < e.size
    · rw [List.getElem?_take_of_lt hk, List.getElem?_drop, Array.getElem?_toList]
      have hmod : (i * e.size + k) % z.size = k := by
        rw [hzs, Nat.add_comm, Nat.add_mul_mod_self_right, Nat.mod_eq_of_lt hk]
      rw [← hz, Array.getElem?_toList]
      simp only [madeCells]
      rw [Array.getElem?_map, Array.getElem?_range, if_pos (by omega), Option.map_some, hmod]
      have : k < z.size := by omega
      simp [this]
    · rw [List.getElem?_eq_none (by simp; omega), List.getElem?_eq_none (by omega)]
  rw [this]
  exact Ty.zero_repO _ e
variable (h : RelX c μ fp s n a w)
include h
theorem sim_buildSlice (hC : CxOk C c.P) (hE : ∀ id x, E id = some x → s.v id = some x) {t : TypeId} {m : Nat} {ps : Array (Nat × Operand)} (ho : o.op = .buildSlice t m ps) {fr : Nat} (hfr : ¬ s.k fr)
    (hr : (Out.of (C.ty t) fun t => .of (isSl t) fun e => if m * e.size ≤ 16777216 then
      .of (fillList E e (evF s.t) ps.toList (List.replicate m e.zero) []) fun y => .ret (.sref fr none, (y.2.map fun k => (k, none)) ++ [(fr, some (.arr e y.1))]) else .fail).eval = some r) : Sim c μ s o a w r := by
  replace hr := of_eval hr
  obtain ⟨ty, hty, hr⟩ := hr
  replace hr := of_eval hr
  obtain ⟨e, he, hr⟩ := hr
  have hty : C.ty t = some (.sl e) := isSl_eq he ▸ hty
  obtain ⟨eid, hu, hok⟩ := (hC.ty t _ hty).sl
  split at hr
  case isFalse => cases hr
  rename_i hm
  replace hr := of_eval hr
  obtain ⟨y, hy, hr⟩ := hr
  have hr := Option.some.inj hr
  subst hr
  obtain ⟨i, z, hi, hs, hb, hz, hzc, hpos⟩ := hok.base
  have hzl : e.zeroV.length = e.size := Ty.zeroV_length e
  obtain ⟨A', fps, hA, hAs, hyl, hit, hg⟩ := fillList_rel (av := a.eval) h.vs hE ps.toList (madeCells z.cells (m * e.size)) _ (List.replicate m []) [] y (fun x _ => h.ev_rel x.2) (by rw [size_madeCells, List.length_replicate]) (zeros_items hzc m)
    ⟨by simp, by simp, by simp, by simp⟩ hy
  simp only [List.length_replicate] at hAs hyl
  have hlt : ∀ b ∈ fps.flatten, b < w.heap.size := fun b hb => by
    obtain ⟨k, hk, hb⟩ := hg.mem b hb
    exact h.vs.lt k (hg.there k hk).1 b hb
  have hrun : (execOp a.eval o).run c.P w = .ok (.value (.slice (some ⟨w.heap.size, 0, none⟩) m m)) (w.alloc (.cells A' eid)) := by
    have hzr : (zeroValue eid).run c.P w = .ok z w := by simp [zeroValue, typeInfo, hi, hz]
    have hfill : Instr.fill (fun i => some (i * e.size, e.size)) ((Array.range (m * e.size)).map (z.cells[· % z.cells.size]!)) (ps.toList.map fun x => (x.1, a.eval x.2)) = some A' := hA
    by_cases h0 : m * e.size = 0
    · have hm0 : m = 0 := by rcases Nat.mul_eq_zero.1 h0 with h | h <;> omega
      subst hm0
      have hfill : Instr.fill (fun i => some (i * e.size, e.size)) ((Array.range 0).map fun _ => default) (ps.toList.map fun x => (x.1, a.eval x.2)) = some A' := by
        rw [← hfill]; simp only [Nat.zero_mul]; congr 1; simp
      simp [execOp, ho, Instr.buildSlice, run_underlying hu, hok.run_size, hfill, newRow]
    · have : ¬ (16777216 < m * e.size) := by omega
      simp [execOp, ho, Instr.buildSlice, run_underlying hu, hok.run_size, this, h0, hzr, hfill, newRow]
  have hrel := items_repO (T := eid) (cap := m) hit ⟨by omega, by unfold BIG; have : m * 1 ≤ m * e.size := Nat.mul_le_mul_left _ (by omega); omega⟩ (by omega) hlt
  rw [hyl] at hrel
  have hvar : VarRel c (fun id => if id = fr then .hdr (some ⟨w.heap.size, 0, none⟩) y.1.length m e.size else μ id) (w.alloc (.cells A' eid)) fr (w.heap.size :: fps.flatten) (.arr e y.1) := by
    refine ⟨some ⟨w.heap.size, 0, none⟩, m, by simp, by rw [hyl]; exact hrel, fun b hb hlt' => ?_⟩
    rcases List.mem_cons.1 hb with rfl | hb
    · have := h.ev.size; omega
    · exact hg.may b hb hlt'
  obtain ⟨q1, q2⟩ := h.new hfr y.2 _ _ _ (fun id hn _ b hb' => heap_alloc_old w _ b (h.vs.lt id hn b hb')) (by simp) hvar
    (List.nodup_cons.2 ⟨fun hb => Nat.lt_irrefl _ (hlt _ hb), hg.nodup⟩) (fun b hb => by
      rcases List.mem_cons.1 hb with rfl | hb
      · exact .inl ⟨Nat.le_refl _, by simp⟩
      · obtain ⟨k, hk, hb⟩ := hg.mem b hb
        exact .inr ⟨k, hk, (hg.there k hk).1, hb⟩)
  refine sim_value hrun ⟨q1, ?_, q2, h.ev.alloc _ _⟩
  simp only [VRel]
  exact ⟨some ⟨w.heap.size, 0, none⟩, y.1.length, m, e.size, by simp, by rw [hyl]⟩
end
end
section
open Go
variable {z : Fz}
mutual
theorem Ty.repO_one {w : World} : (t : Ty) → {cs : List Value} → {x : t.D} → {f : List Nat} → t.repO z w cs x f → ∀ v ∈ cs, v.oneCell' = true
  | .bool, _, _, _, h => by simp only [Ty.repO] at h; obtain ⟨rfl, _⟩ := h; simp [Value.oneCell']
  | .int _, _, _, _, h => by simp only [Ty.repO] at h; obtain ⟨rfl, _⟩ := h; simp [Value.oneCell']
  | .str, _, _, _, h => by simp only [Ty.repO] at h; obtain ⟨rfl, _⟩ := h; simp [Value.oneCell']
  | .sl _, _, _, _, h => by simp only [Ty.repO] at h; obtain ⟨a, cap, rfl, _⟩ := h; simp [Value.oneCell']
  | .fz _, _, _, _, h => by simp only [Ty.repO, Ty.repS] at h; obtain ⟨⟨a, cap, rfl, _⟩, _⟩ := h; simp [Value.oneCell']
  | .st fs, _, _, _, h => Tys.repO_one fs (by simpa only [Ty.repO] using h)
theorem Tys.repO_one {w : World} : (t : Tys) → {cs : List Value} → {x : t.D} → {f : List Nat} → t.repO z w cs x f → ∀ v ∈ cs, v.oneCell' = true
  | .nil, _, _, _, h => by simp only [Tys.repO] at h; obtain ⟨rfl, _⟩ := h; simp
  | .cons t ts, _, _, _, h => by
    simp only [Tys.repO] at h
    obtain ⟨c1, c2, f1, f2, rfl, _, h1, h2⟩ := h
    intro v hv
    rcases List.mem_append.1 hv with hv | hv
    · exact Ty.repO_one t h1 v hv
    · exact Tys.repO_one ts h2 v hv
end
mutual
theorem Ty.flat_rep {S : Nat → Prop} {w w' : World} : (t : Ty) → {cs : List Value} → {x : t.D} → t.flat = true → t.repS S w cs x → t.repO z w' cs x []
  | .bool, _, _, _, h => by simp only [Ty.repS] at h; simp [Ty.repO, h]
  | .int _, _, _, _, h => by simp only [Ty.repS] at h; simp [Ty.repO, h]
  | .str, _, _, _, h => by simp only [Ty.repS] at h; simp [Ty.repO, h]
  | .sl _, _, _, hf, _ => by simp [Ty.flat] at hf
  | .fz _, _, _, hf, _ => by simp [Ty.flat] at hf
  | .st fs, _, _, hf, h => by simp only [Ty.repO]; exact Tys.flat_rep fs hf (by simpa only [Ty.repS] using h)
theorem Tys.flat_rep {S : Nat → Prop} {w w' : World} : (t : Tys) → {cs : List Value} → {x : t.D} → t.flat = true → t.repS S w cs x → t.repO z w' cs x []
  | .nil, _, _, _, h => by simp only [Tys.repS] at h; simp [Tys.repO, h]
  | .cons t ts, _, _, hf, h => by
    simp only [Tys.flat, Bool.and_eq_true] at hf
    simp only [Tys.repS] at h
    obtain ⟨c1, c2, rfl, h1, h2⟩ := h
    simp only [Tys.repO]
    exact ⟨c1, c2, [], [], rfl, rfl, Ty.flat_rep t hf.1 h1, Tys.flat_rep ts hf.2 h2⟩
end
def Src (z : Fz) (w : World) (e : Ty) (v : Value) (ys : List e.D) (gps : List (List Nat)) : Prop :=
  ∃ a cap, v = .slice a ys.length cap ∧ gps.length = ys.length ∧ (ys = [] ∨ ∃ b o, a = some ⟨b, o, none⟩ ∧
    ∀ (i : Nat) (y : e.D) (f : List Nat), ys[i]? = some y → gps[i]? = some f → e.repO z w (cellsAt w b (o + i * e.size) e.size) y f)
theorem cellsAt_len {w : World} {b o n : Nat} (h : (cellsAt w b o n).length = n) (hn : 0 < n) : ∃ C E fr, w.heap[b]? = some (.cells C E fr) ∧ o + n ≤ C.size := by
  unfold cellsAt at h
  split at h
  · rename_i C E fr hb
    refine ⟨C, E, fr, hb, ?_⟩
    simp at h; omega
  · simp at h; omega
theorem chunk_cellsAt {w : World} {b o n sz i : Nat} (hi : i < n) : ((cellsAt w b o (n * sz)).drop (i * sz)).take sz = cellsAt w b (o + i * sz) sz := by
  have hin : (i + 1) * sz ≤ n * sz := Nat.mul_le_mul_right _ hi
  rw [Nat.add_mul] at hin
  unfold cellsAt
  split
  · rw [List.drop_take, List.take_take, List.drop_drop]
    congr 1; omega
  · simp
theorem Src.cells {w : World} {e : Ty} {b o : Nat} {ys : List e.D} {gps : List (List Nat)} (hl : gps.length = ys.length) (hpos : 0 < e.size) (hne : ys ≠ [])
    (h : ∀ (i : Nat) (y : e.D) (f : List Nat), ys[i]? = some y → gps[i]? = some f → e.repO z w (cellsAt w b (o + i * e.size) e.size) y f) :
    ∃ C E fr, w.heap[b]? = some (.cells C E fr) ∧ o + ys.length * e.size ≤ C.size ∧ (cellsAt w b o (ys.length * e.size)).length = ys.length * e.size ∧
      Items z w e (cellsAt w b o (ys.length * e.size)) ys gps ∧ ∀ v ∈ cellsAt w b o (ys.length * e.size), v.oneCell' = true := by
  have hn : 0 < ys.length := List.length_pos_iff.2 hne
  have hlast := h (ys.length - 1) _ _ (List.getElem?_eq_getElem (by omega)) (List.getElem?_eq_getElem (by omega))
  have hll := Ty.repO_size e hlast
  obtain ⟨C, E, fr, hb, hin⟩ := cellsAt_len hll hpos
  have hmul : (ys.length - 1 + 1) * e.size = ys.length * e.size := by rw [Nat.sub_add_cancel hn]
  rw [Nat.add_mul] at hmul
  have hlen : (cellsAt w b o (ys.length * e.size)).length = ys.length * e.size := by rw [cellsAt_of hb]; simp; omega
  refine ⟨C, E, fr, hb, by omega, hlen, ⟨hl, fun i y f hy hf => ?_⟩, fun v hv => ?_⟩
  · rw [chunk_cellsAt (List.getElem?_eq_some_iff.1 hy).1]; exact h i y f hy hf
  · obtain ⟨j, hj, hvj⟩ := List.getElem_of_mem hv
    rw [hlen] at hj
    have hi : j / e.size < ys.length := (Nat.div_lt_iff_lt_mul hpos).2 hj
    have hr := h (j / e.size) _ _ (List.getElem?_eq_getElem hi) (List.getElem?_eq_getElem (by omega))
    refine Ty.repO_one e hr v ?_
    rw [← chunk_cellsAt (n := ys.length) hi, List.mem_iff_getElem?]
    refine ⟨j % e.size, ?_⟩
    rw [List.getElem?_take_of_lt (Nat.mod_lt _ hpos), List.getElem?_drop, Nat.div_add_mod', ← hvj]
    exact List.getElem?_eq_getElem _
theorem items_append {w : World} {e : Ty} {cs ds : List Value} {xs ys : List e.D} {fps gps : List (List Nat)} (h : Items z w e cs xs fps) (h' : Items z w e ds ys gps) (hl : cs.length = xs.length * e.size) (hl' : ds.length = ys.length * e.size) (rest : List Value) :
    Items z w e (cs ++ ds ++ rest) (xs ++ ys) (fps ++ gps) := by
  refine ⟨by simp [h.1, h'.1], fun i y f hy hf => ?_⟩
  rcases Nat.lt_or_ge i xs.length with hi | hi
  · rw [List.getElem?_append_left hi] at hy
    rw [List.getElem?_append_left (by rw [h.1]; exact hi)] at hf
    have hin : (i + 1) * e.size ≤ xs.length * e.size := Nat.mul_le_mul_right _ hi
    rw [Nat.add_mul] at hin
    have := h.2 i y f hy hf
    rw [List.append_assoc, List.drop_append_of_le_length (by omega), List.take_append_of_le_length (by simp; omega)]
    exact this
  · rw [List.getElem?_append_right hi] at hy
    rw [List.getElem?_append_right (by rw [h.1]; exact hi), h.1] at hf
    have hj : i - xs.length < ys.length := (List.getElem?_eq_some_iff.1 hy).1
    have hin : (i - xs.length + 1) * e.size ≤ ys.length * e.size := Nat.mul_le_mul_right _ hj
    rw [Nat.add_mul] at hin
    have := h'.2 (i - xs.length) y f hy hf
    have e1 : i * e.size = cs.length + (i - xs.length) * e.size := by rw [hl, ← Nat.add_mul]; congr 1; omega
    rw [List.append_assoc, e1, List.drop_append, List.drop_of_length_le (by omega), List.nil_append, show cs.length + (i - xs.length) * e.size - cs.length = (i - xs.length) * e.size by omega,
      List.drop_append_of_le_length (by omega), List.take_append_of_le_length (by simp; omega)]
    exact this
theorem Items.congr {w w' : World} {e : Ty} {cs : List Value} {xs : List e.D} {fps : List (List Nat)} (h : Items z w e cs xs fps) (hs : ∀ b ∈ fps.flatten, w'.heap[b]? = w.heap[b]?) : Items z w' e cs xs fps :=
  ⟨h.1, fun i y f hy hf => Ty.repO_congr e (h.2 i y f hy hf) fun b hb => hs b (List.mem_flatten.2 ⟨f, List.mem_of_getElem? hf, hb⟩)⟩
theorem items_at {w : World} {e : Ty} {xs : List e.D} {fps : List (List Nat)} {C : Array Value} {T : TypeId} {b o cap : Nat} (hb : w.heap[b]? = some (.cells C T (0, 0))) (hc : xs.length ≤ cap ∧ xs.length ≤ BIG) (hC : o + cap * e.size ≤ C.size)
    (hi : Items z w e ((C.toList.drop o).take (xs.length * e.size)) xs fps) : (Ty.sl e).repO z w [.slice (some ⟨b, o, none⟩) xs.length cap] xs (b :: fps.flatten) := by
  simp only [Ty.repO]
  refine ⟨_, cap, rfl, hc, .inr ⟨b, o, C, T, fps, rfl, hb, hC, hi.1, rfl, ?_⟩⟩
  intro i y f hy hf
  have hy : xs[i]? = some y := hy
  have hf : fps[i]? = some f := hf
  have hil : i < xs.length := (List.getElem?_eq_some_iff.1 hy).1
  have := hi.2 i y f hy hf
  rw [← cellsAt_of hb, chunk_cellsAt hil] at this
  exact this
end
section
open Go
variable {z : Fz}
section
variable {P : Program} {w : World}
theorem append_room (t ty e : TypeId) (i : TypeInfo) (ht : P.underlying t = some (.slice e)) (hi : P.info? e = some i)
    (g o sLen sCap : Nat) (cur : Array Value) (T : TypeId) (hg : w.heap[g]? = some (.cells cur T (0, 0)))
    (a : Addr) (m c : Nat) (news : List Value) (hl : news.length = m * i.size) (hnews : ∀ j u, news[j]? = some u → w.cell? (a.add j) = some u) (h1 : ∀ u ∈ news, u.oneCell' = true)
    (hroom : sLen + m ≤ sCap) (hfit : o + sLen * i.size + news.length ≤ cur.size) :
    (Builtin.append_ #[t, t] ty #[.slice (some ⟨g, o, none⟩) sLen sCap, .slice (some a) m c]).run P w =
      .ok (.slice (some ⟨g, o, none⟩) (sLen + m) sCap) (w.setRow g (spliced cur (o + sLen * i.size) news)) := by
  have hf := run_firstCells_some (P := P) w i.size m a m c news hl hnews
  have hst := run_storeCells_at P g (o + sLen * i.size) T news 0 cur w hg (by simpa using hfit) h1
  simp only [Nat.add_zero] at hst
  simp [Builtin.append_, run_underlying ht, sizeOf, typeInfo, hi, Builtin.lenOf, hroom, hf, Addr.add_lit, hst, spliced]
theorem append_none (t ty e : TypeId) (i : TypeInfo) (ht : P.underlying t = some (.slice e)) (hi : P.info? e = some i) (s a : Option Addr) (sLen sCap c : Nat) (h : sLen ≤ sCap) :
    (Builtin.append_ #[t, t] ty #[.slice s sLen sCap, .slice a 0 c]).run P w = .ok (.slice s sLen sCap) w := by
  cases s <;> cases a <;> simp [Builtin.append_, run_underlying ht, sizeOf, typeInfo, hi, Builtin.lenOf, h, Builtin.firstCells, loadCells, loadCellsFrom, storeCells]
theorem append_grow0 (t ty e : TypeId) (i : TypeInfo) (z : Value) (ht : P.underlying t = some (.slice e)) (hi : P.info? e = some i) (hz : i.zero = some z) (s : Option Addr)
    (a : Addr) (n c : Nat) (news : List Value) (hl : news.length = n * i.size) (hnews : ∀ j v, news[j]? = some v → w.cell? (a.add j) = some v)
    (h0 : 0 < n) (h63 : (n : Int) ≤ 9223372036854775807) (h48 : n * i.bytes ≤ 281474976710656) :
    (Builtin.append_ #[t, t] ty #[.slice s 0 0, .slice (some a) n c]).run P w =
      .ok (.slice (some ⟨w.heap.size, 0, none⟩) n (grownCap w n 0 e)) (w.drew.alloc (.cells (news.toArray ++ Builtin.zeroCells z.cells (grownCap w n 0 e - n)) e)) := by
  have hn : n ≠ 0 := by omega
  have h63' : ¬ (9223372036854775807 < (n : Int)) := by omega
  have h48' : ¬ (281474976710656 < Builtin.nextslicecap n 0 * i.bytes) := by rw [nextslicecap_zero h0]; omega
  have hf := run_firstCells_some (P := P) w.drew i.size n a n c news hl (by simpa using hnews)
  have hs : (Builtin.firstCells i.size 0 (.slice s 0 0)).run P w.drew = .ok #[] w.drew := by
    cases s <;> simp [Builtin.firstCells, loadCells, loadCellsFrom]
  simp [Builtin.append_, run_underlying ht, sizeOf, typeInfo, zeroValue, hi, hz, Builtin.lenOf, hn, h63', h48', Question.forced, hs, hf, newRow, grownCap]
structure Appended (c : Ctx) (w : World) (e : Ty) (zs : List e.D) (fx gp : List Nat) (v' : Value) (w' : World) (f : List Nat) : Prop where
  rep : (Ty.sl e).repO c.fz w' [v'] zs f
  nodup : f.Nodup
  from_ : ∀ b ∈ f, (w.heap.size ≤ b ∧ b < w'.heap.size) ∨ b ∈ fx ∨ b ∈ gp
  size : w.heap.size ≤ w'.heap.size
  heap : ∀ b, b ∉ fx → b < w.heap.size → w'.heap[b]? = w.heap[b]?
  ev : Ev c w → (∀ b ∈ fx, ¬ c.S b) → (∀ b ∈ fx, b < c.w0.heap.size → ∀ j, c.M b j) → Ev c w'
theorem zeroCells_size (z : Array Value) (n : Nat) : (Builtin.zeroCells z n).size = n * z.size := by simp [Builtin.zeroCells]
theorem append_run (c : Ctx) {t ty eid : TypeId} {e : Ty} (hu : P.underlying t = some (.slice eid)) (hok : e.Ok P eid) {vx vy : Value} {xs ys : List e.D} {fx : List Nat} {gps : List (List Nat)}
    (hx : (Ty.sl e).repO c.fz w [vx] xs fx) (hy : Src c.fz w e vy ys gps) (hfx : fx.Nodup) (hg : gps.flatten.Nodup) (hd : ∀ b ∈ gps.flatten, b ∉ fx) (hgl : ∀ b ∈ gps.flatten, b < w.heap.size) (hn : xs.length + ys.length ≤ LIM) :
    ∃ v' w' f, (Builtin.append_ #[t, t] ty #[vx, vy]).run P w = .ok v' w' ∧ Appended c w e (xs ++ ys) fx gps.flatten v' w' f := by
  obtain ⟨i, z, hi, hs, hb, hz, hzc, hpos⟩ := hok.base
  obtain ⟨a, cy, rfl, hgl1, hy⟩ := hy
  have hx0 := hx
  simp only [Ty.repO] at hx
  obtain ⟨ax, cap, ex, ⟨hcap, _⟩, hx⟩ := hx
  obtain rfl : vx = .slice ax xs.length cap := by simpa using ex
  have hflt : ∀ b ∈ fx, b < w.heap.size := Ty.repO_lt _ hx0
  by_cases hne : ys = []
  · subst hne
    refine ⟨.slice ax xs.length cap, w, fx, append_none t ty eid i hu hi ax a xs.length cap cy hcap, by simpa using hx0, hfx, fun b hb => .inr (.inl hb), Nat.le_refl _, fun _ _ _ => rfl, fun h _ _ => h⟩
  · have hy : ∃ b o, a = some ⟨b, o, none⟩ ∧ ∀ (i : Nat) (y : e.D) (f : List Nat), ys[i]? = some y → gps[i]? = some f → e.repO c.fz w (cellsAt w b (o + i * e.size) e.size) y f := by
      rcases hy with h | h
      · exact absurd h hne
      · exact h
    obtain ⟨by', oy, ha, hy2⟩ := hy
    subst ha
    have hm : 0 < ys.length := List.length_pos_iff.2 hne
    obtain ⟨CY, TY, frY, q1, q2, q3, q4, q5⟩ := Src.cells hgl1 hpos hne hy2
    have hcell : ∀ j u, (cellsAt w by' oy (ys.length * e.size))[j]? = some u → w.cell? ((⟨by', oy, none⟩ : Addr).add j) = some u := fun j u hu => by
      rw [Addr.add_lit]; exact cell_of_cellsAt hu
    generalize cellsAt w by' oy (ys.length * e.size) = news at q3 q4 q5 hcell
    unfold LIM at hn
    have hbytes : ∀ k, k ≤ xs.length + ys.length → k * i.bytes ≤ 140737488355328 := fun k hk => by
      have : k * i.bytes ≤ 68719476736 * 1024 := Nat.mul_le_mul (by omega) hb
      omega
    have hzs : z.cells.size = e.size := by have := Ty.zeroV_length e; rw [← hzc] at this; simpa using this
    -- what a new row is
    have grown : ∀ (old : List Value) (fps : List (List Nat)) (C0 : Nat), old.length = xs.length * e.size → Items c.fz w e old xs fps → fps.flatten.Nodup → (∀ b ∈ fps.flatten, b ∈ fx) →
        Appended c w e (xs ++ ys) fx gps.flatten (.slice (some ⟨w.heap.size, 0, none⟩) (xs.length + ys.length) (grownCap w (xs.length + ys.length) C0 eid))
          (w.drew.alloc (.cells (old.toArray ++ news.toArray ++ Builtin.zeroCells z.cells (grownCap w (xs.length + ys.length) C0 eid - (xs.length + ys.length))) eid)) (w.heap.size :: (fps ++ gps).flatten) := by
      intro old fps C0 ho hio hfn hsub
      have hge := grownCap_ge w (xs.length + ys.length) C0 eid
      have hit := items_append hio q4 ho q3 (Builtin.zeroCells z.cells (grownCap w (xs.length + ys.length) C0 eid - (xs.length + ys.length))).toList
      have hlt : ∀ b ∈ (fps ++ gps).flatten, b < w.heap.size := fun b hb => by
        rw [List.flatten_append, List.mem_append] at hb
        rcases hb with hb | hb
        · exact hflt b (hsub b hb)
        · exact hgl b hb
      refine ⟨?_, ?_, ?_, by simp, ?_, fun h _ _ => h.drew.alloc _ _⟩
      · have := items_repO (w := w.drew) (T := eid) (cap := grownCap w (xs.length + ys.length) C0 eid) (A := old.toArray ++ news.toArray ++ Builtin.zeroCells z.cells (grownCap w (xs.length + ys.length) C0 eid - (xs.length + ys.length)))
          (xs := xs ++ ys) (fps := fps ++ gps) (e := e) (Items.congr (w := w) (by simpa using hit) (fun _ _ => rfl)) ⟨by simpa using hge, by rw [List.length_append]; exact Nat.le_trans hn (by decide)⟩ (by
            simp only [Array.size_append, List.size_toArray, zeroCells_size, hzs, ho, q3, ← Nat.add_mul]
            exact Nat.mul_le_mul_right _ (by omega)) hlt
        simpa using this
      · rw [List.nodup_cons, List.flatten_append, List.nodup_append]
        refine ⟨fun h => Nat.lt_irrefl _ (hlt _ (by rw [List.flatten_append]; exact h)), hfn, hg, fun x h1 y h2 e => hd y h2 (hsub y (e ▸ h1))⟩
      · intro b hb
        rcases List.mem_cons.1 hb with rfl | hb
        · exact .inl ⟨Nat.le_refl _, by simp⟩
        · rw [List.flatten_append, List.mem_append] at hb
          rcases hb with hb | hb
          · exact .inr (.inl (hsub b hb))
          · exact .inr (.inr hb)
      · intro b _ hb
        exact heap_alloc_old w.drew _ b hb
    rcases hx with ⟨rfl, rfl⟩ | ⟨b, o, C, T, fps, rfl, hbC, hC, hfl, rfl, hxi⟩
    · have hxn : xs = [] := List.eq_nil_of_length_eq_zero (by simpa using hcap)
      subst hxn
      have hr := append_grow0 (w := w) t ty eid i z hu hi hz ax ⟨by', oy, none⟩ ys.length cy news (by rw [hs]; exact q3) hcell hm (by simp at hn; omega) (by have := hbytes ys.length (by simp); omega)
      have := grown [] [] 0 (by simp) ⟨rfl, by simp⟩ (by simp) (by simp)
      simp only [List.length_nil, Nat.zero_add, List.nil_append, Array.empty_append] at this
      exact ⟨_, _, _, hr, this⟩
    · have hTe : Items c.fz w e ((C.toList.drop o).take (xs.length * e.size)) xs fps := by
        refine ⟨hfl, fun k y f hy hf => ?_⟩
        have := hxi k y f hy hf
        rwa [← cellsAt_of hbC, chunk_cellsAt (List.getElem?_eq_some_iff.1 hy).1]
      have hxc : xs.length * e.size ≤ cap * e.size := Nat.mul_le_mul_right _ hcap
      have hxl : ((C.toList.drop o).take (xs.length * e.size)).length = xs.length * e.size := by simp; omega
      have hbf : b ∉ fps.flatten := (List.nodup_cons.1 hfx).1
      by_cases hroom : xs.length + ys.length ≤ cap
      · have hrc : (xs.length + ys.length) * e.size ≤ cap * e.size := Nat.mul_le_mul_right _ hroom
        rw [Nat.add_mul] at hrc
        have hr := append_room (w := w) t ty eid i hu hi b o xs.length cap C T hbC ⟨by', oy, none⟩ ys.length cy news (by rw [hs]; exact q3) hcell q5 hroom (by rw [hs]; omega)
        rw [hs] at hr
        have hother : ∀ b', b' ≠ b → (w.setRow b (spliced C (o + xs.length * e.size) news)).heap[b']? = w.heap[b']? := fun b' hne => setRow_other w b b' _ hne
        have hgb : ∀ b' ∈ gps.flatten, b' ≠ b := fun b' hb' e => hd b' hb' (by simp [e])
        have hfb : ∀ b' ∈ fps.flatten, b' ≠ b := fun b' hb' e => hbf (e ▸ hb')
        have hit := items_append hTe q4 hxl q3 []
        have hrow : (((spliced C (o + xs.length * e.size) news).toList.drop o).take ((xs ++ ys).length * e.size)) = (C.toList.drop o).take (xs.length * e.size) ++ news ++ [] := by
          have := cellsAt_spliced (w := w) (B := b) (o' := o) (k := xs.length * e.size) (n := (xs.length + ys.length) * e.size) (vs := news) hbC (by rw [q3, Nat.add_mul]; omega) (by rw [Nat.add_mul]; omega)
          rw [cellsAt_of (setRow_heap w b C _ T _ hbC), cellsAt_of hbC] at this
          rw [List.length_append, this, List.append_nil, q3, List.drop_of_length_le (Nat.le_trans (List.length_take_le _ _) (by rw [Nat.add_mul]; exact Nat.le_refl _)), List.append_nil, List.take_take, Nat.min_eq_left (by rw [Nat.add_mul]; omega)]
        refine ⟨_, _, b :: (fps ++ gps).flatten, hr, ⟨?_, ?_, ?_, by simp, ?_, ?_⟩⟩
        · have := items_at (w := w.setRow b (spliced C (o + xs.length * e.size) news)) (e := e) (xs := xs ++ ys) (fps := fps ++ gps) (cap := cap) (o := o) (setRow_heap w b C _ T _ hbC) ⟨by simpa using hroom, by rw [List.length_append]; exact Nat.le_trans hn (by decide)⟩
            (by rw [spliced_size (by omega)]; exact hC) (by
              rw [hrow]
              refine Items.congr (w := w) hit fun b' hb' => hother b' ?_
              rw [List.flatten_append, List.mem_append] at hb'
              rcases hb' with hb' | hb'
              · exact hfb b' hb'
              · exact hgb b' hb')
          simpa using this
        · rw [List.nodup_cons, List.flatten_append, List.nodup_append]
          refine ⟨fun h => ?_, (List.nodup_cons.1 hfx).2, hg, fun x h1 y h2 e => hd y h2 (by simp only [List.mem_cons]; right; exact e ▸ h1)⟩
          rcases List.mem_append.1 h with h | h
          · exact hbf h
          · exact hgb b h rfl
        · intro b' hb'
          rw [List.flatten_append, List.mem_cons, List.mem_append] at hb'
          rcases hb' with rfl | hb' | hb'
          · exact .inr (.inl (by simp))
          · exact .inr (.inl (by simp only [List.mem_cons]; exact .inr hb'))
          · exact .inr (.inr hb')
        · intro b' hb' _
          exact hother b' fun e => hb' (by simp [e])
        · intro hev hS hM
          exact hev.setRow hbC (hS b (by simp)) (spliced_size (by omega)) fun hlt j hj => absurd (hM b (by simp) hlt j) hj
      · have hxcell : ∀ j u, ((C.toList.drop o).take (xs.length * e.size))[j]? = some u → w.cell? ((⟨b, o, none⟩ : Addr).add j) = some u := fun j u hu => by
          rw [Addr.add_lit]; rw [← cellsAt_of hbC] at hu; exact cell_of_cellsAt hu
        have hr := run_append_grow (P := P) w t ty eid i z hu hi hz ⟨b, o, none⟩ xs.length cap _ (by rw [hs]; exact hxl) hxcell ⟨by', oy, none⟩ ys.length cy news (by rw [hs]; exact q3) hcell (by omega) (by omega)
          (growslice_fits (by omega) (hbytes _ (Nat.le_refl _)))
        exact ⟨_, _, _, hr, grown _ fps cap hxl hTe (List.nodup_cons.1 hfx).2 fun b' hb' => by simp only [List.mem_cons]; exact .inr hb'⟩
end
end
section
open Go
variable {z : Fz}
mutual
theorem Ty.flat_nil {w : World} : (t : Ty) → {cs : List Value} → {x : t.D} → {f : List Nat} → t.flat = true → t.repO z w cs x f → f = []
  | .bool, _, _, _, _, h => by simp only [Ty.repO] at h; exact h.2
  | .int _, _, _, _, _, h => by simp only [Ty.repO] at h; exact h.2
  | .str, _, _, _, _, h => by simp only [Ty.repO] at h; exact h.2.1
  | .sl _, _, _, _, hf, _ => by simp [Ty.flat] at hf
  | .st fs, _, _, _, hf, h => Tys.flat_nil fs hf (by simpa only [Ty.repO] using h)
theorem Tys.flat_nil {w : World} : (t : Tys) → {cs : List Value} → {x : t.D} → {f : List Nat} → t.flat = true → t.repO z w cs x f → f = []
  | .nil, _, _, _, _, h => by simp only [Tys.repO] at h; exact h.2
  | .cons t ts, _, _, _, hf, h => by
    simp only [Tys.flat, Bool.and_eq_true] at hf
    simp only [Tys.repO] at h
    obtain ⟨c1, c2, f1, f2, rfl, rfl, h1, h2⟩ := h
    rw [Ty.flat_nil t hf.1 h1, Tys.flat_nil ts hf.2 h2]; rfl
end
theorem Src.of_repS {S : Nat → Prop} {w : World} {e : Ty} {v : Value} {ys : List e.D} (hf : e.flat = true) (h : (Ty.sl e).repS S w [v] ys) : Src z w e v ys (List.replicate ys.length []) := by
  simp only [Ty.repS] at h
  obtain ⟨a, cap, ev, hc, h⟩ := h
  obtain rfl : v = .slice a ys.length cap := by simpa using ev
  refine ⟨a, cap, rfl, by simp, ?_⟩
  rcases h with h | ⟨b, o, rfl, _, h⟩
  · exact .inl h
  · refine .inr ⟨b, o, rfl, fun i y f hy hf' => ?_⟩
    have : f = [] := by rw [List.getElem?_replicate] at hf'; split at hf' <;> simp_all
    subst this
    exact Ty.flat_rep e hf (h i y hy)
theorem Src.of_repO {w : World} {e : Ty} {v : Value} {ys : List e.D} {f : List Nat} (h : (Ty.sl e).repO z w [v] ys f) : ∃ gps, Src z w e v ys gps ∧ gps.flatten.Sublist f := by
  simp only [Ty.repO] at h
  obtain ⟨a, cap, ev, hc, h⟩ := h
  obtain rfl : v = .slice a ys.length cap := by simpa using ev
  rcases h with ⟨h0, h1⟩ | ⟨b, o, C, E, fps, rfl, h1, h2, h3, h4, h5⟩
  · have : ys = [] := List.eq_nil_of_length_eq_zero (by omega)
    subst this
    exact ⟨[], ⟨a, cap, rfl, rfl, .inl rfl⟩, by simp⟩
  · refine ⟨fps, ⟨_, cap, rfl, h3, .inr ⟨b, o, rfl, fun i y f hy hf => h5 i y f hy hf⟩⟩, ?_⟩
    rw [h4]; exact List.sublist_cons_self _ _
section
variable {c : Ctx} {μ : Nat → Loc} {fp : Nat → List Nat} {s : FSt} {n : Nat} {o : Oper} {a : Act} {w : World} {r : Res} {C : Cx} {E : Env}
variable (h : RelX c μ fp s n a w)
include h
theorem sim_appended {e : Ty} {zs : List e.D} {fx gp : List Nat} {v' : Value} {w' : World} {f : List Nat} {fr : Nat} (hfr : ¬ s.k fr) (ap : Appended c w e zs fx gp v' w' f) {gx gy : List Nat}
    (hx : Gone c fp s.v E gx fx) (hy : ∀ b ∈ gp, (∃ id ∈ gy, s.v id ≠ none ∧ b ∈ fp id) ∧ (b < c.w0.heap.size → ∀ j, c.M b j)) (hrun : (execOp a.eval o).run c.P w = .ok (.value v') w') :
    Sim c μ s o a w (.sref fr none, ((gx ++ gy).map fun k => (k, none)) ++ [(fr, some (.arr e zs))]) := by
  have hrep := ap.rep
  simp only [Ty.repO] at hrep
  obtain ⟨ad, cap, ev, hcap, _⟩ := hrep
  obtain rfl : v' = .slice ad zs.length cap := by simpa using ev
  have hvar : VarRel c (fun id => if id = fr then .hdr ad zs.length cap e.size else μ id) w' fr f (.arr e zs) := by
    refine ⟨ad, cap, by simp, ap.rep, fun b hb hlt => ?_⟩
    rcases ap.from_ b hb with ⟨h1, _⟩ | h1 | h1
    · have := h.ev.size; omega
    · exact hx.may b h1 hlt
    · exact (hy b h1).2 hlt
  obtain ⟨q1, q2⟩ := h.new hfr (gx ++ gy) _ _ _ (fun id hn hr b hb' => ap.heap b (fun hbx => by
      obtain ⟨k, hk, hkb⟩ := hx.mem b hbx
      exact h.vs.sep id k (fun e => hr (by simp [e, hk])) hn (hx.there k hk).1 b hb' hkb) (h.vs.lt id hn b hb')) ap.size hvar ap.nodup (fun b hb => by
      rcases ap.from_ b hb with h1 | h1 | h1
      · exact .inl h1
      · obtain ⟨k, hk, hkb⟩ := hx.mem b h1
        exact .inr ⟨k, by simp [hk], (hx.there k hk).1, hkb⟩
      · obtain ⟨⟨k, hk, hn, hkb⟩, _⟩ := hy b h1
        exact .inr ⟨k, by simp [hk], hn, hkb⟩)
  refine sim_value hrun ⟨q1, ?_, q2, ap.ev h.ev (fun b hb => ?_) hx.may⟩
  · simp only [VRel]
    exact ⟨ad, zs.length, cap, e.size, by simp, rfl⟩
  · obtain ⟨k, hk, hkb⟩ := hx.mem b hb
    exact h.vs.notS k (hx.there k hk).1 b hkb
theorem sim_append (hC : CxOk C c.P) (hE : ∀ id x, E id = some x → s.v id = some x) {cl : Call} (hcl : cl.callee = .builtin .append) {t : TypeId} {x y : Operand} (ha : cl.args.toList = [x, y]) (hat : cl.argTypes.toList = [t, t]) (ho : o.op = .call cl)
    {fr : Nat} (hfr : ¬ s.k fr)
    (hr : (Out.of (C.ty t) fun t => .of (isSl t) fun e => appendD E e (evF s.t x) (evF s.t y) fr).eval = some r) : Sim c μ s o a w r := by
  have hx := h.ev_rel x
  have hy := h.ev_rel y
  replace hr := of_eval hr
  obtain ⟨ty, hty, hr⟩ := hr
  replace hr := of_eval hr
  obtain ⟨e, he, hr⟩ := hr
  have hty : C.ty t = some (.sl e) := isSl_eq he ▸ hty
  obtain ⟨eid, hu, hok⟩ := (hC.ty t _ hty).sl
  unfold appendD at hr
  replace hr := of_eval hr
  obtain ⟨⟨xs, gx⟩, htx, hr⟩ := hr
  obtain ⟨fx, rx, hgx⟩ := takeL_rel h.vs hE hx htx
  have ha' : cl.args = #[x, y] := by rw [← ha]
  have hat' : cl.argTypes = #[t, t] := by rw [← hat]
  have hrun : ∀ v' w', (Builtin.append_ #[t, t] o.type #[a.eval x, a.eval y]).run c.P w = .ok v' w' → (execOp a.eval o).run c.P w = .ok (.value v') w' := fun v' w' hrn => by
    simp [execOp, ho, resolve, hcl, ha', hat', invoke, builtin, hrn]
  have hgone : ∀ b ∈ fx, b < w.heap.size := Ty.repO_lt _ rx
  split at hr
  · rename_i hflat
    replace hr := of_eval hr
    obtain ⟨ys, hys, hr⟩ := hr
    split at hr
    · cases hr
    rcases ite_eval hr with ⟨hl, hr⟩ | ⟨_, hr⟩
    · have hl : xs.length + ys.length ≤ LIM := of_decide_eq_true hl
      have hr := Option.some.inj hr
      subst hr
      have hsrc := Src.of_repS (z := c.fz) hflat (listOf_rel (S' := fun _ => True) h.vs h.ev hE (fun _ _ => trivial) (fun _ _ _ _ => trivial) hy hys)
      obtain ⟨v', w', f, g1, g2⟩ := append_run (P := c.P) (ty := o.type) c hu hok rx hsrc hgx.nodup (by simp) (by simp) (by simp) hl
      have := sim_appended h hfr g2 (gy := []) hgx (by simp) (hrun _ _ g1)
      simpa using this
    · cases hr
  · replace hr := of_eval hr
    obtain ⟨⟨ys, gy⟩, hys, hr⟩ := hr
    split at hr
    · cases hr
    rename_i hdis
    rcases ite_eval hr with ⟨hl, hr⟩ | ⟨_, hr⟩
    · have hl : xs.length + ys.length ≤ LIM := of_decide_eq_true hl
      have hr := Option.some.inj hr
      subst hr
      obtain ⟨fy, ry, hgy⟩ := takeL_rel h.vs hE hy hys
      obtain ⟨gps, hsrc, hsub⟩ := Src.of_repO ry
      have hd : ∀ b ∈ gps.flatten, b ∉ fx := fun b h1 h2 => by
        obtain ⟨k1, hk1, hb1⟩ := hgy.mem b (hsub.subset h1)
        obtain ⟨k2, hk2, hb2⟩ := hgx.mem b h2
        exact h.vs.sep k1 k2 (fun e => hdis (List.any_eq_true.2 ⟨k1, hk1, by simpa [e] using hk2⟩)) (hgy.there k1 hk1).1 (hgx.there k2 hk2).1 b hb1 hb2
      obtain ⟨v', w', f, g1, g2⟩ := append_run (P := c.P) (ty := o.type) c hu hok rx hsrc hgx.nodup (hgy.nodup.sublist hsub) hd (fun b hb => Ty.repO_lt _ ry b (hsub.subset hb)) hl
      exact sim_appended h hfr g2 hgx (fun b hb => by
        obtain ⟨k, hk, hkb⟩ := hgy.mem b (hsub.subset hb)
        exact ⟨⟨k, hk, (hgy.there k hk).1, hkb⟩, hgy.may b (hsub.subset hb)⟩) (hrun _ _ g1)
    · cases hr
omit h in
theorem copy_get {α : Type} {xs ys : List α} {o n : Nat} (h1 : o + n ≤ xs.length) (h2 : n ≤ ys.length) (i : Nat) : (xs.take o ++ ys.take n ++ xs.drop (o + n))[i]? = if o ≤ i ∧ i < o + n then ys[i - o]? else xs[i]? := by
  have l1 : (xs.take o).length = o := by simp; omega
  have l2 : (ys.take n).length = n := by simp; omega
  by_cases q1 : i < o
  · rw [List.append_assoc, List.getElem?_append_left (by omega), List.getElem?_take_of_lt q1, if_neg (by omega)]
  by_cases q2 : i < o + n
  · rw [List.getElem?_append_left (by rw [List.length_append]; omega), List.getElem?_append_right (by omega), l1, List.getElem?_take_of_lt (by omega), if_pos (by omega)]
  · rw [List.getElem?_append_right (by rw [List.length_append]; omega), List.getElem?_drop, if_neg (by omega), List.length_append, l1, l2]
    congr 1; omega
omit h in
theorem copy_len {α : Type} {xs ys : List α} {o n : Nat} (h1 : o + n ≤ xs.length) (h2 : n ≤ ys.length) : (xs.take o ++ ys.take n ++ xs.drop (o + n)).length = xs.length := by simp; omega
omit h in
theorem chunk_copy {C : Array Value} {news : List Value} {O o n sz i m : Nat} (hl : news.length = n * sz) (hC : O + m * sz ≤ C.size) (hon : o + n ≤ m) (hi : i < m) :
    ((spliced C (O + o * sz) news).toList.drop (O + i * sz)).take sz = if o ≤ i ∧ i < o + n then (news.drop ((i - o) * sz)).take sz else (C.toList.drop (O + i * sz)).take sz := by
  have hin : (i + 1) * sz ≤ m * sz := Nat.mul_le_mul_right _ hi
  have hom : (o + n) * sz ≤ m * sz := Nat.mul_le_mul_right _ hon
  rw [Nat.add_mul] at hin hom
  apply List.ext_getElem?
  intro j
  by_cases hj : j < sz
  · rw [List.getElem?_take_of_lt hj, List.getElem?_drop, Array.getElem?_toList, spliced_get (by omega)]
    by_cases q : o ≤ i ∧ i < o + n
    · have e1 : o * sz ≤ i * sz := Nat.mul_le_mul_right _ q.1
      have e2 : (i + 1) * sz ≤ (o + n) * sz := Nat.mul_le_mul_right _ q.2
      rw [Nat.add_mul, Nat.add_mul] at e2
      rw [if_pos (by omega), if_pos q, List.getElem?_take_of_lt hj, List.getElem?_drop]
      congr 1
      rw [Nat.sub_mul]; omega
    · have hneg : ¬ (O + o * sz ≤ O + i * sz + j ∧ O + i * sz + j < O + o * sz + news.length) := by
        rintro ⟨g1, g2⟩
        rcases Nat.lt_or_ge i o with g | g
        · have := Nat.mul_le_mul_right sz (show i + 1 ≤ o from g)
          rw [Nat.add_mul] at this; omega
        · have := Nat.mul_le_mul_right sz (show o + n ≤ i by omega)
          rw [Nat.add_mul] at this; omega
      rw [if_neg q, List.getElem?_take_of_lt hj, List.getElem?_drop, if_neg hneg, Array.getElem?_toList]
  · have hz : ∀ l : List Value, (l.take sz)[j]? = none := fun l => List.getElem?_eq_none (by simp; omega)
    split <;> rw [hz, hz]
omit h in
theorem copy_zero {P : Program} {w : World} (t t' ty e : TypeId) (i : TypeInfo) (ht : P.underlying t = some (.slice e)) (hi : P.info? e = some i) (s a : Option Addr) (sLen sCap m c : Nat) (h : min m sLen = 0) :
    (Builtin.copy_ #[t, t'] ty #[.slice s sLen sCap, .slice a m c]).run P w = .ok (.int .i64 0) w := by
  cases s <;> cases a <;> simp [Builtin.copy_, run_underlying ht, sizeOf, typeInfo, hi, Builtin.lenOf, h, Builtin.firstCells, loadCells, loadCellsFrom, storeCells, goInt]
omit h in
theorem copy_row {P : Program} {w : World} (t t' ty e : TypeId) (i : TypeInfo) (ht : P.underlying t = some (.slice e)) (hi : P.info? e = some i) (g o sLen sCap : Nat) (cur : Array Value) (T : TypeId) (hg : w.heap[g]? = some (.cells cur T (0, 0)))
    (a : Addr) (m c n : Nat) (news : List Value) (hn : min m sLen = n) (hl : news.length = n * i.size) (hnews : ∀ j u, news[j]? = some u → w.cell? (a.add j) = some u) (h1 : ∀ u ∈ news, u.oneCell' = true) (hfit : o + news.length ≤ cur.size) :
    (Builtin.copy_ #[t, t'] ty #[.slice (some ⟨g, o, none⟩) sLen sCap, .slice (some a) m c]).run P w = .ok (.int .i64 n) (w.setRow g (spliced cur o news)) := by
  have hf := run_firstCells_some (P := P) w i.size n a m c news hl hnews
  have hst := run_storeCells_at P g o T news 0 cur w hg (by simpa using hfit) h1
  simp only [Nat.add_zero] at hst
  simp [Builtin.copy_, run_underlying ht, sizeOf, typeInfo, hi, Builtin.lenOf, hn, hf, hst, spliced, goInt]
theorem sim_copy (hC : CxOk C c.P) (hE : ∀ id x, E id = some x → s.v id = some x) {cl : Call} (hcl : cl.callee = .builtin .copy) {t t' : TypeId} {x y : Operand} (ha : cl.args.toList = [x, y]) (hat : cl.argTypes.toList = [t, t']) (ho : o.op = .call cl)
    (hr : (Out.of (C.ty t) fun t => .of (isSl t) fun e => copyD E e (evF s.t x) (evF s.t y)).eval = some r) : Sim c μ s o a w r := by
  have hx := h.ev_rel x
  have hy := h.ev_rel y
  replace hr := of_eval hr
  obtain ⟨ty, hty, hr⟩ := hr
  replace hr := of_eval hr
  obtain ⟨e, he, hr⟩ := hr
  have hty : C.ty t = some (.sl e) := isSl_eq he ▸ hty
  obtain ⟨eid, hu, hok⟩ := (hC.ty t _ hty).sl
  obtain ⟨i, z, hi, hs, hb, hz, hzc, hpos⟩ := hok.base
  have ha' : cl.args = #[x, y] := by rw [← ha]
  have hat' : cl.argTypes = #[t, t'] := by rw [← hat]
  have hrun : ∀ v' w', (Builtin.copy_ #[t, t'] o.type #[a.eval x, a.eval y]).run c.P w = .ok v' w' → (execOp a.eval o).run c.P w = .ok (.value v') w' := fun v' w' hrn => by
    simp [execOp, ho, resolve, hcl, ha', hat', invoke, builtin, hrn]
  unfold copyD at hr
  split at hr
  case h_2 => cases hr
  rename_i id vw ex
  split at hr
  case isFalse => cases hr
  rename_i hflat
  replace hr := of_eval hr
  obtain ⟨v, hv, hr⟩ := hr
  replace hr := of_eval hr
  obtain ⟨⟨e', xs'⟩, huf, hr⟩ := hr
  replace hr := of_eval hr
  obtain ⟨xs, hxs, hr⟩ := hr
  replace hr := of_eval hr
  obtain ⟨ys, hys, hr⟩ := hr
  obtain ⟨he', hxe⟩ := cast_sl hxs
  simp only at he'
  clear hxs
  subst he'
  subst hxe
  replace hr := Option.some.inj hr
  subst hr
  obtain ⟨ad, cap, f, g1, g2, g3, g4, g5, g6⟩ := unfoc_rel h.vs hE hv huf
  have hsrc := Src.of_repS (z := c.fz) hflat (listOf_rel (S' := fun _ => True) h.vs h.ev hE (fun _ _ => trivial) (fun _ _ _ _ => trivial) hy hys)
  obtain ⟨ay, cy, hye, hgl, hsrc⟩ := hsrc
  -- where it goes
  have hdst : ∃ a' c', a.eval x = .slice a' ((vw.map (·.2)).getD (List.length xs)) c' ∧ ((vw.map (·.1)).getD 0 + (vw.map (·.2)).getD (List.length xs) ≤ (List.length xs)) ∧
      ((vw.map (·.2)).getD (List.length xs) = 0 ∨ ∃ b O, ad = some ⟨b, O, none⟩ ∧ a' = some ⟨b, O + (vw.map (·.1)).getD 0 * e'.size, none⟩) := by
    rw [ex] at hx
    have hcapl : (List.length xs) ≤ cap := by
      simp only [Ty.repO] at g2
      obtain ⟨_, _, q, hq, _⟩ := g2
      simp only [List.cons.injEq, Value.slice.injEq] at q
      omega
    have hblk : (List.length xs) = 0 ∨ ∃ b O, ad = some ⟨b, O, none⟩ := by
      simp only [Ty.repO] at g2
      obtain ⟨_, _, q, hq, hor⟩ := g2
      simp only [List.cons.injEq, Value.slice.injEq] at q
      rcases hor with h0 | ⟨b, O, _, _, _, hb', _⟩
      · left; omega
      · right; exact ⟨b, O, by rw [q.1.1, hb']⟩
    rcases vw with _ | ⟨vo, vl⟩
    · simp only [VRel] at hx
      obtain ⟨a0, len0, cap0, sz0, q1, q2⟩ := hx
      rw [g1] at q1; cases q1
      refine ⟨_, _, q2, by simp, ?_⟩
      rcases hblk with h0 | ⟨b, O, h0⟩
      · exact .inl h0
      · exact .inr ⟨b, O, h0, by simpa using h0⟩
    · simp only [VRel] at hx
      obtain ⟨a0, len0, cap0, sz0, a1, q1, q2, q3, q4, q5⟩ := hx
      rw [g1] at q1; cases q1
      refine ⟨_, _, q4, q2, ?_⟩
      rcases q5 with q5 | ⟨b, O, q5, q6⟩
      · left; show vl = 0; omega
      · right; exact ⟨b, O, q5, q6⟩
  generalize (vw.map (·.2)).getD (List.length xs) = l at *
  generalize (vw.map (·.1)).getD 0 = off at *
  obtain ⟨a', c', hxe, hol, hdst⟩ := hdst
  have hnd : f.Nodup := g3.nodup_iff.2 (h.vs.nodup_ids _ g4 fun k hk => (g5 k hk).1)
  have hfin : ∀ (w' : World) (zs : List e'.D), zs.length = (List.length xs) → (Ty.sl e').repO c.fz w' [.slice ad zs.length cap] zs f → w.heap.size ≤ w'.heap.size → (∀ k, s.v k ≠ none → k ≠ id → k ∉ focIds v → ∀ b ∈ fp k, w'.heap[b]? = w.heap[b]?) →
      RelV c μ (fun k => if k = id then f else fp k) (updF s.v (((focIds v).map fun k => (k, none)) ++ [(id, some (.arr e' zs))])) w' := fun w' zs hzl hrep hsz hoth =>
    h.vs.produce (μ' := μ) h.ev (focIds v) id (.arr e' zs) f (fun _ _ _ _ _ => ⟨rfl, fun _ _ => rfl⟩) hoth hsz ⟨ad, cap, by rw [g1, hzl], hrep, g6⟩ hnd (fun b hb' => by
      obtain ⟨k, hk, hkb⟩ := List.mem_flatMap.1 (g3.mem_iff.1 hb')
      rcases List.mem_cons.1 hk with e1 | e1
      · exact .inr ⟨k, .inl e1, (g5 k hk).1, hkb⟩
      · exact .inr ⟨k, .inr e1, (g5 k hk).1, hkb⟩)
  by_cases hn0 : min l ys.length = 0
  · have e1 : List.take off xs ++ ys.take (min l ys.length) ++ List.drop (off + min l ys.length) xs = xs := by
      rw [hn0, List.take_zero, List.append_nil, Nat.add_zero]
      exact List.take_append_drop off xs
    have hrn := copy_zero (P := c.P) (w := w) t t' o.type eid i hu hi a' ay l c' ys.length cy (by rw [Nat.min_comm]; exact hn0)
    rw [← hxe, ← hye] at hrn
    refine sim_value (hrun _ _ hrn) ⟨fun _ _ => rfl, ?_, hfin w _ (by rw [e1]) (by rw [e1]; exact g2) (Nat.le_refl _) fun _ _ _ _ _ _ => rfl, h.ev⟩
    simp only [VRel]
    rw [hn0]; rfl
  · obtain ⟨b, O, had, ha'⟩ : ∃ b O, ad = some ⟨b, O, none⟩ ∧ a' = some ⟨b, O + off * e'.size, none⟩ := by
      rcases hdst with h0 | h0
      · exact absurd (by omega) hn0
      · exact h0
    subst had
    subst ha'
    have hne : ys ≠ [] := fun e0 => hn0 (by rw [e0]; simp)
    obtain ⟨by', oy, hay, hsi⟩ : ∃ b o, ay = some ⟨b, o, none⟩ ∧ ∀ (i : Nat) (y : e'.D) (f : List Nat), ys[i]? = some y → (List.replicate ys.length ([] : List Nat))[i]? = some f → e'.repO c.fz w (cellsAt w b (o + i * e'.size) e'.size) y f := by
      rcases hsrc with h0 | h0
      · exact absurd h0 hne
      · exact h0
    subst hay
    obtain ⟨CY, TY, frY, q1, q2, q3, q4, q5⟩ := Src.cells hgl hpos hne hsi
    have hcell : ∀ j u, (cellsAt w by' oy (ys.length * e'.size))[j]? = some u → w.cell? ((⟨by', oy, none⟩ : Addr).add j) = some u := fun j u hu => by
      rw [Addr.add_lit]; exact cell_of_cellsAt hu
    have hnl : min l ys.length ≤ ys.length := Nat.min_le_right _ _
    have hnx : off + min l ys.length ≤ (List.length xs) := by have := Nat.min_le_left l ys.length; omega
    generalize hn : min l ys.length = n at *
    generalize cellsAt w by' oy (ys.length * e'.size) = all at q3 q4 q5 hcell
    have hnm : n * e'.size ≤ ys.length * e'.size := Nat.mul_le_mul_right _ hnl
    have hlen : (all.take (n * e'.size)).length = n * e'.size := by simp; omega
    have g2' := g2
    simp only [Ty.repO] at g2'
    obtain ⟨_, _, qe, hcap, hor⟩ := g2'
    simp only [List.cons.injEq, Value.slice.injEq, and_true] at qe
    obtain ⟨rfl, _, rfl⟩ := qe
    rcases hor with ⟨h0, _⟩ | ⟨b2, O2, CC, EE, fps, hbe, hbC, hCs, hfl, hfe, hxi⟩
    · exact absurd (by omega) hn0
    · cases hbe
      have hfnil : ∀ f' ∈ fps, f' = [] := fun f' hf' => by
        obtain ⟨k, hk, rfl⟩ := List.getElem_of_mem hf'
        exact Ty.flat_nil e' hflat (hxi k (@getElem (List e'.D) Nat e'.D _ _ xs k (hfl ▸ hk)) _ (List.getElem?_eq_getElem _) (List.getElem?_eq_getElem _))
      have hfb : f = [b] := by rw [hfe, List.flatten_eq_nil_iff.2 hfnil]
      have hxc : (List.length xs) * e'.size ≤ cap * e'.size := Nat.mul_le_mul_right _ hcap.1
      have hxm : (off + n) * e'.size ≤ (List.length xs) * e'.size := Nat.mul_le_mul_right _ hnx
      rw [Nat.add_mul] at hxm
      have hrn := copy_row (P := c.P) (w := w) t t' o.type eid i hu hi b (O + off * e'.size) l c' CC EE hbC ⟨by', oy, none⟩ ys.length cy n (all.take (n * e'.size)) (by rw [Nat.min_comm]; exact hn) (by rw [hs]; exact hlen)
        (fun j u hu' => hcell j u (by
          rw [List.getElem?_take] at hu'
          split at hu'
          · exact hu'
          · cases hu')) (fun u hu' => q5 u (List.mem_of_mem_take hu')) (by rw [hlen]; omega)
      rw [← hxe, ← hye] at hrn
      have hspl : (spliced CC (O + off * e'.size) (all.take (n * e'.size))).size = CC.size := spliced_size (by rw [hlen]; omega)
      have hzl := copy_len hnx hnl
      have hrep : (Ty.sl e').repO c.fz (w.setRow b (spliced CC (O + off * e'.size) (all.take (n * e'.size)))) [.slice (some ⟨b, O, none⟩) (List.length (List.take off xs ++ ys.take n ++ List.drop (off + n) xs)) cap] (List.take off xs ++ ys.take n ++ List.drop (off + n) xs) f := by
        have hfl2 : (List.replicate (List.length (List.take off xs ++ ys.take n ++ List.drop (off + n) xs)) ([] : List Nat)).flatten = [] := List.flatten_eq_nil_iff.2 fun l hm => (List.mem_replicate.1 hm).2
        have := items_at (z := c.fz) (w := w.setRow b (spliced CC (O + off * e'.size) (all.take (n * e'.size)))) (e := e') (xs := List.take off xs ++ ys.take n ++ List.drop (off + n) xs) (fps := List.replicate (List.length (List.take off xs ++ ys.take n ++ List.drop (off + n) xs)) []) (cap := cap) (o := O)
          (setRow_heap w b CC _ EE _ hbC) (by rw [hzl]; exact hcap) (by rw [hspl]; exact hCs) ⟨by simp, fun k y' f' hy' hf' => ?_⟩
        · rw [hfl2] at this
          rw [hfb]; exact this
        · have hf0 : f' = [] := by rw [List.getElem?_replicate] at hf'; split at hf' <;> simp_all
          subst hf0
          have hk : k < (List.length xs) := by have := (List.getElem?_eq_some_iff.1 hy').1; rw [hzl] at this; exact this
          have hkm : (k + 1) * e'.size ≤ (List.length xs) * e'.size := Nat.mul_le_mul_right _ hk
          rw [Nat.add_mul] at hkm
          have hch := chunk_copy (C := CC) (O := O) (o := off) (n := n) (sz := e'.size) (i := k) (m := (List.length xs)) hlen (by omega) hnx hk
          rw [hzl, List.drop_take, List.drop_drop, List.take_take, Nat.min_eq_left (by omega), hch]
          rw [copy_get hnx hnl] at hy'
          by_cases q : off ≤ k ∧ k < off + n
          · rw [if_pos q] at hy' ⊢
            have hkn : (k - off + 1) * e'.size ≤ n * e'.size := Nat.mul_le_mul_right _ (by omega)
            rw [Nat.add_mul] at hkn
            have := q4.2 (k - off) y' [] hy' (by rw [List.getElem?_replicate, if_pos (by have := (List.getElem?_eq_some_iff.1 hy').1; exact this)])
            rw [List.drop_take, List.take_take, Nat.min_eq_left (by omega)]
            exact Ty.repO_congr e' this (by simp)
          · rw [if_neg q] at hy' ⊢
            have := hxi k y' _ hy' (List.getElem?_eq_getElem (by rw [hfl]; exact hk))
            rw [hfnil _ (List.getElem_mem _), cellsAt_of hbC] at this
            exact Ty.repO_congr e' this (by simp)
      have hbid : b ∈ f := by rw [hfb]; simp
      refine sim_value (hrun _ _ hrn) ⟨fun _ _ => rfl, by simp only [VRel], hfin _ _ hzl hrep (by simp) (fun k hk hne hnr b' hb' => ?_), ?_⟩
      · refine setRow_other w b b' _ fun e1 => ?_
        subst e1
        obtain ⟨k', hk', hkb'⟩ := List.mem_flatMap.1 (g3.mem_iff.1 hbid)
        refine h.vs.sep k k' ?_ hk (g5 k' hk').1 b' hb' hkb'
        rintro rfl
        rcases List.mem_cons.1 hk' with e2 | e2
        · exact hne e2
        · exact hnr e2
      · refine h.ev.setRow hbC (fun hsS => ?_) hspl fun hlt j hj => absurd (g6 b hbid hlt j) hj
        obtain ⟨k', hk', hkb'⟩ := List.mem_flatMap.1 (g3.mem_iff.1 hbid)
        exact h.vs.notS k' (g5 k' hk').1 b hkb' hsS
omit h in
theorem Ev.allocIt {c : Ctx} {w : World} (h : Ev c w) (t : ByteArray) (p : Nat) : Ev c (w.alloc (.stringIter t p)) where
  size := by simp; have := h.size; omega
  os := h.os
  output := h.output
  S b hb := by
    have := c.hS.1 b hb; have := h.size
    rw [heap_alloc_old w _ b (by omega)]; exact h.S b hb
  old b hb := by
    have := h.size
    rw [heap_alloc_old w _ b (by omega)]; exact h.old b hb
  frozen a ha := by
    have := h.size
    rw [← h.frozen a ha]
    simp only [World.frozen?]
    rw [heap_alloc_old w _ a.block (by omega)]
omit h in
theorem Ev.iterAt {c : Ctx} {w : World} (h : Ev c w) {b : Nat} {t : ByteArray} {p : Nat} (hb : w.heap[b]? = some (.stringIter t p)) (hs : ¬ c.S b) (hm : b < c.w0.heap.size → c.M b 0) (p' : Nat) : Ev c (w.iterAt b t p') where
  size := by rw [Lib.iterAt_size]; exact h.size
  os := h.os
  output := h.output
  S b' hb' := by
    have : b' ≠ b := fun e => hs (e ▸ hb')
    rw [Lib.iterAt_other w b b' t p' this]; exact h.S b' hb'
  old b' hb' := by
    by_cases e : b' = b
    · subst e
      rw [Lib.iterAt_heap w b' t p p' hb]
      rcases h.old b' hb' with h1 | ⟨_, _, _, _, h1, _⟩ | ⟨_, t', q, q', h0, h1⟩
      · exact .inr (.inr ⟨hm hb', t, p, p', by rw [← h1, hb], rfl⟩)
      · rw [hb] at h1; cases h1
      · rw [hb] at h1; cases h1
        exact .inr (.inr ⟨hm hb', _, _, _, h0, rfl⟩)
    · rw [Lib.iterAt_other w b b' t p' e]; exact h.old b' hb'
  frozen a ha := by
    rw [← h.frozen a ha]
    simp only [World.frozen?]
    by_cases e : a.block = b
    · rw [e, Lib.iterAt_heap w b t p p' hb, hb]
    · rw [Lib.iterAt_other w b a.block t p' e]
theorem sim_range (hC : CxOk C c.P) {t : TypeId} {x : Operand} (ho : o.op = .range t x) {fr : Nat} (hfr : ¬ s.k fr)
    (hr : (Out.of (C.ty t) fun t => match t, evF s.t x with
    | .str, .s l => .ret (.vptr fr 0, [(fr, some (.it l 0))])
    | _, _ => .fail).eval = some r) : Sim c μ s o a w r := by
  have hx := h.ev_rel x
  obtain ⟨ty, hty, hr⟩ := of_eval hr
  have hok := hC.ty t ty hty
  split at hr
  · rename_i l e
    rw [e] at hx
    simp only [VRel] at hx
    simp only [Ty.Ok] at hok
    have hr := Option.some.inj hr
    subst hr
    obtain ⟨q1, q2⟩ := h.new hfr [] (.at w.heap.size 0) (.it l 0) [w.heap.size] (w' := w.alloc (.stringIter ⟨l.toArray⟩ 0))
      (fun id hn _ b hb => heap_alloc_old w _ b (h.vs.lt id hn b hb)) (by simp) ⟨w.heap.size, by simp, rfl, heap_alloc_new w _, hx.2, fun hlt => by have := h.ev.size; omega⟩ (by simp) (by simp)
    refine sim_value (v' := .pointer (some ⟨w.heap.size, 0, none⟩)) ?_ ⟨q1, ?_, q2, h.ev.allocIt _ _⟩
    · have hu : (underlying t).run c.P w = .ok .string w := run_underlying hok.2 w
      simp [execOp, ho, Instr.range, hx.1, hu, newObj, Sem.run]
    · simp only [VRel]; exact ⟨w.heap.size, 0, by simp, rfl⟩
  · cases hr
theorem sim_next (hE : ∀ id x, E id = some x → s.v id = some x) {x : Operand} (ho : o.op = .next x true) (hr : (nextD E (evF s.t x)).eval = some r) : Sim c μ s o a w r := by
  have hx := h.ev_rel x
  unfold nextD at hr
  split at hr
  case h_2 => cases hr
  rename_i id e
  rw [e] at hx
  simp only [VRel] at hx
  obtain ⟨B, o', hμ', hv⟩ := hx
  split at hr
  case h_2 => cases hr
  rename_i t p hid
  have hid := hE id _ hid
  obtain ⟨B0, hμ, hfp, hB, hbig, hM⟩ := h.vs.rel id _ hid
  rw [hμ] at hμ'
  cases hμ'
  have hrun : ∀ v' w', (Instr.next (.pointer (some ⟨B, 0, none⟩)) true o.type).run c.P w = .ok v' w' → (execOp a.eval o).run c.P w = .ok (.value v') w' := fun v' w' hrn => by
    simp [execOp, ho, hv, hrn]
  have hsz : ByteArray.size ⟨t.toArray⟩ = t.length := by simp [ByteArray.size]
  rcases ite_eval hr with ⟨hp, hr⟩ | ⟨hp, hr⟩
  · have hp : p < t.length := of_decide_eq_true hp
    rw [show nth t p = some t[p] from List.getElem?_eq_getElem hp] at hr
    replace hr : (Out.ite (decide (t[p].toNat < 128)) (.ret (.tup [.b true, .i .i64 (p : Int), .i .i32 (t[p].toNat : Int)], [(id, some (.it t (p + 1)))])) .fail : Out Res).eval = some r := hr
    rcases ite_eval hr with ⟨ha, hr⟩ | ⟨_, hr⟩
    · have ha : t[p].toNat < 128 := of_decide_eq_true ha
      have hr := Option.some.inj hr
      subst hr
      have hget : ∀ hp', (ByteArray.mk t.toArray)[p]'hp' = t[p] := fun _ => by simp [ByteArray.getElem_eq_getElem_data]
      have g1 := Lib.run_next_ascii_at (P := c.P) w B ⟨t.toArray⟩ p o.type hB (by rw [hsz]; exact hp) (by rw [hget]; exact ha)
      rw [hget] at g1
      have hbS : ¬ c.S B := h.vs.notS id (by rw [hid]; simp) B (by rw [hfp]; simp)
      have hprod := h.vs.produce (μ' := μ) (w' := w.iterAt B ⟨t.toArray⟩ (p + 1)) h.ev [] id (.it t (p + 1)) [B] (fun _ _ _ _ _ => ⟨rfl, fun _ _ => rfl⟩)
        (fun k hk hne _ b hb => Lib.iterAt_other w B b _ _ fun eb => h.vs.sep k id hne hk (by rw [hid]; simp) b hb (by rw [hfp, eb]; simp)) (by rw [Lib.iterAt_size]; exact Nat.le_refl _)
        ⟨B, hμ, rfl, Lib.iterAt_heap w B _ p _ hB, hbig, hM⟩ (by simp) (fun b hb => .inr ⟨id, .inl rfl, by rw [hid]; simp, by rw [hfp]; exact hb⟩)
      refine sim_value (hrun _ _ g1) ⟨fun _ _ => rfl, ?_, by simpa using hprod, h.ev.iterAt hB hbS hM _⟩
      simp [VRel, VsRel]
    · cases hr
  · have hp : ¬ p < t.length := by simpa using hp
    have hr := Option.some.inj hr
    subst hr
    refine sim_pure h (hrun _ _ (Lib.run_next_end_at (P := c.P) w B ⟨t.toArray⟩ p o.type hB (by rw [hsz]; exact hp))) ?_
    simp [VRel, VsRel]
end
end
section
open Go
def Called (P : Program) (f : FuncId) (args : Array Value) (w : World) (R : Value → World → Prop) : Prop :=
  (∃ fn, P.funcs[f]? = some fn ∧ (fn.name == "runtime.NumGoroutine") = false ∧ fn.body.isNone = false) ∧
  Calls P f args w fun
    | .returned v, w' => R v w'
    | _, _ => False
def CallsOk (C : Cx) (P : Program) : Prop :=
  ∀ (f : Nat) (ds : List DVal) (E : Env) (fr : Nat) (r : Res), (C.call f ds E fr).eval = some r →
    ∀ (c : Ctx) (μ : Nat → Loc) (fp : Nat → List Nat) (s : FSt) (w : World) (vs : List Value), c.P = P → RelV c μ fp s.v w → Known s → Ev c w → VsRel c μ vs ds → (∀ id ∈ DVal.idsL ds, s.k id) →
      (∀ id x, E id = some x → s.v id = some x) → (∀ id, fr ≤ id → id < fr + 64 → ¬ s.k id) →
      Called P f vs.toArray w fun v' w' => ∃ c' μ' fp', Ext c c' ∧ Post c' μ s r v' w' μ' fp'
def SimE (c : Ctx) (μ : Nat → Loc) (s : FSt) (o : Oper) (a : Act) (w : World) (r : Res) : Prop :=
  ∀ (K : Act → World → Prop) (Q : Exit → Act → World → Prop), (∀ c' v' w' μ' fp', Ext c c' → Post c' μ s r v' w' μ' fp' → K (a.put o.dst v') w') → o.wp c.P a w K Q
theorem Sim.ext {c : Ctx} {μ : Nat → Loc} {s : FSt} {o : Oper} {a : Act} {w : World} {r : Res} (h : Sim c μ s o a w r) : SimE c μ s o a w r :=
  fun K Q hK => h K Q fun v' w' μ' fp' hp => hK c v' w' μ' fp' (Ext.refl c) hp
theorem Called.run {P : Program} {f : FuncId} {args : Array Value} {w : World} {R : Value → World → Prop} (h : Called P f args w R) : (callFunc f args).run P w = .ok (.enter f args) w := by
  obtain ⟨⟨fn, h1, h2, h3⟩, _⟩ := h
  have h2 : ¬ (fn.name = "runtime.NumGoroutine") := by simpa using h2
  cases hb : fn.body with
  | none => rw [hb] at h3; cases h3
  | some b => simp [callFunc, h1, h2, hb]
theorem arr_map {α β : Type} (f : α → β) (l : Array α) : (List.map f l.toList).toArray = l.map f := by rw [← Array.toList_map]
theorem arr_map2 {α β : Type} (f : α → β) (l : Array α) (m : Array β) : (List.map f l.toList ++ m.toList).toArray = l.map f ++ m := by rw [← Array.toList_map, ← Array.toList_append]
section
variable {c : Ctx} {μ : Nat → Loc} {fp : Nat → List Nat} {s : FSt} {n : Nat} {o : Oper} {a : Act} {w : World} {r : Res} {C : Cx} {E : Env}
variable (h : RelX c μ fp s n a w)
include h
omit h in
theorem sim_called {f : FuncId} {args : Array Value} (hrun : (execOp a.eval o).run c.P w = (callFunc f args).run c.P w) (hc : Called c.P f args w fun v' w' => ∃ c' μ' fp', Ext c c' ∧ Post c' μ s r v' w' μ' fp') : SimE c μ s o a w r := by
  intro K Q hK
  simp only [Oper.wp, hrun, hc.run, Oper.upon_enter]
  refine Calls.mono hc.2 fun e w' he => ?_
  cases e with
  | returned v =>
    obtain ⟨c', μ', fp', h1, hp⟩ := he
    exact hK _ _ _ _ _ h1 hp
  | panicked _ => exact he.elim
  | outgrown => exact he.elim
theorem args_rel : ∀ (l : List Operand), VsRel c μ (l.map a.eval) (l.map (evF s.t))
  | [] => by simp [VsRel]
  | x :: l => by simp only [List.map_cons, VsRel]; exact ⟨_, _, rfl, h.ev_rel x, args_rel l⟩
theorem args_known (l : List Operand) : ∀ id ∈ DVal.idsL (l.map (evF s.t)), s.k id := by
  intro id hi
  obtain ⟨d, hd, hid⟩ := mem_idsL.1 hi
  obtain ⟨x, _, rfl⟩ := List.mem_map.1 hd
  exact h.known_ev x id hid
theorem core0_sim (hC : CxOk C c.P) (hF : CallsOk C c.P) (hE : ∀ id x, E id = some x → s.v id = some x) {fr : Nat} (hfr : ∀ id, fr ≤ id → id < fr + 64 → ¬ s.k id)
    (hr : (core0 C o.op o.type (evF s.t) E fr).eval = some r) : SimE c μ s o a w r := by
  have h0 : ¬ s.k fr := hfr fr (Nat.le_refl _) (by omega)
  unfold core0 at hr
  split at hr
  · exact (sim_nil h (.inl ‹_›) h0 hr).ext
  · exact (sim_nil h (.inr ‹_›) h0 hr).ext
  · exact (sim_pick h ‹_› hr).ext
  · exact (sim_alloc h hC ‹_› hfr hr).ext
  · exact (sim_box h ‹_› h0 hr).ext
  · exact (sim_build h hC ‹_› hfr hr).ext
  · exact (sim_buildSlice h hC hE ‹_› h0 hr).ext
  · exact (sim_load h hC hE ‹_› h0 hr).ext
  · exact (sim_store h hC hE ‹_› hr).ext
  · exact (sim_nilCheck h ‹_› hr).ext
  · exact (sim_nilErr h hC ‹_› hr).ext
  · exact (sim_binOp h hC ‹_› hr).ext
  · exact (sim_unOp h ‹_› hr).ext
  · exact (sim_convert h hC hE ‹_› hr).ext
  · exact (sim_fieldAddr h hC ‹_› hr).ext
  · exact (sim_field h hC.ty ‹_› hr).ext
  · exact (sim_indexAddr h hC hE ‹_› hr).ext
  · rename_i t x y ho
    replace hr := of_eval hr
    obtain ⟨ty, hty, hr⟩ := hr
    have hok := hC.ty t ty hty
    cases ty with
    | str =>
      simp only [Ty.Ok] at hok
      refine (sim_index h ho hok.2 ?_).ext
      rw [← hr]
      congr 1
      congr 1
      funext k
      cases evF s.t x <;> rfl
    | _ =>
      replace hr := of_eval hr
      obtain ⟨_, _, hr⟩ := hr
      cases hr
  · exact (sim_extract h ‹_› hr).ext
  · exact (sim_makeSlice h hC ‹_› h0 hr).ext
  · exact (sim_slice h hC hE ‹_› hr).ext
  · exact (sim_range h hC ‹_› h0 hr).ext
  · exact (sim_next h hE ‹_› hr).ext
  · exact (sim_makeFunc h ‹_› hr).ext
  · rename_i cl args argTypes ho
    split at hr
    · exact (sim_len h hC hE rfl ‹_› ‹_› ho hr).ext
    · cases hr
  · rename_i cl args argTypes ho
    split at hr
    · split at hr
      · rename_i e; subst e
        exact (sim_append h hC hE rfl ‹_› ‹_› ho h0 hr).ext
      · cases hr
    · cases hr
  · rename_i cl args argTypes ho
    split at hr
    · exact (sim_copy h hC hE rfl ‹_› ‹_› ho hr).ext
    · cases hr
  · rename_i f args _ ho
    refine sim_called (f := f) (args := (args.toList.map a.eval).toArray) ?_ (hF f _ E fr r hr c μ fp s w _ rfl h.vs h.known h.ev (args_rel h _) (args_known h _) hE hfr)
    simp [execOp, ho, resolve, Deferred.ofValue, Act.eval, invoke, arr_map]
  · rename_i f args _ ho
    split at hr
    · rename_i g caps e
      have hv := h.ev_rel (.tmp f)
      rw [e] at hv
      simp only [VRel] at hv
      obtain ⟨cv, hv, hcv⟩ := hv
      refine sim_called (f := g) (args := (args.toList.map a.eval ++ cv.toList).toArray) ?_
        (hF g _ E fr r hr c μ fp s w _ rfl h.vs h.known h.ev ((args_rel h _).append hcv) (fun id hi => ?_) hE hfr)
      · simp [execOp, ho, resolve, Deferred.ofValue, hv, invoke, arr_map2]
      · rw [idsL_append, List.mem_append] at hi
        rcases hi with hi | hi
        · exact args_known h _ id hi
        · exact h.known_ev (.tmp f) id (by rw [e]; simpa [DVal.ids] using hi)
    · cases hr
  · cases hr
omit h in
theorem lastU_upd {id : Nat} {x : DVar} : ∀ (u : Upd) (v : Env), lastU u id = some x → updF v u id = some x
  | [], _, h => by cases h
  | (k, y) :: r, v, h => by
    simp only [lastU] at h
    simp only [updF]
    cases hl : lastU r id with
    | some z => rw [hl] at h; cases h; exact lastU_upd r _ hl
    | none =>
      rw [hl] at h
      simp only at h
      split at h
      · rename_i hk
        obtain ⟨rfl, ha⟩ := hk
        have : ∀ (r : Upd) (v : Env), (r.all fun z => z.1 != k) = true → updF v r k = v k := by
          intro r
          induction r with
          | nil => intro v _; rfl
          | cons q r ih =>
            intro v hq
            simp only [List.all_cons, Bool.and_eq_true, bne_iff_ne, ne_eq] at hq
            obtain ⟨j, z⟩ := q
            simp only [updF]
            rw [ih _ hq.2]
            exact if_neg fun e => hq.1 e.symm
        rw [this r _ ha]
        simpa using h
      · cases h
omit h in
theorem frz_sim {r0 : Res} (hs : SimE c μ s o a w r0) (hr : (frzR r0).eval = some r) : SimE c μ s o a w r := by
  obtain ⟨d, u⟩ := r0
  unfold frzR at hr
  split at hr
  case h_2 => cases hr
  rename_i id hd
  split at hr
  case h_2 => cases hr
  rename_i e xs hl
  obtain rfl := Option.some.inj hr
  obtain rfl : d = .sref id none := hd
  intro K Q hK
  refine hs K Q fun c' v' w' μ' fp' hext hp => ?_
  have hid : updF s.v u id = some (.arr e xs) := lastU_upd u s.v hl
  have hval := hp.val
  simp only [VRel] at hval
  obtain ⟨ad, len, cap, sz, hm, rfl⟩ := hval
  obtain ⟨ad', cap', hm', hrep, hmay⟩ := hp.vs.rel id _ hid
  rw [hm'] at hm; cases hm
  have hne : updF s.v u id ≠ none := by rw [hid]; simp
  let S' : Nat → Prop := fun b => c'.S b ∨ b ∈ fp' id
  have hS' : SOk S' w' := by
    refine ⟨?_, c'.hS.2.mono (fun b hb => .inl hb) hp.ev.S⟩
    rintro b (hb | hb)
    · exact Nat.lt_of_lt_of_le (c'.hS.1 b hb) hp.ev.size
    · exact hp.vs.lt id hne b hb
  have he2 : Ext c' (c'.next w' S' hS') := Ext.next hp.ev (fun b hb => .inl hb) fun b hb => by
    rcases hb with hb | hb
    · exact .inl hb
    · rcases Nat.lt_or_ge b c'.w0.heap.size with hlt | hge
      · exact .inr (.inr (hmay b hb hlt))
      · exact .inr (.inl hge)
  have hu : updF s.v (u ++ [(id, none)]) = fun k => if k = id then none else updF s.v u k := by rw [updF_append]; rfl
  have hv0 : RelV c' μ' fp' (updF s.v (u ++ [(id, none)])) w' := by
    rw [hu]
    refine ⟨fun k x hx => ?_, fun k x hx => ?_, fun k k' hkk hk hk' => ?_, fun k hk => ?_, fun k hk => ?_⟩
    · replace hx : (if k = id then none else updF s.v u k) = some x := hx
      split at hx
      · cases hx
      · exact hp.vs.rel k x hx
    · replace hx : (if k = id then none else updF s.v u k) = some x := hx
      split at hx
      · cases hx
      · exact hp.vs.nodup k x hx
    · refine hp.vs.sep k k' hkk ?_ ?_
      · exact fun q => hk (by show (if k = id then none else updF s.v u k) = none; rw [q, ite_self])
      · exact fun q => hk' (by show (if k' = id then none else updF s.v u k') = none; rw [q, ite_self])
    · refine hp.vs.notS k ?_
      exact fun q => hk (by show (if k = id then none else updF s.v u k) = none; rw [q, ite_self])
    · refine hp.vs.lt k ?_
      exact fun q => hk (by show (if k = id then none else updF s.v u k) = none; rw [q, ite_self])
  have hv1 : RelV (c'.next w' S' hS') μ' fp' (updF s.v (u ++ [(id, none)])) w' := hv0.next he2 fun k hk b hb hs => by
    rcases hs with hs | hs
    · exact hv0.notS k hk b hb hs
    · have hki : k ≠ id := fun q => hk (by rw [hu, q]; exact if_pos rfl)
      refine hp.vs.sep k id hki ?_ hne b hb hs
      intro q
      refine hk ?_
      rw [hu]
      show (if k = id then none else updF s.v u k) = none
      rw [q, ite_self]
  refine hK _ _ _ μ' fp' (hext.trans he2) ⟨hp.agree, ?_, hv1, Ev.start _⟩
  simp only [VRel]
  exact ⟨Ty.repO_repS (z := c'.fz) (S := S') (w := w') (fun b hb => ⟨.inl hb, hp.ev.S b hb⟩) _ hrep fun b hb => .inr hb, fun k hk => (by cases hk)⟩
theorem core_sim (hC : CxOk C c.P) (hF : CallsOk C c.P) (hE : ∀ id x, E id = some x → s.v id = some x) {fr : Nat} (hfr : ∀ id, fr ≤ id → id < fr + 64 → ¬ s.k id)
    (hr : (core C o.op o.type (evF s.t) E fr).eval = some r) : SimE c μ s o a w r := by
  unfold core at hr
  split at hr
  · rw [Out.eval_bind] at hr
    obtain ⟨r0, h0, hr⟩ := Option.bind_eq_some_iff.1 hr
    exact frz_sim (core0_sim h hC hF hE hfr h0) hr
  · exact core0_sim h hC hF hE hfr hr
end
end
section
open Go
theorem fillAt_congr {t : Ty} {ev ev' : Operand → DVal} : ∀ (ps : List (Nat × Operand)) (cs : List DVal), (∀ x ∈ ps, ev x.2 = ev' x.2) → fillAt t ev ps cs = fillAt t ev' ps cs
  | [], _, _ => rfl
  | (k, x) :: ps, cs, h => by
    simp only [fillAt, h (k, x) (by simp)]
    split
    · split
      · exact fillAt_congr ps _ fun y hy => h y (by simp [hy])
      · rfl
    · rfl
theorem fillList_congr {E : Env} {e : Ty} {ev ev' : Operand → DVal} : ∀ (ps : List (Nat × Operand)) (xs : List e.D) (g : List Nat), (∀ x ∈ ps, ev x.2 = ev' x.2) → fillList E e ev ps xs g = fillList E e ev' ps xs g
  | [], _, _, _ => rfl
  | (k, x) :: ps, xs, g, h => by
    simp only [fillList, h (k, x) (by simp)]
    split
    · rfl
    · congr 1
      funext y
      split
      · rfl
      · exact fillList_congr ps _ _ fun y hy => h y (by simp [hy])
theorem core0_congr (C : Cx) (op : Op) (ty : Nat) {ev ev' : Operand → DVal} (E : Env) (fr : Nat) (h : ∀ x ∈ opnds op, ev x = ev' x) : core0 C op ty ev E fr = core0 C op ty ev' E fr := by
  have hm : ∀ l : List Operand, (∀ x ∈ l, ev x = ev' x) → l.map ev = l.map ev' := fun l hl => List.map_congr_left hl
  unfold core0
  split <;> simp only [opnds, List.mem_cons, List.not_mem_nil, or_false, forall_eq_or_imp, forall_eq] at h <;> try (simp only [h]; done)
  · congr 1; funext t; split
    · rw [fillAt_congr _ _ fun x hx => h x.2 (List.mem_map.2 ⟨x, hx, rfl⟩)]
    · rfl
  · congr 1; funext t; congr 1; funext e; split
    · rw [fillList_congr _ _ _ fun x hx => h x.2 (List.mem_map.2 ⟨x, hx, rfl⟩)]
    · rfl
  · rename_i t x lo hi
    have hx := h x (by simp)
    have hl : lo.map (fun z => getI (ev z)) = lo.map fun z => getI (ev' z) := by cases lo with | none => rfl | some z => simp [h z (by simp)]
    have hh : hi.map (fun z => getI (ev z)) = hi.map fun z => getI (ev' z) := by cases hi with | none => rfl | some z => simp [h z (by simp)]
    rw [hx, hl, hh]
  · rw [hm _ h]
  · rename_i args argTypes
    simp only [Call.operands, Array.empty_append] at h
    split
    · rename_i x t e1 e2
      rw [e1] at h
      rw [h x (by simp)]
    · rfl
  · rename_i args argTypes
    simp only [Call.operands, Array.empty_append] at h
    split
    · rename_i x y t t' e1 e2
      rw [e1] at h
      rw [h x (by simp), h y (by simp)]
    · rfl
  · rename_i args argTypes
    simp only [Call.operands, Array.empty_append] at h
    split
    · rename_i x y t t' e1 e2
      rw [e1] at h
      rw [h x (by simp), h y (by simp)]
    · rfl
  · rename_i f args _
    rw [hm _ fun x hx => h x (by simp only [Call.operands, Array.toList_append]; simp [hx])]
  · rename_i f args _
    rw [hm _ fun x hx => h x (by simp only [Call.operands, Array.toList_append]; simp [hx]), h (.tmp f) (by simp [Call.operands])]
theorem core_congr (C : Cx) (op : Op) (ty : Nat) {ev ev' : Operand → DVal} (E : Env) (fr : Nat) (h : ∀ x ∈ opnds op, ev x = ev' x) : core C op ty ev E fr = core C op ty ev' E fr := by
  unfold core
  rw [core0_congr C op ty E fr h]
end
section
open Go
structure Did where
  i : Nat
  g : Nat
  o : Oper
  op : Op
  gd : Option (Nat × Bool)
  skip : Bool
  T : List Nat
  R : List Nat
  r : Res
def Did.mk' (l : Did) : Bool := makes l.g l.r.2
def Did.log (l : Did) : Log :=
  { i := l.i, g := l.g, mkd := l.mk', dst := l.o.dst, reads := (if l.skip then [] else tmpsOf (opnds l.o.op)) ++ (l.gd.map (·.1)).toList, T := l.T, R := l.R, U := l.r.2.map (·.1) }
def OpEq (t : Nat → DVal) (op op' : Op) : Prop :=
  op' = op ∨ ∃ x y z, op = .pick x y z ∧ ((evF t x = .b true ∧ op' = .move y) ∨ (evF t x = .b false ∧ op' = .move z))
def GuardOk (l : Did) (t : Nat → DVal) : Prop :=
  match l.gd with
  | none => l.skip = false
  | some (d, want) => if l.skip then t d = .b (!want) ∨ t d = .undef else t d = .b want
structure Pre (C : Cx) (n : Nat) (l : Did) (s : FSt) : Prop where
  guard : GuardOk l s.t
  dst : ∀ d, l.o.dst = some d → d < n
  skip : l.skip = true → l.r = (.undef, []) ∧ l.T = [] ∧ l.R = []
  eq : l.skip = false → OpEq s.t l.o.op l.op
  core : l.skip = false → (core C l.op l.o.type (evF s.t) (envR l.R s.v) (l.g * 64)).eval = some l.r
  res : okRes l.T l.g l.r = true
  known : ∀ id ∈ l.T, s.k id
  fresh : l.skip = false → ∀ id, id / 64 = l.g → ¬ s.k id
def post (l : Did) (s : FSt) : FSt where
  t := fun j => if l.o.dst = some j then l.r.1 else s.t j
  v := updF s.v l.r.2
  k := fun id => s.k id ∨ (l.mk' = true ∧ id / 64 = l.g)
theorem mem_tmpsOf {j : Nat} : {l : List Operand} → j ∈ tmpsOf l ↔ Operand.tmp j ∈ l
  | [] => by simp [tmpsOf]
  | x :: l => by
    cases x with
    | tmp k => simp [tmpsOf, mem_tmpsOf (l := l)]
    | _ => simp [tmpsOf, mem_tmpsOf (l := l)]
theorem evF_congr {t t' : Nat → DVal} {x : Operand} (h : ∀ j, x = .tmp j → t j = t' j) : evF t x = evF t' x := by
  cases x with
  | tmp j => exact h j rfl
  | _ => rfl
theorem updF_other (v : Env) : ∀ (u : Upd) {id : Nat}, id ∉ u.map (·.1) → updF v u id = v id
  | [], _, _ => rfl
  | (k, x) :: u, id, h => by
    simp only [List.map_cons, List.mem_cons, not_or] at h
    simp only [updF]
    rw [updF_other _ u h.2]
    exact if_neg h.1
theorem updF_same (v v' : Env) : ∀ (u : Upd) {id : Nat}, (v id = v' id ∨ id ∈ u.map (·.1)) → updF v u id = updF v' u id
  | [], _, h => by simpa [updF] using h
  | (k, x) :: u, id, h => by
    simp only [updF]
    apply updF_same _ _ u
    simp only [List.map_cons, List.mem_cons] at h
    by_cases hk : id = k
    · left; simp [hk]
    · simp only [hk, if_false]
      rcases h with h | h | h
      · exact .inl h
      · exact absurd h hk
      · exact .inr h
theorem updF_comm (v : Env) {a b : Upd} (h : ∀ id ∈ a.map (·.1), id ∉ b.map (·.1)) : updF (updF v a) b = updF (updF v b) a := by
  funext id
  by_cases ha : id ∈ a.map (·.1)
  · rw [updF_other _ b (h id ha)]
    exact updF_same _ _ a (.inr ha)
  · rw [updF_other _ a ha]
    exact updF_same _ _ b (.inl (updF_other _ a ha))
theorem disj_iff {a b : List Nat} (h : disj a b = true) : ∀ x ∈ a, x ∉ b := by
  intro x hx hb
  have := List.all_eq_true.1 h x hx
  simp_all
structure Indep (a b : Did) : Prop where
  d1 : ∀ d, a.o.dst = some d → d ∉ b.log.reads ∧ b.o.dst ≠ some d
  d2 : ∀ d, b.o.dst = some d → d ∉ a.log.reads
  u1 : ∀ id ∈ a.r.2.map (·.1), id ∉ b.R ∧ id ∉ b.r.2.map (·.1)
  u2 : ∀ id ∈ b.r.2.map (·.1), id ∉ a.R
  made : a.mk' = true → ∀ id ∈ b.T, id / 64 ≠ a.g
theorem Indep.of {a b : Did} (h : indep a.log b.log = true) : Indep a b := by
  simp only [indep, Bool.and_eq_true] at h
  obtain ⟨⟨⟨⟨h1, h2⟩, h3⟩, h4⟩, h5⟩ := h
  refine ⟨fun d hd => ?_, fun d hd => ?_, fun id hi => ?_, fun id hi => ?_, fun hm id hi => ?_⟩
  · have := disj_iff h1 d (by simp [Did.log, hd])
    simp only [List.mem_append, not_or] at this
    refine ⟨this.1, fun e => this.2 ?_⟩
    show d ∈ b.o.dst.toList
    rw [e]; simp
  · exact disj_iff h2 d (by simp [Did.log, hd])
  · have := disj_iff h3 id hi
    simp only [List.mem_append, not_or] at this
    exact this
  · exact disj_iff h4 id hi
  · have hm : a.log.mkd = true := hm
    rw [hm] at h5
    simp only [Bool.not_true, Bool.false_or, List.all_eq_true, bne_iff_ne] at h5
    exact h5 id hi
theorem Pre.congr {C : Cx} {n : Nat} {l : Did} {s s' : FSt} (h : Pre C n l s) (ht : ∀ j ∈ l.log.reads, s'.t j = s.t j) (hv : ∀ id ∈ l.R, s'.v id = s.v id)
    (hk : ∀ id ∈ l.T, s'.k id) (hf : l.skip = false → ∀ id, id / 64 = l.g → ¬ s'.k id) : Pre C n l s' := by
  have hx : l.skip = false → ∀ x ∈ opnds l.o.op, evF s'.t x = evF s.t x := fun hs x hx => evF_congr fun j e => ht j (by
    subst e
    simp only [Did.log, hs, Bool.false_eq_true, if_false, List.mem_append]
    exact .inl (mem_tmpsOf.2 hx))
  have hE : envR l.R s'.v = envR l.R s.v := by
    funext id
    unfold envR
    by_cases hi : l.R.contains id = true
    · rw [if_pos hi, if_pos hi]; exact hv id (by simpa using hi)
    · rw [if_neg hi, if_neg hi]
  have hsub : ∀ x ∈ opnds l.op, l.skip = false → evF s'.t x = evF s.t x := fun x hxo hs => by
    rcases h.eq hs with e | ⟨p, q, r, e, h1⟩
    · rw [e] at hxo; exact hx hs x hxo
    · rcases h1 with ⟨_, e2⟩ | ⟨_, e2⟩ <;> rw [e2] at hxo <;> simp only [opnds, List.mem_cons, List.not_mem_nil, or_false] at hxo <;> subst hxo <;> exact hx hs _ (by rw [e]; simp [opnds])
  refine ⟨?_, h.dst, h.skip, fun hs => ?_, fun hs => ?_, h.res, hk, hf⟩
  · have hg := h.guard
    unfold GuardOk at hg ⊢
    split
    · rename_i e; rw [e] at hg; exact hg
    · rename_i d want e
      simp only [e] at hg
      rw [ht d (by simp [Did.log, e])]
      exact hg
  · rcases h.eq hs with e | ⟨p, q, r, e, h1⟩
    · exact .inl e
    · refine .inr ⟨p, q, r, e, ?_⟩
      rw [hx hs p (by rw [e]; simp [opnds])]
      exact h1
  · rw [hE, core_congr C l.op l.o.type (envR l.R s.v) (l.g * 64) fun x hx' => hsub x hx' hs]
    exact h.core hs
theorem swap {C : Cx} {n : Nat} {a b : Did} {s : FSt} (ha : Pre C n a s) (hb : Pre C n b (post a s)) (hi : Indep a b) (hg : a.g ≠ b.g) :
    Pre C n b s ∧ Pre C n a (post b s) ∧ post a (post b s) = post b (post a s) := by
  refine ⟨?_, ?_, ?_⟩
  · refine hb.congr (fun j hj => ?_) (fun id hid => ?_) (fun id hid => ?_) (fun hs id hid hk => ?_)
    · simp only [post]
      rw [if_neg fun e => (hi.d1 j e).1 hj]
    · simp only [post]
      rw [updF_other _ _ fun hu => (hi.u1 id hu).1 hid]
    · rcases hb.known id hid with h | ⟨h1, h2⟩
      · exact h
      · exact absurd h2 (hi.made h1 id hid)
    · exact hb.fresh hs id hid (.inl hk)
  · refine ha.congr (fun j hj => ?_) (fun id hid => ?_) (fun id hid => .inl (ha.known id hid)) (fun hs id hid hk => ?_)
    · simp only [post]
      rw [if_neg fun e => hi.d2 j e hj]
    · simp only [post]
      rw [updF_other _ _ fun hu => hi.u2 id hu hid]
    · rcases hk with hk | ⟨_, h2⟩
      · exact ha.fresh hs id hid hk
      · exact hg (hid.symm.trans h2)
  · simp only [post, FSt.mk.injEq]
    refine ⟨?_, (updF_comm _ fun id h => (hi.u1 id h).2).symm, ?_⟩
    · funext j
      by_cases h1 : a.o.dst = some j
      · rw [if_pos h1, if_neg (hi.d1 j h1).2, if_pos h1]
      · rw [if_neg h1]
        by_cases h2 : b.o.dst = some j
        · rw [if_pos h2, if_pos h2]
        · rw [if_neg h2, if_neg h2, if_neg h1]
    · funext id
      apply propext
      constructor
      · rintro ((h | h) | h)
        · exact .inl (.inl h)
        · exact .inr h
        · exact .inl (.inr h)
      · rintro ((h | h) | h)
        · exact .inl (.inl h)
        · exact .inr h
        · exact .inl (.inr h)
def Seq (C : Cx) (n : Nat) : List Did → FSt → FSt → Prop
  | [], s, s' => s = s'
  | l :: L, s, s' => Pre C n l s ∧ Seq C n L (post l s) s'
theorem Seq.first {C : Cx} {n : Nat} {b : Did} : ∀ {A R : List Did} {s s' : FSt}, Seq C n (A ++ b :: R) s s' → (∀ a ∈ A, Indep a b ∧ a.g ≠ b.g) → Seq C n (b :: (A ++ R)) s s'
  | [], _, _, _, h, _ => h
  | a :: A, R, s, s', h, hi => by
    simp only [List.cons_append, Seq] at h
    have := Seq.first h.2 fun x hx => hi x (by simp [hx])
    simp only [Seq] at this
    obtain ⟨q1, q2, q3⟩ := swap h.1 this.1 (hi a (by simp)).1 (hi a (by simp)).2
    simp only [List.cons_append, Seq]
    exact ⟨q1, q2, by rw [q3]; exact this.2⟩
end
section
open Go
def KnOk (s : DSt) : Prop := ∀ d b, findK s.kn d = some b → s.t.getD d .dead = .b b
theorem bind_eval {ρ σ : Type} {o : Out ρ} {f : ρ → Out σ} {r : σ} (h : (o.bind f).eval = some r) : ∃ x, o.eval = some x ∧ (f x).eval = some r := by
  rw [Out.eval_bind] at h
  exact Option.bind_eq_some_iff.1 h
theorem knOf_ev {s : DSt} (h : KnOk s) {x : Operand} {b : Bool} (hx : knOf s.kn x = some b) : evF s.f.t x = .b b := by
  unfold knOf at hx
  split at hx
  · cases hx; rfl
  · exact h _ _ hx
  · cases hx
theorem opK_eq {s : DSt} (h : KnOk s) (op : Op) : OpEq s.f.t op (opK s.kn op) := by
  unfold opK
  split
  · rename_i x y z
    split
    · rename_i e; exact .inr ⟨x, y, z, rfl, .inl ⟨knOf_ev h e, rfl⟩⟩
    · rename_i e; exact .inr ⟨x, y, z, rfl, .inr ⟨knOf_ev h e, rfl⟩⟩
    · exact .inl rfl
  · exact .inl rfl
theorem findK_append (a b : List (Nat × Bool)) (d : Nat) : findK (a ++ b) d = (findK a d).or (findK b d) := by
  induction a with
  | nil => simp [findK]
  | cons x a ih =>
    obtain ⟨j, y⟩ := x
    simp only [List.cons_append, findK]
    split
    · simp
    · exact ih
theorem findK_drop (kn : List (Nat × Bool)) (dst : Option Nat) (d : Nat) (b : Bool) (h : findK (dropK kn dst) d = some b) : dst ≠ some d ∧ findK kn d = some b := by
  cases dst with
  | none => exact ⟨by simp, h⟩
  | some e =>
    simp only [dropK] at h
    induction kn with
    | nil => simp [findK] at h
    | cons x kn ih =>
      obtain ⟨j, y⟩ := x
      simp only [List.filter_cons] at h
      split at h
      · rename_i hne
        simp only [findK] at h ⊢
        split at h
        · rename_i hj
          subst hj
          rw [if_pos rfl]
          exact ⟨fun he => by cases he; simp at hne, h⟩
        · rename_i hj
          rw [if_neg hj]
          exact ih h
      · rename_i hne
        have := ih h
        refine ⟨this.1, ?_⟩
        simp only [findK]
        rw [if_neg]
        · exact this.2
        · rintro rfl
          simp only [bne_iff_ne, ne_eq, Decidable.not_not] at hne
          exact this.1 (by simp [hne])
theorem getD_set {t : List DVal} {d j : Nat} {v x : DVal} (h : d < t.length) : (t.set d v).getD j x = if d = j then v else t.getD j x := by
  rw [List.getD_eq_getElem?_getD, List.getD_eq_getElem?_getD, List.getElem?_set]
  split
  · rename_i e; subst e; simp [h]
  · rfl
theorem setT_get {t : List DVal} {dst : Option Nat} (h : dstOk t dst = true) (v : DVal) (j : Nat) : (setT t dst v).getD j .dead = if dst = some j then v else t.getD j .dead := by
  cases dst with
  | none => simp [setT]
  | some d =>
    simp only [dstOk, decide_eq_true_eq] at h
    simp only [setT, getD_set h, Option.some.injEq]
theorem setT_length (t : List DVal) (dst : Option Nat) (v : DVal) : (setT t dst v).length = t.length := by cases dst <;> simp [setT]
theorem tids_known {s : FSt} (h : Known s) (op : Op) : ∀ id ∈ tids op s.t s.v, s.k id := by
  have step : ∀ l : List Nat, (∀ id ∈ l, s.k id) → ∀ id ∈ cl s.v l, s.k id := by
    intro l hl id hi
    simp only [cl, List.mem_append, List.mem_flatMap] at hi
    rcases hi with hi | ⟨k, hk, hi⟩
    · exact hl id hi
    · unfold varIds at hi
      split at hi
      · rename_i x hx
        exact (h.v k x hx).2 id hi
      · cases hi
  refine step _ (step _ (step _ ?_))
  intro id hi
  obtain ⟨x, _, hi⟩ := List.mem_flatMap.1 hi
  cases x with
  | tmp j => exact h.t j id hi
  | const v => simp only [evF, ofValue] at hi; split at hi <;> (try split at hi) <;> simp [DVal.ids] at hi
  | func f => simp [evF, DVal.ids, DVal.idsL] at hi
  | global g => simp [evF, DVal.ids] at hi
theorem okId_known {s : FSt} {l : Did} (hT : ∀ id ∈ l.T, s.k id) {id : Nat} (h : okId l.T l.g (makes l.g l.r.2) id = true) : (post l s).k id := by
  simp only [okId, Bool.or_eq_true, Bool.and_eq_true, beq_iff_eq] at h
  rcases h with h | h
  · exact .inl (hT id (by simpa using h))
  · exact .inr h
theorem updF_mem {v : Env} : ∀ {u : Upd} {id : Nat} {x : DVar}, updF v u id = some x → v id = some x ∨ (id, some x) ∈ u
  | [], _, _, h => .inl h
  | (k, y) :: u, id, x, h => by
    simp only [updF] at h
    rcases updF_mem h with h | h
    · by_cases e : id = k
      · subst e; rw [if_pos rfl] at h; exact .inr (by simp [h])
      · rw [if_neg e] at h; exact .inl h
    · exact .inr (by simp [h])
theorem Known.post {C : Cx} {n : Nat} {s : FSt} {l : Did} (h : Known s) (hp : Pre C n l s) : Known (post l s) := by
  have hr := hp.res
  simp only [okRes, Bool.and_eq_true, List.all_eq_true] at hr
  refine ⟨fun j id hi => ?_, fun id x hx => ?_⟩
  · have hi : id ∈ (if l.o.dst = some j then l.r.1 else s.t j).ids := hi
    split at hi
    · exact okId_known hp.known (hr.1 id hi)
    · exact .inl (h.t j id hi)
  · rcases updF_mem hx with hx | hx
    · exact ⟨.inl (h.v id x hx).1, fun id' hi => .inl ((h.v id x hx).2 id' hi)⟩
    · have := hr.2 _ hx
      simp only [okUpd, Bool.and_eq_true, List.all_eq_true] at this
      exact ⟨okId_known hp.known this.1, fun id' hi => okId_known hp.known (this.2 id' hi)⟩
theorem lookV_append : ∀ (a b : List (Nat × DVar)) (id : Nat), lookV (a ++ b) id = match lookV a id with | some x => some x | none => lookV b id
  | [], _, _ => rfl
  | (k, x) :: r, b, id => by
    simp only [List.cons_append, lookV]
    by_cases h : k = id
    · rw [if_pos h, if_pos h]
    · rw [if_neg h, if_neg h]; exact lookV_append r b id
theorem lookV_key : ∀ {w : List (Nat × DVar)} {id : Nat}, id ∉ w.map (·.1) → lookV w id = none
  | [], _, _ => rfl
  | (k, x) :: r, id, h => by
    simp only [List.map_cons, List.mem_cons, not_or] at h
    simp only [lookV]
    rw [if_neg (fun e => h.1 e.symm)]
    exact lookV_key h.2
theorem updF_or (w : List (Nat × DVar)) : ∀ (u : Upd) (e : Env) (id : Nat), (∀ x ∈ u, x.1 ∉ w.map (·.1)) → (match updF e u id with | some x => some x | none => lookV w id) = updF (fun j => match e j with | some x => some x | none => lookV w j) u id
  | [], _, _, _ => rfl
  | (k, x) :: r, e, id, h => by
    simp only [updF]
    rw [updF_or w r _ id fun y hy => h y (by simp [hy])]
    congr 1
    funext j
    by_cases hj : j = k
    · subst hj
      have hk := lookV_key (h (j, x) (by simp))
      simp only [if_true]
      cases x with
      | none => exact hk
      | some x => rfl
    · simp only [if_neg hj]
theorem env_upd {v w : List (Nat × DVar)} {u : Upd} (h : (u.all fun x => !(w.map (·.1)).contains x.1) = true) : lookV (updV v u ++ w) = updF (lookV (v ++ w)) u := by
  have h' : ∀ x ∈ u, x.1 ∉ w.map (·.1) := fun x hx => by
    have := List.all_eq_true.1 h x hx
    simpa using this
  funext id
  rw [lookV_append, lookV_upd, updF_or w u _ id h']
  congr 1
  funext j
  exact (lookV_append v w j).symm
theorem env_of_v {s : DSt} {id : Nat} {x : DVar} (h : lookV s.v id = some x) : s.env id = some x := by
  unfold DSt.env
  rw [lookV_append, h]
def GdIs (ops : List Oper) (o : Oper) (gd : Option (Nat × Bool)) : Prop :=
  match o.guard with
  | none => gd = none
  | some (j, want) => ∃ d, (ops[j]?).bind (·.dst) = some d ∧ gd = some (d, want)
theorem GdIs.dst {ops : List Oper} {o : Oper} {gd : Option (Nat × Bool)} (h : GdIs ops o gd) : (gd.map (·.1)).toList = guardDst ops o.guard := by
  unfold GdIs at h
  unfold guardDst
  split at h
  · rename_i e; subst h; simp [e]
  · rename_i e; obtain ⟨d, h1, rfl⟩ := h; simp [e, h1]
structure OneStep (C : Cx) (ops : List Oper) (g i : Nat) (o : Oper) (s s' : DSt) (lg : Log) : Prop where
  ex : ∃ l : Did, Pre C s.t.length l s.f ∧ s'.f = post l s.f ∧ l.i = i ∧ l.g = g ∧ l.o = o ∧ GdIs ops o l.gd ∧ l.log = lg
  kn : KnOk s'
  len : s'.t.length = s.t.length
theorem core0_rd {C : Cx} {op : Op} {ty : Nat} {t : Operand → DVal} {T : List Nat} {v : Env} {fr : Nat} {r : Res} (h : (core0 C op ty t (envR T v) fr).eval = some r) : (core0 C op ty t (envR (rdOf T t op) v) fr).eval = some r := by
  cases op
  case load tid x =>
    obtain ⟨ty', hty, h⟩ := of_eval (show (Out.of (C.ty tid) fun t' => loadD (envR T v) t' (t x) fr).eval = some r from h)
    show (Out.of (C.ty tid) fun t' => loadD (envR (rdOf T t (.load tid x)) v) t' (t x) fr).eval = some r
    rw [hty]
    show (loadD (envR (match t x with | .vptr id _ => T.filter (· == id) | _ => T) v) ty' (t x) fr).eval = some r
    generalize t x = d at h ⊢
    cases d
    case vptr id off =>
      have e : envR (T.filter (· == id)) v id = envR T v id := by
        unfold envR
        have : (T.filter (· == id)).contains id = T.contains id := by
          rw [Bool.eq_iff_iff]
          simp
        rw [this]
      simp only [loadD] at h ⊢
      rw [e]; exact h
    all_goals exact h
  all_goals exact h
theorem core_rd {C : Cx} {op : Op} {ty : Nat} {t : Operand → DVal} {T : List Nat} {v : Env} {fr : Nat} {r : Res} (h : (core C op ty t (envR T v) fr).eval = some r) : (core C op ty t (envR (rdOf T t op) v) fr).eval = some r := by
  unfold core at h ⊢
  split at h
  · rename_i hz
    rw [if_pos hz]
    rw [Out.eval_bind] at h ⊢
    obtain ⟨r0, h0, hr⟩ := Option.bind_eq_some_iff.1 h
    rw [core0_rd h0]
    exact hr
  · rename_i hz
    rw [if_neg hz]
    exact core0_rd h
theorem core_b {C : Cx} {op : Op} {ty : Nat} {t : Operand → DVal} {E : Env} {fr : Nat} {r : Res} {x : Bool} (h0 : core0 C op ty t E fr = ret1 (.b x)) (h : (core C op ty t E fr).eval = some r) : r = (.b x, []) := by
  unfold core at h
  rw [h0] at h
  split at h
  · cases h
  · exact ret1_eval h
theorem stepL_one {C : Cx} {ops : List Oper} {g i : Nat} {o : Oper} {s s' : DSt} {lg : Log} {gd : Option (Nat × Bool)} (hk : KnOk s) (hn : Known s.f) (hgd : GdIs ops o gd) (hg : ∀ d want, gd = some (d, want) → s.f.t d = .b want)
    (h : (stepL C ops g i o s).eval = some (s', lg)) : OneStep C ops g i o s s' lg := by
  unfold stepL at h
  obtain ⟨r, hr, h⟩ := bind_eval h
  split at h
  case isFalse => cases h
  rename_i hc
  obtain ⟨hres, hfr, hdst, hfree⟩ := hc
  have h := Option.some.inj h
  obtain ⟨rfl, rfl⟩ := Prod.mk.inj h
  have hpre : Pre C s.t.length { i, g, o, op := opK s.kn o.op, gd, skip := false, T := tids (opK s.kn o.op) s.f.t s.f.v, R := rdOf (tids (opK s.kn o.op) s.f.t s.f.v) (evF s.f.t) (opK s.kn o.op), r } s.f := by
    refine ⟨?_, ?_, fun e => (by cases e), fun _ => opK_eq hk o.op, fun _ => core_rd hr, hres, tids_known hn _, fun _ id hid hk' => ?_⟩
    · unfold GuardOk
      split
      · rfl
      · rename_i d want e; exact hg d want e
    · intro d hd
      simp only at hd
      simpa [dstOk, hd] using hdst
    · have : g ∈ s.k := by simpa [DSt.f, hid] using hk'
      simp [this] at hfr
  refine ⟨⟨_, hpre, ?_, rfl, rfl, rfl, hgd, ?_⟩, ?_, setT_length _ _ _⟩
  · simp only [DSt.f, post, FSt.mk.injEq]
    refine ⟨funext fun j => ?_, env_upd hfree, funext fun id => propext ?_⟩
    · exact setT_get hdst _ j
    · simp only [Did.mk']
      split
      · rename_i e; simp [e, or_comm]
      · rename_i e; simp [e]
  · simp only [Did.log, Bool.false_eq_true, if_false, hgd.dst, Did.mk']; rfl
  · intro d b hf
    simp only at hf ⊢
    rw [findK_append] at hf
    rw [setT_get hdst]
    cases hnew : findK (knNew s.kn o.dst (opK s.kn o.op)) d with
    | none =>
      rw [hnew] at hf
      obtain ⟨h1, h2⟩ := findK_drop _ _ _ _ hf
      rw [if_neg h1]
      exact hk d b h2
    | some b' =>
      rw [hnew] at hf
      have hf : b' = b := by simpa using hf
      subst hf
      have key : ∀ (x : Operand) (b0 : Bool), knOf s.kn x = some b0 → evF (fun j => s.t.getD j .dead) x = .b b0 := fun x b0 hx => knOf_ev hk hx
      unfold knNew at hnew
      split at hnew
      · rename_i x hop
        split at hnew
        · rename_i d' b0 hd1 hkx
          simp only [findK] at hnew
          split at hnew
          · rename_i e; subst e; cases hnew
            rw [if_pos hd1]
            rw [hop] at hr
            rw [core_b (by simp only [core0, key x _ hkx, nilD]; rfl) hr]
          · cases hnew
        · simp [findK] at hnew
      · rename_i x hop
        split at hnew
        · rename_i d' b0 hd1 hkx
          simp only [findK] at hnew
          split at hnew
          · rename_i e; subst e; cases hnew
            rw [if_pos hd1]
            rw [hop] at hr
            rw [core_b (by simp only [core0, key x _ hkx, nilD]; rfl) hr]
          · cases hnew
        · simp [findK] at hnew
      · rename_i x hop
        split at hnew
        · rename_i d' b0 hd1 hkx
          simp only [findK] at hnew
          split at hnew
          · rename_i e; subst e; cases hnew
            rw [if_pos hd1]
            rw [hop] at hr
            rw [core_b (by simp only [core0, key x _ hkx, unD]; rfl) hr]
          · cases hnew
        · simp [findK] at hnew
      · simp [findK] at hnew
theorem skipL_one {C : Cx} {ops : List Oper} {g i : Nat} {o : Oper} {s s' : DSt} {lg : Log} {gd : Option (Nat × Bool)} {d : Nat} {want : Bool} (hk : KnOk s) (hgd : GdIs ops o gd) (e : gd = some (d, want)) (hg : s.f.t d = .b (!want) ∨ s.f.t d = .undef)
    (h : (skipL ops g i o s).eval = some (s', lg)) : OneStep C ops g i o s s' lg := by
  unfold skipL at h
  split at h
  case isFalse => cases h
  rename_i hdst
  have h := Option.some.inj h
  obtain ⟨rfl, rfl⟩ := Prod.mk.inj h
  have hpre : Pre C s.t.length { i, g, o, op := o.op, gd, skip := true, T := [], R := [], r := (.undef, []) } s.f := by
    refine ⟨?_, ?_, fun _ => ⟨rfl, rfl, rfl⟩, fun e => (by cases e), fun e => (by cases e), by simp [okRes, DVal.ids], by simp, fun e => (by cases e)⟩
    · unfold GuardOk
      simp only [e]
      exact hg
    · intro d hd
      simp only at hd
      simpa [dstOk, hd] using hdst
  refine ⟨⟨_, hpre, ?_, rfl, rfl, rfl, hgd, ?_⟩, ?_, setT_length _ _ _⟩
  · simp only [DSt.f, post, FSt.mk.injEq]
    refine ⟨funext fun j => setT_get hdst _ j, rfl, funext fun id => propext ?_⟩
    simp [Did.mk', makes]
  · simp [Did.log, hgd.dst, Did.mk', makes]
  · intro d b hf
    simp only at hf ⊢
    obtain ⟨h1, h2⟩ := findK_drop _ _ _ _ hf
    rw [setT_get hdst, if_neg h1]
    exact hk d b h2
end
section
open Go
theorem seen_f {s : DSt} {d : Nat} {b : Bool} (h : s.t.getD d .dead = .b b) (kn : List (Nat × Bool)) : ({ s with t := s.t.set d (.b b), kn } : DSt).f = s.f := by
  have hd : d < s.t.length := by
    rcases Nat.lt_or_ge d s.t.length with h1 | h1
    · exact h1
    · rw [List.getD_eq_getElem?_getD, List.getElem?_eq_none h1] at h; cases h
  simp only [DSt.f, FSt.mk.injEq, and_true]
  refine ⟨?_, rfl⟩
  funext j
  rw [getD_set hd]
  split
  · rename_i e; subst e; exact h.symm
  · rfl
theorem seen_kn {s : DSt} (hk : KnOk s) {d : Nat} {b : Bool} (h : s.t.getD d .dead = .b b) : KnOk { s with t := s.t.set d (.b b), kn := (d, b) :: s.kn } := by
  intro j b' hf
  have hd : d < s.t.length := by
    rcases Nat.lt_or_ge d s.t.length with h1 | h1
    · exact h1
    · rw [List.getD_eq_getElem?_getD, List.getElem?_eq_none h1] at h; cases h
  simp only [findK] at hf
  simp only [getD_set hd]
  split at hf
  · rename_i e; cases hf; rw [if_pos e]
  · rename_i e; rw [if_neg e]; exact hk j b' hf
theorem OneStep.of {C : Cx} {ops : List Oper} {g i : Nat} {o : Oper} {s s1 s' : DSt} {lg : Log} (h : OneStep C ops g i o s1 s' lg) (hf : s1.f = s.f) (hl : s1.t.length = s.t.length) : OneStep C ops g i o s s' lg := by
  obtain ⟨h1, h2, h3⟩ := h
  rw [hf, hl] at h1
  exact ⟨h1, h2, h3.trans hl⟩
theorem opL_one {C : Cx} {ops : List Oper} {g i : Nat} {o : Oper} {s s' : DSt} {lg : Log} (hk : KnOk s) (hn : Known s.f) (h : (opL C ops g i o s).eval = some (s', lg)) : OneStep C ops g i o s s' lg := by
  unfold opL at h
  split at h
  · rename_i e
    exact stepL_one (gd := none) hk hn (by unfold GdIs; simp [e]) (fun d want hd => by cases hd) h
  · rename_i j want e
    split at h
    · cases h
    · rename_i d hd
      have hgd : GdIs ops o (some (d, want)) := by unfold GdIs; simp only [e]; exact ⟨d, hd, rfl⟩
      split at h
      · rename_i b hb
        have hb := hk d b hb
        split at h
        · rename_i e; subst e
          exact stepL_one hk hn hgd (fun d' want' hd' => by cases hd'; exact hb) h
        · rename_i hne
          exact skipL_one hk hgd rfl (.inl (by rw [show s.f.t d = .b b from hb]; cases b <;> cases want <;> simp_all)) h
      · split at h
        · rename_i b hb
          replace h := ite_eval h
          rcases h with ⟨hc, h⟩ | ⟨hc, h⟩
          · have hc : b = want := by simpa using hc
            subst hc
            have hf := seen_f hb ((d, b) :: s.kn)
            refine (stepL_one (seen_kn hk hb) (by rw [hf]; exact hn) hgd (fun d' want' hd' => ?_) h).of hf (by simp)
            cases hd'
            rw [hf]; exact hb
          · have hc : b = !want := by cases b <;> cases want <;> simp_all
            subst hc
            have hf := seen_f hb ((d, !want) :: s.kn)
            refine (skipL_one (seen_kn hk hb) hgd rfl (.inl ?_) h).of hf (by simp)
            rw [hf]; exact hb
        · rename_i hb
          exact skipL_one hk hgd rfl (.inr hb) h
        · cases h
theorem regionL_seq {C : Cx} {ops : List Oper} {base : Nat} : ∀ (l : List (Nat × Oper)) (s s' : DSt) (lg lg' : List Log), (regionL C ops base l s lg).eval = some (s', lg') → KnOk s → Known s.f →
    ∃ L : List Did, Seq C s.t.length L s.f s'.f ∧ KnOk s' ∧ s'.t.length = s.t.length ∧ lg' = (L.map Did.log).reverse ++ lg ∧ L.map (fun d => (d.i, d.o)) = l ∧ ∀ d ∈ L, d.g = base + d.i ∧ GdIs ops d.o d.gd
  | [], s, s', lg, lg', h, hk, hn => by
    simp only [regionL] at h
    obtain ⟨rfl, rfl⟩ := Prod.mk.inj (Option.some.inj h)
    exact ⟨[], rfl, hk, rfl, by simp, rfl, by simp⟩
  | (i, o) :: r, s, s', lg, lg', h, hk, hn => by
    simp only [regionL] at h
    obtain ⟨⟨s1, g1⟩, h1, h2⟩ := bind_eval h
    obtain ⟨⟨l, hp, hpost, rfl, hg, rfl, hgd, rfl⟩, k2, k3⟩ := opL_one hk hn h1
    have hn1 : Known s1.f := by rw [hpost]; exact hn.post hp
    obtain ⟨L, q1, q2, q3, q4, q5, q6⟩ := regionL_seq r s1 s' _ lg' h2 k2 hn1
    refine ⟨l :: L, ⟨hp, by rw [← hpost, ← k3]; exact q1⟩, q2, q3.trans k3, ?_, by simp [q5], ?_⟩
    · rw [q4]; simp
    · intro d hd
      rcases List.mem_cons.1 hd with rfl | hd
      · exact ⟨hg, hgd⟩
      · exact q6 d hd
section
variable {c : Ctx} {μ μ' : Nat → Loc} {fp fp' : Nat → List Nat} {s : FSt} {n : Nat} {a : Act} {w w' : World} {C : Cx}
theorem put_get {a : Act} {dst : Option Tmp} {v : Value} {j n : Nat} (hn : n ≤ a.tmps.size) (hd : ∀ d, dst = some d → d < n) : (a.put dst v).tmps.getD j Go.undef = if dst = some j then v else a.tmps.getD j Go.undef := by
  cases dst with
  | none => simp [Act.put]
  | some d =>
    have := hd d rfl
    simp only [Act.put, Array.getD_eq_getD_getElem?, Array.getElem?_setIfInBounds, Option.some.injEq]
    split
    · rename_i e; subst e; rw [if_pos (Nat.lt_of_lt_of_le this hn)]; rfl
    · rfl
theorem put_size (a : Act) (dst : Option Tmp) (v : Value) : (a.put dst v).tmps.size = a.tmps.size := by cases dst <;> simp [Act.put]
theorem put_defers (a : Act) (dst : Option Tmp) (v : Value) : (a.put dst v).defers = a.defers := by cases dst <;> rfl
theorem RelX.did {l : Did} {v' : Value} {c' : Ctx} (h : RelX c μ fp s n a w) (hp : Pre C n l s) (e : Ext c c') (q : Post c' μ s l.r v' w' μ' fp') : RelX c' μ' fp' (post l s) n (a.put l.o.dst v') w' where
  tm j := by
    rw [put_get h.n hp.dst]
    show VRel c' μ' _ (if l.o.dst = some j then l.r.1 else s.t j)
    split
    · exact q.val
    · exact VRel.ext e _ (VRel.mono _ (fun id hi => q.agree id (h.known.t j id hi)) (h.tm j))
  n := by rw [put_size]; exact h.n
  defers := by rw [put_defers]; exact h.defers
  vs := q.vs
  known := h.known.post hp
  ev := q.ev
  fix id hi := ⟨.inl (h.fix id hi).1, by rw [e.loc]; exact (q.agree id (h.fix id hi).1).trans (h.fix id hi).2⟩
theorem wp_op_eq {P : Program} {o o' : Oper} {a : Act} {w : World} {K : Act → World → Prop} {Q : Exit → Act → World → Prop} (hd : o'.dst = o.dst) (hr : (execOp a.eval o).run P w = (execOp a.eval o').run P w) (h : o'.wp P a w K Q) : o.wp P a w K Q := by
  unfold Oper.wp at h ⊢
  rw [hr]
  revert h
  generalize (execOp a.eval o').run P w = r
  intro h
  cases r with
  | ok x w' => cases x <;> simp only [Oper.upon, hd] at h ⊢ <;> exact h
  | halt x w' => cases x <;> simp only [Oper.upon] at h ⊢ <;> exact h
theorem did_sound (hC : CxOk C c.P) (hF : CallsOk C c.P) {ops : Array Oper} {l : Did} {K : Act → World → Prop} {Q : Exit → Act → World → Prop} (h : RelX c μ fp s n a w) (hp : Pre C n l s) (ho : ops[l.i]? = some l.o) (hgd : GdIs ops.toList l.o l.gd)
    (hK : ∀ c' a' w' μ' fp', Ext c c' → RelX c' μ' fp' (post l s) n a' w' → K a' w') : wpOp c.P ops Q l.i K a w := by
  unfold wpOp
  simp only [ho]
  have hw : Region.wanted l.o (yielded ops a.tmps) = !l.skip := by
    have hg := hp.guard
    unfold GuardOk at hg
    unfold GdIs at hgd
    unfold Region.wanted
    split at hgd
    · rename_i e
      rw [hgd] at hg
      simp only at hg
      simp [e, hg]
    · rename_i j want e
      obtain ⟨d, h1, h2⟩ := hgd
      rw [h2] at hg
      simp only at hg
      simp only [e]
      have h1' : (ops[j]?).bind (·.dst) = some d := by simpa using h1
      have hv := h.tm d
      unfold yielded
      rw [h1']
      simp only [Option.bind_some]
      rw [Array.getD_eq_getD_getElem?] at hv
      cases hs : l.skip with
      | false =>
        rw [hs] at hg
        simp only [Bool.false_eq_true, if_false] at hg
        rw [hg] at hv
        simp only [VRel] at hv
        cases ht : a.tmps[d]? with
        | none => rw [ht] at hv; cases hv
        | some y => rw [ht] at hv; simp only [Option.getD_some] at hv; subst hv; simp
      | true =>
        rw [hs] at hg
        simp only [if_true] at hg
        rcases hg with hg | hg <;> rw [hg] at hv <;> simp only [VRel] at hv <;> cases ht : a.tmps[d]? with
        | none => rfl
        | some y => rw [ht] at hv; simp only [Option.getD_some] at hv; subst hv; first | rfl | (cases want <;> rfl)
  rw [hw]
  cases hs : l.skip with
  | true =>
    simp only [Bool.not_true, Bool.false_eq_true, if_false]
    obtain ⟨e1, e2, _⟩ := hp.skip hs
    exact hK c _ _ μ fp (Ext.refl c) (h.did hp (Ext.refl c) ⟨fun _ _ => rfl, by rw [e1]; rfl, by rw [e1]; exact h.vs, h.ev⟩)
  | false =>
    simp only [Bool.not_false, if_true]
    left
    have hE : ∀ id x, envR l.R s.v id = some x → s.v id = some x := fun id x hx => by
      unfold envR at hx
      split at hx
      · exact hx
      · cases hx
    have hsim := core_sim (o := { l.o with op := l.op }) h hC hF hE (fr := l.g * 64) (fun id h1 h2 => hp.fresh hs id (by omega)) (hp.core hs)
    have hwp := hsim K Q fun c' v' w' μ' fp' e q => hK c' _ _ μ' fp' e (h.did hp e q)
    refine wp_op_eq (o' := { l.o with op := l.op }) rfl ?_ hwp
    rcases hp.eq hs with e | ⟨x, y, z, e, h1⟩
    · rw [e]
    · have hv := h.ev_rel x
      rcases h1 with ⟨h1, e2⟩ | ⟨h1, e2⟩ <;> rw [h1] at hv <;> simp only [VRel] at hv <;> simp [execOp, e, e2, hv, asBool]
end
end
section
open Go
theorem bits_fold (l : List Nat) : ∀ (after : List Edge) (s0 x : Nat), (after.foldl (fun s e => if Region.binds .any e then s ||| 2 ^ e.on ||| l.getD e.on 0 else s) s0).testBit x = true →
    s0.testBit x = true ∨ ∃ e ∈ after, Region.binds .any e = true ∧ (x = e.on ∨ (l.getD e.on 0).testBit x = true)
  | [], s0, x, h => .inl h
  | e :: r, s0, x, h => by
    simp only [List.foldl_cons] at h
    rcases bits_fold l r _ x h with h | ⟨e', h1, h2⟩
    · split at h
      · rename_i hb
        simp only [Nat.testBit_or, Bool.or_eq_true] at h
        rcases h with (h | h) | h
        · exact .inl h
        · rw [Nat.testBit_two_pow] at h
          exact .inr ⟨e, by simp, hb, .inl (by have := of_decide_eq_true h; omega)⟩
        · exact .inr ⟨e, by simp, hb, .inr h⟩
      · exact .inl h
    · exact .inr ⟨e', by simp [h1], h2⟩
theorem bits_mem {l : List Nat} {after : List Edge} {x : Nat} (h : (bits l after).testBit x = true) : ∃ e ∈ after, Region.binds .any e = true ∧ (x = e.on ∨ (l.getD e.on 0).testBit x = true) := by
  rcases bits_fold l after 0 x h with h | h
  · simp at h
  · exact h
theorem befores_get : ∀ (r : List Oper) (acc : List Nat), (befores r acc).take acc.length = acc ∧
    ∀ (k : Nat) (o : Oper), r[k]? = some o → (befores r acc).getD (acc.length + k) 0 = bits ((befores r acc).take (acc.length + k)) o.after.toList
  | [], acc => by simp [befores]
  | o :: r, acc => by
    obtain ⟨h1, h2⟩ := befores_get r (acc ++ [bits acc o.after.toList])
    simp only [List.length_append, List.length_singleton] at h1 h2
    have ht : (befores (o :: r) acc).take acc.length = acc := by
      show (befores r (acc ++ [bits acc o.after.toList])).take acc.length = acc
      have : (befores r (acc ++ [bits acc o.after.toList])).take acc.length = ((befores r (acc ++ [bits acc o.after.toList])).take (acc.length + 1)).take acc.length := by
        rw [List.take_take, Nat.min_eq_left (by omega)]
      rw [this, h1]; simp
    refine ⟨ht, fun k o' hk => ?_⟩
    cases k with
    | zero =>
      simp only [List.getElem?_cons_zero, Option.some.injEq] at hk
      subst hk
      rw [Nat.add_zero, ht]
      show (befores r (acc ++ [bits acc o.after.toList])).getD acc.length 0 = _
      have : (befores r (acc ++ [bits acc o.after.toList]))[acc.length]? = ((befores r (acc ++ [bits acc o.after.toList])).take (acc.length + 1))[acc.length]? := by
        rw [List.getElem?_take_of_lt (by omega)]
      rw [List.getD_eq_getElem?_getD, this, h1]; simp
    | succ k =>
      have := h2 k o' (by simpa using hk)
      rw [show acc.length + (k + 1) = acc.length + 1 + k by omega]
      exact this
theorem before_mem {ops : List Oper} {i : Nat} {o : Oper} (ho : ops[i]? = some o) {x : Nat} (h : ((befores ops []).getD i 0).testBit x = true) :
    ∃ e ∈ o.after.toList, Region.binds .any e = true ∧ (x = e.on ∨ (e.on < i ∧ ((befores ops []).getD e.on 0).testBit x = true)) := by
  have := (befores_get ops []).2 i o ho
  simp only [List.length_nil, Nat.zero_add] at this
  rw [this] at h
  obtain ⟨e, h1, h2, h3⟩ := bits_mem h
  refine ⟨e, h1, h2, h3.imp id fun h3 => ?_⟩
  rw [List.getD_eq_getElem?_getD, List.getElem?_take] at h3
  split at h3
  · rename_i hlt; exact ⟨hlt, by rw [List.getD_eq_getElem?_getD]; exact h3⟩
  · simp at h3
theorem back_get : ∀ (r : List Oper) (n : Nat), backB n r = true → ∀ (k : Nat) (o : Oper), r[k]? = some o → ∀ e ∈ o.after.toList, Region.binds .any e = true → e.on < n + k
  | [], _, _, k, o, hk => by simp at hk
  | o :: r, n, h, k, o', hk => by
    simp only [backB, Bool.and_eq_true, List.all_eq_true] at h
    cases k with
    | zero =>
      simp only [List.getElem?_cons_zero, Option.some.injEq] at hk
      subst hk
      intro e he hb
      have := h.1 e he
      simpa [hb] using this
    | succ k =>
      intro e he hb
      have := back_get r (n + 1) h.2 k o' (by simpa using hk) e he hb
      omega
theorem indepAll_pairs (B : List Nat) : ∀ (l : List Log), indepAll B l = true → l.Pairwise fun b a => (B.getD b.i 0).testBit a.i = true ∨ indep a b = true
  | [], _ => List.Pairwise.nil
  | b :: r, h => by
    simp only [indepAll, Bool.and_eq_true, List.all_eq_true, Bool.or_eq_true] at h
    exact List.Pairwise.cons (fun a ha => h.1 a ha) (indepAll_pairs B r h.2)
section
variable {c : Ctx} {n : Nat} {C : Cx}
theorem seq_sound {ops : Array Oper} {Q : Exit → Act → World → Prop} {sf : FSt} {P : Program} (hC : CxOk C P) (hF : CallsOk C P) {c0 : Ctx} (hP : c0.P = P) (hQ : ∀ c μ fp a w, Ext c0 c → RelX c μ fp sf n a w → Q .normal a w) :
    ∀ (L : List Did) (s : FSt) (μ : Nat → Loc) (fp : Nat → List Nat) (a : Act) (w : World) (c : Ctx), Ext c0 c → Seq C n L s sf → (∀ d ∈ L, ops[d.i]? = some d.o ∧ GdIs ops.toList d.o d.gd) → RelX c μ fp s n a w → wpOps P ops Q (L.map (·.i)) a w
  | [], s, μ, fp, a, w, c, e, hs, _, h => by
    simp only [Seq] at hs; subst hs
    exact hQ c μ fp a w e h
  | d :: L, s, μ, fp, a, w, c, e, hs, hL, h => by
    have hcP : c.P = P := e.P.trans hP
    rw [List.map_cons, wpOps_cons]
    have := did_sound (Q := Q) (by rw [hcP]; exact hC) (by rw [hcP]; exact hF) h hs.1 (hL d (by simp)).1 (hL d (by simp)).2 fun c' a' w' μ' fp' e' h' => seq_sound hC hF hP hQ L _ μ' fp' a' w' c' (e.trans e') hs.2 (fun x hx => hL x (by simp [hx])) h'
    rw [hcP] at this
    exact this
theorem ready_mem {ops : Array Oper} {listed : Array Bool} {i : Nat} (h : i ∈ Region.ready .any ops listed) :
    i < ops.size ∧ listed.getD i true = false ∧ ∃ o, ops[i]? = some o ∧ ∀ e ∈ o.after.toList, Region.binds .any e = true → listed.getD e.on false = true := by
  unfold Region.ready at h
  simp only [List.mem_filter, List.mem_range, Bool.and_eq_true, Bool.not_eq_true'] at h
  obtain ⟨h1, h2, h3⟩ := h
  cases ho : ops[i]? with
  | none => rw [ho] at h3; simp at h3
  | some o =>
    rw [ho] at h3
    simp only [Option.map_some, Option.getD_some] at h3
    refine ⟨h1, h2, o, rfl, fun e he hb => ?_⟩
    have := Array.all_eq_true_iff_forall_mem.1 h3 e (by simpa using he)
    simpa [hb] using this
theorem ready_of {ops : Array Oper} {listed : Array Bool} {i : Nat} {o : Oper} (h1 : i < ops.size) (h2 : listed.getD i true = false) (ho : ops[i]? = some o) (h : ∀ e ∈ o.after.toList, Region.binds .any e = true → listed.getD e.on false = true) :
    i ∈ Region.ready .any ops listed := by
  unfold Region.ready
  simp only [List.mem_filter, List.mem_range, Bool.and_eq_true, Bool.not_eq_true']
  refine ⟨h1, h2, ?_⟩
  rw [ho]
  simp only [Option.map_some, Option.getD_some]
  refine Array.all_eq_true_iff_forall_mem.2 fun e he => ?_
  cases hb : Region.binds .any e with
  | false => rfl
  | true => simp [h e (by simpa using he) hb]
structure Left (C : Cx) (n : Nat) (ops : Array Oper) (base : Nat) (listed : Array Bool) (R : List Did) (s sf : FSt) : Prop where
  size : listed.size = ops.size
  left : ∀ i, i < ops.size → (listed.getD i true = false ↔ ∃ d ∈ R, d.i = i)
  sorted : R.Pairwise fun a b => a.i < b.i
  inv : ∀ j, j < ops.size → listed.getD j true = true → ∀ x, ((befores ops.toList []).getD j 0).testBit x = true → listed.getD x false = true
  indep : R.Pairwise fun a b => ((befores ops.toList []).getD b.i 0).testBit a.i = true ∨ indep a.log b.log = true
  all : ∀ d ∈ R, ops[d.i]? = some d.o ∧ GdIs ops.toList d.o d.gd ∧ d.g = base + d.i
  seq : Seq C n R s sf
theorem getD_same {l : Array Bool} {i : Nat} (h : i < l.size) : l.getD i false = l.getD i true := by simp [Array.getD, h]
theorem Left.done {ops : Array Oper} {base : Nat} {listed : Array Bool} {R : List Did} {s sf : FSt} (h : Left C n ops base listed R s sf) (hb : backB 0 ops.toList = true) (hr : Region.ready .any ops listed = []) : s = sf := by
  cases R with
  | nil => exact h.seq
  | cons d R =>
    exfalso
    obtain ⟨ho, _, _⟩ := h.all d (by simp)
    have hi : d.i < ops.size := (Array.getElem?_eq_some_iff.1 ho).1
    have : d.i ∈ Region.ready .any ops listed := by
      refine ready_of hi ((h.left d.i hi).2 ⟨d, by simp, rfl⟩) ho fun e he hbe => ?_
      have hlt := back_get ops.toList 0 hb d.i d.o (by simpa using ho) e he hbe
      rw [Nat.zero_add] at hlt
      rw [getD_same (by rw [h.size]; omega)]
      cases hl : listed.getD e.on true with
      | true => rfl
      | false =>
        obtain ⟨d', hd', e'⟩ := (h.left e.on (by omega)).1 hl
        rcases List.mem_cons.1 hd' with rfl | hd'
        · omega
        · have := List.rel_of_pairwise_cons h.sorted hd'
          omega
    rw [hr] at this
    simp at this
theorem any_sound {ops : Array Oper} {base : Nat} {Q : Exit → Act → World → Prop} {sf : FSt} {P : Program} (hC : CxOk C P) (hF : CallsOk C P) {c0 : Ctx} (hP : c0.P = P) (hb : backB 0 ops.toList = true) (hQ : ∀ c μ fp a w, Ext c0 c → RelX c μ fp sf n a w → Q .normal a w) :
    ∀ (fuel : Nat) (listed : Array Bool) (R : List Did) (s : FSt) (μ : Nat → Loc) (fp : Nat → List Nat) (a : Act) (w : World) (c : Ctx), Ext c0 c → R.length ≤ fuel → Left C n ops base listed R s sf → RelX c μ fp s n a w → wpAny P .any ops Q fuel listed a w
  | 0, listed, R, s, μ, fp, a, w, c, ec, hl, h, hx => by
    obtain rfl : R = [] := List.eq_nil_of_length_eq_zero (by omega)
    have hr : Region.ready .any ops listed = [] := by
      cases hr : Region.ready .any ops listed with
      | nil => rfl
      | cons i r =>
        obtain ⟨h1, h2, _⟩ := ready_mem (i := i) (by rw [hr]; simp)
        obtain ⟨d, hd, _⟩ := (h.left i h1).1 h2
        simp at hd
    exact ⟨hr, by have := h.done hb hr; subst this; exact hQ c μ fp a w ec hx⟩
  | fuel + 1, listed, R, s, μ, fp, a, w, c, ec, hl, h, hx => by
    have hcP : c.P = P := ec.P.trans hP
    refine ⟨fun hr => by have := h.done hb hr; subst this; exact hQ c μ fp a w ec hx, fun i hi => ?_⟩
    obtain ⟨h1, h2, o, ho, hedge⟩ := ready_mem hi
    obtain ⟨d, hd, rfl⟩ := (h.left i h1).1 h2
    obtain ⟨A, A', rfl⟩ := List.append_of_mem hd
    obtain ⟨hod, hgd, hgb⟩ := h.all d hd
    rw [hod] at ho; cases ho
    -- what is done ahead of it is listed
    have hbef : ∀ x, ((befores ops.toList []).getD d.i 0).testBit x = true → listed.getD x false = true := by
      intro x hxb
      obtain ⟨e, he, hbe, h3⟩ := before_mem (by simpa using hod) hxb
      have hle := hedge e he hbe
      rcases h3 with rfl | ⟨hlt, h3⟩
      · exact hle
      · exact h.inv e.on (by omega) (by rw [← getD_same (by rw [h.size]; omega)]; exact hle) x h3
    have hsort := List.pairwise_append.1 h.sorted
    have hind := List.pairwise_append.1 h.indep
    have hfirst : ∀ x ∈ A, Indep x d ∧ x.g ≠ d.g := by
      intro x hxA
      have hlt : x.i < d.i := hsort.2.2 x hxA d (by simp)
      refine ⟨?_, ?_⟩
      · rcases hind.2.2 x hxA d (by simp) with hb1 | hb1
        · exfalso
          have := hbef x.i hb1
          rw [getD_same (by rw [h.size]; omega), (h.left x.i (by omega)).2 ⟨x, by simp [hxA], rfl⟩] at this
          cases this
        · exact Indep.of hb1
      · rw [(h.all x (by simp [hxA])).2.2, hgb]; omega
    have hseq := h.seq.first hfirst
    rw [← hcP]
    refine did_sound (by rw [hcP]; exact hC) (by rw [hcP]; exact hF) hx hseq.1 hod hgd fun c' a' w' μ' fp' e' hx' => ?_
    rw [hcP]
    have hsub : (A ++ A').Sublist (A ++ d :: A') := (List.sublist_cons_self d A').append_left A
    have hne : ∀ x ∈ A ++ A', x.i ≠ d.i := by
      intro x hxm
      rcases List.mem_append.1 hxm with hxm | hxm
      · have := hsort.2.2 x hxm d (by simp); omega
      · have := List.rel_of_pairwise_cons hsort.2.1 hxm; omega
    have hset : ∀ j dflt, j < ops.size → (listed.setIfInBounds d.i true).getD j dflt = if d.i = j then true else listed.getD j dflt := by
      intro j dflt hj
      have hjl : j < listed.size := by rw [h.size]; exact hj
      simp only [Array.getD_eq_getD_getElem?, Array.getElem?_setIfInBounds]
      by_cases e : d.i = j
      · rw [if_pos e, if_pos e, if_pos (by omega)]; rfl
      · rw [if_neg e, if_neg e]
    refine any_sound hC hF hP hb hQ fuel _ (A ++ A') _ μ' fp' a' w' c' (ec.trans e') (by simp at hl ⊢; omega) ⟨by simp [h.size], ?_, h.sorted.sublist hsub, ?_, h.indep.sublist hsub, fun x hxm => h.all x (hsub.subset hxm), hseq.2⟩ hx'
    · intro j hj
      rw [hset j true hj]
      by_cases e : d.i = j
      · rw [if_pos e]
        constructor
        · intro h; cases h
        · rintro ⟨x, hxm, rfl⟩; exact absurd e.symm (hne x hxm)
      · rw [if_neg e, h.left j hj]
        constructor
        · rintro ⟨x, hxm, rfl⟩
          refine ⟨x, ?_, rfl⟩
          simp only [List.mem_append, List.mem_cons] at hxm ⊢
          rcases hxm with hxm | rfl | hxm
          · exact .inl hxm
          · exact absurd rfl e
          · exact .inr hxm
        · rintro ⟨x, hxm, rfl⟩
          exact ⟨x, hsub.subset hxm, rfl⟩
    · intro j hj hlj x hxb
      have key : listed.getD x false = true := by
        rw [hset j true hj] at hlj
        by_cases e : d.i = j
        · subst e; exact hbef x hxb
        · rw [if_neg e] at hlj
          exact h.inv j hj hlj x hxb
      have hxs : x < ops.size := by
        rcases Nat.lt_or_ge x listed.size with hlt | hge
        · rw [h.size] at hlt; exact hlt
        · simp [Array.getD, Nat.not_lt.2 hge] at key
      rw [hset x false hxs]
      split
      · rfl
      · exact key
end
end
end Go.Proofs.YtnnpnkegpkladaaGreat.Dm
