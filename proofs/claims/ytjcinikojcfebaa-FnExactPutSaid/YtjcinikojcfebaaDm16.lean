/- The data machine, part 16: values built out of parts. -/
import Derived.Test.YtjcinikojcfebaaDm15
import Derived.Laws.Tables
namespace Go.Proofs.Ytjcinikojcfebaa.Dm
open Go

theorem fold_cells (off : Nat) : ∀ (l : List Value) (k : Nat) (A : Array Value), off + k + l.length ≤ A.size →
    (l.zipIdx k).foldl (fun cs (x : Value × Nat) => cs.setIfInBounds (off + x.2) x.1) A = spliced A (off + k) l
  | [], k, A, _ => by
    simp [spliced]
  | x :: l, k, A, h => by
    simp only [List.length_cons] at h
    rw [List.zipIdx_cons, List.foldl_cons, show k + 1 = k + 1 from rfl, fold_cells off l (k + 1) _ (by simp; omega)]
    apply Array.ext_getElem?
    intro j
    rw [spliced_get (by simp; omega), spliced_get (by simp; omega)]
    simp only [List.length_cons]
    by_cases h1 : j = off + k
    · subst h1
      rw [if_neg (by omega), if_pos (by omega), Array.getElem?_setIfInBounds, if_pos rfl]
      simp; omega
    · by_cases h2 : off + (k + 1) ≤ j ∧ j < off + (k + 1) + l.length
      · rw [if_pos h2, if_pos (by omega), show j - (off + k) = (j - (off + (k + 1))) + 1 by omega, List.getElem?_cons_succ]
      · rw [if_neg h2, if_neg (by omega), Array.getElem?_setIfInBounds, if_neg (by simpa using fun e => h1 e.symm)]

theorem fold_cells' (off : Nat) (v : Array Value) (A : Array Value) (h : off + v.size ≤ A.size) :
    v.zipIdx.foldl (fun cs (x : Value × Nat) => cs.setIfInBounds (off + x.2) x.1) A = spliced A off v.toList := by
  have := fold_cells off v.toList 0 A (by simpa using h)
  rw [Nat.add_zero] at this
  rw [← this, ← Array.foldl_toList, Array.toList_zipIdx]

theorem run_fill {place : Nat → Option (Nat × Nat)} {A : Array Value} {i : Nat} {v : Value} {r : List (Nat × Value)} {off size : Nat} (hp : place i = some (off, size)) (hv : v.cells.size = size) (h : off + size ≤ A.size) :
    Instr.fill place A ((i, v) :: r) = Instr.fill place (spliced A off v.cells.toList) r := by
  rw [Instr.fill]
  simp only [hp]
  rw [if_neg (by simp [hv]; omega), ← fold_cells' off v.cells A (by omega)]

theorem Tys.OkF.places {P : Program} : (ts : Tys) → ∀ {fs : List Field} {o : Nat}, ts.OkF P fs o →
    ∃ places, fs.mapM (fun f => (P.info? f.type).map fun i => (f.offset, i.size)) = some places ∧ ∀ k r, ts.offset k = some r → places[k]? = some (o + r.1, r.2.size)
  | .nil, fs, o, h => by
    simp only [Tys.OkF] at h; subst h
    exact ⟨[], by simp, fun k r hk => by simp [Tys.offset] at hk⟩
  | .cons t ts, fs, o, h => by
    simp only [Tys.OkF] at h
    obtain ⟨f, q, rfl, h1, h2, h3⟩ := h
    obtain ⟨places, hp, hk⟩ := Tys.OkF.places ts h3
    obtain ⟨i, z, hi, hs, _⟩ := h2.base
    refine ⟨(f.offset, i.size) :: places, by simp [List.mapM_cons, hi, hp], ?_⟩
    intro k r hr
    cases k with
    | zero =>
      simp only [Tys.offset, Option.some.injEq] at hr
      subst hr
      simp [h1, hs]
    | succ k =>
      simp only [Tys.offset] at hr
      obtain ⟨r', hr', rfl⟩ := Option.map_eq_some_iff.1 hr
      simpa [Nat.add_assoc] using hk k r' hr'

section
variable {c : Ctx} {μ : Nat → Loc} {fp : Nat → List Nat} {s : FSt} {n : Nat} {o : Oper} {a : Act} {w : World} {r : Res} {C : Cx} {E : Env}

theorem Ty.field_le {P : Program} {t : Ty} {tid : TypeId} (h : t.Ok P tid) {k : Nat} {r : Nat × Ty} (hk : t.field k = some r) : r.1 + r.2.size ≤ t.size := by
  obtain ⟨_, _, _, _, _, _, h⟩ := h.field hk; exact h

theorem fill_rel {P : Program} {t : Ty} {tid : TypeId} (hok : t.Ok P tid) {place : Nat → Option (Nat × Nat)} (hp : ∀ k r, t.field k = some r → place k = some (r.1, r.2.size)) {ev : Operand → DVal} {av : Operand → Value} :
    ∀ (ps : List (Nat × Operand)) (A : Array Value) (cs cs' : List DVal), (∀ x ∈ ps, VRel c μ (av x.2) (ev x.2)) → A.size = t.size → VsRel c μ A.toList cs → fillAt t ev ps cs = some cs' →
      ∃ A', Instr.fill place A (ps.map fun x => (x.1, av x.2)) = some A' ∧ VsRel c μ A'.toList cs'
  | [], A, cs, cs', _, _, hr, h => by
    simp only [fillAt, Option.some.injEq] at h; subst h
    exact ⟨A, rfl, hr⟩
  | (k, x) :: ps, A, cs, cs', hev, hz, hr, h => by
    simp only [fillAt] at h
    split at h
    · rename_i off u hf
      split at h
      · rename_i hc
        have hx := (hev (k, x) (by simp)).cells hc.2
        have hl := hx.length
        have hle := Ty.field_le hok hf
        have hvs : (av x).cells.size = u.size := by rw [← hc.1, ← hl]; simp
        simp only at hle
        rw [List.map_cons, run_fill (hp k _ hf) hvs (by simp only; omega)]
        refine fill_rel hok hp ps _ _ _ (fun y hy => hev y (by simp [hy])) ?_ ?_ h
        · rw [spliced_size (by simp; omega)]; exact hz
        · have := spliceL_rel hr hx off
          simpa [spliced] using this
      · cases h
    · cases h

variable (h : RelX c μ fp s n a w)
include h

theorem RelX.known_ev (x : Operand) : ∀ id ∈ (evF s.t x).ids, s.k id := by
  intro id hi
  cases x with
  | tmp j => exact h.known.t j id hi
  | const v => simp only [evF, ofValue] at hi; split at hi <;> (try split at hi) <;> simp [DVal.ids] at hi
  | func f => simp [evF, DVal.ids, DVal.idsL] at hi
  | global g => simp [evF, DVal.ids] at hi

theorem sim_build (hC : CxOk C c.P) {t : TypeId} {ps : Array (Nat × Operand)} (ho : o.op = .build t ps) {fr : Nat}
    (hfr : ∀ id, fr ≤ id → id < fr + 64 → ¬ s.k id)
    (hr : (Out.of (C.ty t) fun t => if t.isSt = true ∧ (t.thaw t.zero fr).2.2 ≤ fr + 64 then
      .of (fillAt t (evF s.t) ps.toList (t.thaw t.zero fr).1) fun cs => .ret (.agg cs, news (t.thaw t.zero fr).2.1) else .fail).eval = some r) : Sim c μ s o a w r := by
  replace hr := of_eval hr
  obtain ⟨ty, hty, hr⟩ := hr
  have hok := hC.ty t ty hty
  split at hr
  case isFalse => cases hr
  rename_i hst
  obtain ⟨hst, h64⟩ := hst
  replace hr := of_eval hr
  obtain ⟨cs, hcs, hr⟩ := hr
  have hr := Option.some.inj hr
  subst hr
  obtain ⟨μ1, fp1, r1, ch⟩ := h.thaw_zero ty (k := fr) (fun id h1 h2 => hfr id h1 (by omega))
  obtain ⟨i, z, hi, hs, _, hz, hzc, hpos⟩ := hok.base
  have hev : ∀ x : Operand, VRel c μ1 (a.eval x) (evF s.t x) := fun x => VRel.mono _ (fun id hid => ch.agree id (h.known_ev x id hid)) (h.ev_rel x)
  cases ty with
  | st fs =>
    have hok' := hok
    simp only [Ty.Ok] at hok'
    obtain ⟨_, fields, hu, hf⟩ := hok'
    obtain ⟨places, hp, hk⟩ := Tys.OkF.places fs hf
    have hzs : z.cells.size = (Ty.st fs).size := by rw [← hs]; have := Ty.zeroV_length (Ty.st fs); rw [← hzc] at this; simpa [hs] using this
    obtain ⟨A', hA, hrel⟩ := fill_rel (c := c) (μ := μ1) hok (place := fun i => places.toArray[i]?) (fun k r hr => by simpa using hk k r (by simpa [Ty.field] using hr)) (ev := evF s.t) (av := a.eval) ps.toList z.cells _ cs (fun x _ => hev x.2) hzs (by rw [hzc]; exact r1) hcs
    have hb : c.P.built t ((ps.map fun (i, x) => (i, a.eval x)).toList) = some A' := by
      unfold Program.built
      simp only [hi, hu, hz, hp, Array.toList_map]
      exact hA
    have hrun := run_build (P := c.P) w t _ A' hb
    refine sim_value (v' := .agg A') (by simp [execOp, ho, hrun]) ⟨ch.agree, ?_, ch.rel, h.ev⟩
    simp only [VRel]
    exact ⟨A', rfl, hrel⟩
  | _ => simp [Ty.isSt] at hst
end
end Go.Proofs.Ytjcinikojcfebaa.Dm
