/- The data machine, part 11: parts of slices and texts. -/
import Derived.Test.YtjcinikojcfebaaDm10
namespace Go.Proofs.Ytjcinikojcfebaa.Dm
open Go

section
variable {c : Ctx} {μ : Nat → Loc} {fp : Nat → List Nat} {s : FSt} {n : Nat} {o : Oper} {a : Act} {w : World} {r : Res} {C : Cx} {E : Env}

theorem extract_bytes (x : List UInt8) (l h : Nat) : (ByteArray.mk x.toArray).extract l h = ByteArray.mk ((x.take h).drop l).toArray := by
  apply ByteArray.ext
  simp [List.extract_eq_take_drop, List.drop_take]

theorem bound_run {P : Program} {kd : IntKind} {i : Int} {y : Nat} {code : BoundsCode} (h0 : 0 ≤ i) (h1 : i ≤ y) : (Instr.sliceBound (.int kd i) y code).run P w = .ok i.toNat w :=
  run_sliceBound w kd i y code h0 h1

/-- The bounds of a slice expression: what each stands for. -/
theorem bounds_run {P : Program} {isS : Bool} {len cap : Nat} {lo hi : Option Value} {lo' hi' : Option Int} (hlo : ∀ v, lo = some v → ∃ k i, v = .int k i ∧ lo' = some i) (hhi : ∀ v, hi = some v → ∃ k i, v = .int k i ∧ hi' = some i)
    (nlo : lo = none → lo' = none) (nhi : hi = none → hi' = none) (hlc : len ≤ cap)
    (h : 0 ≤ lo'.getD 0 ∧ lo'.getD 0 ≤ hi'.getD len ∧ hi'.getD len ≤ (len : Int)) :
    (Instr.sliceBounds isS len cap lo hi none).run P w = .ok ((lo'.getD 0).toNat, (hi'.getD len).toNat, cap) w := by
  have e2 : ∀ (code : BoundsCode), (match hi, (none : Option Value) with
      | some v, some _ => Instr.sliceBound v cap .slice3B
      | some v, none => Instr.sliceBound v cap code
      | none, none => pure len
      | none, some _ => stuck "Slice: max without high").run P w = .ok (hi'.getD len).toNat w := by
    intro code
    cases hi with
    | none => simp [nhi rfl]
    | some v =>
      obtain ⟨k, i, rfl, e⟩ := hhi v rfl
      rw [e] at h ⊢
      simp only [Option.getD_some] at h ⊢
      exact bound_run (by omega) (by omega)
  have e3 : (match lo with
      | some v => Instr.sliceBound v (hi'.getD len).toNat .sliceB
      | none => pure 0).run P w = .ok (lo'.getD 0).toNat w := by
    cases lo with
    | none => simp [nlo rfl]
    | some v =>
      obtain ⟨k, i, rfl, e⟩ := hlo v rfl
      rw [e] at h ⊢
      simp only [Option.getD_some] at h ⊢
      exact bound_run h.1 (by omega)
  unfold Instr.sliceBounds
  simp only [Sem.run_bind, Sem.run_pure, Result.andThen_ok]
  cases isS
  · have := e2 .sliceAlen
    cases hi <;> cases lo <;> simp_all
  · have := e2 .sliceAcap
    cases hi <;> cases lo <;> simp_all

variable (h : RelX c μ fp s n a w)
include h

theorem RelX.bound {z : Option Operand} {l : Option (Option Int)} (hl : z.map (fun q => getI (evF s.t q)) = l) (hn : l ≠ some none) :
    (∀ v, z.map a.eval = some v → ∃ k i, v = .int k i ∧ l.bind id = some i) ∧ (z.map a.eval = none → l.bind id = none) := by
  cases z with
  | none => subst hl; simp
  | some q =>
    simp only [Option.map_some] at hl ⊢
    subst hl
    cases hg : getI (evF s.t q) with
    | none => simp [hg] at hn
    | some i =>
      obtain ⟨kd, e⟩ := getI_eq hg
      have := h.ev_rel q
      rw [e] at this
      simp only [VRel] at this
      exact ⟨fun v hv => ⟨kd, i, by cases hv; exact this, by simp⟩, by simp⟩

theorem sim_slice (hC : CxOk C c.P) (hE : ∀ id x, E id = some x → s.v id = some x) {t : TypeId} {x : Operand} {lo hi : Option Operand} (ho : o.op = .slice t x lo hi none)
    (hr : (Out.of (C.ty t) fun t =>
    match lo.map fun z => getI (evF s.t z), hi.map fun z => getI (evF s.t z) with
    | some none, _ => .fail
    | _, some none => .fail
    | l, h => sliceT E t (evF s.t x) (l.bind id) (h.bind id)).eval = some r) : Sim c μ s o a w r := by
  have hx := h.ev_rel x
  obtain ⟨ty, hty, hr⟩ := of_eval hr
  have hok := hC.ty t ty hty
  generalize hl : lo.map (fun z => getI (evF s.t z)) = l at hr
  generalize hh : hi.map (fun z => getI (evF s.t z)) = hv at hr
  have hnl : l ≠ some none := by rintro rfl; cases hr
  have hnh : hv ≠ some none := by rintro rfl; split at hr <;> first | cases hr | simp_all
  obtain ⟨bl, nl⟩ := h.bound hl hnl
  obtain ⟨bh, nh⟩ := h.bound hh hnh
  have hr : (sliceT E ty (evF s.t x) (l.bind id) (hv.bind id)).eval = some r := by
    split at hr
    · cases hr
    · cases hr
    · exact hr
  generalize l.bind id = lo' at bl nl hr
  generalize hv.bind id = hi' at bh nh hr
  unfold sliceT at hr
  split at hr
  · rename_i x' e _
    rw [e] at hx
    simp only [VRel] at hx
    simp only [Ty.Ok] at hok
    have run : 0 ≤ lo'.getD 0 ∧ lo'.getD 0 ≤ hi'.getD x'.length ∧ hi'.getD x'.length ≤ (x'.length : Int) →
        (execOp a.eval o).run c.P w = .ok (.value (.string ⟨((x'.take (hi'.getD x'.length).toNat).drop (lo'.getD 0).toNat).toArray⟩)) w := by
      intro hb
      have := bounds_run (w := w) (P := c.P) (isS := false) (len := x'.length) (cap := x'.length) bl bh nl nh (Nat.le_refl _) hb
      simp [execOp, ho, hx, Instr.sliceAt, Instr.slice, run_underlying hok.2, bytes_size, this, extract_bytes]
    unfold sliceS at hr
    split at hr
    · rcases ite_eval hr with ⟨h0, hr⟩ | ⟨_, hr⟩
      · have h0 := of_decide_eq_true h0
        rw [ret1_eval hr]
        refine sim_pure h (run ⟨h0.1, by simpa using h0.2, by simp⟩) ?_
        have := hx.2
        simp [VRel]
        omega
      · cases hr
    · rcases ite_eval hr with ⟨h0, hr⟩ | ⟨_, hr⟩
      · have h0 := of_decide_eq_true h0
        rw [ret1_eval hr]
        refine sim_pure h (run ⟨h0.1, by simpa using h0.2.1, by simpa using h0.2.2⟩) ?_
        have := hx.2
        simp [VRel]
        omega
      · cases hr
  · rename_i e _
    obtain ⟨eid, hu, hoke⟩ := hok.sl
    have run : ∀ (ad : Option Addr) (len cap : Nat), a.eval x = .slice ad len cap → len ≤ cap → 0 ≤ lo'.getD 0 ∧ lo'.getD 0 ≤ hi'.getD len ∧ hi'.getD len ≤ (len : Int) →
        (execOp a.eval o).run c.P w = .ok (.value (.slice (if cap = (lo'.getD 0).toNat then ad else ad.map (·.add ((lo'.getD 0).toNat * e.size))) ((hi'.getD len).toNat - (lo'.getD 0).toNat) (cap - (lo'.getD 0).toNat))) w := by
      intro ad len cap hv hlc hb
      have := bounds_run (w := w) (P := c.P) (isS := true) (len := len) (cap := cap) bl bh nl nh hlc hb
      simp [execOp, ho, hv, Instr.sliceAt, Instr.slice, run_underlying hu, this, hoke.run_size]
    unfold sliceD at hr
    split at hr
    · rename_i e' xs tk ex
      rw [ex] at hx
      simp only [VRel] at hx
      obtain ⟨hrep, _⟩ := hx
      split at hr
      · rename_i hsz
        have hv : ∃ ad cap, a.eval x = .slice ad xs.length cap ∧ xs.length ≤ cap ∧ (xs = [] ∨ ∃ b o', ad = some ⟨b, o', none⟩) := by
          simp only [Ty.repS] at hrep
          obtain ⟨ad, cap, e1, hc, h3⟩ := hrep
          refine ⟨ad, cap, (List.cons.inj e1).1, hc.1, ?_⟩
          rcases h3 with h3 | ⟨b, o', h3, _⟩
          · exact .inl h3
          · exact .inr ⟨b, o', h3⟩
        obtain ⟨ad, cap, hv, hc, had⟩ := hv
        -- what comes of it, in one form
        have fin : 0 ≤ lo'.getD 0 ∧ lo'.getD 0 ≤ hi'.getD xs.length ∧ hi'.getD xs.length ≤ (xs.length : Int) →
            Sim c μ s o a w (.ro e' ((xs.drop (lo'.getD 0).toNat).take ((hi'.getD xs.length).toNat - (lo'.getD 0).toNat)) none, []) := by
          intro hb
          refine sim_pure h (run ad xs.length cap hv hc hb) ?_
          simp only [VRel]
          refine ⟨?_, by simp⟩
          rw [hv] at hrep
          by_cases hx0 : xs = []
          · subst hx0
            simp only [List.length_nil] at hb ⊢
            have e1 : (hi'.getD (0 : Nat)).toNat - (lo'.getD 0).toNat = 0 := by omega
            rw [e1]
            simp only [List.take_zero]
            simp only [Ty.repS]
            exact ⟨_, _, rfl, ⟨Nat.zero_le _, Nat.zero_le _⟩, .inl rfl⟩
          · obtain ⟨b, o', rfl⟩ := had.resolve_left hx0
            refine repS_sub hrep (by omega) ?_
            by_cases hcc : cap = (lo'.getD 0).toNat
            · left; omega
            · right; refine ⟨b, o', rfl, ?_⟩
              rw [if_neg hcc]
              simp only [Option.map_some, Addr.add, hsz]
              split <;> simp_all
        split at hr
        · rcases ite_eval hr with ⟨h0, hr⟩ | ⟨_, hr⟩
          · have h0 := of_decide_eq_true h0
            rw [ret1_eval hr]
            have := fin ⟨h0.1, by simpa using h0.2, by simp⟩
            simpa [List.take_of_length_le] using this
          · cases hr
        · rcases ite_eval hr with ⟨h0, hr⟩ | ⟨_, hr⟩
          · have h0 := of_decide_eq_true h0
            rw [ret1_eval hr]
            have := fin ⟨h0.1, by simpa using h0.2.1, by simpa using h0.2.2⟩
            simpa [List.drop_take] using this
          · cases hr
      · cases hr
    · rename_i id vw ex
      rw [ex] at hx
      obtain ⟨m, hm, hr⟩ := of_eval hr
      split at hr
      · rename_i hsz
        rcases ite_eval hr with ⟨h0, hr⟩ | ⟨_, hr⟩
        · have h0 := of_decide_eq_true h0
          rw [ret1_eval hr]
          obtain ⟨ad, len, cap, g1, g2, g3, g4⟩ := itemSize_rel h.vs hE hsz
          rcases vw with _ | ⟨off, l1⟩
          · simp only [VRel] at hx
            obtain ⟨ad', len', cap', sz, q1, hv⟩ := hx
            rw [g1] at q1; cases q1
            obtain rfl : len = m := Option.some.inj (g4.symm.trans hm)
            refine sim_pure h (run ad len cap hv g2 h0) ?_
            simp only [VRel, Option.map_none, Option.getD_none, Nat.zero_add]
            refine ⟨ad, len, cap, e.size, _, g1, by omega, g2, rfl, ?_⟩
            by_cases hcc : cap = (lo'.getD 0).toNat
            · left; omega
            · right
              obtain ⟨b, o', rfl⟩ := g3 (by omega)
              refine ⟨b, o', rfl, ?_⟩
              rw [if_neg hcc]
              simp only [Option.map_some, Addr.add]
              split <;> simp_all
          · simp only [VRel] at hx
            obtain ⟨ad', len', cap', sz, ad2, q1, q2, q3, hv, q4⟩ := hx
            rw [g1] at q1; cases q1
            obtain rfl : l1 = m := Option.some.inj hm
            refine sim_pure h (run ad2 l1 (cap - off) hv (by omega) h0) ?_
            simp only [VRel, Option.map_some, Option.getD_some]
            refine ⟨ad, len, cap, e.size, _, g1, by omega, g2, by rw [Nat.sub_sub], ?_⟩
            by_cases hcc : cap - off = (lo'.getD 0).toNat
            · left; omega
            · right
              rcases q4 with q4 | ⟨b, o', rfl, rfl⟩
              · omega
              refine ⟨b, o', rfl, ?_⟩
              rw [if_neg hcc]
              simp only [Option.map_some, Addr.add]
              split
              · rename_i hz; simp only [Option.some.injEq, Addr.mk.injEq, true_and, and_true]; rw [Nat.add_mul]; omega
              · simp only [Option.some.injEq, Addr.mk.injEq, true_and, and_true]; rw [Nat.add_mul]; omega
        · cases hr
      · cases hr
    · cases hr
  · cases hr
end
end Go.Proofs.Ytjcinikojcfebaa.Dm
