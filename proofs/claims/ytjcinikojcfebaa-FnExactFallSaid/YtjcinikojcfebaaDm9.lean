/- The data machine, part 9: more operations that only look: comparing, converting, addresses, parts of slices. -/
import Derived.Test.YtjcinikojcfebaaDm8
import Derived.Laws.BytesArg
namespace Go.Proofs.Ytjcinikojcfebaa.Dm
open Go

/-- What is asked of a struct type whose values are compared. -/
def StructEqOk (P : Program) (tid : TypeId) : Prop :=
  P.stoodInHeld tid = false ∧ P.eqGuardType P.depth tid = false ∧ ∃ fields, P.underlying tid = some (.struct fields) ∧ ∀ f ∈ fields.toList, f.name ≠ "_"

structure CxOk (C : Cx) (P : Program) : Prop where
  ty : ∀ tid t, C.ty tid = some t → t.Ok P tid
  eqv : ∀ tid, C.eqv tid = true → StructEqOk P tid

section
variable {c : Ctx} {μ : Nat → Loc} {fp : Nat → List Nat} {s : FSt} {n : Nat} {o : Oper} {a : Act} {w : World} {r : Res}

/-! ### structs compared -/
theorem part_one {P : Program} {tid : TypeId} {t : Ty} (h : t.Ok P tid) (ht : t.isSt = false) {xs : Array Value} {off : Nat} {v : Value} (hv : xs[off]? = some v) :
    (part tid xs off).run P w = .ok v w := by
  simp [part, h.run_isAgg, ht, hv]

theorem eqCell_run {P : Program} {t : Ty} {tid : TypeId} {x y : DVal} {b : Bool} {v u : Value} (ht : t.Ok P tid) (he : eqCell t x y = some b) (hv : VRel c μ v x) (hu : VRel c μ u y) :
    t.size = 1 ∧ t.isSt = false ∧ ∀ d, (Op.equalIn (d + 1) tid v u).run P w = .ok b w := by
  unfold eqCell at he
  split at he
  · cases he
    simp only [VRel] at hv hu; subst hv hu
    simp only [Ty.Ok] at ht
    exact ⟨rfl, rfl, fun d => run_equalIn_bool' w d tid _ _ ht.2⟩
  · split at he
    · rename_i hk; obtain ⟨rfl, rfl⟩ := hk; cases he
      simp only [VRel] at hv hu; subst hv hu
      simp only [Ty.Ok] at ht
      exact ⟨rfl, rfl, fun d => run_equalIn_int w d tid _ _ _ _ ht.2⟩
    · cases he
  · cases he
    simp only [VRel] at hv hu; obtain ⟨rfl, _⟩ := hv; obtain ⟨rfl, _⟩ := hu
    simp only [Ty.Ok] at ht
    refine ⟨rfl, rfl, fun d => ?_⟩
    rw [run_equalIn_string w d tid _ _ ht.2, bytes_toList, bytes_toList]
  · cases he

theorem eqFields_run {P : Program} {x y : Array Value} : (ts : Tys) → ∀ {fs : List Field} {off : Nat} {dx dy : List DVal} {z : Bool}, ts.OkF P fs off → (∀ f ∈ fs, f.name ≠ "_") →
    VsRel c μ (x.toList.drop off) dx → VsRel c μ (y.toList.drop off) dy → ts.eqC dx dy = some z → ∀ (d : Nat), (Op.eqFields (d + 1) x y fs).run P w = .ok z w
  | .nil, fs, off, dx, dy, z, hf, _, hx, hy, he, d => by
    simp only [Tys.OkF] at hf
    subst hf
    unfold Tys.eqC at he
    split at he
    · cases he; rfl
    · rename_i e; cases e
    · cases he
  | .cons t ts, fs, off, dx, dy, z, hf, hn, hx, hy, he, d => by
    simp only [Tys.OkF] at hf
    obtain ⟨f, q, rfl, h1, h2, h3⟩ := hf
    have hname : f.name ≠ "_" := hn f (by simp)
    cases dx with
    | nil => cases dy <;> cases he
    | cons d0 dx' =>
    cases dy with
    | nil => cases he
    | cons e0 dy' =>
      obtain ⟨b, hb, he⟩ := Option.bind_eq_some_iff.1 (show ((eqCell t d0 e0).bind fun b => (ts.eqC dx' dy').map fun z => b && z) = some z from he)
      obtain ⟨z', hz, rfl⟩ := Option.map_eq_some_iff.1 he
      simp only [VsRel] at hx hy
      obtain ⟨v, vs, ex, hv, hx⟩ := hx
      obtain ⟨u, us, ey, hu, hy⟩ := hy
      obtain ⟨hsz, hst, heq⟩ := eqCell_run (w := w) h2 hb hv hu
      have hxo : x[off]? = some v := by
        have := congrArg (fun l => l[0]?) ex
        simpa [List.getElem?_drop] using this
      have hyo : y[off]? = some u := by
        have := congrArg (fun l => l[0]?) ey
        simpa [List.getElem?_drop] using this
      have hx' : VsRel c μ (x.toList.drop (off + 1)) dx' := by
        have : x.toList.drop (off + 1) = vs := by rw [← List.drop_drop, ex]; rfl
        rw [this]; exact hx
      have hy' : VsRel c μ (y.toList.drop (off + 1)) dy' := by
        have : y.toList.drop (off + 1) = us := by rw [← List.drop_drop, ey]; rfl
        rw [this]; exact hy
      rw [hsz] at h3
      have ih := eqFields_run ts h3 (fun f hf => hn f (by simp [hf])) hx' hy' hz d
      have p1 := part_one (w := w) (xs := x) (off := f.offset) h2 hst (by rw [h1]; exact hxo)
      have p2 := part_one (w := w) (xs := y) (off := f.offset) h2 hst (by rw [h1]; exact hyo)
      simp only [Op.eqFields, hname, ne_eq, not_false_eq_true, if_true, Sem.run_bind, p1, p2, Result.andThen_ok, heq d, Sem.run_ite, Sem.run_pure, ih]
      cases b <;> simp

variable (h : RelX c μ fp s n a w)
include h

theorem sim_binOp {C : Cx} (hC : CxOk C c.P) {op : BinOp} {t yt : TypeId} {x y : Operand} (ho : o.op = .binOp op t x y yt)
    (hr : (match evF s.t x, evF s.t y with
    | .agg a, .agg b => .of (C.ty t) fun ty => if C.eqv t = true then
        .of (ty.eqC a b) fun z => eqOut op z else .fail
    | a, b => binD (C.ty t) op a b : Out Res).eval = some r) : Sim c μ s o a w r := by
  have hx := h.ev_rel x
  have hy := h.ev_rel y
  split at hr
  · rename_i da db ea eb
    rw [ea] at hx; rw [eb] at hy
    simp only [VRel] at hx hy
    obtain ⟨vx, e1, hx⟩ := hx
    obtain ⟨vy, e2, hy⟩ := hy
    obtain ⟨ty, hty, hr⟩ := of_eval hr
    split at hr
    · rename_i hq
      obtain ⟨g1, g2, fields, hu, hnm⟩ := hC.eqv t hq
      obtain ⟨z, hz, hr⟩ := of_eval hr
      have hok := hC.ty t ty hty
      have hrun : (Op.equalIn 10000 t (.agg vx) (.agg vy)).run c.P w = .ok z w := by
        have hfo : c.P.fieldsOf t = fields := by simp [Program.fieldsOf, hu]
        rw [run_equalIn_struct w 9999 t vx vy (by rw [hfo]; exact hu) g1, hfo]
        cases ty <;> simp only [Ty.eqC] at hz <;> try (cases hz; done)
        simp only [Ty.Ok] at hok
        obtain ⟨_, fields', hu', hf⟩ := hok
        rw [hu] at hu'; cases hu'
        exact eqFields_run _ hf hnm (by simpa using hx) (by simpa using hy) hz 9998
      cases op <;> try (cases hr; done)
      · rw [ret1_eval hr]
        refine sim_pure h (v' := .bool z) ?_ (by simp [VRel])
        simp [execOp, ho, e1, e2, run_eqGuard_agg w _ t _ _ _ _ g2, run_eql_struct, hrun]
      · rw [ret1_eval hr]
        refine sim_pure h (v' := .bool (!z)) ?_ (by simp [VRel])
        simp [execOp, ho, e1, e2, run_eqGuard_agg w _ t _ _ _ _ g2, run_neq_struct, hrun]
    · cases hr
  · unfold binD at hr
    split at hr
    · rename_i k1 x1 k2 x2 e1 e2
      rw [e1] at hx; rw [e2] at hy
      simp only [VRel] at hx hy
      have hg : (eqGuard op t x y (.int k1 x1) (.int k2 x2)).run c.P w = .ok () w := by cases op <;> simp [eqGuard]
      split at hr
      · obtain ⟨v', h1, h2, h3⟩ := binShift_sim (w := w) (P := c.P) hr t (k' := k2)
        refine sim_value (μ' := μ) (fp' := fp) (v' := v') (w' := w) (by simp [execOp, ho, hx, hy, hg, h1]) ⟨fun _ _ => rfl, h2 c μ, by rw [h3]; exact h.vs, h.ev⟩
      · rename_i hs
        split at hr
        · rename_i hk; subst hk
          obtain ⟨v', h1, h2, h3⟩ := binInt_sim (w := w) (P := c.P) (by simpa using hs) hr t
          refine sim_value (μ' := μ) (fp' := fp) (v' := v') (w' := w) (by simp [execOp, ho, hx, hy, hg, h1]) ⟨fun _ _ => rfl, h2 c μ, by rw [h3]; exact h.vs, h.ev⟩
        · cases hr
    · rename_i x1 x2 e1 e2
      rw [e1] at hx; rw [e2] at hy
      simp only [VRel] at hx hy
      have hg : (eqGuard op t x y (.string ⟨x1.toArray⟩) (.string ⟨x2.toArray⟩)).run c.P w = .ok () w := by cases op <;> simp [eqGuard]
      obtain ⟨v', h1, h2, h3⟩ := binStr_sim (w := w) (P := c.P) hr t
      refine sim_value (μ' := μ) (fp' := fp) (v' := v') (w' := w) (by simp [execOp, ho, hx, hy, hg, h1]) ⟨fun _ _ => rfl, h2 c μ, by rw [h3]; exact h.vs, h.ev⟩
    · rename_i x1 x2 e1 e2
      rw [e1] at hx; rw [e2] at hy
      simp only [VRel] at hx hy
      have hg : (eqGuard op t x y (.bool x1) (.bool x2)).run c.P w = .ok () w := by cases op <;> simp [eqGuard]
      split at hr
      · rename_i hb
        have hu : c.P.underlying t = some .bool := by
          unfold isBoolT at hb
          split at hb
          · rename_i e; have := hC.ty t _ e; simp only [Ty.Ok] at this; exact this.2
          · cases hb
        cases op <;> try (cases hr; done)
        · rw [ret1_eval hr]
          exact sim_pure h (v' := .bool (x1 == x2)) (by simp [execOp, ho, hx, hy, hg, run_eql_bool w t x1 x2 hu]) (by simp [VRel])
        · rw [ret1_eval hr]
          exact sim_pure h (v' := .bool (!(x1 == x2))) (by simp [execOp, ho, hx, hy, hg, run_neq_bool w t x1 x2 hu]) (by simp [VRel])
      · cases hr
    · cases hr
end
end Go.Proofs.Ytjcinikojcfebaa.Dm
