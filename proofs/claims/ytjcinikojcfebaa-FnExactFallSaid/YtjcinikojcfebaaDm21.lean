/- The data machine, part 21: calls; every operation does what the machine says. -/
import Derived.Test.YtjcinikojcfebaaDm20
namespace Go.Proofs.Ytjcinikojcfebaa.Dm
open Go

/-- A call that returns. -/
def Called (P : Program) (f : FuncId) (args : Array Value) (w : World) (R : Value → World → Prop) : Prop :=
  (∃ fn, P.funcs[f]? = some fn ∧ (fn.name == "runtime.NumGoroutine") = false ∧ fn.body.isNone = false) ∧
  Calls P f args w fun
    | .returned v, w' => R v w'
    | _, _ => False

/-- What is told of the functions holds. -/
def CallsOk (C : Cx) (P : Program) : Prop :=
  ∀ (f : Nat) (ds : List DVal) (E : Env) (fr : Nat) (r : Res), (C.call f ds E fr).eval = some r →
    ∀ (c : Ctx) (μ : Nat → Loc) (fp : Nat → List Nat) (s : FSt) (w : World) (vs : List Value), c.P = P → RelV c μ fp s.v w → Known s → Ev c w → VsRel c μ vs ds → (∀ id ∈ DVal.idsL ds, s.k id) →
      (∀ id x, E id = some x → s.v id = some x) → (∀ id, fr ≤ id → id < fr + 64 → ¬ s.k id) →
      Called P f vs.toArray w fun v' w' => ∃ μ' fp', Post c μ s r v' w' μ' fp'

theorem Called.run {P : Program} {f : FuncId} {args : Array Value} {w : World} {R : Value → World → Prop} (h : Called P f args w R) : (callFunc f args).run P w = .ok (.enter f args) w := by
  obtain ⟨⟨fn, h1, h2, h3⟩, _⟩ := h
  have h2 : ¬ (fn.name = "runtime.NumGoroutine") := by simpa using h2
  cases hb : fn.body with
  | none => rw [hb] at h3; cases h3
  | some b => simp [callFunc, h1, h2, hb]

theorem arr_map {α β : Type} (f : α → β) (l : Array α) : (List.map f l.toList).toArray = l.map f := by rw [← Array.toList_map]
theorem arr_map2 {α β : Type} (f : α → β) (l : Array α) (m : Array β) : (List.map f l.toList ++ m.toList).toArray = l.map f ++ m := by rw [← Array.toList_map, ← Array.toList_append]

section
variable {c : Ctx} {μ : Nat → Loc} {fp : Nat → List Nat} {s : FSt} {n : Nat} {o : Oper} {a : Act} {w : World} {r : Res} {C : Cx} {E : Env}
variable (h : RelX c μ fp s n a w)
include h

omit h in
theorem sim_called {f : FuncId} {args : Array Value} (hrun : (execOp a.eval o).run c.P w = (callFunc f args).run c.P w) (hc : Called c.P f args w fun v' w' => ∃ μ' fp', Post c μ s r v' w' μ' fp') : Sim c μ s o a w r := by
  intro K Q hK
  simp only [Oper.wp, hrun, hc.run, Oper.upon_enter]
  refine Calls.mono hc.2 fun e w' he => ?_
  cases e with
  | returned v =>
    obtain ⟨μ', fp', hp⟩ := he
    exact hK _ _ _ _ hp
  | panicked _ => exact he.elim
  | outgrown => exact he.elim

theorem args_rel : ∀ (l : List Operand), VsRel c μ (l.map a.eval) (l.map (evF s.t))
  | [] => by simp [VsRel]
  | x :: l => by simp only [List.map_cons, VsRel]; exact ⟨_, _, rfl, h.ev_rel x, args_rel l⟩
theorem args_known (l : List Operand) : ∀ id ∈ DVal.idsL (l.map (evF s.t)), s.k id := by
  intro id hi
  obtain ⟨d, hd, hid⟩ := mem_idsL.1 hi
  obtain ⟨x, _, rfl⟩ := List.mem_map.1 hd
  exact h.known_ev x id hid

theorem core_sim (hC : CxOk C c.P) (hF : CallsOk C c.P) (hE : ∀ id x, E id = some x → s.v id = some x) {fr : Nat} (hfr : ∀ id, fr ≤ id → id < fr + 64 → ¬ s.k id)
    (hr : (core C o.op o.type (evF s.t) E fr).eval = some r) : Sim c μ s o a w r := by
  have h0 : ¬ s.k fr := hfr fr (Nat.le_refl _) (by omega)
  unfold core at hr
  split at hr
  · exact sim_nil h (.inl ‹_›) h0 hr
  · exact sim_nil h (.inr ‹_›) h0 hr
  · exact sim_pick h ‹_› hr
  · exact sim_alloc h hC ‹_› hfr hr
  · exact sim_box h ‹_› h0 hr
  · exact sim_build h hC ‹_› hfr hr
  · exact sim_buildSlice h hC hE ‹_› h0 hr
  · exact sim_load h hC hE ‹_› h0 hr
  · exact sim_store h hC hE ‹_› hr
  · exact sim_nilCheck h ‹_› hr
  · exact sim_binOp h hC ‹_› hr
  · exact sim_unOp h ‹_› hr
  · exact sim_convert h hC hE ‹_› hr
  · exact sim_fieldAddr h hC ‹_› hr
  · exact sim_field h hC.ty ‹_› hr
  · exact sim_indexAddr h hC hE ‹_› hr
  · rename_i t x y ho
    replace hr := of_eval hr
    obtain ⟨ty, hty, hr⟩ := hr
    have hok := hC.ty t ty hty
    cases ty with
    | str =>
      simp only [Ty.Ok] at hok
      refine sim_index h ho hok.2 ?_
      rw [← hr]
      congr 1
      congr 1
      funext k
      cases evF s.t x <;> rfl
    | _ =>
      replace hr := of_eval hr
      obtain ⟨_, _, hr⟩ := hr
      cases hr
  · exact sim_extract h ‹_› hr
  · exact sim_makeSlice h hC ‹_› h0 hr
  · exact sim_slice h hC hE ‹_› hr
  · exact sim_makeFunc h ‹_› hr
  · rename_i cl args argTypes ho
    split at hr
    · exact sim_len h hC hE rfl ‹_› ‹_› ho hr
    · cases hr
  · rename_i cl args argTypes ho
    split at hr
    · split at hr
      · rename_i e; subst e
        exact sim_append h hC hE rfl ‹_› ‹_› ho h0 hr
      · cases hr
    · cases hr
  · rename_i f args _ ho
    refine sim_called (f := f) (args := (args.toList.map a.eval).toArray) ?_ (hF f _ E fr r hr c μ fp s w _ rfl h.vs h.known h.ev (args_rel h _) (args_known h _) hE hfr)
    simp [execOp, ho, resolve, Deferred.ofValue, Act.eval, invoke, arr_map]
  · rename_i f args _ ho
    split at hr
    · rename_i g caps e
      have hv := h.ev_rel (.tmp f)
      rw [e] at hv
      simp only [VRel] at hv
      obtain ⟨cv, hv, hcv⟩ := hv
      refine sim_called (f := g) (args := (args.toList.map a.eval ++ cv.toList).toArray) ?_
        (hF g _ E fr r hr c μ fp s w _ rfl h.vs h.known h.ev ((args_rel h _).append hcv) (fun id hi => ?_) hE hfr)
      · simp [execOp, ho, resolve, Deferred.ofValue, hv, invoke, arr_map2]
      · rw [idsL_append, List.mem_append] at hi
        rcases hi with hi | hi
        · exact args_known h _ id hi
        · exact h.known_ev (.tmp f) id (by rw [e]; simpa [DVal.ids] using hi)
    · cases hr
  · cases hr
end
end Go.Proofs.Ytjcinikojcfebaa.Dm
