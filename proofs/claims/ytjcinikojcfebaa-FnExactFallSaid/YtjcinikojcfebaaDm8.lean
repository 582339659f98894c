/- The data machine, part 8: the operations that only look do what the machine says. -/
import Derived.Test.YtjcinikojcfebaaDm7
namespace Go.Proofs.Ytjcinikojcfebaa.Dm
open Go

section
variable {c : Ctx} {μ : Nat → Loc} {fp : Nat → List Nat} {s : FSt} {n : Nat} {o : Oper} {a : Act} {w : World} {r : Res}

theorem of_eval {α ρ : Type} {o : Option α} {k : α → Out ρ} {r : ρ} (h : (Out.of o k).eval = some r) : ∃ x, o = some x ∧ (k x).eval = some r := by
  cases o with
  | none => cases h
  | some x => exact ⟨x, rfl, h⟩
theorem ret1_eval {v : DVal} (h : (ret1 v).eval = some r) : r = (v, []) := (Option.some.inj h).symm
theorem ite_eval {ρ : Type} {p : Bool} {x y : Out ρ} {r : ρ} (h : (Out.ite p x y).eval = some r) : (p = true ∧ x.eval = some r) ∨ (p = false ∧ y.eval = some r) := by
  cases p
  · exact .inr ⟨rfl, h⟩
  · exact .inl ⟨rfl, h⟩
theorem get_eval {α ρ : Type} {o : Option α} {k : α → Out ρ} {r : ρ} (h : (Out.get o k).eval = some r) : ∃ x, o = some x ∧ (k x).eval = some r := by
  cases o with
  | none => cases h
  | some x => exact ⟨x, rfl, h⟩
theorem fail_eval {ρ : Type} {r : ρ} (h : (Out.fail : Out ρ).eval = some r) : False := by cases h

theorem mkVal_one {t : Ty} {d : DVal} (h : t.isSt = false) : mkVal t [d] = d := by simp [mkVal, h]

theorem binInt_sim {P : Program} {op : BinOp} {k : IntKind} {x y : Int} (hs : isShift op = false) (h : (binInt op k x y).eval = some r) (t : TypeId) :
    ∃ v', (binOp op t (.int k x) (.int k y)).run P w = .ok v' w ∧ (∀ c μ, VRel c μ v' r.1) ∧ r.2 = [] := by
  cases op <;> simp only [isShift, Bool.true_eq_false] at hs
  case quo =>
    rcases ite_eval h with ⟨_, h⟩ | ⟨h0, h⟩
    · cases h
    · have h0 : y ≠ 0 := by simpa using h0
      rw [ret1_eval h]
      exact ⟨.int k (k.wrap (x.tdiv y)), by simp [binOp, Op.intDiv, h0], fun _ _ => by simp [VRel], rfl⟩
  case rem =>
    rcases ite_eval h with ⟨_, h⟩ | ⟨h0, h⟩
    · cases h
    · have h0 : y ≠ 0 := by simpa using h0
      rw [ret1_eval h]
      exact ⟨.int k (x.tmod y), by simp [binOp, Op.intDiv, h0], fun _ _ => by simp [VRel], rfl⟩
  all_goals
    rw [ret1_eval h]
    refine ⟨_, by simp [binOp, Op.intArith, Op.intBits, Op.intCmp]; rfl, fun _ _ => by simp [VRel], rfl⟩

theorem binShift_sim {P : Program} {op : BinOp} {k k' : IntKind} {x y : Int} (h : (binShift op k x y).eval = some r) (t : TypeId) :
    ∃ v', (binOp op t (.int k x) (.int k' y)).run P w = .ok v' w ∧ (∀ c μ, VRel c μ v' r.1) ∧ r.2 = [] := by
  cases op <;> try cases h
  all_goals
    rcases ite_eval h with ⟨_, h⟩ | ⟨h0, h⟩
    · cases h
    · have h0 : ¬ y < 0 := by simpa using h0
      rw [ret1_eval h]
      refine ⟨_, by simp [binOp, Op.shift, h0]; rfl, fun _ _ => by simp [VRel], rfl⟩

theorem bytes_size (x : List UInt8) : (ByteArray.mk x.toArray).size = x.length := by simp [ByteArray.size]
theorem bytes_toList (x : List UInt8) : (ByteArray.mk x.toArray).toList = x := by
  rw [ByteArray.toList_eq]
theorem bytes_append (x y : List UInt8) : (ByteArray.mk x.toArray) ++ (ByteArray.mk y.toArray) = ByteArray.mk (x ++ y).toArray := by
  apply ByteArray.ext; simp

theorem binStr_sim {P : Program} {op : BinOp} {x y : List UInt8} (h : (binStr op x y).eval = some r) (t : TypeId) :
    ∃ v', (binOp op t (.string ⟨x.toArray⟩) (.string ⟨y.toArray⟩)).run P w = .ok v' w ∧ (∀ c μ, VRel c μ v' r.1) ∧ r.2 = [] := by
  cases op
  case add =>
    rcases ite_eval h with ⟨h0, h⟩ | ⟨_, h⟩
    · have h0 : x.length + y.length ≤ LIM := of_decide_eq_true h0
      rw [ret1_eval h]
      refine ⟨.string ⟨(x ++ y).toArray⟩, ?_, fun _ _ => by simp [VRel]; unfold LIM at h0; unfold BIG; omega, rfl⟩
      have : ¬ (((x.length + y.length : Nat) : Int) > IntKind.i64.max) := by
        simp [IntKind.max, IntKind.signed, IntKind.bits]; unfold LIM at h0; omega
      simp only [binOp, Op.stringOp, bytes_size, this, if_false, bytes_append]
      rfl
    · cases h
  all_goals first
    | (cases h; done)
    | (rw [ret1_eval h]
       refine ⟨_, by simp only [binOp, Op.stringOp, bytes_toList]; rfl, fun _ _ => by simp [VRel, bne], rfl⟩)

/-! ### one operation each -/
variable (h : RelX c μ fp s n a w)
include h

theorem RelX.ev_rel (x : Operand) : VRel c μ (a.eval x) (evF s.t x) := Dm.ev_rel h.tm x

theorem RelX.new {fr : Nat} (hk : ¬ s.k fr) (rem : List Nat) (L : Loc) (x0 : DVar) (f0 : List Nat) {w' : World}
    (hheap : ∀ id, s.v id ≠ none → id ∉ rem → ∀ b ∈ fp id, w'.heap[b]? = w.heap[b]?) (hsize : w.heap.size ≤ w'.heap.size)
    (hrel : VarRel c (fun id => if id = fr then L else μ id) w' fr f0 x0) (hnd : f0.Nodup)
    (hf : ∀ b ∈ f0, (w.heap.size ≤ b ∧ b < w'.heap.size) ∨ ∃ id, id ∈ rem ∧ s.v id ≠ none ∧ b ∈ fp id) :
    (∀ id, s.k id → (fun id => if id = fr then L else μ id) id = μ id) ∧
    RelV c (fun id => if id = fr then L else μ id) (fun k => if k = fr then f0 else fp k) (updF s.v ((rem.map fun i => (i, none)) ++ [(fr, some x0)])) w' := by
  have ha : ∀ id, s.k id → (fun id => if id = fr then L else μ id) id = μ id := fun id hi => if_neg fun (e : id = fr) => hk (e ▸ hi)
  refine ⟨ha, h.vs.produce h.ev rem fr x0 f0 ?_ ?_ hsize hrel hnd ?_⟩
  · intro id x hx _ _
    exact ⟨ha id (h.known.v id x hx).1, fun id' hi => ha id' ((h.known.v id x hx).2 id' hi)⟩
  · intro id hv _ hr
    exact hheap id hv hr
  · intro b hb
    rcases hf b hb with h1 | ⟨id, h1, h2⟩
    · exact .inl h1
    · exact .inr ⟨id, .inr h1, h2⟩

theorem sim_nil {C : Cx} {x : Operand} (ho : o.op = .move x ∨ o.op = .assign x) {ty fr : Nat} (hk : ¬ s.k fr) (hr : (nilD C ty (evF s.t x) fr).eval = some r) : Sim c μ s o a w r := by
  have hx := h.ev_rel x
  have run : (execOp a.eval o).run c.P w = .ok (.value (a.eval x)) w := by rcases ho with ho | ho <;> simp [execOp, ho]
  unfold nilD at hr
  split at hr
  · rename_i e0
    split at hr
    · rename_i e he
      cases hr
      rw [e0] at hx
      simp only [VRel] at hx
      obtain ⟨ad, hv⟩ := hx
      obtain ⟨h1, h2⟩ := h.new hk [] (.hdr ad 0 0 e.size) (.arr e []) [] (w' := w) (fun _ _ _ _ _ => rfl) (Nat.le_refl _)
        ⟨ad, 0, by simp, repO_nil w e ad, by simp⟩ (by simp) (by simp)
      rw [hv] at run
      refine sim_value run ⟨h1, ?_, h2, h.ev⟩
      simp only [VRel]
      exact ⟨ad, 0, 0, e.size, by simp, rfl⟩
    · cases hr
      rw [e0] at hx
      exact sim_pure h run hx
  · cases hr
    exact sim_pure h run hx

theorem sim_pick {x y z : Operand} (ho : o.op = .pick x y z) (hr : (Out.of (getB (evF s.t x)) fun p => .ite p (ret1 (evF s.t y)) (ret1 (evF s.t z))).eval = some r) : Sim c μ s o a w r := by
  obtain ⟨p, hp, hr⟩ := of_eval hr
  have hx := h.ev_rel x
  have e : evF s.t x = .b p := by
    unfold getB at hp
    split at hp
    · rename_i e0; cases hp; exact e0
    · cases hp
  rw [e] at hx
  simp only [VRel] at hx
  rcases ite_eval hr with ⟨rfl, hr⟩ | ⟨rfl, hr⟩
  · rw [ret1_eval hr]
    exact sim_pure h (v' := a.eval y) (by simp [execOp, ho, hx, asBool]) (h.ev_rel y)
  · rw [ret1_eval hr]
    exact sim_pure h (v' := a.eval z) (by simp [execOp, ho, hx, asBool]) (h.ev_rel z)

theorem sim_nilCheck {x : Operand} (ho : o.op = .nilCheck x)
    (hr : (match evF s.t x with
      | .vptr id off => ret1 (.vptr id off)
      | .eptr id i off => ret1 (.eptr id i off)
      | .rop t x off => ret1 (.rop t x off)
      | _ => .fail : Out Res).eval = some r) : Sim c μ s o a w r := by
  have hx := h.ev_rel x
  split at hr
  · rename_i e; rw [e] at hx; rw [ret1_eval hr]
    have hx' := hx
    simp only [VRel] at hx
    obtain ⟨B, o', _, hv⟩ := hx
    exact sim_pure h (by simp [execOp, ho, hv]) (hv ▸ hx')
  · rename_i e; rw [e] at hx; rw [ret1_eval hr]
    have hx' := hx
    simp only [VRel] at hx
    obtain ⟨b, o', len, cap, sz, _, _, hv⟩ := hx
    exact sim_pure h (by simp [execOp, ho, hv]) (hv ▸ hx')
  · rename_i e; rw [e] at hx; rw [ret1_eval hr]
    have hx' := hx
    simp only [VRel] at hx
    obtain ⟨b, o', _, _, hv⟩ := hx
    exact sim_pure h (by simp [execOp, ho, hv]) (hv ▸ hx')
  · cases hr

theorem sim_unOp {op : UnOp} {t : TypeId} {x : Operand} (ho : o.op = .unOp op t x) (hr : (unD op (evF s.t x)).eval = some r) : Sim c μ s o a w r := by
  have hx := h.ev_rel x
  unfold unD at hr
  split at hr
  · rename_i e; rw [e] at hx; rw [ret1_eval hr]
    simp only [VRel] at hx
    exact sim_pure h (by simp [execOp, ho, hx, Op.unary]; rfl) (by simp [VRel])
  · rename_i e; rw [e] at hx; rw [ret1_eval hr]
    simp only [VRel] at hx
    exact sim_pure h (by simp [execOp, ho, hx, Op.unary, Op.intArith]; rfl) (by simp [VRel])
  · cases hr

theorem sim_extract {x : Operand} {k : Nat} (ho : o.op = .extract x k)
    (hr : (match evF s.t x with
      | .tup vs => .of vs[k]? fun v => ret1 v
      | _ => .fail : Out Res).eval = some r) : Sim c μ s o a w r := by
  have hx := h.ev_rel x
  split at hr
  · rename_i vs e
    rw [e] at hx
    simp only [VRel] at hx
    obtain ⟨us, hv, hx⟩ := hx
    obtain ⟨d, hd, hr⟩ := of_eval hr
    rw [ret1_eval hr]
    obtain ⟨u, hu, hrel⟩ := hx.get hd
    have hu' : us[k]? = some u := by simpa using hu
    exact sim_pure h (v' := u) (by simp [execOp, ho, hv, Instr.extract, hu']) hrel
  · cases hr

theorem sim_makeFunc {f : FuncId} {first cs : Array Operand} (ho : o.op = .makeFunc (.func f) first cs)
    (hr : (if first.size = 0 then ret1 (.fn f (cs.toList.map (evF s.t))) else .fail).eval = some r) : Sim c μ s o a w r := by
  split at hr
  · rename_i h0
    rw [ret1_eval hr]
    have : first = #[] := Array.eq_empty_of_size_eq_zero h0
    subst this
    refine sim_pure h (v' := .func (.func f) #[] (cs.map a.eval)) (by simp [execOp, ho, Instr.makeFunc]) ?_
    simp only [VRel]
    refine ⟨_, rfl, ?_⟩
    rw [Array.toList_map]
    refine VsRel.of_get (by simp) fun j d v hd hv => ?_
    rw [List.getElem?_map] at hd hv
    obtain ⟨x, hx, rfl⟩ := Option.map_eq_some_iff.1 hd
    rw [hx] at hv
    cases hv
    exact h.ev_rel x
  · cases hr

theorem sim_index {t : TypeId} {x y : Operand} (ho : o.op = .index t x y) (ht : c.P.underlying t = some .string)
    (hr : (Out.of (getI (evF s.t y)) fun k =>
      match evF s.t x with
      | .s l => .ite (decide (0 ≤ k)) (.get (nth l k.toNat) fun c => ret1 (.i .u8 (c.toNat : Int))) .fail
      | _ => .fail).eval = some r) : Sim c μ s o a w r := by
  have hx := h.ev_rel x
  have hy := h.ev_rel y
  obtain ⟨k, hk, hr⟩ := of_eval hr
  have e : ∃ kd, evF s.t y = .i kd k := by
    unfold getI at hk
    split at hk
    · rename_i e0; cases hk; exact ⟨_, e0⟩
    · cases hk
  obtain ⟨kd, e⟩ := e
  rw [e] at hy
  simp only [VRel] at hy
  split at hr
  · rename_i l el
    rw [el] at hx
    simp only [VRel] at hx
    rcases ite_eval hr with ⟨h0, hr⟩ | ⟨_, hr⟩
    · have h0 : 0 ≤ k := of_decide_eq_true h0
      obtain ⟨b, hb, hr⟩ := get_eval hr
      rw [ret1_eval hr]
      have hlt : k.toNat < l.length := (List.getElem?_eq_some_iff.1 hb).1
      have hb' : (ByteArray.mk l.toArray)[k.toNat]? = some b := by
        rw [ByteArray.getElem?_lt' _ _ (by rw [bytes_size]; exact hlt)]
        have := (List.getElem?_eq_some_iff.1 hb).2
        congr 1
      refine sim_pure h (v' := .int .u8 b.toNat) ?_ (by simp [VRel])
      simp [execOp, ho, hx, hy, Instr.index, asIntOf, run_underlying ht, h0, hb']
    · cases hr
  · cases hr

theorem sim_field {C : Cx} (hC : ∀ tid t, C.ty tid = some t → t.Ok c.P tid) {t : TypeId} {x : Operand} {k : Nat} (ho : o.op = .field t x k)
    (hr : (Out.of (C.ty t) fun t => .of (t.field k) fun f =>
    match evF s.t x with
    | .agg cs => if f.1 + f.2.size ≤ cs.length then ret1 (mkVal f.2 ((cs.drop f.1).take f.2.size)) else .fail
    | _ => .fail).eval = some r) : Sim c μ s o a w r := by
  have hx := h.ev_rel x
  obtain ⟨ty, hty, hr⟩ := of_eval hr
  obtain ⟨f, hf, hr⟩ := of_eval hr
  obtain ⟨fields, fd, hu, h1, h2, h3, h4⟩ := (hC t ty hty).field hf
  split at hr
  · rename_i cs e
    rw [e] at hx
    simp only [VRel] at hx
    obtain ⟨us, hv, hx⟩ := hx
    split at hr
    · rename_i hle
      rw [ret1_eval hr]
      have hl := hx.length
      have hsub := (hx.drop f.1).take f.2.size
      cases hst : f.2.isSt with
      | true =>
        refine sim_pure h (v' := .agg (us.extract f.1 (f.1 + f.2.size))) ?_ ?_
        · simp [execOp, ho, hv, Instr.field, run_underlying hu, h1, asAgg, part, h3.run_isAgg, hst, h3.run_size, h2]
        · simp only [mkVal, hst, VRel]
          refine ⟨_, rfl, ?_⟩
          rw [Array.toList_extract]
          simpa [List.extract_eq_take_drop, List.take_drop] using hsub
      | false =>
        have hs1 : f.2.size = 1 := by cases hf2 : f.2 <;> rw [hf2] at hst <;> first | rfl | simp [Ty.isSt] at hst
        rw [hs1] at hsub hle
        have hlt : f.1 < us.size := by have : us.toList.length = us.size := Array.length_toList; omega
        have hlt' : f.1 < cs.length := by omega
        rw [List.drop_eq_getElem_cons (by simpa using hlt), List.drop_eq_getElem_cons hlt'] at hsub
        simp only [List.take_succ_cons, List.take_zero, VsRel] at hsub
        obtain ⟨v, vs', e1, hv1, _⟩ := hsub
        cases e1
        refine sim_pure h (v' := us[f.1]) ?_ ?_
        · simp [execOp, ho, hv, Instr.field, run_underlying hu, h1, asAgg, part, h3.run_isAgg, hst, h2, hlt]
        · rw [hs1, List.drop_eq_getElem_cons hlt', List.take_succ_cons, List.take_zero, mkVal_one hst]
          exact hv1
    · cases hr
  · cases hr
end
end Go.Proofs.Ytjcinikojcfebaa.Dm
