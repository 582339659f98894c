/- The data machine, part 10: conversions, addresses, parts of slices, lengths. -/
import Derived.Test.YtjcinikojcfebaaDm9
namespace Go.Proofs.Ytjcinikojcfebaa.Dm
open Go

section
variable {c : Ctx} {μ : Nat → Loc} {fp : Nat → List Nat} {s : FSt} {n : Nat} {o : Oper} {a : Act} {w : World} {r : Res} {C : Cx} {E : Env}

theorem isSl_eq {t e : Ty} (h : isSl t = some e) : t = .sl e := by
  cases t <;> simp [isSl] at h
  rw [h]
theorem getI_eq {d : DVal} {k : Int} (h : getI d = some k) : ∃ kd, d = .i kd k := by
  cases d <;> simp [getI] at h
  rw [h]; exact ⟨_, rfl⟩
theorem Ty.Ok.sl {P : Program} {e : Ty} {tid : TypeId} (h : (Ty.sl e).Ok P tid) : ∃ eid, P.underlying tid = some (.slice eid) ∧ e.Ok P eid := by
  simp only [Ty.Ok] at h; exact h.2

theorem Ty.Ok.desc {P : Program} {t : Ty} {tid : TypeId} (h : t.Ok P tid) : ∃ d, P.underlying tid = some d := by
  cases t <;> simp only [Ty.Ok] at h
  · exact ⟨_, h.2⟩
  · exact ⟨_, h.2⟩
  · exact ⟨_, h.2⟩
  · exact ⟨_, h.2.choose_spec.1⟩
  · exact ⟨_, h.2.choose_spec.1⟩

/-- What a list of a variable is: where its head points, and how it is read. -/
theorem itemSize_rel (hv : RelV c μ fp s.v w) (hE : ∀ id x, E id = some x → s.v id = some x) {id es : Nat} (h : itemSize E id = some es) :
    ∃ a len cap, μ id = .hdr a len cap es ∧ len ≤ cap ∧ (0 < cap → ∃ b o, a = some ⟨b, o, none⟩) ∧ lenD E (.sref id none) = some len := by
  unfold itemSize at h
  split at h
  · rename_i e xs hx
    cases h
    obtain ⟨a, cap, h1, h2, _⟩ := hv.rel id _ (hE _ _ hx)
    simp only [Ty.repO] at h2
    obtain ⟨a', cap', e1, h3, h4⟩ := h2
    cases e1
    refine ⟨a, _, cap, h1, h3.1, fun h0 => ?_, by simp [lenD, hx]⟩
    rcases h4 with ⟨h5, _⟩ | ⟨b, o, _, _, _, h5, _⟩
    · omega
    · exact ⟨b, o, h5⟩
  · rename_i e xs i off u id' hx
    cases h
    obtain ⟨a, cap, h1, _, _, h3, h4⟩ := hv.rel id _ (hE _ _ hx)
    exact ⟨a, _, cap, h1, h3, fun h0 => h4.1.resolve_left (by omega), by simp [lenD, hx]⟩
  · cases h

theorem repS_big {S : Nat → Prop} {w : World} {e : Ty} {v : List Value} {l : List e.D} (h : (Ty.sl e).repS S w v l) : List.length l ≤ BIG := by
  simp only [Ty.repS] at h
  obtain ⟨_, _, _, h, _⟩ := h
  exact h.2
theorem repO_big {w : World} {e : Ty} {v : List Value} {l : List e.D} {f : List Nat} (h : (Ty.sl e).repO w v l f) : List.length l ≤ BIG := by
  simp only [Ty.repO] at h
  obtain ⟨_, _, _, h, _⟩ := h
  exact h.2

theorem convert_int {P : Program} {src dst : TypeId} {k kd : IntKind} {m : Int} {d : TypeDesc} (h1 : P.underlying src = some d) (h2 : P.underlying dst = some (.int k)) :
    (convert src dst (.int kd m)).run P w = .ok (.int k (k.wrap m)) w := by
  simp [convert, run_underlying h1, run_underlying h2, Conv.intToInt]

/-- The cells of a list of numbers. -/
theorem repS_ints {S : Nat → Prop} {k : IntKind} {v : Value} {l : List Int} (h : (Ty.sl (.int k)).repS S w [v] l) :
    ∃ ad cap, v = .slice ad l.length cap ∧ l.length ≤ cap ∧ (l = [] ∨ ∃ b o, ad = some ⟨b, o, none⟩ ∧ S b ∧ ∀ i, i < l.length → w.cell? ⟨b, o + i, none⟩ = some (.int k (l.getD i 0))) := by
  simp only [Ty.repS] at h
  obtain ⟨ad, cap, e1, hc, h⟩ := h
  refine ⟨ad, cap, (List.cons.inj e1).1, hc.1, ?_⟩
  rcases h with h | ⟨b, o, ha, hb, hi⟩
  · exact .inl h
  · refine .inr ⟨b, o, ha, hb, fun i hlt => ?_⟩
    have h4 : cellsAt w b (o + i) 1 = [.int k (l.getD i 0)] := by
      have := hi i (l.getD i 0) (by show l[i]? = some (l.getD i 0); simp [List.getD, List.getElem?_eq_getElem hlt])
      simpa only [Ty.repS, Ty.size, Nat.mul_one] using this
    unfold cellsAt at h4
    split at h4
    · rename_i C' E' fr hb'
      have h3 : C'[o + i]? = some (.int k (l.getD i 0)) := by
        have := congrArg (fun q => q[0]?) h4
        simpa [List.getElem?_take, List.getElem?_drop] using this
      simp only [World.cell?, hb']
      exact h3
    · cases h4

theorem convert_bytes {P : Program} {src dst eid : TypeId} {v : Value} {l : List Int} {S : Nat → Prop} (h1 : P.underlying src = some (.slice eid)) (h2 : P.underlying eid = some (.int .u8)) (h3 : P.underlying dst = some .string)
    (hrep : (Ty.sl (.int .u8)).repS S w [v] l) : (convert src dst v).run P w = .ok (.string ⟨(l.map fun n : Int => UInt8.ofNat n.toNat).toArray⟩) w := by
  obtain ⟨ad, cap, rfl, hc, hrep⟩ := repS_ints hrep
  rcases hrep with rfl | ⟨b, o', rfl, _, hi⟩
  · cases ad with
    | none => exact run_convert_bytes_nil w src eid h1 h2 _ _ dst h3
    | some ad =>
      rw [run_convert_bytes_string w src dst eid _ _ _ h1 h2 h3]
      exact run_bytesToString w ad 0 cap [] (by simp [loadCells, loadCellsFrom])
  · exact run_convert_bytes_arg w src eid h1 h2 b o' l.length cap l rfl hi dst h3

variable (h : RelX c μ fp s n a w)
include h

theorem sim_convert (hC : CxOk C c.P) (hE : ∀ id x, E id = some x → s.v id = some x) {src dst : TypeId} {x : Operand} (ho : o.op = .convert src dst x)
    (hr : (convD C E src dst (evF s.t x)).eval = some r) : Sim c μ s o a w r := by
  have hx := h.ev_rel x
  unfold convD at hr
  obtain ⟨t, ht, hr⟩ := of_eval hr
  have hok := hC.ty dst t ht
  split at hr
  · rename_i k kd m e
    rw [e] at hx
    simp only [VRel] at hx
    simp only [Ty.Ok] at hok
    split at hr
    · rename_i hs
      obtain ⟨ts, hs⟩ := Option.isSome_iff_exists.1 hs
      obtain ⟨ds, hds⟩ := (hC.ty src ts hs).desc
      rw [ret1_eval hr]
      exact sim_pure h (v' := .int k (k.wrap m)) (by simp [execOp, ho, hx, convert_int hds hok.2]) (by simp [VRel])
    · cases hr
  · rename_i l e
    rw [e] at hx
    simp only [VRel] at hx
    simp only [Ty.Ok] at hok
    split at hr
    · rename_i hs
      obtain ⟨ts, hs⟩ := Option.isSome_iff_exists.1 hs
      obtain ⟨ds, hds⟩ := (hC.ty src ts hs).desc
      rw [ret1_eval hr]
      exact sim_pure h (v' := .string ⟨l.toArray⟩) (by simp [execOp, ho, hx.1, convert, run_underlying hds, run_underlying hok.2]) (by simpa [VRel] using hx.2)
    · cases hr
  · simp only [Ty.Ok] at hok
    split at hr
    · rename_i hb
      obtain ⟨l, hl, hr⟩ := of_eval hr
      rw [ret1_eval hr]
      have hsrc : ∃ eid, c.P.underlying src = some (.slice eid) ∧ c.P.underlying eid = some (.int .u8) := by
        unfold isBytes at hb
        split at hb
        · rename_i e
          obtain ⟨eid, h1, h2⟩ := (hC.ty src _ e).sl
          simp only [Ty.Ok] at h2
          exact ⟨eid, h1, h2.2⟩
        · cases hb
      obtain ⟨eid, h1, h2⟩ := hsrc
      have hrep := listOf_rel h.vs h.ev hE (S' := fun _ => True) (fun _ _ => trivial) (fun _ _ _ _ => trivial) hx hl
      refine sim_pure h (v' := .string ⟨(List.map (fun n : Int => UInt8.ofNat n.toNat) l).toArray⟩) ?_ (by simp only [VRel]; exact ⟨trivial, Nat.le_trans (Nat.le_of_eq (List.length_map _)) (repS_big hrep)⟩)
      have key := convert_bytes h1 h2 hok.2 hrep
      simp [execOp, ho, key]
    · cases hr
  · cases hr

theorem sim_fieldAddr (hC : CxOk C c.P) {t : TypeId} {x : Operand} {k : Nat} (ho : o.op = .fieldAddr t x k)
    (hr : (Out.of (C.ty t) fun t => .of (t.field k) fun f =>
    match evF s.t x with
    | .vptr id off => ret1 (.vptr id (off + f.1))
    | .eptr id i off => ret1 (.eptr id i (off + f.1))
    | .rop t x off => ret1 (.rop t x (off + f.1))
    | _ => .fail : Out Res).eval = some r) : Sim c μ s o a w r := by
  have hx := h.ev_rel x
  obtain ⟨ty, hty, hr⟩ := of_eval hr
  obtain ⟨f, hf, hr⟩ := of_eval hr
  obtain ⟨fields, fd, hu, h1, h2, h3, h4⟩ := (hC.ty t ty hty).field hf
  have hpos := h3.pos
  have run : ∀ B o', (Instr.fieldAt t (.pointer (some ⟨B, o', none⟩)) k).run c.P w = .ok (.pointer (some ⟨B, o' + f.1, none⟩)) w := by
    intro B o'
    have : f.2.size ≠ 0 := by omega
    simp [Instr.fieldAt, run_underlying hu, h1, Instr.sureAddr, fieldPlace, h3.run_size, this, h2, Addr.add]
    try (split <;> simp_all)
  split at hr
  · rename_i id off e
    rw [e] at hx; rw [ret1_eval hr]
    simp only [VRel] at hx
    obtain ⟨B, o', hm, hv⟩ := hx
    refine sim_pure h (v' := .pointer (some ⟨B, o' + off + f.1, none⟩)) (by simp [execOp, ho, hv, run]) ?_
    simp only [VRel]; exact ⟨B, o', hm, by rw [Nat.add_assoc]⟩
  · rename_i id i off e
    rw [e] at hx; rw [ret1_eval hr]
    simp only [VRel] at hx
    obtain ⟨b, o', len, cap, sz, hm, hi, hv⟩ := hx
    refine sim_pure h (v' := .pointer (some ⟨b, o' + i * sz + off + f.1, none⟩)) (by simp [execOp, ho, hv, run]) ?_
    simp only [VRel]; exact ⟨b, o', len, cap, sz, hm, hi, by rw [Nat.add_assoc (o' + i * sz)]⟩
  · rename_i t' x' off e
    rw [e] at hx; rw [ret1_eval hr]
    simp only [VRel] at hx
    obtain ⟨b, o', hb, hm, hv⟩ := hx
    refine sim_pure h (v' := .pointer (some ⟨b, o' + off + f.1, none⟩)) (by simp [execOp, ho, hv, run]) ?_
    simp only [VRel]; exact ⟨b, o', hb, hm, by rw [Nat.add_assoc]⟩
  · cases hr

theorem sim_indexAddr (hC : CxOk C c.P) (hE : ∀ id x, E id = some x → s.v id = some x) {t : TypeId} {x y : Operand} (ho : o.op = .indexAddr t x y)
    (hr : (Out.of (C.ty t) fun t => .of (isSl t) fun e => .of (getI (evF s.t y)) fun n => indexD E e.size (evF s.t x) n).eval = some r) : Sim c μ s o a w r := by
  have hx := h.ev_rel x
  have hy := h.ev_rel y
  obtain ⟨ty, hty, hr⟩ := of_eval hr
  obtain ⟨e, he, hr⟩ := of_eval hr
  obtain ⟨m, hm, hr⟩ := of_eval hr
  have hty : C.ty t = some (.sl e) := isSl_eq he ▸ hty
  obtain ⟨eid, hu, hok⟩ := (hC.ty t _ hty).sl
  obtain ⟨kd, ey⟩ := getI_eq hm
  rw [ey] at hy
  simp only [VRel] at hy
  have run : ∀ (b o' len cap : Nat), 0 ≤ m → m < len → (Instr.indexAt t (.slice (some ⟨b, o', none⟩) len cap) (.int kd m)).run c.P w = .ok (.pointer (some ⟨b, o' + m.toNat * e.size, none⟩)) w := by
    intro b o' len cap h0 h1
    simp [Instr.indexAt, asIntOf, run_underlying hu, h0, h1, hok.run_size, Addr.add]
    try (split <;> simp_all)
  unfold indexD at hr
  split at hr
  · rename_i e' xs tk ex
    rw [ex] at hx
    simp only [VRel] at hx
    split at hr
    · rename_i hsz
      rcases ite_eval hr with ⟨h0, hr⟩ | ⟨_, hr⟩
      · have h0 : 0 ≤ m := of_decide_eq_true h0
        obtain ⟨z, hz, hr⟩ := get_eval hr
        rw [ret1_eval hr]
        have hlt : m.toNat < xs.length := (List.getElem?_eq_some_iff.1 hz).1
        obtain ⟨b, o', cap, hv, hb, hrep⟩ := repS_item hx.1 hz
        refine sim_pure h (v' := .pointer (some ⟨b, o' + m.toNat * e.size, none⟩)) (by simp [execOp, ho, hv, hy, run b o' xs.length cap h0 (by omega)]) ?_
        simp only [VRel]
        exact ⟨b, o' + m.toNat * e.size, hb, by rw [← hsz]; exact hrep, rfl⟩
      · cases hr
    · cases hr
  · rename_i id ex
    rw [ex] at hx
    simp only [VRel] at hx
    obtain ⟨ad, len, cap, sz, hm', hv⟩ := hx
    obtain ⟨l, hl, hr⟩ := of_eval hr
    split at hr
    · rename_i hsz
      obtain ⟨ad', len', cap', g1, g2, g3, g4⟩ := itemSize_rel h.vs hE hsz
      rw [hm'] at g1; cases g1
      rw [g4] at hl; cases hl
      rcases ite_eval hr with ⟨h0, hr⟩ | ⟨_, hr⟩
      · have h0 : 0 ≤ m ∧ m < (len : Int) := of_decide_eq_true h0
        rw [ret1_eval hr]
        obtain ⟨b, o', rfl⟩ := g3 (by omega)
        refine sim_pure h (v' := .pointer (some ⟨b, o' + m.toNat * e.size, none⟩)) (by simp [execOp, ho, hv, hy, run b o' len cap h0.1 h0.2]) ?_
        simp only [VRel]
        exact ⟨b, o', len, cap, e.size, hm', by omega, rfl⟩
      · cases hr
    · cases hr
  · rename_i id off l ex
    rw [ex] at hx
    simp only [VRel] at hx
    obtain ⟨ad, len, cap, sz, ad2, hm', hle, hlc, hv, had⟩ := hx
    split at hr
    · rename_i hsz
      obtain ⟨ad', len', cap', g1, g2, g3, g4⟩ := itemSize_rel h.vs hE hsz
      rw [hm'] at g1; cases g1
      rcases ite_eval hr with ⟨h0, hr⟩ | ⟨_, hr⟩
      · have h0 : 0 ≤ m ∧ m < (l : Int) := of_decide_eq_true h0
        rw [ret1_eval hr]
        rcases had with had | ⟨b, o', rfl, rfl⟩
        · omega
        refine sim_pure h (v' := .pointer (some ⟨b, o' + off * e.size + m.toNat * e.size, none⟩)) (by simp [execOp, ho, hv, hy, run b _ l (cap - off) h0.1 h0.2]) ?_
        simp only [VRel]
        exact ⟨b, o', len, cap, e.size, hm', by omega, by rw [Nat.add_mul, Nat.add_assoc, Nat.add_zero]⟩
      · cases hr
    · cases hr
  · cases hr

theorem sim_len (hC : CxOk C c.P) (hE : ∀ id x, E id = some x → s.v id = some x) {cl : Call} (hcl : cl.callee = .builtin .len) {t : TypeId} {x : Operand} (ha : cl.args.toList = [x]) (hat : cl.argTypes.toList = [t]) (ho : o.op = .call cl)
    (hr : (Out.of (C.ty t) fun t => .of (lenT E t (evF s.t x)) fun n => ret1 (.i .i64 (n : Int))).eval = some r) : Sim c μ s o a w r := by
  have hx := h.ev_rel x
  obtain ⟨ty, hty, hr⟩ := of_eval hr
  obtain ⟨m, hm, hr⟩ := of_eval hr
  rw [ret1_eval hr]
  have hok := hC.ty t ty hty
  have ha' : cl.args = #[x] := by apply Array.ext'; simpa using ha
  have hat' : cl.argTypes = #[t] := by apply Array.ext'; simpa using hat
  have key : ∀ v, (Builtin.len_ #[t] o.type #[a.eval x]).run c.P w = .ok v w → (execOp a.eval o).run c.P w = .ok (.value v) w := by
    intro v hv
    simp [execOp, ho, resolve, hcl, ha', hat', invoke, builtin, hv]
  refine sim_pure h (v' := .int .i64 m) (key _ ?_) (by simp [VRel])
  unfold lenT at hm
  split at hm
  · rename_i l e
    cases hm
    rw [e] at hx
    simp only [VRel] at hx
    simp only [Ty.Ok] at hok
    simp [Builtin.len_, hx, run_underlying hok.2, bytes_size, goInt]
  · rename_i e
    obtain ⟨eid, hu, hoke⟩ := hok.sl
    have hv : ∃ ad cap, a.eval x = .slice ad m cap := by
      unfold lenD at hm
      split at hm
      · rename_i ex; rw [ex] at hx; cases hm
        simp only [VRel, Ty.repS] at hx
        obtain ⟨⟨ad, cap, e1, _⟩, _⟩ := hx
        exact ⟨ad, cap, by simpa using e1⟩
      · rename_i ex; rw [ex] at hx; cases hm
        simp only [VRel] at hx
        obtain ⟨ad, hv⟩ := hx
        exact ⟨ad, 0, hv⟩
      · rename_i ex; rw [ex] at hx
        simp only [VRel] at hx
        obtain ⟨ad, len, cap, sz, g1, hv⟩ := hx
        split at hm
        · rename_i hEx; cases hm
          obtain ⟨a2, cap2, q1, _⟩ := h.vs.rel _ _ (hE _ _ hEx)
          rw [g1] at q1; cases q1
          exact ⟨ad, cap, hv⟩
        · rename_i hEx; cases hm
          obtain ⟨a2, cap2, q1, _⟩ := h.vs.rel _ _ (hE _ _ hEx)
          rw [g1] at q1; cases q1
          exact ⟨ad, cap, hv⟩
        · cases hm
      · rename_i ex; rw [ex] at hx; cases hm
        simp only [VRel] at hx
        obtain ⟨ad, len, cap, sz, a2, _, _, _, hv, _⟩ := hx
        exact ⟨a2, _, hv⟩
      · cases hm
    obtain ⟨ad, cap, hv⟩ := hv
    simp [Builtin.len_, hv, run_underlying hu, goInt]
  · cases hm
end
end Go.Proofs.Ytjcinikojcfebaa.Dm
