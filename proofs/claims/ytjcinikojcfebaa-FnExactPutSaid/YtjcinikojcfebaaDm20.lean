/- The data machine, part 20: append does what the machine says. -/
import Derived.Test.YtjcinikojcfebaaDm19
namespace Go.Proofs.Ytjcinikojcfebaa.Dm
open Go

theorem Src.of_repS {S : Nat → Prop} {w : World} {e : Ty} {v : Value} {ys : List e.D} (hf : e.flat = true) (h : (Ty.sl e).repS S w [v] ys) : Src w e v ys (List.replicate ys.length []) := by
  simp only [Ty.repS] at h
  obtain ⟨a, cap, ev, hc, h⟩ := h
  obtain rfl : v = .slice a ys.length cap := by simpa using ev
  refine ⟨a, cap, rfl, by simp, ?_⟩
  rcases h with h | ⟨b, o, rfl, _, h⟩
  · exact .inl h
  · refine .inr ⟨b, o, rfl, fun i y f hy hf' => ?_⟩
    have : f = [] := by rw [List.getElem?_replicate] at hf'; split at hf' <;> simp_all
    subst this
    exact Ty.flat_rep e hf (h i y hy)
theorem Src.of_repO {w : World} {e : Ty} {v : Value} {ys : List e.D} {f : List Nat} (h : (Ty.sl e).repO w [v] ys f) : ∃ gps, Src w e v ys gps ∧ gps.flatten.Sublist f := by
  simp only [Ty.repO] at h
  obtain ⟨a, cap, ev, hc, h⟩ := h
  obtain rfl : v = .slice a ys.length cap := by simpa using ev
  rcases h with ⟨h0, h1⟩ | ⟨b, o, C, E, fps, rfl, h1, h2, h3, h4, h5⟩
  · have : ys = [] := List.eq_nil_of_length_eq_zero (by omega)
    subst this
    exact ⟨[], ⟨a, cap, rfl, rfl, .inl rfl⟩, by simp⟩
  · refine ⟨fps, ⟨_, cap, rfl, h3, .inr ⟨b, o, rfl, fun i y f hy hf => h5 i y f hy hf⟩⟩, ?_⟩
    rw [h4]; exact List.sublist_cons_self _ _

section
variable {c : Ctx} {μ : Nat → Loc} {fp : Nat → List Nat} {s : FSt} {n : Nat} {o : Oper} {a : Act} {w : World} {r : Res} {C : Cx} {E : Env}
variable (h : RelX c μ fp s n a w)
include h

/-- A list that an append has made: of lists that went and of new memory. -/
theorem sim_appended {e : Ty} {zs : List e.D} {fx gp : List Nat} {v' : Value} {w' : World} {f : List Nat} {fr : Nat} (hfr : ¬ s.k fr) (ap : Appended c w e zs fx gp v' w' f) {gx gy : List Nat}
    (hx : Gone c fp s.v E gx fx) (hy : ∀ b ∈ gp, (∃ id ∈ gy, s.v id ≠ none ∧ b ∈ fp id) ∧ (b < c.w0.heap.size → ∀ j, c.M b j)) (hrun : (execOp a.eval o).run c.P w = .ok (.value v') w') :
    Sim c μ s o a w (.sref fr none, ((gx ++ gy).map fun k => (k, none)) ++ [(fr, some (.arr e zs))]) := by
  have hrep := ap.rep
  simp only [Ty.repO] at hrep
  obtain ⟨ad, cap, ev, hcap, _⟩ := hrep
  obtain rfl : v' = .slice ad zs.length cap := by simpa using ev
  have hvar : VarRel c (fun id => if id = fr then .hdr ad zs.length cap e.size else μ id) w' fr f (.arr e zs) := by
    refine ⟨ad, cap, by simp, ap.rep, fun b hb hlt => ?_⟩
    rcases ap.from_ b hb with ⟨h1, _⟩ | h1 | h1
    · have := h.ev.size; omega
    · exact hx.may b h1 hlt
    · exact (hy b h1).2 hlt
  obtain ⟨q1, q2⟩ := h.new hfr (gx ++ gy) _ _ _ (fun id hn hr b hb' => ap.heap b (fun hbx => by
      obtain ⟨k, hk, hkb⟩ := hx.mem b hbx
      exact h.vs.sep id k (fun e => hr (by simp [e, hk])) hn (hx.there k hk).1 b hb' hkb) (h.vs.lt id hn b hb')) ap.size hvar ap.nodup (fun b hb => by
      rcases ap.from_ b hb with h1 | h1 | h1
      · exact .inl h1
      · obtain ⟨k, hk, hkb⟩ := hx.mem b h1
        exact .inr ⟨k, by simp [hk], (hx.there k hk).1, hkb⟩
      · obtain ⟨⟨k, hk, hn, hkb⟩, _⟩ := hy b h1
        exact .inr ⟨k, by simp [hk], hn, hkb⟩)
  refine sim_value hrun ⟨q1, ?_, q2, ap.ev h.ev (fun b hb => ?_) hx.may⟩
  · simp only [VRel]
    exact ⟨ad, zs.length, cap, e.size, by simp, rfl⟩
  · obtain ⟨k, hk, hkb⟩ := hx.mem b hb
    exact h.vs.notS k (hx.there k hk).1 b hkb

theorem sim_append (hC : CxOk C c.P) (hE : ∀ id x, E id = some x → s.v id = some x) {cl : Call} (hcl : cl.callee = .builtin .append) {t : TypeId} {x y : Operand} (ha : cl.args.toList = [x, y]) (hat : cl.argTypes.toList = [t, t]) (ho : o.op = .call cl)
    {fr : Nat} (hfr : ¬ s.k fr)
    (hr : (Out.of (C.ty t) fun t => .of (isSl t) fun e => appendD E e (evF s.t x) (evF s.t y) fr).eval = some r) : Sim c μ s o a w r := by
  have hx := h.ev_rel x
  have hy := h.ev_rel y
  replace hr := of_eval hr
  obtain ⟨ty, hty, hr⟩ := hr
  replace hr := of_eval hr
  obtain ⟨e, he, hr⟩ := hr
  have hty : C.ty t = some (.sl e) := isSl_eq he ▸ hty
  obtain ⟨eid, hu, hok⟩ := (hC.ty t _ hty).sl
  unfold appendD at hr
  replace hr := of_eval hr
  obtain ⟨⟨xs, gx⟩, htx, hr⟩ := hr
  obtain ⟨fx, rx, hgx⟩ := takeL_rel h.vs hE hx htx
  have ha' : cl.args = #[x, y] := by rw [← ha]
  have hat' : cl.argTypes = #[t, t] := by rw [← hat]
  have hrun : ∀ v' w', (Builtin.append_ #[t, t] o.type #[a.eval x, a.eval y]).run c.P w = .ok v' w' → (execOp a.eval o).run c.P w = .ok (.value v') w' := fun v' w' hrn => by
    simp [execOp, ho, resolve, hcl, ha', hat', invoke, builtin, hrn]
  have hgone : ∀ b ∈ fx, b < w.heap.size := Ty.repO_lt _ rx
  split at hr
  · rename_i hflat
    replace hr := of_eval hr
    obtain ⟨ys, hys, hr⟩ := hr
    split at hr
    · cases hr
    rcases ite_eval hr with ⟨hl, hr⟩ | ⟨_, hr⟩
    · have hl : xs.length + ys.length ≤ LIM := of_decide_eq_true hl
      have hr := Option.some.inj hr
      subst hr
      have hsrc := Src.of_repS hflat (listOf_rel (S' := fun _ => True) h.vs h.ev hE (fun _ _ => trivial) (fun _ _ _ _ => trivial) hy hys)
      obtain ⟨v', w', f, g1, g2⟩ := append_run (P := c.P) (ty := o.type) c hu hok rx hsrc hgx.nodup (by simp) (by simp) (by simp) hl
      have := sim_appended h hfr g2 (gy := []) hgx (by simp) (hrun _ _ g1)
      simpa using this
    · cases hr
  · replace hr := of_eval hr
    obtain ⟨⟨ys, gy⟩, hys, hr⟩ := hr
    split at hr
    · cases hr
    rename_i hdis
    rcases ite_eval hr with ⟨hl, hr⟩ | ⟨_, hr⟩
    · have hl : xs.length + ys.length ≤ LIM := of_decide_eq_true hl
      have hr := Option.some.inj hr
      subst hr
      obtain ⟨fy, ry, hgy⟩ := takeL_rel h.vs hE hy hys
      obtain ⟨gps, hsrc, hsub⟩ := Src.of_repO ry
      have hd : ∀ b ∈ gps.flatten, b ∉ fx := fun b h1 h2 => by
        obtain ⟨k1, hk1, hb1⟩ := hgy.mem b (hsub.subset h1)
        obtain ⟨k2, hk2, hb2⟩ := hgx.mem b h2
        exact h.vs.sep k1 k2 (fun e => hdis (List.any_eq_true.2 ⟨k1, hk1, by simpa [e] using hk2⟩)) (hgy.there k1 hk1).1 (hgx.there k2 hk2).1 b hb1 hb2
      obtain ⟨v', w', f, g1, g2⟩ := append_run (P := c.P) (ty := o.type) c hu hok rx hsrc hgx.nodup (hgy.nodup.sublist hsub) hd (fun b hb => Ty.repO_lt _ ry b (hsub.subset hb)) hl
      exact sim_appended h hfr g2 hgx (fun b hb => by
        obtain ⟨k, hk, hkb⟩ := hgy.mem b (hsub.subset hb)
        exact ⟨⟨k, hk, (hgy.there k hk).1, hkb⟩, hgy.may b (hsub.subset hb)⟩) (hrun _ _ g1)
    · cases hr
end
end Go.Proofs.Ytjcinikojcfebaa.Dm
