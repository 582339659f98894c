/- The data machine, part 25: a region's run, and what one operation of it does in the model. -/
import Derived.Test.YtjcinikojcfebaaDm24
namespace Go.Proofs.Ytjcinikojcfebaa.Dm
open Go

/-- A test that has been seen. -/
theorem seen_f {s : DSt} {d : Nat} {b : Bool} (h : s.t.getD d .dead = .b b) (kn : List (Nat × Bool)) : ({ s with t := s.t.set d (.b b), kn } : DSt).f = s.f := by
  have hd : d < s.t.length := by
    rcases Nat.lt_or_ge d s.t.length with h1 | h1
    · exact h1
    · rw [List.getD_eq_getElem?_getD, List.getElem?_eq_none h1] at h; cases h
  simp only [DSt.f, FSt.mk.injEq, and_true]
  funext j
  rw [getD_set hd]
  split
  · rename_i e; subst e; exact h.symm
  · rfl
theorem seen_kn {s : DSt} (hk : KnOk s) {d : Nat} {b : Bool} (h : s.t.getD d .dead = .b b) : KnOk { s with t := s.t.set d (.b b), kn := (d, b) :: s.kn } := by
  intro j b' hf
  have hd : d < s.t.length := by
    rcases Nat.lt_or_ge d s.t.length with h1 | h1
    · exact h1
    · rw [List.getD_eq_getElem?_getD, List.getElem?_eq_none h1] at h; cases h
  simp only [findK] at hf
  simp only [getD_set hd]
  split at hf
  · rename_i e; cases hf; rw [if_pos e]
  · rename_i e; rw [if_neg e]; exact hk j b' hf

theorem OneStep.of {C : Cx} {ops : List Oper} {g i : Nat} {o : Oper} {s s1 s' : DSt} {lg : Log} (h : OneStep C ops g i o s1 s' lg) (hf : s1.f = s.f) (hl : s1.t.length = s.t.length) : OneStep C ops g i o s s' lg := by
  obtain ⟨h1, h2, h3⟩ := h
  rw [hf, hl] at h1
  exact ⟨h1, h2, h3.trans hl⟩

theorem opL_one {C : Cx} {ops : List Oper} {g i : Nat} {o : Oper} {s s' : DSt} {lg : Log} (hk : KnOk s) (hn : Known s.f) (h : (opL C ops g i o s).eval = some (s', lg)) : OneStep C ops g i o s s' lg := by
  unfold opL at h
  split at h
  · rename_i e
    exact stepL_one (gd := none) hk hn (by unfold GdIs; simp [e]) (fun d want hd => by cases hd) h
  · rename_i j want e
    split at h
    · cases h
    · rename_i d hd
      have hgd : GdIs ops o (some (d, want)) := by unfold GdIs; simp only [e]; exact ⟨d, hd, rfl⟩
      split at h
      · rename_i b hb
        have hb := hk d b hb
        split at h
        · rename_i e; subst e
          exact stepL_one hk hn hgd (fun d' want' hd' => by cases hd'; exact hb) h
        · rename_i hne
          exact skipL_one hk hgd rfl (.inl (by rw [show s.f.t d = .b b from hb]; cases b <;> cases want <;> simp_all)) h
      · split at h
        · rename_i b hb
          replace h := ite_eval h
          rcases h with ⟨hc, h⟩ | ⟨hc, h⟩
          · have hc : b = want := by simpa using hc
            subst hc
            have hf := seen_f hb ((d, b) :: s.kn)
            refine (stepL_one (seen_kn hk hb) (by rw [hf]; exact hn) hgd (fun d' want' hd' => ?_) h).of hf (by simp)
            cases hd'
            rw [hf]; exact hb
          · have hc : b = !want := by cases b <;> cases want <;> simp_all
            subst hc
            have hf := seen_f hb ((d, !want) :: s.kn)
            refine (skipL_one (seen_kn hk hb) hgd rfl (.inl ?_) h).of hf (by simp)
            rw [hf]; exact hb
        · rename_i hb
          exact skipL_one hk hgd rfl (.inr hb) h
        · cases h

theorem regionL_seq {C : Cx} {ops : List Oper} {base : Nat} : ∀ (l : List (Nat × Oper)) (s s' : DSt) (lg lg' : List Log), (regionL C ops base l s lg).eval = some (s', lg') → KnOk s → Known s.f →
    ∃ L : List Did, Seq C s.t.length L s.f s'.f ∧ KnOk s' ∧ s'.t.length = s.t.length ∧ lg' = (L.map Did.log).reverse ++ lg ∧ L.map (fun d => (d.i, d.o)) = l ∧ ∀ d ∈ L, d.g = base + d.i ∧ GdIs ops d.o d.gd
  | [], s, s', lg, lg', h, hk, hn => by
    simp only [regionL] at h
    obtain ⟨rfl, rfl⟩ := Prod.mk.inj (Option.some.inj h)
    exact ⟨[], rfl, hk, rfl, by simp, rfl, by simp⟩
  | (i, o) :: r, s, s', lg, lg', h, hk, hn => by
    simp only [regionL] at h
    obtain ⟨⟨s1, g1⟩, h1, h2⟩ := bind_eval h
    obtain ⟨⟨l, hp, hpost, rfl, hg, rfl, hgd, rfl⟩, k2, k3⟩ := opL_one hk hn h1
    have hn1 : Known s1.f := by rw [hpost]; exact hn.post hp
    obtain ⟨L, q1, q2, q3, q4, q5, q6⟩ := regionL_seq r s1 s' _ lg' h2 k2 hn1
    refine ⟨l :: L, ⟨hp, by rw [← hpost, ← k3]; exact q1⟩, q2, q3.trans k3, ?_, by simp [q5], ?_⟩
    · rw [q4]; simp
    · intro d hd
      rcases List.mem_cons.1 hd with rfl | hd
      · exact ⟨hg, hgd⟩
      · exact q6 d hd

section
variable {c : Ctx} {μ μ' : Nat → Loc} {fp fp' : Nat → List Nat} {s : FSt} {n : Nat} {a : Act} {w w' : World} {C : Cx}

theorem put_get {a : Act} {dst : Option Tmp} {v : Value} {j n : Nat} (hn : n ≤ a.tmps.size) (hd : ∀ d, dst = some d → d < n) : (a.put dst v).tmps.getD j Go.undef = if dst = some j then v else a.tmps.getD j Go.undef := by
  cases dst with
  | none => simp [Act.put]
  | some d =>
    have := hd d rfl
    simp only [Act.put, Array.getD_eq_getD_getElem?, Array.getElem?_setIfInBounds, Option.some.injEq]
    split
    · rename_i e; subst e; rw [if_pos (Nat.lt_of_lt_of_le this hn)]; rfl
    · rfl
theorem put_size (a : Act) (dst : Option Tmp) (v : Value) : (a.put dst v).tmps.size = a.tmps.size := by cases dst <;> simp [Act.put]
theorem put_defers (a : Act) (dst : Option Tmp) (v : Value) : (a.put dst v).defers = a.defers := by cases dst <;> rfl

/-- Behind an operation. -/
theorem RelX.did {l : Did} {v' : Value} (h : RelX c μ fp s n a w) (hp : Pre C n l s) (q : Post c μ s l.r v' w' μ' fp') : RelX c μ' fp' (post l s) n (a.put l.o.dst v') w' where
  tm j := by
    rw [put_get h.n hp.dst]
    show VRel c μ' _ (if l.o.dst = some j then l.r.1 else s.t j)
    split
    · exact q.val
    · exact VRel.mono _ (fun id hi => q.agree id (h.known.t j id hi)) (h.tm j)
  n := by rw [put_size]; exact h.n
  defers := by rw [put_defers]; exact h.defers
  vs := q.vs
  known := h.known.post hp
  ev := q.ev
  fix id hi := ⟨.inl (h.fix id hi).1, (q.agree id (h.fix id hi).1).trans (h.fix id hi).2⟩

theorem wp_op_eq {P : Program} {o o' : Oper} {a : Act} {w : World} {K : Act → World → Prop} {Q : Exit → Act → World → Prop} (hd : o'.dst = o.dst) (hr : (execOp a.eval o).run P w = (execOp a.eval o').run P w) (h : o'.wp P a w K Q) : o.wp P a w K Q := by
  unfold Oper.wp at h ⊢
  rw [hr]
  revert h
  generalize (execOp a.eval o').run P w = r
  intro h
  cases r with
  | ok x w' => cases x <;> simp only [Oper.upon, hd] at h ⊢ <;> exact h
  | halt x w' => cases x <;> simp only [Oper.upon] at h ⊢ <;> exact h

theorem did_sound (hC : CxOk C c.P) (hF : CallsOk C c.P) {ops : Array Oper} {l : Did} {K : Act → World → Prop} {Q : Exit → Act → World → Prop} (h : RelX c μ fp s n a w) (hp : Pre C n l s) (ho : ops[l.i]? = some l.o) (hgd : GdIs ops.toList l.o l.gd)
    (hK : ∀ a' w' μ' fp', RelX c μ' fp' (post l s) n a' w' → K a' w') : wpOp c.P ops Q l.i K a w := by
  unfold wpOp
  simp only [ho]
  have hw : Region.wanted l.o (yielded ops a.tmps) = !l.skip := by
    have hg := hp.guard
    unfold GuardOk at hg
    unfold GdIs at hgd
    unfold Region.wanted
    split at hgd
    · rename_i e
      rw [hgd] at hg
      simp only at hg
      simp [e, hg]
    · rename_i j want e
      obtain ⟨d, h1, h2⟩ := hgd
      rw [h2] at hg
      simp only at hg
      simp only [e]
      have h1' : (ops[j]?).bind (·.dst) = some d := by simpa using h1
      have hv := h.tm d
      unfold yielded
      rw [h1']
      simp only [Option.bind_some]
      rw [Array.getD_eq_getD_getElem?] at hv
      cases hs : l.skip with
      | false =>
        rw [hs] at hg
        simp only [Bool.false_eq_true, if_false] at hg
        rw [hg] at hv
        simp only [VRel] at hv
        cases ht : a.tmps[d]? with
        | none => rw [ht] at hv; cases hv
        | some y => rw [ht] at hv; simp only [Option.getD_some] at hv; subst hv; simp
      | true =>
        rw [hs] at hg
        simp only [if_true] at hg
        rcases hg with hg | hg <;> rw [hg] at hv <;> simp only [VRel] at hv <;> cases ht : a.tmps[d]? with
        | none => rfl
        | some y => rw [ht] at hv; simp only [Option.getD_some] at hv; subst hv; first | rfl | (cases want <;> rfl)
  rw [hw]
  cases hs : l.skip with
  | true =>
    simp only [Bool.not_true, Bool.false_eq_true, if_false]
    obtain ⟨e1, e2⟩ := hp.skip hs
    exact hK _ _ μ fp (h.did hp ⟨fun _ _ => rfl, by rw [e1]; rfl, by rw [e1]; exact h.vs, h.ev⟩)
  | false =>
    simp only [Bool.not_false, if_true]
    left
    have hE : ∀ id x, envR l.T s.v id = some x → s.v id = some x := fun id x hx => by
      unfold envR at hx
      split at hx
      · exact hx
      · cases hx
    have hsim := core_sim (o := { l.o with op := l.op }) h hC hF hE (fr := l.g * 64) (fun id h1 h2 => hp.fresh hs id (by omega)) (hp.core hs)
    have hwp := hsim K Q fun v' w' μ' fp' q => hK _ _ μ' fp' (h.did hp q)
    refine wp_op_eq (o' := { l.o with op := l.op }) rfl ?_ hwp
    rcases hp.eq hs with e | ⟨x, y, z, e, h1⟩
    · rw [e]
    · have hv := h.ev_rel x
      rcases h1 with ⟨h1, e2⟩ | ⟨h1, e2⟩ <;> rw [h1] at hv <;> simp only [VRel] at hv <;> simp [execOp, e, e2, hv, asBool]
end
end Go.Proofs.Ytjcinikojcfebaa.Dm
