/- The data machine, part 35: a call does what is told of the function. -/
import Derived.Test.YtjcinikojcfebaaDm34
namespace Go.Proofs.Ytjcinikojcfebaa.Dm
open Go

theorem fst_inj : ∀ {g : List (Nat × Nat × Nat)}, (g.map (·.1)).Nodup → ∀ {B : Nat} {x y : Nat × Nat}, (B, x) ∈ g → (B, y) ∈ g → x = y
  | [], _, _, _, _, h, _ => by cases h
  | a :: g, hn, B, x, y, h1, h2 => by
    simp only [List.map_cons, List.nodup_cons] at hn
    rcases List.mem_cons.1 h1 with e1 | h1
    · rcases List.mem_cons.1 h2 with e2 | h2
      · rw [← e1] at e2; cases e2; rfl
      · exact absurd (List.mem_map.2 ⟨_, h2, by rw [← e1]⟩) hn.1
    · rcases List.mem_cons.1 h2 with e2 | h2
      · exact absurd (List.mem_map.2 ⟨_, h1, by rw [← e2]⟩) hn.1
      · exact fst_inj hn.2 h1 h2

theorem resV_rel {c : Ctx} {μ : Nat → Loc} {vs : List Value} {ds : List DVal} (h : VsRel c μ vs ds) : VRel c μ (retV vs) (resV ds) := by
  match ds, h with
  | [], h => simp only [VsRel] at h; subst h; simp only [retV, resV, VRel]; exact ⟨_, rfl, by simp [VsRel]⟩
  | [d], h =>
    simp only [VsRel] at h
    obtain ⟨v, vs', rfl, h1, rfl⟩ := h
    exact h1
  | d1 :: d2 :: ds, h =>
    have h' := h
    simp only [VsRel] at h
    obtain ⟨v, vs', rfl, _, v2, vs2, rfl, _, _⟩ := h
    simp only [retV, resV, VRel]
    exact ⟨_, rfl, h'⟩

theorem same_arr {C C' : Array Value} (h : ∀ j : Nat, C'[j]? = C[j]?) : C' = C := by
  apply Array.ext_getElem?
  exact h

theorem ItemsRep_cells {S : Nat → Prop} {w : World} : (l : List Item) → {vs : List Value} → {x : itemsD l} → {f : List Nat} → {g : List (Nat × Nat × Nat)} → ItemsRep S w l vs x f g → ∀ B o m, (B, o, m) ∈ g → ∃ C T, w.heap[B]? = some (.cells C T (0, 0))
  | [], _, _, _, _, h => by simp only [ItemsRep] at h; obtain ⟨_, rfl, rfl⟩ := h; simp
  | it :: r, _, _, _, _, h => by
    simp only [ItemsRep] at h; obtain ⟨v, vs', f1, f2, g1, g2, rfl, rfl, rfl, h1, h⟩ := h
    intro B o m hm
    rcases List.mem_append.1 hm with hm | hm
    · obtain ⟨p, a, cs⟩ := it
      cases p with
      | false => simp only [ItemRep] at h1; rw [h1.1] at hm; cases hm
      | true =>
        simp only [ItemRep] at h1
        obtain ⟨B', o', C, T, rfl, _, hb, _⟩ := h1
        simp only [List.mem_singleton, Prod.mk.injEq] at hm
        obtain ⟨rfl, _, _⟩ := hm
        exact ⟨C, T, hb⟩
    · exact ItemsRep_cells r h B o m hm

theorem backRepV_lt {w : World} : (l : List Cm) → {vs : List Value} → {y : backVD l} → {f : List Nat} → backRepV w l vs y f → ∀ b ∈ f, b < w.heap.size
  | [], _, _, _, h => by simp only [backRepV] at h; rw [h.2]; simp
  | .b :: r, _, _, _, h => by simp only [backRepV] at h; obtain ⟨_, vs', rfl, h⟩ := h; exact backRepV_lt r h
  | .i _ :: r, _, _, _, h => by simp only [backRepV] at h; obtain ⟨_, vs', rfl, h⟩ := h; exact backRepV_lt r h
  | .s :: r, _, _, _, h => by simp only [backRepV] at h; obtain ⟨_, vs', rfl, h⟩ := h; exact backRepV_lt r h
  | .ro e :: r, _, _, _, h => by simp only [backRepV] at h; obtain ⟨_, vs', rfl, h⟩ := h; exact backRepV_lt r h
  | .own e :: r, _, _, _, h => by simp only [backRepV] at h; obtain ⟨_, vs', rfl, h⟩ := h; exact backRepV_lt r h
  | .mut e :: r, _, _, _, h => by
    simp only [backRepV] at h; obtain ⟨_, vs', f1, f2, rfl, rfl, h1, h⟩ := h
    intro b hb
    rcases List.mem_append.1 hb with hb | hb
    · exact Ty.repO_lt _ h1 b hb
    · exact backRepV_lt r h b hb
theorem backRepP_lt {w : World} : (l : List Cm) → {os vs : List Value} → {y : backPD l} → {f : List Nat} → backRepP w l os vs y f → ∀ b ∈ f, b < w.heap.size
  | [], _, _, _, _, h => by simp only [backRepP] at h; rw [h.2.2]; simp
  | .b :: r, _, _, _, _, h => by simp only [backRepP] at h; obtain ⟨_, _, vs', rfl, rfl, h⟩ := h; exact backRepP_lt r h
  | .i _ :: r, _, _, _, _, h => by simp only [backRepP] at h; obtain ⟨_, _, vs', rfl, rfl, h⟩ := h; exact backRepP_lt r h
  | .s :: r, _, _, _, _, h => by simp only [backRepP] at h; obtain ⟨_, _, vs', rfl, rfl, _, h⟩ := h; exact backRepP_lt r h
  | .ro e :: r, _, _, _, _, h => by simp only [backRepP] at h; obtain ⟨_, _, vs', rfl, rfl, h⟩ := h; exact backRepP_lt r h
  | .own e :: r, _, _, _, _, h => by
    simp only [backRepP] at h; obtain ⟨_, _, _, vs', f1, f2, rfl, rfl, rfl, h1, h⟩ := h
    intro b hb
    rcases List.mem_append.1 hb with hb | hb
    · exact Ty.repO_lt _ h1 b hb
    · exact backRepP_lt r h b hb
  | .mut e :: r, _, _, _, _, h => by
    simp only [backRepP] at h; obtain ⟨_, _, _, vs', f1, f2, rfl, rfl, rfl, h1, h⟩ := h
    intro b hb
    rcases List.mem_append.1 hb with hb | hb
    · exact Ty.repO_lt _ h1 b hb
    · exact backRepP_lt r h b hb
theorem backsRep_lt {w w' : World} : (l : List Item) → {vs : List Value} → {y : backD l} → {f : List Nat} → BacksRep w w' l vs y f → ∀ b ∈ f, b < w'.heap.size
  | [], _, _, _, h => by simp only [BacksRep] at h; rw [h.2]; simp
  | it :: r, _, _, _, h => by
    simp only [BacksRep] at h; obtain ⟨v, vs', f1, f2, rfl, rfl, h1, h⟩ := h
    intro b hb
    rcases List.mem_append.1 hb with hb | hb
    · obtain ⟨p, a, cs⟩ := it
      cases p with
      | false => exact backRepV_lt cs h1 b hb
      | true => obtain ⟨B, o, _, h1⟩ := h1; exact backRepP_lt cs h1 b hb
    · exact backsRep_lt r h b hb

theorem con_call {P : Program} {K : Con} (hK : K.Ok P) {ds : List DVal} {E : Env} {fr : Nat} {o : Out Res} {r : Res} (hcall : K.call ds E fr = some o) (ho : o.eval = some r)
    (c : Ctx) (μ : Nat → Loc) (fp : Nat → List Nat) (s : FSt) (w : World) (vs : List Value) (hP : c.P = P) (hv : RelV c μ fp s.v w) (hkn : Known s) (ev : Ev c w) (hvs : VsRel c μ vs ds) (hids : ∀ id ∈ DVal.idsL ds, s.k id)
    (hE : ∀ id x, E id = some x → s.v id = some x) (hfr : ∀ id, fr ≤ id → id < fr + 64 → ¬ s.k id) :
    Called P K.f vs.toArray w fun v' w' => ∃ μ' fp', Post c μ s r v' w' μ' fp' := by
  unfold Con.call at hcall
  obtain ⟨is, his, hcall⟩ := Option.bind_eq_some_iff.1 hcall
  obtain ⟨x, hx, hcall⟩ := Option.bind_eq_some_iff.1 hcall
  split at hcall
  case isFalse => cases hcall
  rename_i hc
  obtain ⟨hnd, hlend⟩ := hc
  obtain rfl := Option.some.inj hcall
  obtain ⟨y, hy, hr⟩ := bind_eval ho
  obtain ⟨ivs, hiv, rfl, hsub⟩ := unlay_rel K.lay his hvs
  have hids' : ∀ id ∈ DVal.idsL is, s.k id := fun id hi => hids id (hsub id hi)
  have hn := nodupB_iff _ hnd
  -- what is lent
  generalize hEL : lendE K E is = EL at hx hlend
  have hEL' : ∀ id x, EL id = some x → s.v id = some x := by
    intro id z hz
    rw [← hEL] at hz
    unfold lendE at hz
    by_cases hl : K.lend = true
    · rw [if_pos hl] at hz
      cases h0 : takeIs E E K.its is with
      | none => rw [h0] at hz; cases hz
      | some q =>
        rw [h0] at hz
        replace hz : (if q.2.contains id = true then none else E id) = some z := hz
        split at hz
        · cases hz
        · exact hE id z hz
    · rw [if_neg hl] at hz
      cases hz
  have hELn : K.lend = false → ∀ id, EL id = none := by
    intro hl id
    rw [← hEL]
    unfold lendE
    rw [if_neg (by simp [hl])]
    rfl
  have hout : ∀ id ∈ x.2, EL id = none := by
    intro id hi
    rcases hlend with hl | ⟨_, hl⟩
    · exact hELn hl id
    · have := List.all_eq_true.1 hl id hi
      cases he : EL id with
      | none => rfl
      | some z => rw [he] at this; cases this
  let S' : Nat → Prop := fun b => c.S b ∨ ∃ id, EL id ≠ none ∧ b ∈ fp id
  have hvn : ∀ id, EL id ≠ none → s.v id ≠ none := fun id hi => by
    obtain ⟨z, hz⟩ := Option.ne_none_iff_exists'.1 hi
    rw [hEL' id z hz]; simp
  have hS' : ∀ b, S' b → b < w.heap.size := by
    rintro b (hb | ⟨id, hi, hb⟩)
    · exact Nat.lt_of_lt_of_le (c.hS b hb) ev.size
    · exact hv.lt id (hvn id hi) b hb
  obtain ⟨f, g, hrep, hg⟩ := takeIs_rel hv ev hE hEL' (S' := S') (fun b hb => .inl hb) (fun id hi b hb => .inr ⟨id, hi, hb⟩) K.its hiv hx hn
  have hfar : ∀ b ∈ f ++ g.map (·.1), ∀ id, s.v id ≠ none → id ∉ x.2 → b ∉ fp id := by
    intro b hb id hi hni hb'
    obtain ⟨i, him, hm⟩ := hg.mem b hb
    exact hv.sep i id (fun e => hni (e ▸ him)) (hg.there i him).1 hi b hm hb'
  have hnotS : ∀ b ∈ f ++ g.map (·.1), ¬ S' b := by
    rintro b hb (hs | ⟨id, hi, hm⟩)
    · obtain ⟨i, him, hm⟩ := hg.mem b hb
      exact hv.notS i (hg.there i him).1 b hm hs
    · refine hfar b hb id (hvn id hi) (fun him => hi (hout id him)) hm
  have hlt := ItemsRep_lt K.its hrep
  refine (hK x.1 y hy S' w hS' ivs f g hrep hg.nodup hnotS).mono fun v' w' hd => ?_
  obtain ⟨⟨rvs, f1, g1, f2, rfl, hrs, hbk, hnd2, hfresh⟩, hev⟩ := hd
  have hsize := hev.size
  have hsize : w.heap.size ≤ w'.heap.size := hsize
  have hcw : c.w0.heap.size ≤ w.heap.size := ev.size
  have hgn : (g.map (·.1)).Nodup := (List.nodup_append.1 hg.nodup).2.1
  -- the memory
  have hev' : Ev c w' := by
    refine ev.comp hev rfl (fun b hb => .inl hb) fun b j hb hm => ?_
    rcases hm with hm | ⟨o, m, hm, h1, h2⟩
    · exact hg.may b hm hb j
    · have := hg.mayG b o m hm hb (j - o) (by omega)
      rwa [show o + (j - o) = j by omega] at this
  have hsame : ∀ id, s.v id ≠ none → id ∉ x.2 → ∀ b ∈ fp id, w'.heap[b]? = w.heap[b]? := by
    intro id hi hni b hb
    rcases hev.old b (hv.lt id hi b hb) with e | ⟨C, C', T, h1, h2, h3, h4⟩
    · exact e
    · have h1 : w.heap[b]? = some (.cells C T (0, 0)) := h1
      have : C' = C := same_arr fun j => h4 j fun hm => by
        rcases hm with hm | ⟨o, m, hm, _, _⟩
        · exact hfar b (by simp [hm]) id hi hni hb
        · exact hfar b (List.mem_append.2 (.inr (List.mem_map.2 ⟨_, hm, rfl⟩))) id hi hni hb
      rw [h2, h1, this]
  have hplaces : Places w w' g := by
    intro B o m hm
    have hB : B ∈ f ++ g.map (·.1) := List.mem_append.2 (.inr (List.mem_map.2 ⟨_, hm, rfl⟩))
    obtain ⟨C0, T0, hC0⟩ := ItemsRep_cells K.its hrep B o m hm
    rcases hev.old B (hlt B hB) with e | ⟨C, C', T, h1, h2, h3, h4⟩
    · have e : w'.heap[B]? = w.heap[B]? := e
      exact ⟨C0, C0, T0, hC0, by rw [e, hC0], rfl, fun _ _ => rfl⟩
    · refine ⟨C, C', T, h1, h2, h3, fun j hj => h4 j fun hm' => ?_⟩
      rcases hm' with hm' | ⟨o', m', hm', q1, q2⟩
      · exact (List.nodup_append.1 hg.nodup).2.2 B hm' B (List.mem_map.2 ⟨_, hm, rfl⟩) rfl
      · have := fst_inj hgn hm hm'
        cases this
        exact hj ⟨q1, q2⟩
  -- the variables that are left
  let v0 : Env := updF s.v (x.2.map fun k => (k, none))
  have hv0 : ∀ id, v0 id = if id ∈ x.2 then none else s.v id := fun id => updF_none s.v x.2 id
  have hv0n : ∀ id, v0 id ≠ none → id ∉ x.2 ∧ s.v id ≠ none := by
    intro id hi
    rw [hv0] at hi
    split at hi
    · exact absurd rfl hi
    · exact ⟨‹_›, hi⟩
  have hrel0 : RelV c μ fp v0 w' := hv.less (fun id => by
    rw [hv0]
    split
    · exact .inl rfl
    · exact .inr rfl) hsize fun id hi b hb => hsame id (hv0n id hi).2 (hv0n id hi).1 b hb
  have hperm : (f1 ++ g1.map (·.1) ++ (f2 ++ g.map (·.1))).Perm (f2 ++ g.map (·.1) ++ (f1 ++ g1.map (·.1) ++ [])) := by
    rw [List.append_nil]; exact List.perm_append_comm
  have hltr := ItemsRep_lt K.rs hrs
  have hin : ∀ b ∈ f2 ++ g.map (·.1) ++ (f1 ++ g1.map (·.1) ++ []), (b ∈ f ++ g.map (·.1)) ∨ w.heap.size ≤ b := by
    intro b hb
    simp only [List.append_nil, List.mem_append] at hb
    rcases hb with (hb | hb) | hb
    · exact (hfresh b (by simp [hb])).imp (fun h => by simp [h]) id
    · left; simp only [List.mem_append]; exact .inr hb
    · exact (hfresh b (by simp only [List.mem_append]; exact .inl hb)).imp (fun h => by simp [h]) id
  have hpool : Pool c s.k μ fp v0 w' (f2 ++ g.map (·.1) ++ (f1 ++ g1.map (·.1) ++ [])) := by
    refine ⟨hrel0, fun id z hz => ?_, hperm.nodup_iff.1 hnd2, fun id hi b hb hb' => ?_, fun b hb => ?_⟩
    · have hz' : s.v id = some z := by
        have := hv0n id (by rw [hz]; simp)
        rw [hv0, if_neg this.1] at hz
        exact hz
      exact hkn.v id z hz'
    · obtain ⟨h1, h2⟩ := hv0n id hi
      rcases hin b hb' with h | h
      · exact hfar b h id h2 h1 hb
      · have := hv.lt id h2 b hb; omega
    · constructor
      · intro hs
        rcases hin b hb with h | h
        · exact hnotS b h (.inl hs)
        · have := c.hS b hs; omega
      · simp only [List.append_nil, List.mem_append] at hb
        rcases hb with (hb | hb) | hb
        · exact backsRep_lt K.its hbk b hb
        · exact Nat.lt_of_lt_of_le (hlt b (by simp only [List.mem_append]; exact .inr hb)) hsize
        · exact hltr b (by simpa only [List.mem_append] using hb)
  have hMf : ∀ b, (b ∈ f ∨ w.heap.size ≤ b) → b < c.w0.heap.size → ∀ j, c.M b j := by
    intro b hb hlt' j
    rcases hb with hb | hb
    · exact hg.may b hb hlt' j
    · omega
  -- what comes back, and what is new
  unfold after at hr
  simp only at hr
  split at hr
  case isFalse => cases hr
  rename_i hcnt
  obtain rfl := Option.some.inj hr
  rw [enterIs_N] at hcnt
  have hle := itsN_le K.rs (backIs E K.its is y.2 fr).2
  obtain ⟨hle2, μ1, fp1, _, hp1, ha1⟩ := backIs_rel hv hE hkn.v K.its hpool hiv hids' (fun id hi => ⟨hi, rfl⟩) hx hrep hbk (fun b hb => hMf b (hfresh b (by simp [hb]))) hplaces
    (fun id q1 q2 => hfr id q1 (by omega))
  have hSr : ∀ b, c.S b → c.S b ∧ c.w0.heap[b]? = w'.heap[b]? := fun b hb => ⟨hb, (hev'.S b hb).symm⟩
  have hrs' : ItemsRep c.S w' K.rs rvs y.1 f1 g1 := by
    rcases hlend with hl | ⟨hl, _⟩
    · refine ItemsRep_S (fun b hb => ?_) K.rs hrs
      rcases hb with hb | ⟨id, hi, _⟩
      · exact hb
      · exact absurd (hELn hl id) hi
    · exact ItemsRep_roFree K.rs hl hrs
  obtain ⟨μ2, fp2, hres, hp2, ha2⟩ := enterIs_rel false hSr K.rs hp1 hrs' (ToksIs_false _ _ _) (fun b hb => hMf b (hfresh b (by simp [hb])))
    (fun B o m hm hlt' j _ => hMf B (hfresh B (by simp only [List.mem_append, List.mem_map]; exact .inl (.inr ⟨_, hm, rfl⟩))) hlt' (o + j)) (n := (backIs E K.its is y.2 fr).2)
    (fun id q1 q2 q3 => q3.elim (hfr id (by omega) (by omega)) (by omega))
  refine ⟨μ2, fp2, ⟨fun id hi => (ha2 id (.inl hi)).trans (ha1 id hi), resV_rel hres, ?_, hev'⟩⟩
  rw [updF_append, news_append, updF_append]
  exact hp2.rel

/-- All that is told. -/
theorem callL_ok {P : Program} : ∀ (l : List Con), (∀ K ∈ l, K.Ok P) → ∀ {C : Cx}, (C.call = callL l) → CallsOk C P := by
  intro l hl C hC f ds E fr r hr c μ fp s w vs hP hv hkn ev hvs hids hE hfr
  rw [hC] at hr
  clear hC
  induction l with
  | nil => cases hr
  | cons K l ih =>
    simp only [callL] at hr
    split at hr
    · rename_i e; subst e
      split at hr
      · rename_i o e
        exact con_call (hl K (by simp)) e hr c μ fp s w vs hP hv hkn ev hvs hids hE hfr
      · exact ih (fun K hK => hl K (by simp [hK])) hr
    · exact ih (fun K hK => hl K (by simp [hK])) hr
end Go.Proofs.Ytjcinikojcfebaa.Dm
