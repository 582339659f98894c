/- The data machine, part 29: code. -/
import Derived.Test.YtjcinikojcfebaaDm28
import Derived.Control
namespace Go.Proofs.Ytjcinikojcfebaa.Dm
open Go

theorem exists_least {p : Nat → Prop} (h : ∃ n, p n) : ∃ n, p n ∧ ∀ k, p k → n ≤ k := by
  obtain ⟨n, hn⟩ := h
  induction n using Nat.strongRecOn with
  | _ n ih =>
    by_cases hk : ∃ k, k < n ∧ p k
    · obtain ⟨k, h1, h2⟩ := hk; exact ih k h1 h2
    · exact ⟨n, hn, fun k hp => Nat.le_of_not_lt fun hlt => hk ⟨k, hlt, hp⟩⟩
open Classical in
noncomputable def least (p : Nat → Prop) : Nat := if h : ∃ n, p n then Classical.choose (exists_least h) else 0
theorem least_spec {p : Nat → Prop} (h : ∃ n, p n) : p (least p) ∧ ∀ k, p k → least p ≤ k := by
  unfold least
  rw [dif_pos h]
  exact Classical.choose_spec (exists_least h)

/-- A loop with a count of what is still to come. -/
theorem wp_count {P : Program} {Q : Exit → Act → World → Prop} {a : Act} {w : World} {b : Code} (J : Nat → Act → World → Prop) (h0 : ∃ k, J k a w)
    (round : ∀ k a w, J k a w → b.wp P (Exit.then (fun a' w' => ∃ k', k' < k ∧ J k' a' w') Q) a w) : (Code.loop b).wp P Q a w := by
  refine wp_loop (fun a w => ∃ k, J k a w) (fun a w => least fun k => J k a w) h0 fun a w hI => ?_
  obtain ⟨h1, _⟩ := least_spec hI
  refine wp_mono (round _ a w h1) fun e a' w' he => ?_
  cases e with
  | normal =>
    obtain ⟨k', hlt, hk'⟩ := he
    exact ⟨⟨k', hk'⟩, Nat.lt_of_le_of_lt ((least_spec ⟨k', hk'⟩).2 k' hk') hlt⟩
  | _ => exact he

def exOf : Ex → Exit
  | .normal => .normal
  | .ret => .ret
  | .exit id => .exit id

section
variable {c : Ctx} {n : Nat} {C : Cx}

/-- What a round comes to, in the model. -/
def RoundIs {α β γ : Type} (c : Ctx) (n id : Nat) (eα : α → DSt) (eβ : β → DSt) (eγ : γ → DSt) (R : Round α β γ) (e : Exit) (a : Act) (w : World) : Prop :=
  match R with
  | .again x => e = .normal ∧ DRel c n (eα x) a w
  | .out y => e = .exit id ∧ DRel c n (eβ y) a w
  | .ret z => e = .ret ∧ DRel c n (eγ z) a w

theorem iter_sound {α β γ : Type} {eα : α → DSt} {eβ : β → DSt} {eγ : γ → DSt} {f : α → Out (Round α β γ)} {b : Code} {id : Nat} {Q : Exit → Act → World → Prop}
    (hround : ∀ x R a w, (f x).eval = some R → DRel c n (eα x) a w → b.wp c.P (RoundIs c n id eα eβ eγ R) a w)
    {k : Nat} {x : α} {r : β ⊕ γ} (h : iter f k x = some r) {a : Act} {w : World} (hx : DRel c n (eα x) a w)
    (hout : ∀ y a w, r = .inl y → DRel c n (eβ y) a w → Q (.exit id) a w) (hret : ∀ z a w, r = .inr z → DRel c n (eγ z) a w → Q .ret a w) : (Code.loop b).wp c.P Q a w := by
  refine wp_count (fun k a w => ∃ x, iter f k x = some r ∧ DRel c n (eα x) a w) ⟨k, x, h, hx⟩ ?_
  rintro k a w ⟨x, h, hx⟩
  cases k with
  | zero => cases h
  | succ k =>
    simp only [iter] at h
    split at h
    · rename_i x' hf
      refine wp_mono (hround x _ a w hf hx) fun e a' w' he => ?_
      obtain ⟨rfl, he⟩ := he
      exact ⟨k, Nat.lt_succ_self k, x', h, he⟩
    · rename_i y hf
      obtain rfl := Option.some.inj h
      refine wp_mono (hround x _ a w hf hx) fun e a' w' he => ?_
      obtain ⟨rfl, he⟩ := he
      exact hout y a' w' rfl he
    · rename_i z hf
      obtain rfl := Option.some.inj h
      refine wp_mono (hround x _ a w hf hx) fun e a' w' he => ?_
      obtain ⟨rfl, he⟩ := he
      exact hret z a' w' rfl he
    · cases h

/-- What is told of code. -/
def CodeOk (c : Ctx) (n : Nat) (b : Code) (f : DSt → Out (Ex × DSt)) : Prop :=
  ∀ s r a w, (f s).eval = some r → DRel c n s a w → b.wp c.P (fun e a' w' => e = exOf r.1 ∧ DRel c n r.2 a' w') a w

def retE : (o : Option Shape) → retD o → DSt
  | some S, z => S.enc z
  | none, z => nomatch z

theorem leaf_sound {b : Code} {f : DSt → Out (Ex × DSt)} (hb : CodeOk c n b f) (id : Nat) (A : LoopAnn) (x : A.head.D) (R : Round A.head.D A.out.D (retD A.ret)) (a : Act) (w : World)
    (h : ((f (A.head.enc x)).bind (leafD id A)).eval = some R) (hx : DRel c n (A.head.enc x) a w) : b.wp c.P (RoundIs c n id A.head.enc A.out.enc (retE A.ret) R) a w := by
  replace h := bind_eval h
  obtain ⟨r, hr, h⟩ := h
  refine wp_mono (hb _ r a w hr hx) fun e a' w' he => ?_
  obtain ⟨rfl, he⟩ := he
  unfold leafD at h
  split at h
  · rename_i e1
    obtain ⟨x', hx', h⟩ := of_eval h
    obtain rfl := Option.some.inj h
    exact ⟨by rw [e1]; rfl, dec_sound he hx'⟩
  · rename_i m e1
    split at h
    · rename_i e2; subst e2
      obtain ⟨x', hx', h⟩ := of_eval h
      obtain rfl := Option.some.inj h
      exact ⟨by rw [e1]; rfl, dec_sound he hx'⟩
    · cases h
  · rename_i e1
    obtain ⟨hd, ot, rt⟩ := A
    cases rt with
    | none => cases h
    | some S =>
      replace h : (Out.of (S.dec r.2) fun z => .ret (.ret z) : Out (Round hd.D ot.D (retD (some S)))).eval = some R := h
      obtain ⟨x', hx', h⟩ := of_eval h
      obtain rfl := Option.some.inj h
      exact ⟨by rw [e1]; rfl, dec_sound he hx'⟩

theorem loop_sound {b : Code} {f : DSt → Out (Ex × DSt)} (hb : CodeOk c n b f) (id : Nat) (A : LoopAnn) : CodeOk c n (.block id (.loop b)) (loopL id A f) := by
  intro s r a w h hs
  unfold loopL at h
  obtain ⟨x, hx, h⟩ := of_eval h
  have hx' := dec_sound hs hx
  have hleaf := leaf_sound hb id A
  obtain ⟨hd, ot, rt⟩ := A
  refine wp_block ?_
  cases rt with
  | some S =>
    replace h : (Out.get (iter (fun x => (f (hd.enc x)).bind (leafD id ⟨hd, ot, some S⟩)) FUEL x) fun r => Out.alt r (fun y => .ret (Ex.normal, ot.enc y)) fun z => .ret (Ex.ret, S.enc z)).eval = some r := h
    obtain ⟨q, hq, h⟩ := get_eval h
    refine iter_sound (id := id) (eα := hd.enc) (eβ := ot.enc) (eγ := retE (some S)) (fun x R a w h1 h2 => hleaf x R a w h1 h2) hq hx' (fun y a' w' e he => ?_) (fun z a' w' e he => ?_)
    · subst e
      obtain rfl := Option.some.inj h
      simp only [Exit.inBlock, if_true]
      exact ⟨rfl, he⟩
    · subst e
      obtain rfl := Option.some.inj h
      exact ⟨rfl, he⟩
  | none =>
    replace h : (Out.get (iter1 (fun x => (f (hd.enc x)).bind (leafD id ⟨hd, ot, none⟩)) FUEL x) fun y => Out.ret (Ex.normal, ot.enc y)).eval = some r := h
    obtain ⟨y, hy, h⟩ := get_eval h
    unfold iter1 at hy
    obtain ⟨q, hq, hy⟩ := Option.map_eq_some_iff.1 hy
    obtain rfl := Option.some.inj h
    refine iter_sound (id := id) (eα := hd.enc) (eβ := ot.enc) (eγ := retE none) (fun x R a w h1 h2 => hleaf x R a w h1 h2) hq hx' (fun y' a' w' e he => ?_) (fun z a' w' e he => ?_)
    · subst e
      simp only at hy
      subst hy
      simp only [Exit.inBlock, if_true]
      exact ⟨rfl, he⟩
    · exact nomatch z

theorem block_sound {b : Code} {f : DSt → Out (Ex × DSt)} (hb : CodeOk c n b f) (id : Nat) : CodeOk c n (.block id b) (fun s => (f s).map (blockEx id)) := by
  intro s r a w h hs
  obtain ⟨q, hq, h⟩ := bind_eval h
  obtain rfl := Option.some.inj h
  refine wp_block (wp_mono (hb s q a w hq hs) fun e a' w' he => ?_)
  obtain ⟨rfl, he⟩ := he
  obtain ⟨e, s'⟩ := q
  cases e with
  | normal => exact ⟨rfl, he⟩
  | ret => exact ⟨rfl, he⟩
  | exit m =>
    simp only [exOf, Exit.inBlock, blockEx]
    by_cases hm : m = id
    · rw [if_pos hm, if_pos hm]; exact ⟨rfl, he⟩
    · rw [if_neg hm, if_neg hm]; exact ⟨rfl, he⟩

theorem seen_rel {s : DSt} {a : Act} {w : World} (h : DRel c n s a w) {d : Nat} {b : Bool} (hb : s.t.getD d .dead = .b b) : DRel c n { s with t := s.t.set d (.b b), kn := (d, b) :: s.kn } a w := by
  obtain ⟨⟨μ, fp, hx⟩, hk, hl⟩ := h
  exact ⟨⟨μ, fp, by rw [seen_f hb]; exact hx⟩, seen_kn hk hb, by simpa using hl⟩

theorem dexec_sound (hC : CxOk C c.P) (hF : CallsOk C c.P) (hm : c.P.follows .mixedOrders = true) (A : Nat → Option LoopAnn) : ∀ b : Code, CodeOk c n b (dexec C A b)
  | .skip => fun s r a w h hs => by
    obtain rfl := Option.some.inj (show some (Ex.normal, s) = some r from h)
    exact wp_skip ⟨rfl, hs⟩
  | .ret => fun s r a w h hs => by
    obtain rfl := Option.some.inj (show some (Ex.ret, s) = some r from h)
    exact wp_ret ⟨rfl, hs⟩
  | .exit m => fun s r a w h hs => by
    obtain rfl := Option.some.inj (show some (Ex.exit m, s) = some r from h)
    exact wp_exit ⟨rfl, hs⟩
  | .seq x y => fun s r a w h hs => by
    simp only [dexec] at h
    obtain ⟨q, hq, h⟩ := bind_eval h
    refine wp_seq (wp_mono (dexec_sound hC hF hm A x s q a w hq hs) fun e a' w' he => ?_)
    obtain ⟨rfl, he⟩ := he
    obtain ⟨e, s'⟩ := q
    cases e with
    | normal => exact dexec_sound hC hF hm A y s' r a' w' h he
    | ret => obtain rfl := Option.some.inj h; exact ⟨rfl, he⟩
    | exit m => obtain rfl := Option.some.inj h; exact ⟨rfl, he⟩
  | .cond t x y => fun s r a w h hs => by
    simp only [dexec] at h
    obtain ⟨⟨μ, fp, hx⟩, hk, hl⟩ := hs
    have hs : DRel c n s a w := ⟨⟨μ, fp, hx⟩, hk, hl⟩
    have hv := hx.ev_rel t
    split at h
    · rename_i e
      rw [knOf_ev hk e] at hv
      simp only [VRel] at hv
      exact wp_cond_true hv (dexec_sound hC hF hm A x s r a w h hs)
    · rename_i e
      rw [knOf_ev hk e] at hv
      simp only [VRel] at hv
      exact wp_cond_false hv (dexec_sound hC hF hm A y s r a w h hs)
    · split at h
      · rename_i d p _ e
        have e' : s.t.getD d .dead = .b p := e
        have hv : VRel c μ (a.eval (.tmp d)) (.b p) := by rw [← e']; exact hv
        simp only [VRel] at hv
        rcases ite_eval h with ⟨rfl, h⟩ | ⟨rfl, h⟩
        · exact wp_cond_true hv (dexec_sound hC hF hm A x _ r a w h (seen_rel hs e'))
        · exact wp_cond_false hv (dexec_sound hC hF hm A y _ r a w h (seen_rel hs e'))
      · cases h
  | .block id (.loop b) => fun s r a w h hs => by
    simp only [dexec] at h
    split at h
    · rename_i A' e
      exact loop_sound (dexec_sound hC hF hm A b) id A' s r a w h hs
    · cases h
  | .region id ops draw => fun s r a w h hs => by
    simp only [dexec] at h
    obtain ⟨s', hs', h⟩ := bind_eval h
    obtain rfl := Option.some.inj h
    exact region_sound hC hF hm hs hs' fun a' w' h' => ⟨rfl, h'⟩
  | .block id .skip => block_sound (dexec_sound hC hF hm A .skip) id
  | .block id .ret => block_sound (dexec_sound hC hF hm A .ret) id
  | .block id (.exit m) => block_sound (dexec_sound hC hF hm A (.exit m)) id
  | .block id (.seq x y) => block_sound (dexec_sound hC hF hm A (.seq x y)) id
  | .block id (.cond t x y) => block_sound (dexec_sound hC hF hm A (.cond t x y)) id
  | .block id (.block j x) => block_sound (dexec_sound hC hF hm A (.block j x)) id
  | .block id (.region j o d) => block_sound (dexec_sound hC hF hm A (.region j o d)) id
  | .block id (.rangeFunc f p as b) => block_sound (dexec_sound hC hF hm A (.rangeFunc f p as b)) id
  | .block id (.scope b) => block_sound (dexec_sound hC hF hm A (.scope b)) id
  | .block id (.label l) => block_sound (dexec_sound hC hF hm A (.label l)) id
  | .block id (.goto l) => block_sound (dexec_sound hC hF hm A (.goto l)) id
  | .block id (.refuse l) => block_sound (dexec_sound hC hF hm A (.refuse l)) id
  | .loop _ => fun s r a w h hs => by simp [dexec, Out.eval] at h
  | .rangeFunc .. => fun s r a w h hs => by simp [dexec, Out.eval] at h
  | .scope _ => fun s r a w h hs => by simp [dexec, Out.eval] at h
  | .label _ => fun s r a w h hs => by simp [dexec, Out.eval] at h
  | .goto _ => fun s r a w h hs => by simp [dexec, Out.eval] at h
  | .refuse _ => fun s r a w h hs => by simp [dexec, Out.eval] at h
end
end Go.Proofs.Ytjcinikojcfebaa.Dm
