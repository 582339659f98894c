/- The data machine, part 12: data that come as one's own. -/
import Derived.Test.YtjcinikojcfebaaDm11
namespace Go.Proofs.Ytjcinikojcfebaa.Dm
open Go

theorem news_append (a b : List (Nat × DVar)) : news (a ++ b) = news a ++ news b := by simp [news]

mutual
theorem Ty.thaw_le : (t : Ty) → (x : t.D) → (n : Nat) → n ≤ (t.thaw x n).2.2
  | .bool, _, n => Nat.le_refl n
  | .int _, _, n => Nat.le_refl n
  | .str, _, n => Nat.le_refl n
  | .sl _, _, n => Nat.le_succ n
  | .st fs, x, n => Tys.thaw_le fs x n
theorem Tys.thaw_le : (t : Tys) → (x : t.D) → (n : Nat) → n ≤ (t.thaw x n).2.2
  | .nil, _, n => Nat.le_refl n
  | .cons t ts, x, n => Nat.le_trans (Ty.thaw_le t x.1 n) (Tys.thaw_le ts x.2 _)
end
mutual
theorem Ty.thaw_ids : (t : Ty) → (x : t.D) → (n : Nat) → ∀ id ∈ DVal.idsL (t.thaw x n).1, n ≤ id ∧ id < (t.thaw x n).2.2
  | .bool, _, n => by intro id h; cases h
  | .int _, _, n => by intro id h; cases h
  | .str, _, n => by intro id h; cases h
  | .sl e, x, n => by
    intro id h
    have h : id ∈ [n] := h
    simp at h; subst h
    exact ⟨Nat.le_refl _, Nat.lt_succ_self _⟩
  | .st fs, x, n => Tys.thaw_ids fs x n
theorem Tys.thaw_ids : (t : Tys) → (x : t.D) → (n : Nat) → ∀ id ∈ DVal.idsL (t.thaw x n).1, n ≤ id ∧ id < (t.thaw x n).2.2
  | .nil, _, n => by intro id h; cases h
  | .cons t ts, x, n => by
    intro id h
    have h : id ∈ DVal.idsL ((t.thaw x.1 n).1 ++ (ts.thaw x.2 (t.thaw x.1 n).2.2).1) := h
    rw [idsL_append, List.mem_append] at h
    have l1 := Ty.thaw_le t x.1 n
    have l2 := Tys.thaw_le ts x.2 (t.thaw x.1 n).2.2
    show n ≤ id ∧ id < (ts.thaw x.2 (t.thaw x.1 n).2.2).2.2
    rcases h with h | h
    · have := Ty.thaw_ids t x.1 n id h; omega
    · have := Tys.thaw_ids ts x.2 _ id h; omega
end

/-- Variables that came besides. -/
structure Chain (c : Ctx) (K K' : Nat → Prop) (μ μ' : Nat → Loc) (fp fp' : Nat → List Nat) (v v' : Env) (w : World) (f : List Nat) : Prop where
  agree : ∀ id, K id → μ' id = μ id
  rel : RelV c μ' fp' v' w
  known : ∀ id x, v' id = some x → K' id ∧ ∀ id' ∈ x.ids, K' id'
  foot : ∀ id, v' id ≠ none → (v id ≠ none ∧ fp' id = fp id) ∨ ∀ b ∈ fp' id, b ∈ f

mutual
theorem Ty.thaw_rel {c : Ctx} {w : World} : (t : Ty) → ∀ {cs : List Value} {x : t.D} {f : List Nat} {n : Nat} {K : Nat → Prop} {μ : Nat → Loc} {fp : Nat → List Nat} {v : Env},
    RelV c μ fp v w → (∀ id x, v id = some x → K id ∧ ∀ id' ∈ x.ids, K id') → t.repO w cs x f → f.Nodup → (∀ b ∈ f, ¬ c.S b ∧ b < w.heap.size ∧ (b < c.w0.heap.size → ∀ j, c.M b j)) →
    (∀ id, v id ≠ none → ∀ b ∈ fp id, b ∉ f) → (∀ id, n ≤ id → id < (t.thaw x n).2.2 → ¬ K id) →
    ∃ μ' fp', VsRel c μ' cs (t.thaw x n).1 ∧ Chain c K (fun id => K id ∨ (n ≤ id ∧ id < (t.thaw x n).2.2)) μ μ' fp fp' v (updF v (news (t.thaw x n).2.1)) w f
  | .bool, cs, x, f, n, K, μ, fp, v, hv, hK, hr, _, _, _, _ => by
    simp only [Ty.repO] at hr
    obtain ⟨rfl, rfl⟩ := hr
    exact ⟨μ, fp, by simp [Ty.thaw, VsRel, VRel], ⟨fun _ _ => rfl, hv, fun id x hx => ⟨.inl (hK id x hx).1, fun i hi => .inl ((hK id x hx).2 i hi)⟩, fun id hn => .inl ⟨hn, rfl⟩⟩⟩
  | .int k, cs, x, f, n, K, μ, fp, v, hv, hK, hr, _, _, _, _ => by
    simp only [Ty.repO] at hr
    obtain ⟨rfl, rfl⟩ := hr
    exact ⟨μ, fp, by simp [Ty.thaw, VsRel, VRel], ⟨fun _ _ => rfl, hv, fun id x hx => ⟨.inl (hK id x hx).1, fun i hi => .inl ((hK id x hx).2 i hi)⟩, fun id hn => .inl ⟨hn, rfl⟩⟩⟩
  | .str, cs, x, f, n, K, μ, fp, v, hv, hK, hr, _, _, _, _ => by
    simp only [Ty.repO] at hr
    obtain ⟨rfl, rfl, hx⟩ := hr
    exact ⟨μ, fp, by simpa [Ty.thaw, VsRel, VRel] using hx, ⟨fun _ _ => rfl, hv, fun id x hx => ⟨.inl (hK id x hx).1, fun i hi => .inl ((hK id x hx).2 i hi)⟩, fun id hn => .inl ⟨hn, rfl⟩⟩⟩
  | .sl e, cs, x, f, n, K, μ, fp, v, hv, hK, hr, hn, hf, hd, hfr => by
    have hr' := hr
    simp only [Ty.repO] at hr
    obtain ⟨a, cap, rfl, hc, _⟩ := hr
    have hk : ¬ K n := hfr n (Nat.le_refl n) (Nat.lt_succ_self n)
    refine ⟨fun id => if id = n then .hdr a (List.length x) cap e.size else μ id, fun k => if k = n then f else fp k, ?_, ?_⟩
    · show VsRel c _ [_] [DVal.sref n none]
      simp only [VsRel, VRel]
      exact ⟨_, [], rfl, ⟨a, List.length x, cap, e.size, by simp, rfl⟩, rfl⟩
    · have ha : ∀ id, K id → (if id = n then Loc.hdr a (List.length x) cap e.size else μ id) = μ id := fun id hi => if_neg fun (e : id = n) => hk (e ▸ hi)
      refine ⟨ha, ?_, ?_, ?_⟩
      · refine hv.produce' [] n (.arr e x) f (fun id y hy _ _ => ⟨ha id (hK id y hy).1, fun i hi => ha i ((hK id y hy).2 i hi)⟩) (fun _ _ _ _ _ _ => rfl) (Nat.le_refl _) ?_ hn ?_
        · exact ⟨a, cap, if_pos rfl, hr', fun b hb hlt => (hf b hb).2.2 hlt⟩
        · intro b hb
          exact ⟨(hf b hb).1, (hf b hb).2.1, fun id hv' _ _ hb' => hd id hv' b hb' hb⟩
      · intro id y hy
        have hy : (if id = n then some (.arr e x) else v id) = some y := hy
        by_cases hi : id = n
        · rw [if_pos hi] at hy; cases hy
          exact ⟨.inr ⟨by omega, by rw [hi]; exact Nat.lt_succ_self n⟩, fun i hi => by cases hi⟩
        · rw [if_neg hi] at hy
          exact ⟨.inl (hK id y hy).1, fun i hi' => .inl ((hK id y hy).2 i hi')⟩
      · intro id hy
        have hy : (if id = n then some (.arr e x) else v id) ≠ none := hy
        by_cases hi : id = n
        · right; simp only [if_pos hi]; exact fun b hb => hb
        · left; rw [if_neg hi] at hy; exact ⟨hy, if_neg hi⟩
  | .st fs, cs, x, f, n, K, μ, fp, v, hv, hK, hr, hn, hf, hd, hfr => Tys.thaw_rel fs hv hK (by simpa only [Ty.repO] using hr) hn hf hd hfr
theorem Tys.thaw_rel {c : Ctx} {w : World} : (t : Tys) → ∀ {cs : List Value} {x : t.D} {f : List Nat} {n : Nat} {K : Nat → Prop} {μ : Nat → Loc} {fp : Nat → List Nat} {v : Env},
    RelV c μ fp v w → (∀ id x, v id = some x → K id ∧ ∀ id' ∈ x.ids, K id') → t.repO w cs x f → f.Nodup → (∀ b ∈ f, ¬ c.S b ∧ b < w.heap.size ∧ (b < c.w0.heap.size → ∀ j, c.M b j)) →
    (∀ id, v id ≠ none → ∀ b ∈ fp id, b ∉ f) → (∀ id, n ≤ id → id < (t.thaw x n).2.2 → ¬ K id) →
    ∃ μ' fp', VsRel c μ' cs (t.thaw x n).1 ∧ Chain c K (fun id => K id ∨ (n ≤ id ∧ id < (t.thaw x n).2.2)) μ μ' fp fp' v (updF v (news (t.thaw x n).2.1)) w f
  | .nil, cs, x, f, n, K, μ, fp, v, hv, hK, hr, _, _, _, _ => by
    simp only [Tys.repO] at hr
    obtain ⟨rfl, rfl⟩ := hr
    exact ⟨μ, fp, by simp [Tys.thaw, VsRel], ⟨fun _ _ => rfl, hv, fun id x hx => ⟨.inl (hK id x hx).1, fun i hi => .inl ((hK id x hx).2 i hi)⟩, fun id hn => .inl ⟨hn, rfl⟩⟩⟩
  | .cons t ts, cs, x, f, n, K, μ, fp, v, hv, hK, hr, hn, hf, hd, hfr => by
    simp only [Tys.repO] at hr
    obtain ⟨c1, c2, f1, f2, rfl, rfl, h1, h2⟩ := hr
    have hna := List.nodup_append.1 hn
    have l1 := Ty.thaw_le t x.1 n
    have l2 := Tys.thaw_le ts x.2 (t.thaw x.1 n).2.2
    have e22 : ((Tys.cons t ts).thaw x n).2.2 = (ts.thaw x.2 (t.thaw x.1 n).2.2).2.2 := rfl
    have e21 : ((Tys.cons t ts).thaw x n).2.1 = (t.thaw x.1 n).2.1 ++ (ts.thaw x.2 (t.thaw x.1 n).2.2).2.1 := rfl
    have e1 : ((Tys.cons t ts).thaw x n).1 = (t.thaw x.1 n).1 ++ (ts.thaw x.2 (t.thaw x.1 n).2.2).1 := rfl
    obtain ⟨μ1, fp1, r1, ch1⟩ := Ty.thaw_rel t hv hK h1 hna.1 (fun b hb => hf b (by simp [hb])) (fun id hv' b hb hb' => hd id hv' b hb (by simp [hb'])) (fun id h3 h4 => hfr id h3 (by rw [e22]; omega))
    obtain ⟨μ2, fp2, r2, ch2⟩ := Tys.thaw_rel ts (n := (t.thaw x.1 n).2.2) ch1.rel ch1.known h2 hna.2.1 (fun b hb => hf b (by simp [hb]))
      (fun id hv' b hb hb' => by
        rcases ch1.foot id hv' with ⟨q1, q2⟩ | q
        · rw [q2] at hb; exact hd id q1 b hb (by simp [hb'])
        · exact hna.2.2 b (q b hb) b hb' rfl)
      (fun id h3 h4 hk => by
        rcases hk with hk | hk
        · exact hfr id (by omega) (by rw [e22]; omega) hk
        · omega)
    refine ⟨μ2, fp2, ?_, ?_⟩
    · rw [e1]
      refine VsRel.append (VsRel.mono _ (fun id hi => ?_) r1) r2
      exact ch2.agree id (.inr (Ty.thaw_ids t x.1 n id hi))
    · rw [e21, e22, news_append, updF_append]
      refine ⟨fun id hi => (ch2.agree id (.inl hi)).trans (ch1.agree id hi), ch2.rel, ?_, ?_⟩
      · intro id y hy
        have := ch2.known id y hy
        have conv : ∀ i, ((K i ∨ n ≤ i ∧ i < (t.thaw x.1 n).2.2) ∨ (t.thaw x.1 n).2.2 ≤ i ∧ i < (ts.thaw x.2 (t.thaw x.1 n).2.2).2.2) → (K i ∨ n ≤ i ∧ i < (ts.thaw x.2 (t.thaw x.1 n).2.2).2.2) := by
          intro i hi
          rcases hi with (hi | hi) | hi
          · exact .inl hi
          · right; omega
          · right; omega
        exact ⟨conv id this.1, fun i hi => conv i (this.2 i hi)⟩
      · intro id hy
        rcases ch2.foot id hy with ⟨q1, q2⟩ | q
        · rcases ch1.foot id q1 with ⟨q3, q4⟩ | q'
          · exact .inl ⟨q3, q2.trans q4⟩
          · right; intro b hb; rw [q2] at hb; simp [q' b hb]
        · right; intro b hb; simp [q b hb]
end

section
variable {c : Ctx} {μ : Nat → Loc} {fp : Nat → List Nat} {s : FSt} {n : Nat} {o : Oper} {a : Act} {w : World} {r : Res} {C : Cx} {E : Env}
variable (h : RelX c μ fp s n a w)
include h

/-- Data of one's own, their blocks taken from variables that go and from new ones. -/
theorem RelX.thaw {t : Ty} {cs : List Value} {x : t.D} {f : List Nat} {k : Nat} (hr : t.repO w cs x f) (hn : f.Nodup) (hf : ∀ b ∈ f, ¬ c.S b ∧ b < w.heap.size ∧ (b < c.w0.heap.size → ∀ j, c.M b j))
    (hd : ∀ id, s.v id ≠ none → ∀ b ∈ fp id, b ∉ f) (hfr : ∀ id, k ≤ id → id < (t.thaw x k).2.2 → ¬ s.k id) :
    ∃ μ' fp', VsRel c μ' cs (t.thaw x k).1 ∧ Chain c s.k (fun id => s.k id ∨ (k ≤ id ∧ id < (t.thaw x k).2.2)) μ μ' fp fp' s.v (updF s.v (news (t.thaw x k).2.1)) w f :=
  Ty.thaw_rel t h.vs h.known.v hr hn hf hd hfr

theorem RelX.thaw_zero (t : Ty) {k : Nat} (hfr : ∀ id, k ≤ id → id < (t.thaw t.zero k).2.2 → ¬ s.k id) :
    ∃ μ' fp', VsRel c μ' t.zeroV (t.thaw t.zero k).1 ∧ Chain c s.k (fun id => s.k id ∨ (k ≤ id ∧ id < (t.thaw t.zero k).2.2)) μ μ' fp fp' s.v (updF s.v (news (t.thaw t.zero k).2.1)) w [] :=
  h.thaw (Ty.zero_repO w t) (by simp) (by simp) (by simp) hfr
end
end Go.Proofs.Ytjcinikojcfebaa.Dm
