/- Functions of the program, and what they compute. -/
import Derived.Test.YtnnpnkegpkladaaGreatL12
namespace Go.Proofs.YtnnpnkegpkladaaGreat.Dm
open Go Go.ChangeShapes Go.WideShapes Go.ChangeAt Go.RowKit
theorem ins_tot {b : List Int} {i h : Int} (hb : b.length ≤ BIG) (hi : 0 ≤ i) : TotV (k56_V b i h) fun y => 0 ≤ y.2.1.1 := by
  unfold k56_V f56_tree
  refine tot_get (below_tot hb hi) fun y hy => tot_get (below_tot hb hy.2) fun z hz => tot_get (below_tot hb hz.2) fun u hu => ?_
  refine tot_ite (fun _ => tot_get (pick_tot hb hu.2 (by decide)) fun v hv => tot_ret hv.2) fun _ => ?_
  refine tot_ite (fun _ => tot_get (pick_tot hb hu.2 (by decide)) fun v hv => tot_ret hv.2) fun _ => ?_
  refine tot_ite (fun _ => tot_get (pick_tot hb hu.2 (by decide)) fun v hv => tot_ret hv.2) fun _ => ?_
  refine tot_ite (fun _ => tot_get (below_tot hb hu.2) fun v hv => tot_ret hv.2) fun _ => ?_
  refine tot_ite (fun _ => tot_get (below_tot hb hu.2) fun v hv => tot_ret hv.2) fun _ => ?_
  refine tot_ite (fun _ => tot_ret hu.2) fun _ => tot_ite (fun _ => tot_ret hu.2) fun _ => ?_
  refine tot_ite (fun _ => tot_get (below_tot hb hu.2) fun v hv => tot_ret hv.2) fun _ => ?_
  refine tot_ite (fun _ => tot_get (below_tot hb hu.2) fun v hv => tot_ret hv.2) fun _ => ?_
  exact tot_get (below_tot hb hu.2) fun v hv => tot_ret hv.2
theorem any_tot {b : List Int} {i h : Int} (hb : b.length ≤ BIG) (hi : 0 ≤ i) : TotV (k24_V b i h) fun y => 0 ≤ y.2.1.1 := by
  unfold k24_V f24_tree
  refine tot_get (ins_tot hb hi) fun y hy => tot_get (once_tot hb hy) fun z hz => ?_
  refine tot_ite (fun _ => tot_get (below_tot hb hz) fun u hu => ?_) fun _ => tot_ret hz
  refine tot_ite (fun _ => tot_get (pick_tot hb hu.2 (by decide)) fun v hv => tot_ret hv.2) fun _ => ?_
  refine tot_ite (fun _ => tot_get (pick_tot hb hu.2 (by decide)) fun v hv => tot_ret hv.2) fun _ => ?_
  refine tot_ite (fun _ => tot_get (pick_tot hb hu.2 (by decide)) fun v hv => tot_ret hv.2) fun _ => ?_
  exact tot_get (pick_tot hb hu.2 (by decide)) fun v hv => tot_ret hv.2
theorem progD_tot {b : List Int} {i h : Int} (hb : b.length ≤ BIG) (hi : 0 ≤ i) : TotV (k54_V b i h 16) fun y => y.1.1.1.length ≤ 16 ∧ 0 ≤ y.2.1.1 := by
  unfold k54_V f54_tree
  refine tot_get (below_tot hb hi) fun y hy => ?_
  have h1 := hy.1.1
  have h2 : y.1.1.1 < 17 := hy.1.2.1 (by decide)
  refine tot_get (P := fun x => x.2.1.length ≤ 16 ∧ 0 ≤ x.2.2.1.2.1) (tot_iter1 (fun x => x.2.1.1 = b ∧ 0 ≤ x.1.1 ∧ 0 ≤ x.2.1.2.1 ∧ (x.2.2.1.length : Int) + x.1.1 ≤ 16) (fun x => x.1.1.toNat) _ (fun x hx => ?_) _ _ ?_ ?_) fun x hx => tot_ret hx
  · obtain ⟨⟨k, _⟩, ⟨b', i, h, _⟩, out, _⟩ := x
    obtain ⟨e1, h1, h2, h3⟩ := hx
    simp only at e1 h1 h2 h3
    subst e1
    unfold f54_L0
    refine tot_ite (fun h4 => ?_) (fun h4 => tot_ret ?_)
    · have h4 : k > 0 := of_decide_eq_true h4
      have w : IntKind.i64.wrap (k - 1) = k - 1 := wrap_id (by omega) (by omega)
      refine tot_get (ins_tot hb h2) fun u hu => tot_t (decide_eq_true (by rw [LIM_eq]; simp; omega)) (tot_ret ?_)
      exact ⟨⟨rfl, by simp only [w]; omega, hu, by simp only [w]; simp; omega⟩, by simp only [w]; omega⟩
    · exact ⟨by simp only at *; omega, h2⟩
  · exact ⟨rfl, h1, hy.2, by simp; omega⟩
  · exact Nat.lt_of_le_of_lt (show y.1.1.1.toNat ≤ 16 by omega) (by decide)
theorem draw6_tot {b : List Int} {i h : Int} (hb : b.length ≤ BIG) (hi : 0 ≤ i) : TotV (k22_V b i h) fun y => (1 ≤ y.1.1.1.length ∧ y.1.1.1.length ≤ 3) ∧ 0 ≤ y.2.1.1 := by
  unfold k22_V f22_tree
  refine tot_get (below_tot hb hi) fun y hy => tot_get (below_tot hb hy.2) fun z hz => ?_
  have h1 := hz.1.1
  have h2 : z.1.1.1 < 3 := hz.1.2.1 (by decide)
  have w0 : IntKind.i64.wrap ((1 : Int) + z.1.1.1) = 1 + z.1.1.1 := wrap_id (by omega) (by omega)
  refine tot_get (P := fun x => (1 ≤ x.2.1.length ∧ x.2.1.length ≤ 3) ∧ 0 ≤ x.2.2.1.2.1) (tot_iter1 (fun x => x.2.1.1 = b ∧ 0 ≤ x.1.2.2.2.1 ∧ 0 ≤ x.2.1.2.1 ∧ (x.2.2.1.length : Int) + x.1.2.2.2.1 ≤ 3 ∧ 1 ≤ (x.2.2.1.length : Int) + x.1.2.2.2.1) (fun x => x.1.2.2.2.1.toNat) _ (fun x hx => ?_) _ _ ?_ ?_) fun x hx => tot_ret hx
  · obtain ⟨⟨p1, p2, p3, k, _⟩, ⟨b', i, h, _⟩, out, _⟩ := x
    obtain ⟨e1, h1, h2, h3, h4⟩ := hx
    simp only at e1 h1 h2 h3 h4
    subst e1
    unfold f22_L0
    refine tot_ite (fun h5 => ?_) (fun h5 => tot_ret ?_)
    · have h5 : k > 0 := of_decide_eq_true h5
      have w : IntKind.i64.wrap (k - 1) = k - 1 := wrap_id (by omega) (by omega)
      have lim : ∀ v : List InsD, decide (List.length out + List.length ([v] : List (List InsD)) ≤ LIM) = true := fun v => decide_eq_true (by rw [LIM_eq]; simp; omega)
      have fin : ∀ (v : List InsD) (i h : Int), 0 ≤ i → RoundP (fun x : f22_S0 => (x.2.1.1 = b' ∧ 0 ≤ x.1.2.2.2.1 ∧ 0 ≤ x.2.1.2.1 ∧ (x.2.2.1.length : Int) + x.1.2.2.2.1 ≤ 3 ∧ 1 ≤ (x.2.2.1.length : Int) + x.1.2.2.2.1) ∧ x.1.2.2.2.1.toNat < k.toNat) (fun x : (Unit) × (List (List InsD) × XE × Unit) => (1 ≤ x.2.1.length ∧ x.2.1.length ≤ 3) ∧ 0 ≤ x.2.2.1.2.1) (fun _ : Empty => False)
          (.again ((p1, p2, p3, IntKind.i64.wrap (k - 1), ()), ((b', i, h, ()), (out ++ ([v] : List (List InsD))), ()))) := fun v i h hi => by
        refine ⟨⟨rfl, ?_, hi, ?_, ?_⟩, ?_⟩ <;> simp only [w, List.length_append, List.length_cons, List.length_nil] <;> omega
      refine tot_get (below_tot hb h2) fun u hu => tot_ite (fun _ => tot_t (lim _) (tot_ret (fin _ _ _ hu.2))) fun _ => tot_ite (fun _ => tot_t (lim _) (tot_ret (fin _ _ _ hu.2))) fun _ => tot_ite (fun _ => tot_t (lim _) (tot_ret (fin _ _ _ hu.2))) fun _ => ?_
      exact tot_get (progD_tot hb hu.2) fun v hv => tot_t (lim _) (tot_ret (fin _ _ _ hv.2))
    · have h5 : ¬ k > 0 := of_decide_eq_false h5
      exact ⟨⟨by simp only; omega, by simp only; omega⟩, h2⟩
  · refine ⟨rfl, ?_, hz.2, ?_, ?_⟩ <;> simp only [w0, List.length_nil] <;> omega
  · simp only [w0]
    exact Nat.lt_of_le_of_lt (show (1 + z.1.1.1).toNat ≤ 3 by omega) (by decide)
theorem drawBoot_tot {b : List Int} (hb : b.length ≤ BIG) : TotV (k6_V b) fun _ => True := by
  unfold k6_V f6_tree
  refine tot_get (newCur_tot hb) fun c hc => ?_
  have h0 : 0 ≤ c.1.1.2.1 := by rw [hc.2]; exact Int.le_refl _
  rw [hc.1]
  refine tot_get (draw6_tot hb h0) fun y hy => ?_
  obtain ⟨⟨⟨l, _⟩, _⟩, ⟨i, h, _⟩, _⟩ := y
  obtain ⟨⟨l1, l3⟩, hi⟩ := hy
  simp only at l1 l3 hi
  have hin : decide (0 ≤ (0 : Int) ∧ (0 : Int) < ((List.length l : Nat) : Int)) = true := decide_eq_true (by omega)
  have hn : TotV (nth l (Int.toNat (0 : Int))) fun _ => True := ⟨_, List.getElem?_eq_getElem (show Int.toNat (0 : Int) < l.length by simp; omega), trivial⟩
  refine tot_get (below_tot hb hi) fun z hz => tot_ite (fun _ => tot_ret trivial) fun _ => tot_ite (fun _ => ?_) fun _ => tot_ite (fun _ => ?_) fun _ => tot_ret trivial
  · exact tot_get (any_tot hb hz.2) fun u _ => tot_t (decide_eq_true (by rw [LIM_eq]; simp; omega)) (tot_ret trivial)
  · exact tot_t hin (tot_get hn fun _ _ => tot_t hin (tot_get hn fun _ _ => tot_t hin (tot_get hn fun _ _ => tot_t (decide_eq_true (by rw [LIM_eq]; simp; omega)) (tot_ret trivial))))
end Go.Proofs.YtnnpnkegpkladaaGreat.Dm
