/- The data machine, part 27: regions. -/
import Derived.Test.YtjcinikojcfebaaDm26
namespace Go.Proofs.Ytjcinikojcfebaa.Dm
open Go

/-- What a state of the machine stands for. -/
structure DRel (c : Ctx) (n : Nat) (s : DSt) (a : Act) (w : World) : Prop where
  ex : ∃ μ fp, RelX c μ fp s.f n a w
  kn : KnOk s
  len : s.t.length = n

theorem RelX.drew {c : Ctx} {μ : Nat → Loc} {fp : Nat → List Nat} {s : FSt} {n : Nat} {a : Act} {w : World} (h : RelX c μ fp s n a w) : RelX c μ fp s n a { w with drawn := w.drawn + 1 } :=
  ⟨h.tm, h.n, h.defers, h.vs.frame (Nat.le_refl _) (fun _ _ _ _ => rfl) (fun _ _ _ => ⟨rfl, fun _ _ => rfl⟩), h.known, ⟨h.ev.size, h.ev.os, h.ev.output, h.ev.S, h.ev.old, h.ev.frozen⟩, h.fix⟩

theorem region_sound {c : Ctx} {n : Nat} {C : Cx} (hC : CxOk C c.P) (hF : CallsOk C c.P) {id : Nat} {ops : Array Oper} {draw : Bool} (hm : c.P.follows .mixedOrders = true) {s s' : DSt} {a : Act} {w : World} {Q : Exit → Act → World → Prop}
    (h : DRel c n s a w) (hr : (region C id ops.toList draw s).eval = some s') (hQ : ∀ a' w', DRel c n s' a' w' → Q .normal a' w') : (Code.region id ops draw).wp c.P Q a w := by
  unfold region at hr
  obtain ⟨⟨s1, lg⟩, h1, hr⟩ := bind_eval hr
  obtain ⟨⟨μ, fp, hx⟩, hk, hl⟩ := h
  obtain ⟨L, q1, q2, q3, q4, q5, q6⟩ := regionL_seq _ _ _ _ _ h1 hk hx.known
  rw [hl] at q1
  split at hr
  · cases hr
  rename_i hc
  obtain rfl : s1 = s' := Option.some.inj hr
  have hget : ∀ (j : Nat) (d : Did), L[j]? = some d → d.i = j ∧ ops[j]? = some d.o := by
    intro j d hd
    have : (L.map fun d => (d.i, d.o))[j]? = some (d.i, d.o) := by rw [List.getElem?_map, hd]; rfl
    rw [q5, List.getElem?_map, List.getElem?_zipIdx] at this
    cases hj : ops.toList[j]? with
    | none => rw [hj] at this; simp at this
    | some o =>
      rw [hj] at this
      simp only [Option.map_some, Option.some.injEq, Prod.mk.injEq, Nat.zero_add] at this
      obtain ⟨e1, e2⟩ := this
      exact ⟨e1.symm, by rw [← e2]; simpa using hj⟩
  have hlen : L.length = ops.size := by have := congrArg List.length q5; simpa using this
  have hall : ∀ d ∈ L, ops[d.i]? = some d.o ∧ GdIs ops.toList d.o d.gd ∧ d.g = id * 256 + 1 + d.i := by
    intro d hd
    obtain ⟨j, hj⟩ := List.mem_iff_getElem?.1 hd
    obtain ⟨e1, e2⟩ := hget j d hj
    exact ⟨by rw [e1]; exact e2, (q6 d hd).2, (q6 d hd).1⟩
  have hfin : ∀ μ fp a w, RelX c μ fp s1.f n a w → Q .normal a w := fun μ fp a w h => hQ a w ⟨⟨μ, fp, h⟩, q2, q3.trans hl⟩
  cases draw with
  | false =>
    refine wp_region ?_
    have hmap : L.map (·.i) = List.range ops.size := by
      apply List.ext_getElem?
      intro j
      rw [List.getElem?_map]
      cases hj : L[j]? with
      | none =>
        have : ops.size ≤ j := by rw [← hlen]; exact List.getElem?_eq_none_iff.1 hj
        simp [this]
      | some d =>
        have hjl := (List.getElem?_eq_some_iff.1 hj).1
        rw [Option.map_some, (hget j d hj).1, List.getElem?_range (by omega)]
    rw [← hmap]
    exact seq_sound hC hF hfin L _ μ fp a w q1 (fun d hd => ⟨(hall d hd).1, (hall d hd).2.1⟩) hx
  | true =>
    simp only [true_and, not_or] at hc
    obtain ⟨hc1, hc2⟩ := hc
    have hc1 := boolTrue hc1
    have hc2 := boolTrue hc2
    refine wp_region_any hm ?_
    refine any_sound (base := id * 256 + 1) hC hF hc2 hfin ops.size _ L _ μ fp a _ (by omega) ⟨by simp, ?_, ?_, ?_, ?_, hall, q1⟩ hx.drew
    · intro i hi
      constructor
      · intro _
        obtain ⟨d, hd⟩ : ∃ d, L[i]? = some d := ⟨L[i]'(by omega), List.getElem?_eq_getElem (by omega)⟩
        exact ⟨d, List.mem_of_getElem? hd, (hget i d hd).1⟩
      · intro _
        simp [Array.getD_eq_getD_getElem?, Array.getElem?_replicate, hi]
    · rw [List.pairwise_iff_getElem]
      intro i j hi hj hij
      rw [(hget i _ (List.getElem?_eq_getElem hi)).1, (hget j _ (List.getElem?_eq_getElem hj)).1]
      exact hij
    · intro j hj hl
      simp [Array.getD_eq_getD_getElem?, Array.getElem?_replicate, hj] at hl
    · have := indepAll_pairs _ _ hc1
      rw [q4, List.append_nil, List.pairwise_reverse, List.pairwise_map] at this
      exact this
end Go.Proofs.Ytjcinikojcfebaa.Dm
