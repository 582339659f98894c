/- The data machine, part 32: data read out of arguments, and what comes back of them. -/
import Derived.Test.YtjcinikojcfebaaDm31
namespace Go.Proofs.Ytjcinikojcfebaa.Dm
open Go

section
variable {c : Ctx} {μ : Nat → Loc} {fp : Nat → List Nat} {v : Env} {w : World} {E EL : Env}

theorem Gone.nil : Gone c fp v E [] [] := ⟨by simp, by simp, by simp, by simp⟩

theorem mutL_eq {e : Ty} {d : DVal} {z : List e.D × List Nat} (h : mutL E e d = some z) : takeL E e d = some z := by
  unfold mutL at h
  split at h
  · exact h
  · exact h
  · cases h

theorem takeC_rel (h : RelV c μ fp v w) (ev : Ev c w) (hE : ∀ id x, E id = some x → v id = some x) (hEL : ∀ id x, EL id = some x → v id = some x) {S' : Nat → Prop} (hS : ∀ b, c.S b → S' b) (hP : ∀ id, EL id ≠ none → ∀ b ∈ fp id, S' b) :
    (l : List Cm) → {vs : List Value} → {ds : List DVal} → {r : cmD l × List Nat} → VsRel c μ vs ds → takeC E EL l ds = some r → r.2.Nodup → ∃ f, cmRep S' w l vs r.1 f ∧ Gone c fp v E r.2 f
  | [], vs, ds, r, hr, hf, _ => by
    cases ds with
    | nil =>
      cases hf
      simp only [VsRel] at hr
      exact ⟨[], by simp only [cmRep]; exact ⟨hr, trivial⟩, Gone.nil⟩
    | cons d q => cases hf
  | .b :: l, vs, ds, r, hr, hf, hn => by
    cases ds with
    | nil => cases hf
    | cons d q =>
      cases d <;> try (cases hf; done)
      rename_i x
      obtain ⟨y, hy, rfl⟩ := Option.map_eq_some_iff.1 (show ((takeC E EL l q).map fun y => ((x, y.1), y.2)) = some r from hf)
      simp only [VsRel] at hr
      obtain ⟨v0, vs', rfl, hx, hr⟩ := hr
      simp only [VRel] at hx; subst hx
      obtain ⟨f, h1, h2⟩ := takeC_rel h ev hE hEL hS hP l hr hy hn
      exact ⟨f, by simp only [cmRep]; exact ⟨vs', rfl, h1⟩, h2⟩
  | .i k :: l, vs, ds, r, hr, hf, hn => by
    cases ds with
    | nil => cases hf
    | cons d q =>
      cases d <;> try (cases hf; done)
      rename_i k' x
      replace hf : (if k = k' then (takeC E EL l q).map fun y => ((x, y.1), y.2) else none) = some r := hf
      split at hf
      case isFalse => cases hf
      rename_i e; subst e
      obtain ⟨y, hy, rfl⟩ := Option.map_eq_some_iff.1 hf
      simp only [VsRel] at hr
      obtain ⟨v0, vs', rfl, hx, hr⟩ := hr
      simp only [VRel] at hx; subst hx
      obtain ⟨f, h1, h2⟩ := takeC_rel h ev hE hEL hS hP l hr hy hn
      exact ⟨f, by simp only [cmRep]; exact ⟨vs', rfl, h1⟩, h2⟩
  | .s :: l, vs, ds, r, hr, hf, hn => by
    cases ds with
    | nil => cases hf
    | cons d q =>
      cases d <;> try (cases hf; done)
      rename_i x
      obtain ⟨y, hy, rfl⟩ := Option.map_eq_some_iff.1 (show ((takeC E EL l q).map fun y => ((x, y.1), y.2)) = some r from hf)
      simp only [VsRel] at hr
      obtain ⟨v0, vs', rfl, hx, hr⟩ := hr
      simp only [VRel] at hx
      obtain ⟨f, h1, h2⟩ := takeC_rel h ev hE hEL hS hP l hr hy hn
      exact ⟨f, by simp only [cmRep]; exact ⟨vs', by rw [hx.1], hx.2, h1⟩, h2⟩
  | .ro e :: l, vs, ds, r, hr, hf, hn => by
    cases ds with
    | nil => cases hf
    | cons d q =>
      replace hf : ((listOf EL e d).bind fun x => (takeC E EL l q).map fun y => ((x, y.1), y.2)) = some r := hf
      obtain ⟨x, hx, hf⟩ := Option.bind_eq_some_iff.1 hf
      obtain ⟨y, hy, rfl⟩ := Option.map_eq_some_iff.1 hf
      simp only [VsRel] at hr
      obtain ⟨v0, vs', rfl, hv, hr⟩ := hr
      obtain ⟨f, h1, h2⟩ := takeC_rel h ev hE hEL hS hP l hr hy hn
      exact ⟨f, by simp only [cmRep]; exact ⟨v0, vs', rfl, listOf_rel h ev hEL hS hP hv hx, h1⟩, h2⟩
  | .own e :: l, vs, ds, r, hr, hf, hn => by
    cases ds with
    | nil => cases hf
    | cons d q =>
      replace hf : ((takeL E e d).bind fun z => (takeC E EL l q).map fun y => ((z.1, y.1), z.2 ++ y.2)) = some r := hf
      obtain ⟨z, hz, hf⟩ := Option.bind_eq_some_iff.1 hf
      obtain ⟨y, hy, rfl⟩ := Option.map_eq_some_iff.1 hf
      simp only [VsRel] at hr
      obtain ⟨v0, vs', rfl, hv, hr⟩ := hr
      obtain ⟨f, h1, h2⟩ := takeC_rel h ev hE hEL hS hP l hr hy (List.nodup_append.1 hn).2.1
      obtain ⟨f0, g1, g2⟩ := takeL_rel h hE hv hz
      exact ⟨f0 ++ f, by simp only [cmRep]; exact ⟨v0, vs', f0, f, rfl, rfl, g1, h1⟩, g2.append h h2 hn⟩
  | .mut e :: l, vs, ds, r, hr, hf, hn => by
    cases ds with
    | nil => cases hf
    | cons d q =>
      replace hf : ((mutL E e d).bind fun z => (takeC E EL l q).map fun y => ((z.1, y.1), z.2 ++ y.2)) = some r := hf
      obtain ⟨z, hz, hf⟩ := Option.bind_eq_some_iff.1 hf
      obtain ⟨y, hy, rfl⟩ := Option.map_eq_some_iff.1 hf
      simp only [VsRel] at hr
      obtain ⟨v0, vs', rfl, hv, hr⟩ := hr
      obtain ⟨f, h1, h2⟩ := takeC_rel h ev hE hEL hS hP l hr hy (List.nodup_append.1 hn).2.1
      obtain ⟨f0, g1, g2⟩ := takeL_rel h hE hv (mutL_eq hz)
      exact ⟨f0 ++ f, by simp only [cmRep]; exact ⟨v0, vs', f0, f, rfl, rfl, g1, h1⟩, g2.append h h2 hn⟩

/-- What an item that is given away leaves. -/
structure GoneB (c : Ctx) (fp : Nat → List Nat) (v E : Env) (ids : List Nat) (f : List Nat) (g : List (Nat × Nat × Nat)) : Prop where
  mem : ∀ b ∈ f ++ g.map (·.1), ∃ id ∈ ids, b ∈ fp id
  nodup : (f ++ g.map (·.1)).Nodup
  there : ∀ id ∈ ids, v id ≠ none ∧ E id ≠ none
  may : ∀ b ∈ f, b < c.w0.heap.size → ∀ j, c.M b j
structure GoneI (c : Ctx) (fp : Nat → List Nat) (v E : Env) (ids : List Nat) (f : List Nat) (g : List (Nat × Nat × Nat)) : Prop extends GoneB c fp v E ids f g where
  mayG : ∀ B o m, (B, o, m) ∈ g → B < c.w0.heap.size → ∀ j, j < m → c.M B (o + j)

theorem GoneB.nil : GoneB c fp v E [] [] [] := ⟨by simp, by simp, by simp, by simp⟩
theorem GoneB.append (h : RelV c μ fp v w) {ids ids' f f' : List Nat} {g g' : List (Nat × Nat × Nat)} (a : GoneB c fp v E ids f g) (b : GoneB c fp v E ids' f' g') (hn : (ids ++ ids').Nodup) :
    GoneB c fp v E (ids ++ ids') (f ++ f') (g ++ g') := by
  have hp : (f ++ f' ++ (g ++ g').map (·.1)).Perm ((f ++ g.map (·.1)) ++ (f' ++ g'.map (·.1))) := by rw [List.map_append]; exact perm_items _ _ _ _
  constructor
  · intro x hx
    rcases List.mem_append.1 (hp.mem_iff.1 hx) with hx | hx
    · obtain ⟨i, hi, hm⟩ := a.mem x hx; exact ⟨i, by simp [hi], hm⟩
    · obtain ⟨i, hi, hm⟩ := b.mem x hx; exact ⟨i, by simp [hi], hm⟩
  · rw [hp.nodup_iff, List.nodup_append]
    refine ⟨a.nodup, b.nodup, fun x hx y hy e => ?_⟩
    subst e
    obtain ⟨i, hi, hm⟩ := a.mem x hx
    obtain ⟨j, hj, hm'⟩ := b.mem x hy
    have : i ≠ j := fun e => (List.nodup_append.1 hn).2.2 i hi j hj e
    exact h.sep i j this (a.there i hi).1 (b.there j hj).1 x hm hm'
  · intro i hi
    rcases List.mem_append.1 hi with hi | hi
    · exact a.there i hi
    · exact b.there i hi
  · intro x hx
    rcases List.mem_append.1 hx with hx | hx
    · exact a.may x hx
    · exact b.may x hx
theorem GoneI.append (h : RelV c μ fp v w) {ids ids' f f' : List Nat} {g g' : List (Nat × Nat × Nat)} (a : GoneI c fp v E ids f g) (b : GoneI c fp v E ids' f' g') (hn : (ids ++ ids').Nodup) :
    GoneI c fp v E (ids ++ ids') (f ++ f') (g ++ g') := by
  refine ⟨a.toGoneB.append h b.toGoneB hn, fun B o m hx => ?_⟩
  rcases List.mem_append.1 hx with hx | hx
  · exact a.mayG B o m hx
  · exact b.mayG B o m hx

theorem cells_agg {d : DVal} {x : Value} (h : VRel c μ x d) (ha : isAgg d = true) : ∃ us, x = .agg us := by
  cases d <;> simp [isAgg] at ha
  simp only [VRel] at h
  obtain ⟨vs, rfl, _⟩ := h
  exact ⟨vs, rfl⟩
theorem cells_one {d : DVal} {x : Value} (h : VRel c μ x d) (ha : isAgg d = false) (hc : d.cells.all DVal.isCell = true) : x.oneCell' = true := by
  have hd : d.cells = [d] := by cases d <;> first | rfl | cases ha
  rw [hd] at hc
  simp only [List.all_cons, List.all_nil, Bool.and_true] at hc
  exact h.oneCell hc

theorem takeI_rel (h : RelV c μ fp v w) (ev : Ev c w) (hE : ∀ id x, E id = some x → v id = some x) (hEL : ∀ id x, EL id = some x → v id = some x) {S' : Nat → Prop} (hS : ∀ b, c.S b → S' b) (hP : ∀ id, EL id ≠ none → ∀ b ∈ fp id, S' b) :
    (it : Item) → {x : Value} → {d : DVal} → {r : cmD it.cs × List Nat} → VRel c μ x d → takeI E EL it d = some r → r.2.Nodup → ∃ f g, ItemRep S' w it x r.1 f g ∧ GoneI c fp v E r.2 f g
  | ⟨false, a, cs⟩, x, d, r, hr, hf, hn => by
    replace hf : (if isAgg d = a ∧ d.cells.all DVal.isCell = true then takeC E EL cs d.cells else none) = some r := hf
    split at hf
    case isFalse => cases hf
    rename_i hc
    obtain ⟨f, h1, h2⟩ := takeC_rel h ev hE hEL hS hP cs (hr.cells hc.2) hf hn
    refine ⟨f, [], ⟨rfl, h1, fun e => cells_agg hr (hc.1.trans e), fun e => cells_one hr (hc.1.trans e) hc.2⟩, ⟨⟨by simpa using h2.mem, by simpa using h2.nodup, h2.there, h2.may⟩, fun _ _ _ hb => by cases hb⟩⟩
  | ⟨true, a, cs⟩, x, d, r, hr, hf, hn => by
    cases d <;> try (cases hf; done)
    rename_i id off
    replace hf : (match E id with | some (.var l) => if off + cs.length ≤ l.length then (takeC E EL cs ((l.drop off).take cs.length)).map fun y => (y.1, id :: y.2) else none | _ => none) = some r := hf
    split at hf
    case h_2 => cases hf
    rename_i l hid
    split at hf
    case isFalse => cases hf
    rename_i hl
    obtain ⟨y, hy, rfl⟩ := Option.map_eq_some_iff.1 hf
    have hv := hE id _ hid
    obtain ⟨B, o, C, T, h1, h2, h3, h4, h5, h6, h7⟩ := h.rel id _ hv
    simp only [VRel] at hr
    obtain ⟨B', o', e1, rfl⟩ := hr
    rw [h1] at e1; cases e1
    have hsub : cellsAt w B (o + off) cs.length = ((cellsAt w B o l.length).drop off).take cs.length := cellsAt_sub (by omega)
    rw [List.nodup_cons] at hn
    obtain ⟨f, g1, g2⟩ := takeC_rel h ev hE hEL hS hP cs ((h5.drop off).take cs.length) hy hn.2
    refine ⟨f, [(B, o + off, cs.length)], ⟨B, o + off, C, T, rfl, rfl, h3, by omega, by rw [hsub]; exact g1⟩, ?_⟩
    have hB : B ∉ f := by
      intro hb
      obtain ⟨i, hi, hm⟩ := g2.mem B hb
      have hne : i ≠ id := fun e => hn.1 (e ▸ hi)
      exact h.sep i id hne (g2.there i hi).1 (by rw [hv]; simp) B hm (by rw [h2]; simp)
    refine ⟨⟨?_, ?_, ?_, ?_⟩, ?_⟩
    · intro b hb
      simp only [List.map_cons, List.map_nil, List.mem_append, List.mem_singleton] at hb
      rcases hb with hb | rfl
      · obtain ⟨i, hi, hm⟩ := g2.mem b hb; exact ⟨i, by simp [hi], hm⟩
      · exact ⟨id, by simp, by rw [h2]; simp⟩
    · simp only [List.map_cons, List.map_nil, List.nodup_append]
      refine ⟨g2.nodup, by simp, fun a ha b hb e => ?_⟩
      simp only [List.mem_singleton] at hb
      exact hB (by rw [← hb, ← e]; exact ha)
    · intro i hi
      rcases List.mem_cons.1 hi with rfl | hi
      · rw [hv, hid]; simp
      · exact g2.there i hi
    · exact g2.may
    · intro B' o' m hm hlt j hj
      simp only [List.mem_singleton, Prod.mk.injEq] at hm
      obtain ⟨rfl, rfl, rfl⟩ := hm
      have := h7 hlt (off + j) (by omega)
      rwa [← Nat.add_assoc] at this

theorem takeIs_rel (h : RelV c μ fp v w) (ev : Ev c w) (hE : ∀ id x, E id = some x → v id = some x) (hEL : ∀ id x, EL id = some x → v id = some x) {S' : Nat → Prop} (hS : ∀ b, c.S b → S' b) (hP : ∀ id, EL id ≠ none → ∀ b ∈ fp id, S' b) :
    (l : List Item) → {vs : List Value} → {ds : List DVal} → {r : itemsD l × List Nat} → VsRel c μ vs ds → takeIs E EL l ds = some r → r.2.Nodup → ∃ f g, ItemsRep S' w l vs r.1 f g ∧ GoneI c fp v E r.2 f g
  | [], vs, ds, r, hr, hf, _ => by
    cases ds with
    | nil =>
      cases hf
      simp only [VsRel] at hr
      exact ⟨[], [], by simp only [ItemsRep]; exact ⟨hr, trivial, trivial⟩, ⟨GoneB.nil, fun _ _ _ hb => by cases hb⟩⟩
    | cons d q => cases hf
  | it :: l, vs, ds, r, hr, hf, hn => by
    cases ds with
    | nil => cases hf
    | cons d q =>
      replace hf : ((takeI E EL it d).bind fun x => (takeIs E EL l q).map fun y => ((x.1, y.1), x.2 ++ y.2)) = some r := hf
      obtain ⟨z, hz, hf⟩ := Option.bind_eq_some_iff.1 hf
      obtain ⟨y, hy, rfl⟩ := Option.map_eq_some_iff.1 hf
      simp only [VsRel] at hr
      obtain ⟨v0, vs', rfl, hv, hr⟩ := hr
      obtain ⟨f, g, h1, h2⟩ := takeIs_rel h ev hE hEL hS hP l hr hy (List.nodup_append.1 hn).2.1
      obtain ⟨f0, g0, h3, h4⟩ := takeI_rel h ev hE hEL hS hP it hv hz (List.nodup_append.1 hn).1
      exact ⟨f0 ++ f, g0 ++ g, by simp only [ItemsRep]; exact ⟨v0, vs', f0, f, g0, g, rfl, rfl, rfl, h3, h1⟩, h4.append h h2 hn⟩

/-! ## What comes back -/
def backRepP (w : World) : (l : List Cm) → List Value → List Value → backPD l → List Nat → Prop
  | [], os, vs, _, f => os = [] ∧ vs = [] ∧ f = []
  | .b :: r, os, vs, x, f => ∃ o os' vs', os = o :: os' ∧ vs = .bool x.1 :: vs' ∧ backRepP w r os' vs' x.2 f
  | .i k :: r, os, vs, x, f => ∃ o os' vs', os = o :: os' ∧ vs = .int k x.1 :: vs' ∧ backRepP w r os' vs' x.2 f
  | .s :: r, os, vs, x, f => ∃ o os' vs', os = o :: os' ∧ vs = .string ⟨List.toArray x.1⟩ :: vs' ∧ List.length x.1 ≤ BIG ∧ backRepP w r os' vs' x.2 f
  | .ro _ :: r, os, vs, x, f => ∃ o os' vs', os = o :: os' ∧ vs = o :: vs' ∧ backRepP w r os' vs' x f
  | .own e :: r, os, vs, x, f => ∃ o os' v vs' f1 f2, os = o :: os' ∧ vs = v :: vs' ∧ f = f1 ++ f2 ∧ (Ty.sl e).repO w [v] x.1 f1 ∧ backRepP w r os' vs' x.2 f2
  | .mut e :: r, os, vs, x, f => ∃ o os' v vs' f1 f2, os = o :: os' ∧ vs = v :: vs' ∧ f = f1 ++ f2 ∧ (Ty.sl e).repO w [v] x.1 f1 ∧ backRepP w r os' vs' x.2 f2
def backRepV (w : World) : (l : List Cm) → List Value → backVD l → List Nat → Prop
  | [], vs, _, f => vs = [] ∧ f = []
  | .b :: r, vs, x, f => ∃ v vs', vs = v :: vs' ∧ backRepV w r vs' x f
  | .i _ :: r, vs, x, f => ∃ v vs', vs = v :: vs' ∧ backRepV w r vs' x f
  | .s :: r, vs, x, f => ∃ v vs', vs = v :: vs' ∧ backRepV w r vs' x f
  | .ro _ :: r, vs, x, f => ∃ v vs', vs = v :: vs' ∧ backRepV w r vs' x f
  | .own _ :: r, vs, x, f => ∃ v vs', vs = v :: vs' ∧ backRepV w r vs' x f
  | .mut e :: r, vs, x, f => ∃ v vs' f1 f2, vs = v :: vs' ∧ f = f1 ++ f2 ∧ (Ty.sl e).repO w [v] x.1 f1 ∧ backRepV w r vs' x.2 f2
def BackRep (w w' : World) : (it : Item) → Value → backID it → List Nat → Prop
  | ⟨false, _, cs⟩, v, y, f => backRepV w' cs v.cells.toList y f
  | ⟨true, _, cs⟩, v, y, f => ∃ B o, v = .pointer (some ⟨B, o, none⟩) ∧ backRepP w' cs (cellsAt w B o cs.length) (cellsAt w' B o cs.length) y f
def BacksRep (w w' : World) : (l : List Item) → List Value → backD l → List Nat → Prop
  | [], vs, _, f => vs = [] ∧ f = []
  | it :: r, vs, y, f => ∃ v vs' f1 f2, vs = v :: vs' ∧ f = f1 ++ f2 ∧ BackRep w w' it v y.1 f1 ∧ BacksRep w w' r vs' y.2 f2

theorem takeBP_len {E : Env} : (l : List Cm) → {n : Nat} → {ds : List DVal} → {r : backPD l × List Nat} → takeBP E l n ds = some r → ds.length = l.length
  | [], n, ds, r, hf => by
    cases ds with
    | nil => rfl
    | cons d q => cases hf
  | .b :: l, n, ds, r, hf => by
    cases ds with
    | nil => cases hf
    | cons d q =>
      cases d <;> try (cases hf; done)
      rename_i x
      obtain ⟨y, hy, rfl⟩ := Option.map_eq_some_iff.1 (show ((takeBP E l n q).map fun y => ((x, y.1), y.2)) = some r from hf)
      simp [takeBP_len l hy]
  | .i k :: l, n, ds, r, hf => by
    cases ds with
    | nil => cases hf
    | cons d q =>
      cases d <;> try (cases hf; done)
      rename_i k' x
      replace hf : (if k = k' then (takeBP E l n q).map fun y => ((x, y.1), y.2) else none) = some r := hf
      split at hf
      case isFalse => cases hf
      obtain ⟨y, hy, rfl⟩ := Option.map_eq_some_iff.1 hf
      simp [takeBP_len l hy]
  | .s :: l, n, ds, r, hf => by
    cases ds with
    | nil => cases hf
    | cons d q =>
      cases d <;> try (cases hf; done)
      rename_i x
      obtain ⟨y, hy, rfl⟩ := Option.map_eq_some_iff.1 (show ((takeBP E l n q).map fun y => ((x, y.1), y.2)) = some r from hf)
      simp [takeBP_len l hy]
  | .ro e :: l, n, ds, r, hf => by
    cases ds with
    | nil => cases hf
    | cons d q =>
      cases d <;> try (cases hf; done)
      rename_i e' xs tk
      cases tk with
      | none => cases hf
      | some k =>
        replace hf : (if k = n then takeBP E l (n + 1) q else none) = some r := hf
        split at hf
        case isFalse => cases hf
        simp [takeBP_len l hf]
  | .own e :: l, n, ds, r, hf => by
    cases ds with
    | nil => cases hf
    | cons d q =>
      replace hf : ((takeL E e d).bind fun z => (takeBP E l (n + 1) q).map fun y => ((z.1, y.1), z.2 ++ y.2)) = some r := hf
      obtain ⟨z, hz, hf⟩ := Option.bind_eq_some_iff.1 hf
      obtain ⟨y, hy, rfl⟩ := Option.map_eq_some_iff.1 hf
      simp [takeBP_len l hy]
  | .mut e :: l, n, ds, r, hf => by
    cases ds with
    | nil => cases hf
    | cons d q =>
      replace hf : ((takeL E e d).bind fun z => (takeBP E l (n + 1) q).map fun y => ((z.1, y.1), z.2 ++ y.2)) = some r := hf
      obtain ⟨z, hz, hf⟩ := Option.bind_eq_some_iff.1 hf
      obtain ⟨y, hy, rfl⟩ := Option.map_eq_some_iff.1 hf
      simp [takeBP_len l hy]

theorem takeBP_rel (h : RelV c μ fp v w) (hE : ∀ id x, E id = some x → v id = some x) : (l : List Cm) → {n : Nat} → {os vs : List Value} → {ds : List DVal} → {r : backPD l × List Nat} →
    VsRel c μ vs ds → os.length = l.length → Toks c true l os n → takeBP E l n ds = some r → r.2.Nodup → ∃ f, backRepP w l os vs r.1 f ∧ Gone c fp v E r.2 f
  | [], n, os, vs, ds, r, hr, ho, ht, hf, hn => by
    cases ds with
    | nil =>
      cases hf
      simp only [VsRel] at hr
      exact ⟨[], by simp only [backRepP]; exact ⟨List.eq_nil_of_length_eq_zero ho, hr, trivial⟩, Gone.nil⟩
    | cons d q => cases hf
  | _ :: _, n, [], vs, ds, r, hr, ho, ht, hf, hn => by cases ho
  | .b :: l, n, o :: os, vs, ds, r, hr, ho, ht, hf, hn => by
    cases ds with
    | nil => cases hf
    | cons d q =>
      cases d <;> try (cases hf; done)
      rename_i x
      obtain ⟨y, hy, rfl⟩ := Option.map_eq_some_iff.1 (show ((takeBP E l n q).map fun y => ((x, y.1), y.2)) = some r from hf)
      simp only [VsRel] at hr
      obtain ⟨v0, vs', rfl, hx, hr⟩ := hr
      simp only [VRel] at hx; subst hx
      obtain ⟨f, h1, h2⟩ := takeBP_rel h hE l hr (by simpa using ho) ht hy hn
      exact ⟨f, by simp only [backRepP]; exact ⟨o, os, vs', rfl, rfl, h1⟩, h2⟩
  | .i k :: l, n, o :: os, vs, ds, r, hr, ho, ht, hf, hn => by
    cases ds with
    | nil => cases hf
    | cons d q =>
      cases d <;> try (cases hf; done)
      rename_i k' x
      replace hf : (if k = k' then (takeBP E l n q).map fun y => ((x, y.1), y.2) else none) = some r := hf
      split at hf
      case isFalse => cases hf
      rename_i e; subst e
      obtain ⟨y, hy, rfl⟩ := Option.map_eq_some_iff.1 hf
      simp only [VsRel] at hr
      obtain ⟨v0, vs', rfl, hx, hr⟩ := hr
      simp only [VRel] at hx; subst hx
      obtain ⟨f, h1, h2⟩ := takeBP_rel h hE l hr (by simpa using ho) ht hy hn
      exact ⟨f, by simp only [backRepP]; exact ⟨o, os, vs', rfl, rfl, h1⟩, h2⟩
  | .s :: l, n, o :: os, vs, ds, r, hr, ho, ht, hf, hn => by
    cases ds with
    | nil => cases hf
    | cons d q =>
      cases d <;> try (cases hf; done)
      rename_i x
      obtain ⟨y, hy, rfl⟩ := Option.map_eq_some_iff.1 (show ((takeBP E l n q).map fun y => ((x, y.1), y.2)) = some r from hf)
      simp only [VsRel] at hr
      obtain ⟨v0, vs', rfl, hx, hr⟩ := hr
      simp only [VRel] at hx
      obtain ⟨f, h1, h2⟩ := takeBP_rel h hE l hr (by simpa using ho) ht hy hn
      exact ⟨f, by simp only [backRepP]; exact ⟨o, os, vs', rfl, by rw [hx.1], hx.2, h1⟩, h2⟩
  | .ro e :: l, n, o :: os, vs, ds, r, hr, ho, ht, hf, hn => by
    cases ds with
    | nil => cases hf
    | cons d q =>
      cases d <;> try (cases hf; done)
      rename_i e' xs tk
      cases tk with
      | none => cases hf
      | some k =>
        replace hf : (if k = n then takeBP E l (n + 1) q else none) = some r := hf
        split at hf
        case isFalse => cases hf
        rename_i ek; subst ek
        simp only [VsRel] at hr
        obtain ⟨v0, vs', rfl, hx, hr⟩ := hr
        simp only [VRel] at hx
        simp only [Toks] at ht
        obtain ⟨f, h1, h2⟩ := takeBP_rel h hE l hr (by simpa using ho) ht.2 hf hn
        have hv0 : v0 = o := (hx.2 k rfl).trans (ht.1 trivial)
        exact ⟨f, by simp only [backRepP]; exact ⟨o, os, vs', rfl, by rw [hv0], h1⟩, h2⟩
  | .own e :: l, n, o :: os, vs, ds, r, hr, ho, ht, hf, hn => by
    cases ds with
    | nil => cases hf
    | cons d q =>
      replace hf : ((takeL E e d).bind fun z => (takeBP E l (n + 1) q).map fun y => ((z.1, y.1), z.2 ++ y.2)) = some r := hf
      obtain ⟨z, hz, hf⟩ := Option.bind_eq_some_iff.1 hf
      obtain ⟨y, hy, rfl⟩ := Option.map_eq_some_iff.1 hf
      simp only [VsRel] at hr
      obtain ⟨v0, vs', rfl, hv, hr⟩ := hr
      obtain ⟨f, h1, h2⟩ := takeBP_rel h hE l hr (by simpa using ho) ht hy (List.nodup_append.1 hn).2.1
      obtain ⟨f0, g1, g2⟩ := takeL_rel h hE hv hz
      exact ⟨f0 ++ f, by simp only [backRepP]; exact ⟨o, os, v0, vs', f0, f, rfl, rfl, rfl, g1, h1⟩, g2.append h h2 hn⟩
  | .mut e :: l, n, o :: os, vs, ds, r, hr, ho, ht, hf, hn => by
    cases ds with
    | nil => cases hf
    | cons d q =>
      replace hf : ((takeL E e d).bind fun z => (takeBP E l (n + 1) q).map fun y => ((z.1, y.1), z.2 ++ y.2)) = some r := hf
      obtain ⟨z, hz, hf⟩ := Option.bind_eq_some_iff.1 hf
      obtain ⟨y, hy, rfl⟩ := Option.map_eq_some_iff.1 hf
      simp only [VsRel] at hr
      obtain ⟨v0, vs', rfl, hv, hr⟩ := hr
      obtain ⟨f, h1, h2⟩ := takeBP_rel h hE l hr (by simpa using ho) ht hy (List.nodup_append.1 hn).2.1
      obtain ⟨f0, g1, g2⟩ := takeL_rel h hE hv hz
      exact ⟨f0 ++ f, by simp only [backRepP]; exact ⟨o, os, v0, vs', f0, f, rfl, rfl, rfl, g1, h1⟩, g2.append h h2 hn⟩

theorem takeBV_rel (h : RelV c μ fp v w) (hE : ∀ id x, E id = some x → v id = some x) : (l : List Cm) → {n : Nat} → {x : cmD l} → {vs : List Value} → {r : backVD l × List Nat} →
    VsRel c μ vs (enterC true l x n).1 → takeBV E l n = some r → r.2.Nodup → ∃ f, backRepV w l vs r.1 f ∧ Gone c fp v E r.2 f
  | [], n, x, vs, r, hr, hf, hn => by
    cases hf
    simp only [enterC, VsRel] at hr
    exact ⟨[], by simp only [backRepV]; exact ⟨hr, trivial⟩, Gone.nil⟩
  | .b :: l, n, x, vs, r, hr, hf, hn => by
    simp only [enterC, VsRel] at hr
    obtain ⟨v0, vs', rfl, _, hr⟩ := hr
    obtain ⟨f, h1, h2⟩ := takeBV_rel h hE l hr (show takeBV E l n = some r from hf) hn
    exact ⟨f, by simp only [backRepV]; exact ⟨v0, vs', rfl, h1⟩, h2⟩
  | .i _ :: l, n, x, vs, r, hr, hf, hn => by
    simp only [enterC, VsRel] at hr
    obtain ⟨v0, vs', rfl, _, hr⟩ := hr
    obtain ⟨f, h1, h2⟩ := takeBV_rel h hE l hr (show takeBV E l n = some r from hf) hn
    exact ⟨f, by simp only [backRepV]; exact ⟨v0, vs', rfl, h1⟩, h2⟩
  | .s :: l, n, x, vs, r, hr, hf, hn => by
    simp only [enterC, VsRel] at hr
    obtain ⟨v0, vs', rfl, _, hr⟩ := hr
    obtain ⟨f, h1, h2⟩ := takeBV_rel h hE l hr (show takeBV E l n = some r from hf) hn
    exact ⟨f, by simp only [backRepV]; exact ⟨v0, vs', rfl, h1⟩, h2⟩
  | .ro _ :: l, n, x, vs, r, hr, hf, hn => by
    simp only [enterC, VsRel] at hr
    obtain ⟨v0, vs', rfl, _, hr⟩ := hr
    obtain ⟨f, h1, h2⟩ := takeBV_rel h hE l hr (show takeBV E l (n + 1) = some r from hf) hn
    exact ⟨f, by simp only [backRepV]; exact ⟨v0, vs', rfl, h1⟩, h2⟩
  | .own _ :: l, n, x, vs, r, hr, hf, hn => by
    simp only [enterC, VsRel] at hr
    obtain ⟨v0, vs', rfl, _, hr⟩ := hr
    obtain ⟨f, h1, h2⟩ := takeBV_rel h hE l hr (show takeBV E l (n + 1) = some r from hf) hn
    exact ⟨f, by simp only [backRepV]; exact ⟨v0, vs', rfl, h1⟩, h2⟩
  | .mut e :: l, n, x, vs, r, hr, hf, hn => by
    simp only [enterC, VsRel] at hr
    obtain ⟨v0, vs', rfl, hv, hr⟩ := hr
    replace hf : ((takeL E e (.sref n none)).bind fun z => (takeBV E l (n + 1)).map fun y => ((z.1, y.1), z.2 ++ y.2)) = some r := hf
    obtain ⟨z, hz, hf⟩ := Option.bind_eq_some_iff.1 hf
    obtain ⟨y, hy, rfl⟩ := Option.map_eq_some_iff.1 hf
    obtain ⟨f, h1, h2⟩ := takeBV_rel h hE l hr hy (List.nodup_append.1 hn).2.1
    obtain ⟨f0, g1, g2⟩ := takeL_rel h hE hv hz
    exact ⟨f0 ++ f, by simp only [backRepV]; exact ⟨v0, vs', f0, f, rfl, rfl, g1, h1⟩, g2.append h h2 hn⟩

theorem headV_cells {a : Bool} {d : Value} {cs : List Cm} {x : cmD cs} {n : Nat} (h : VRel c μ d (headV a (enterC true cs x n).1)) (ha : a = false → cs.length = 1 ∧ d.oneCell' = true) (hag : a = true → ∃ us, d = .agg us) : VsRel c μ d.cells.toList (enterC true cs x n).1 := by
  cases a with
  | true =>
    simp only [headV, if_true, VRel] at h
    obtain ⟨vs, rfl, h⟩ := h
    exact h
  | false =>
    obtain ⟨hl, ho⟩ := ha rfl
    rw [cells_of_oneCell ho]
    have := enterC_len true cs x n
    rw [hl] at this
    obtain ⟨y, hy⟩ := List.length_eq_one_iff.1 this
    rw [hy] at h ⊢
    simp only [headV, Bool.false_eq_true, if_false, List.headD_cons] at h
    simp only [VsRel]
    exact ⟨d, [], rfl, h, rfl⟩

/-- A variable's item: which blocks come back, and where the variable is. -/
theorem takeBI_rel (h : RelV c μ fp v w) (hE : ∀ id x, E id = some x → v id = some x) {S : Nat → Prop} {w0 : World} : (it : Item) → {n : Nat} → {x : cmD it.cs} → {d : Value} → {r : backID it × List Nat} → {f0 : List Nat} → {g : List (Nat × Nat × Nat)} →
    ItemRep S w0 it d x f0 g → ToksI c true w0 it d n → VRel c μ d (enterI true it x n).1 → takeBI E it n = some r → r.2.Nodup →
    ∃ f, BackRep w0 w it d r.1 f ∧ GoneB c fp v E r.2 f g
  | ⟨false, a, cs⟩, n, x, d, r, f0, g, hi, ht, hr, hf, hn => by
    simp only [ItemRep] at hi
    obtain ⟨rfl, hi, h1, h2⟩ := hi
    have hl := cmRep_length cs hi
    obtain ⟨f, g1, g2⟩ := takeBV_rel h hE cs (headV_cells hr (fun e => ⟨by rw [← hl, cells_of_oneCell (h2 e)]; rfl, h2 e⟩) h1) (show takeBV E cs n = some r from hf) hn
    exact ⟨f, g1, ⟨by simpa using g2.mem, by simpa using g2.nodup, g2.there, g2.may⟩⟩
  | ⟨true, a, cs⟩, n, x, d, r, f0, g, hi, ht, hr, hf, hn => by
    simp only [ItemRep] at hi
    obtain ⟨B, o, C, T, rfl, rfl, hb, hC, hi⟩ := hi
    replace hf : (match E n with | some (.var l) => (takeBP E cs (n + 1) l).map fun y => (y.1, n :: y.2) | _ => none) = some r := hf
    split at hf
    case h_2 => cases hf
    rename_i l hid
    obtain ⟨y, hy, rfl⟩ := Option.map_eq_some_iff.1 hf
    have hv := hE n _ hid
    obtain ⟨B', o', C', T', h1, h2, h3, h4, h5, h6, h7⟩ := h.rel n _ hv
    have hr : VRel c μ (.pointer (some ⟨B, o, none⟩)) (.vptr n 0) := hr
    simp only [VRel] at hr
    obtain ⟨B2, o2, e1, e2⟩ := hr
    rw [h1] at e1; cases e1
    simp only [Value.pointer.injEq, Option.some.injEq, Addr.mk.injEq, Nat.add_zero, and_true] at e2
    obtain ⟨rfl, rfl⟩ := e2
    rw [List.nodup_cons] at hn
    have hlen : (cellsAt w0 B o cs.length).length = cs.length := cmRep_length cs hi
    obtain ⟨f, g1, g2⟩ := takeBP_rel h hE cs h5 hlen (ht B o rfl) hy hn.2
    have hll : l.length = cs.length := by
      have := takeBP_len cs hy
      exact this
    rw [hll] at g1
    have hB : B ∉ f := by
      intro hb
      obtain ⟨i, hi, hm⟩ := g2.mem B hb
      have hne : i ≠ n := fun e => hn.1 (e ▸ hi)
      exact h.sep i n hne (g2.there i hi).1 (by rw [hv]; simp) B hm (by rw [h2]; simp)
    refine ⟨f, ⟨B, o, rfl, g1⟩, ⟨?_, ?_, ?_, g2.may⟩⟩
    · intro b hb
      simp only [List.map_cons, List.map_nil, List.mem_append, List.mem_singleton] at hb
      rcases hb with hb | rfl
      · obtain ⟨i, hi, hm⟩ := g2.mem b hb; exact ⟨i, by simp [hi], hm⟩
      · exact ⟨n, by simp, by rw [h2]; simp⟩
    · simp only [List.map_cons, List.map_nil, List.nodup_append]
      refine ⟨g2.nodup, by simp, fun a ha b hb e => ?_⟩
      simp only [List.mem_singleton] at hb
      exact hB (by rw [← hb, ← e]; exact ha)
    · intro i hi
      rcases List.mem_cons.1 hi with rfl | hi
      · rw [hv, hid]; simp
      · exact g2.there i hi

theorem takeBs_rel (h : RelV c μ fp v w) (hE : ∀ id x, E id = some x → v id = some x) {S : Nat → Prop} {w0 : World} : (l : List Item) → {n : Nat} → {x : itemsD l} → {vs : List Value} → {r : backD l × List Nat} → {f0 : List Nat} → {g : List (Nat × Nat × Nat)} →
    ItemsRep S w0 l vs x f0 g → ToksIs c true w0 l vs n → VsRel c μ vs (enterIs true l x n).1 → takeBs E l n = some r → r.2.Nodup → ∃ f, BacksRep w0 w l vs r.1 f ∧ GoneB c fp v E r.2 f g
  | [], n, x, vs, r, f0, g, hi, ht, hr, hf, hn => by
    cases hf
    simp only [ItemsRep] at hi
    obtain ⟨rfl, rfl, rfl⟩ := hi
    exact ⟨[], by simp only [BacksRep]; exact ⟨trivial, trivial⟩, GoneB.nil⟩
  | it :: l, n, x, vs, r, f0, g, hi, ht, hr, hf, hn => by
    simp only [ItemsRep] at hi
    obtain ⟨d, vs', f1, f2, g1, g2, rfl, rfl, rfl, h1, hi⟩ := hi
    simp only [ToksIs] at ht
    simp only [enterIs, VsRel] at hr
    obtain ⟨d', vs2, e, hd, hr⟩ := hr
    cases e
    rw [enterI_N] at hr
    replace hf : ((takeBI E it n).bind fun x => (takeBs E l (itN it n)).map fun y => ((x.1, y.1), x.2 ++ y.2)) = some r := hf
    obtain ⟨z, hz, hf⟩ := Option.bind_eq_some_iff.1 hf
    obtain ⟨y, hy, rfl⟩ := Option.map_eq_some_iff.1 hf
    obtain ⟨f, q1, q2⟩ := takeBs_rel h hE l hi ht.2 hr hy (List.nodup_append.1 hn).2.1
    obtain ⟨f', q3, q4⟩ := takeBI_rel h hE it h1 ht.1 hd hz (List.nodup_append.1 hn).1
    exact ⟨f' ++ f, by simp only [BacksRep]; exact ⟨d, vs', f', f, rfl, rfl, q3, q1⟩, q4.append h q2 hn⟩
end
end Go.Proofs.Ytjcinikojcfebaa.Dm
