/- The data machine, part 33: a call, from what is told of the function. -/
import Derived.Test.YtjcinikojcfebaaDm32
namespace Go.Proofs.Ytjcinikojcfebaa.Dm
open Go

/-- A call's own world: what it may write is what was given away, and the variables whose addresses it has. -/
def ctxOf (P : Program) (S : Nat → Prop) (w : World) (f : List Nat) (g : List (Nat × Nat × Nat)) (tok : Nat → Value) (loc : Nat → Loc) (hS : ∀ b, S b → b < w.heap.size) : Ctx where
  P := P
  S := S
  w0 := w
  M := fun b j => b ∈ f ∨ ∃ o m, (b, o, m) ∈ g ∧ o ≤ j ∧ j < o + m
  tok := tok
  loc := loc
  hS := hS

def retV : List Value → Value
  | [v] => v
  | vs => .tuple vs.toArray

structure Done (P : Program) (S : Nat → Prop) (w : World) (hS : ∀ b, S b → b < w.heap.size) (K : Con) (ivs : List Value) (f : List Nat) (g : List (Nat × Nat × Nat)) (y : itemsD K.rs × backD K.its) (v' : Value) (w' : World) : Prop where
  ex : ∃ rvs f1 g1 f2, v' = retV rvs ∧ ItemsRep S w' K.rs rvs y.1 f1 g1 ∧ BacksRep w w' K.its ivs y.2 f2 ∧ (f1 ++ g1.map (·.1) ++ (f2 ++ g.map (·.1))).Nodup ∧ (∀ b ∈ f1 ++ g1.map (·.1) ++ f2, b ∈ f ∨ w.heap.size ≤ b)
  ev : Ev (ctxOf P S w f g (fun _ => undef) default hS) w'

/-- What is told of a function holds. -/
def Con.Ok (P : Program) (K : Con) : Prop :=
  ∀ (x : itemsD K.its) (y : itemsD K.rs × backD K.its), (K.F x).eval = some y →
    ∀ (S : Nat → Prop) (w : World) (hS : ∀ b, S b → b < w.heap.size) (ivs : List Value) (f : List Nat) (g : List (Nat × Nat × Nat)), ItemsRep S w K.its ivs x f g → (f ++ g.map (·.1)).Nodup → (∀ b ∈ f ++ g.map (·.1), ¬ S b) →
      Called P K.f (layV K.lay ivs).toArray w fun v' w' => Done P S w hS K ivs f g y v' w'

theorem Called.mono {P : Program} {f : FuncId} {args : Array Value} {w : World} {R R' : Value → World → Prop} (h : Called P f args w R) (hR : ∀ v w', R v w' → R' v w') : Called P f args w R' := by
  refine ⟨h.1, Calls.mono h.2 fun e w' he => ?_⟩
  cases e with
  | returned v => exact hR v w' he
  | panicked _ => exact he
  | outgrown => exact he

/-! ### small things -/
theorem cmRep_lt {S : Nat → Prop} {w : World} : (l : List Cm) → {vs : List Value} → {x : cmD l} → {f : List Nat} → cmRep S w l vs x f → ∀ b ∈ f, b < w.heap.size
  | [], _, _, _, h => by simp only [cmRep] at h; rw [h.2]; simp
  | .b :: r, _, _, _, h => by simp only [cmRep] at h; obtain ⟨vs', rfl, h⟩ := h; exact cmRep_lt r h
  | .i _ :: r, _, _, _, h => by simp only [cmRep] at h; obtain ⟨vs', rfl, h⟩ := h; exact cmRep_lt r h
  | .s :: r, _, _, _, h => by simp only [cmRep] at h; obtain ⟨vs', rfl, _, h⟩ := h; exact cmRep_lt r h
  | .ro e :: r, _, _, _, h => by simp only [cmRep] at h; obtain ⟨v, vs', rfl, _, h⟩ := h; exact cmRep_lt r h
  | .own e :: r, _, _, _, h => by
    simp only [cmRep] at h; obtain ⟨v, vs', f1, f2, rfl, rfl, h1, h⟩ := h
    intro b hb
    rcases List.mem_append.1 hb with hb | hb
    · exact Ty.repO_lt _ h1 b hb
    · exact cmRep_lt r h b hb
  | .mut e :: r, _, _, _, h => by
    simp only [cmRep] at h; obtain ⟨v, vs', f1, f2, rfl, rfl, h1, h⟩ := h
    intro b hb
    rcases List.mem_append.1 hb with hb | hb
    · exact Ty.repO_lt _ h1 b hb
    · exact cmRep_lt r h b hb
theorem ItemRep_lt {S : Nat → Prop} {w : World} : (it : Item) → {v : Value} → {x : cmD it.cs} → {f : List Nat} → {g : List (Nat × Nat × Nat)} → ItemRep S w it v x f g → ∀ b ∈ f ++ g.map (·.1), b < w.heap.size
  | ⟨false, _, cs⟩, _, _, _, _, h => by
    simp only [ItemRep] at h; obtain ⟨rfl, h, _⟩ := h
    simpa using cmRep_lt cs h
  | ⟨true, _, cs⟩, _, _, _, _, h => by
    simp only [ItemRep] at h; obtain ⟨B, o, C, E, rfl, rfl, hb, _, h⟩ := h
    intro b hm
    simp only [List.map_cons, List.map_nil, List.mem_append, List.mem_singleton] at hm
    rcases hm with hm | rfl
    · exact cmRep_lt cs h b hm
    · exact (Array.getElem?_eq_some_iff.1 hb).1
theorem ItemsRep_lt {S : Nat → Prop} {w : World} : (l : List Item) → {vs : List Value} → {x : itemsD l} → {f : List Nat} → {g : List (Nat × Nat × Nat)} → ItemsRep S w l vs x f g → ∀ b ∈ f ++ g.map (·.1), b < w.heap.size
  | [], _, _, _, _, h => by simp only [ItemsRep] at h; obtain ⟨_, rfl, rfl⟩ := h; simp
  | it :: r, _, _, _, _, h => by
    simp only [ItemsRep] at h; obtain ⟨v, vs', f1, f2, g1, g2, rfl, rfl, rfl, h1, h⟩ := h
    intro b hb
    rw [List.map_append] at hb
    rcases List.mem_append.1 ((perm_items f1 f2 (g1.map (·.1)) (g2.map (·.1))).mem_iff.1 hb) with hb | hb
    · exact ItemRep_lt it h1 b hb
    · exact ItemsRep_lt r h b hb

def noRo (cs : List Cm) : Bool := cs.all fun c => match c with | .ro _ => false | _ => true
theorem cmRep_roFree {S S' : Nat → Prop} {w : World} : (l : List Cm) → {vs : List Value} → {x : cmD l} → {f : List Nat} → noRo l = true → cmRep S w l vs x f → cmRep S' w l vs x f
  | [], _, _, _, _, h => by simp only [cmRep] at h ⊢; exact h
  | .b :: r, _, _, _, hn, h => by simp only [cmRep] at h ⊢; obtain ⟨vs', e, h⟩ := h; exact ⟨vs', e, cmRep_roFree r hn h⟩
  | .i _ :: r, _, _, _, hn, h => by simp only [cmRep] at h ⊢; obtain ⟨vs', e, h⟩ := h; exact ⟨vs', e, cmRep_roFree r hn h⟩
  | .s :: r, _, _, _, hn, h => by simp only [cmRep] at h ⊢; obtain ⟨vs', e, hl, h⟩ := h; exact ⟨vs', e, hl, cmRep_roFree r hn h⟩
  | .ro e :: r, _, _, _, hn, h => by simp [noRo] at hn
  | .own e :: r, _, _, _, hn, h => by simp only [cmRep] at h ⊢; obtain ⟨v, vs', f1, f2, e1, e2, h1, h⟩ := h; exact ⟨v, vs', f1, f2, e1, e2, h1, cmRep_roFree r hn h⟩
  | .mut e :: r, _, _, _, hn, h => by simp only [cmRep] at h ⊢; obtain ⟨v, vs', f1, f2, e1, e2, h1, h⟩ := h; exact ⟨v, vs', f1, f2, e1, e2, h1, cmRep_roFree r hn h⟩
theorem ItemsRep_roFree {S S' : Nat → Prop} {w : World} : (l : List Item) → {vs : List Value} → {x : itemsD l} → {f : List Nat} → {g : List (Nat × Nat × Nat)} → roFree l = true → ItemsRep S w l vs x f g → ItemsRep S' w l vs x f g
  | [], _, _, _, _, _, h => by simp only [ItemsRep] at h ⊢; exact h
  | it :: r, _, _, _, _, hn, h => by
    simp only [ItemsRep] at h ⊢
    obtain ⟨v, vs', f1, f2, g1, g2, e1, e2, e3, h1, h⟩ := h
    simp only [roFree, List.all_cons, Bool.and_eq_true] at hn
    refine ⟨v, vs', f1, f2, g1, g2, e1, e2, e3, ?_, ItemsRep_roFree r hn.2 h⟩
    obtain ⟨p, a, cs⟩ := it
    cases p with
    | false => simp only [ItemRep] at h1 ⊢; exact ⟨h1.1, cmRep_roFree cs hn.1 h1.2.1, h1.2.2⟩
    | true =>
      simp only [ItemRep] at h1 ⊢
      obtain ⟨B, o, C, E, q1, q2, q3, q4, q5⟩ := h1
      exact ⟨B, o, C, E, q1, q2, q3, q4, cmRep_roFree cs hn.1 q5⟩
theorem cmRep_S {S S' : Nat → Prop} {w : World} (hS : ∀ b, S b → S' b) : (l : List Cm) → {vs : List Value} → {x : cmD l} → {f : List Nat} → cmRep S w l vs x f → cmRep S' w l vs x f
  | [], _, _, _, h => by simp only [cmRep] at h ⊢; exact h
  | .b :: r, _, _, _, h => by simp only [cmRep] at h ⊢; obtain ⟨vs', e, h⟩ := h; exact ⟨vs', e, cmRep_S hS r h⟩
  | .i _ :: r, _, _, _, h => by simp only [cmRep] at h ⊢; obtain ⟨vs', e, h⟩ := h; exact ⟨vs', e, cmRep_S hS r h⟩
  | .s :: r, _, _, _, h => by simp only [cmRep] at h ⊢; obtain ⟨vs', e, hl, h⟩ := h; exact ⟨vs', e, hl, cmRep_S hS r h⟩
  | .ro e :: r, _, _, _, h => by simp only [cmRep] at h ⊢; obtain ⟨v, vs', e1, h1, h⟩ := h; exact ⟨v, vs', e1, Ty.repS_congr (fun b hb => ⟨hS b hb, rfl⟩) _ h1, cmRep_S hS r h⟩
  | .own e :: r, _, _, _, h => by simp only [cmRep] at h ⊢; obtain ⟨v, vs', f1, f2, e1, e2, h1, h⟩ := h; exact ⟨v, vs', f1, f2, e1, e2, h1, cmRep_S hS r h⟩
  | .mut e :: r, _, _, _, h => by simp only [cmRep] at h ⊢; obtain ⟨v, vs', f1, f2, e1, e2, h1, h⟩ := h; exact ⟨v, vs', f1, f2, e1, e2, h1, cmRep_S hS r h⟩
theorem ItemsRep_S {S S' : Nat → Prop} {w : World} (hS : ∀ b, S b → S' b) : (l : List Item) → {vs : List Value} → {x : itemsD l} → {f : List Nat} → {g : List (Nat × Nat × Nat)} → ItemsRep S w l vs x f g → ItemsRep S' w l vs x f g
  | [], _, _, _, _, h => by simp only [ItemsRep] at h ⊢; exact h
  | it :: r, _, _, _, _, h => by
    simp only [ItemsRep] at h ⊢
    obtain ⟨v, vs', f1, f2, g1, g2, e1, e2, e3, h1, h⟩ := h
    refine ⟨v, vs', f1, f2, g1, g2, e1, e2, e3, ?_, ItemsRep_S hS r h⟩
    obtain ⟨p, a, cs⟩ := it
    cases p with
    | false => simp only [ItemRep] at h1 ⊢; exact ⟨h1.1, cmRep_S hS cs h1.2.1, h1.2.2⟩
    | true =>
      simp only [ItemRep] at h1 ⊢
      obtain ⟨B, o, C, E, q1, q2, q3, q4, q5⟩ := h1
      exact ⟨B, o, C, E, q1, q2, q3, q4, cmRep_S hS cs q5⟩

theorem Toks_false {c : Ctx} : (l : List Cm) → (vs : List Value) → (n : Nat) → Toks c false l vs n
  | [], _, _ => by simp [Toks]
  | .b :: r, [], _ => by simp [Toks]
  | .i _ :: r, [], _ => by simp [Toks]
  | .s :: r, [], _ => by simp [Toks]
  | .ro _ :: r, [], _ => by simp [Toks]
  | .own _ :: r, [], _ => by simp [Toks]
  | .mut _ :: r, [], _ => by simp [Toks]
  | .b :: r, _ :: vs, n => Toks_false r vs n
  | .i _ :: r, _ :: vs, n => Toks_false r vs n
  | .s :: r, _ :: vs, n => Toks_false r vs n
  | .ro _ :: r, _ :: vs, n => ⟨fun h => (by cases h), Toks_false r vs (n + 1)⟩
  | .own _ :: r, _ :: vs, n => Toks_false r vs (n + 1)
  | .mut _ :: r, _ :: vs, n => Toks_false r vs (n + 1)
theorem ToksIs_false {c : Ctx} {w : World} : (l : List Item) → (vs : List Value) → (n : Nat) → ToksIs c false w l vs n
  | [], _, _ => by simp [ToksIs]
  | it :: r, [], _ => by simp [ToksIs]
  | it :: r, v :: vs, n => by
    refine ⟨?_, ToksIs_false r vs _⟩
    obtain ⟨p, a, cs⟩ := it
    cases p with
    | false => exact Toks_false cs _ n
    | true => exact fun B o _ => Toks_false cs _ _

theorem Ev.comp {c c1 : Ctx} {w w' : World} (h : Ev c w) (h' : Ev c1 w') (hw : c1.w0 = w) (hS : ∀ b, c.S b → c1.S b) (hM : ∀ b j, b < c.w0.heap.size → c1.M b j → c.M b j) : Ev c w' := by
  subst hw
  refine ⟨Nat.le_trans h.size h'.size, h'.os.trans h.os, h'.output.trans h.output, fun b hb => (h'.S b (hS b hb)).trans (h.S b hb), fun b hb => ?_, fun a => (h'.frozen a).trans (h.frozen a)⟩
  have hb' := Nat.lt_of_lt_of_le hb h.size
  rcases h'.old b hb' with e' | ⟨D, D', T, a1, a2, a3, a4⟩
  · rw [e']; exact h.old b hb
  · rcases h.old b hb with e | ⟨C, C', T', b1, b2, b3, b4⟩
    · exact .inr ⟨D, D', T, by rw [← e, a1], a2, a3, fun j hj => a4 j fun hm => hj (hM b j hb hm)⟩
    · rw [a1] at b2; cases b2
      exact .inr ⟨C, D', T, b1, a2, a3.trans b3, fun j hj => (a4 j fun hm => hj (hM b j hb hm)).trans (b4 j hj)⟩

theorem RelV.less {c : Ctx} {μ : Nat → Loc} {fp : Nat → List Nat} {v v' : Env} {w w' : World} (h : RelV c μ fp v w) (hv : ∀ id, v' id = none ∨ v' id = v id) (hz : w.heap.size ≤ w'.heap.size)
    (hs : ∀ id, v' id ≠ none → ∀ b ∈ fp id, w'.heap[b]? = w.heap[b]?) : RelV c μ fp v' w' := by
  have hm : ∀ id, v' id ≠ none → v id ≠ none := fun id hn => by
    rcases hv id with e | e
    · exact absurd e hn
    · exact e ▸ hn
  constructor
  · intro id x hx
    have hx' : v id = some x := by
      rcases hv id with e | e
      · rw [e] at hx; cases hx
      · rw [← e]; exact hx
    exact (h.rel id x hx').frame (hs id (by simp [hx])) rfl fun _ _ => rfl
  · intro id x hx
    rcases hv id with e | e
    · rw [e] at hx; cases hx
    · exact h.nodup id x (by rw [← e]; exact hx)
  · exact fun id id' hne h1 h2 => h.sep id id' hne (hm id h1) (hm id' h2)
  · exact fun id h1 => h.notS id (hm id h1)
  · exact fun id h1 b hb => Nat.lt_of_lt_of_le (h.lt id (hm id h1) b hb) hz

theorem Pool.drop {c : Ctx} {K : Nat → Prop} {μ : Nat → Loc} {fp : Nat → List Nat} {v : Env} {w : World} {f rest : List Nat} (h : Pool c K μ fp v w (f ++ rest)) : Pool c K μ fp v w rest :=
  ⟨h.rel, h.known, (List.nodup_append.1 h.nodup).2.1, fun id hv b hb hb' => h.far id hv b hb (by simp [hb']), fun b hb => h.ok b (by simp [hb])⟩

theorem unlay_rel {c : Ctx} {μ : Nat → Loc} : (l : Lay) → {ds is : List DVal} → {vs : List Value} → unlay l ds = some is → VsRel c μ vs ds → ∃ ivs, VsRel c μ ivs is ∧ vs = layV l ivs ∧ ∀ id ∈ DVal.idsL is, id ∈ DVal.idsL ds
  | [], ds, is, vs, hu, hr => by
    cases ds with
    | nil =>
      cases hu
      simp only [VsRel] at hr
      exact ⟨[], by simp [VsRel], by rw [hr]; rfl, fun _ h => h⟩
    | cons d q => cases hu
  | none :: l, ds, is, vs, hu, hr => by
    cases ds with
    | nil => cases hu
    | cons d q =>
      obtain ⟨z, hz, rfl⟩ := Option.map_eq_some_iff.1 (show (unlay l q).map (fun q => d :: q) = some is from hu)
      simp only [VsRel] at hr
      obtain ⟨v0, vs', rfl, hv, hr⟩ := hr
      obtain ⟨ivs, h1, h2, h3⟩ := unlay_rel l hz hr
      refine ⟨v0 :: ivs, by simp only [VsRel]; exact ⟨v0, ivs, rfl, hv, h1⟩, by rw [h2]; rfl, fun id hi => ?_⟩
      simp only [DVal.idsL, List.mem_append] at hi ⊢
      exact hi.imp (fun h => h) (h3 id)
  | some (g, k) :: l, ds, is, vs, hu, hr => by
    cases ds with
    | nil => cases hu
    | cons d q =>
      cases d <;> try (cases hu; done)
      rename_i g' caps
      replace hu : (if g = g' ∧ caps.length = k then (unlay l q).map fun q => caps ++ q else none) = some is := hu
      split at hu
      case isFalse => cases hu
      rename_i hc
      obtain ⟨rfl, rfl⟩ := hc
      obtain ⟨z, hz, rfl⟩ := Option.map_eq_some_iff.1 hu
      simp only [VsRel] at hr
      obtain ⟨v0, vs', rfl, hv, hr⟩ := hr
      simp only [VRel] at hv
      obtain ⟨cv, rfl, hcv⟩ := hv
      obtain ⟨ivs, h1, h2, h3⟩ := unlay_rel l hz hr
      have hl := hcv.length
      refine ⟨cv.toList ++ ivs, hcv.append h1, ?_, fun id hi => ?_⟩
      · simp only [layV]
        rw [← hl, List.take_left, List.drop_left, h2]
      · rw [idsL_append, List.mem_append] at hi
        simp only [DVal.idsL, DVal.ids, List.mem_append]
        exact hi.imp (fun h => h) (h3 id)

/-! ### what comes back -/
section
variable {c : Ctx} {K0 : Nat → Prop} {μ0 : Nat → Loc} {w : World}

theorem backP_le : (l : List Cm) → (ds : List DVal) → (y : backPD l) → (n : Nat) → n ≤ (backP l ds y n).2.2
  | [], _, _, n => Nat.le_refl n
  | .b :: r, [], _, n => Nat.le_refl n
  | .i _ :: r, [], _, n => Nat.le_refl n
  | .s :: r, [], _, n => Nat.le_refl n
  | .ro _ :: r, [], _, n => Nat.le_refl n
  | .own _ :: r, [], _, n => Nat.le_refl n
  | .mut _ :: r, [], _, n => Nat.le_refl n
  | .b :: r, _ :: q, y, n => backP_le r q y.2 n
  | .i _ :: r, _ :: q, y, n => backP_le r q y.2 n
  | .s :: r, _ :: q, y, n => backP_le r q y.2 n
  | .ro _ :: r, _ :: q, y, n => backP_le r q y n
  | .own _ :: r, _ :: q, y, n => Nat.le_trans (Nat.le_succ n) (backP_le r q y.2 (n + 1))
  | .mut _ :: r, _ :: q, y, n => Nat.le_trans (Nat.le_succ n) (backP_le r q y.2 (n + 1))

/-- New cells: their numbers are old ones or new ones. -/
def CellsOk (K : Nat → Prop) (n n' : Nat) (ds : List DVal) : Prop := ds.all DVal.isCell = true ∧ ∀ id ∈ DVal.idsL ds, K id ∨ (n ≤ id ∧ id < n')

theorem backP_ok {K : Nat → Prop} : (l : List Cm) → (ds : List DVal) → (y : backPD l) → (n : Nat) → ds.all DVal.isCell = true → (∀ id ∈ DVal.idsL ds, K id) → CellsOk K n (backP l ds y n).2.2 (backP l ds y n).1
  | [], _, _, n, _, _ => ⟨rfl, fun _ h => by cases h⟩
  | .b :: r, [], _, n, _, _ => ⟨rfl, fun _ h => by cases h⟩
  | .i _ :: r, [], _, n, _, _ => ⟨rfl, fun _ h => by cases h⟩
  | .s :: r, [], _, n, _, _ => ⟨rfl, fun _ h => by cases h⟩
  | .ro _ :: r, [], _, n, _, _ => ⟨rfl, fun _ h => by cases h⟩
  | .own _ :: r, [], _, n, _, _ => ⟨rfl, fun _ h => by cases h⟩
  | .mut _ :: r, [], _, n, _, _ => ⟨rfl, fun _ h => by cases h⟩
  | .b :: r, d :: q, y, n, h1, h2 => by
    simp only [List.all_cons, Bool.and_eq_true] at h1
    have := backP_ok r q y.2 n h1.2 fun id hi => h2 id (by simp [DVal.idsL, hi])
    exact ⟨by simpa [backP, DVal.isCell] using this.1, this.2⟩
  | .i _ :: r, d :: q, y, n, h1, h2 => by
    simp only [List.all_cons, Bool.and_eq_true] at h1
    have := backP_ok r q y.2 n h1.2 fun id hi => h2 id (by simp [DVal.idsL, hi])
    exact ⟨by simpa [backP, DVal.isCell] using this.1, this.2⟩
  | .s :: r, d :: q, y, n, h1, h2 => by
    simp only [List.all_cons, Bool.and_eq_true] at h1
    have := backP_ok r q y.2 n h1.2 fun id hi => h2 id (by simp [DVal.idsL, hi])
    exact ⟨by simpa [backP, DVal.isCell] using this.1, this.2⟩
  | .ro _ :: r, d :: q, y, n, h1, h2 => by
    simp only [List.all_cons, Bool.and_eq_true] at h1
    have := backP_ok (K := K) r q y n h1.2 fun id hi => h2 id (by simp [DVal.idsL, hi])
    refine ⟨by simpa [backP, h1.1] using this.1, fun id hi => ?_⟩
    have hi : id ∈ d.ids ++ DVal.idsL (backP r q y n).1 := hi
    rcases List.mem_append.1 hi with hi | hi
    · exact .inl (h2 id (by simp [DVal.idsL, hi]))
    · exact this.2 id hi
  | .own _ :: r, d :: q, y, n, h1, h2 => by
    simp only [List.all_cons, Bool.and_eq_true] at h1
    have := backP_ok (K := K) r q y.2 (n + 1) h1.2 fun id hi => h2 id (by simp [DVal.idsL, hi])
    have l1 := backP_le r q y.2 (n + 1)
    refine ⟨by simpa [backP, DVal.isCell] using this.1, fun id hi => ?_⟩
    have hi : id ∈ n :: DVal.idsL (backP r q y.2 (n + 1)).1 := hi
    show K id ∨ n ≤ id ∧ id < (backP r q y.2 (n + 1)).2.2
    rcases List.mem_cons.1 hi with hi | hi
    · right; omega
    · rcases this.2 id hi with h | h
      · exact .inl h
      · right; omega
  | .mut _ :: r, d :: q, y, n, h1, h2 => by
    simp only [List.all_cons, Bool.and_eq_true] at h1
    have := backP_ok (K := K) r q y.2 (n + 1) h1.2 fun id hi => h2 id (by simp [DVal.idsL, hi])
    have l1 := backP_le r q y.2 (n + 1)
    refine ⟨by simpa [backP, DVal.isCell] using this.1, fun id hi => ?_⟩
    have hi : id ∈ n :: DVal.idsL (backP r q y.2 (n + 1)).1 := hi
    show K id ∨ n ≤ id ∧ id < (backP r q y.2 (n + 1)).2.2
    rcases List.mem_cons.1 hi with hi | hi
    · right; omega
    · rcases this.2 id hi with h | h
      · exact .inl h
      · right; omega

theorem backP_rel : (l : List Cm) → ∀ {os vs : List Value} {ds : List DVal} {y : backPD l} {f rest : List Nat} {n : Nat} {K : Nat → Prop} {μ : Nat → Loc} {fp : Nat → List Nat} {v : Env},
    Pool c K μ fp v w (f ++ rest) → VsRel c μ0 os ds → (∀ id ∈ DVal.idsL ds, K0 id) → (∀ id, K0 id → K id ∧ μ id = μ0 id) → backRepP w l os vs y f → (∀ b ∈ f, b < c.w0.heap.size → ∀ j, c.M b j) →
    (∀ id, n ≤ id → id < (backP l ds y n).2.2 → ¬ K id) →
    Entered c K μ v w rest n (backP l ds y n).2.2 (backP l ds y n).2.1 fun μ' => VsRel c μ' vs (backP l ds y n).1
  | [], os, vs, ds, y, f, rest, n, K, μ, fp, v, h, hr, _, _, hb, _, _ => by
    simp only [backRepP] at hb
    obtain ⟨rfl, rfl, rfl⟩ := hb
    exact ⟨μ, fp, by simp [backP, VsRel], h.weaken fun _ => .inl, fun _ _ => rfl⟩
  | .b :: r, os, vs, ds, y, f, rest, n, K, μ, fp, v, h, hr, hi, hk, hb, hM, hf => by
    simp only [backRepP] at hb
    obtain ⟨o, os', vs', rfl, rfl, hb⟩ := hb
    cases ds with
    | nil => simp [VsRel] at hr
    | cons d q =>
      simp only [VsRel] at hr
      obtain ⟨v0, vs2, e, hd, hr⟩ := hr
      cases e
      obtain ⟨μ', fp', h1, h2, h3⟩ := backP_rel r h hr (fun id hi' => hi id (by simp [DVal.idsL, hi'])) hk hb hM hf
      exact ⟨μ', fp', by simp only [backP, VsRel, VRel]; exact ⟨_, _, rfl, rfl, h1⟩, h2, h3⟩
  | .i _ :: r, os, vs, ds, y, f, rest, n, K, μ, fp, v, h, hr, hi, hk, hb, hM, hf => by
    simp only [backRepP] at hb
    obtain ⟨o, os', vs', rfl, rfl, hb⟩ := hb
    cases ds with
    | nil => simp [VsRel] at hr
    | cons d q =>
      simp only [VsRel] at hr
      obtain ⟨v0, vs2, e, hd, hr⟩ := hr
      cases e
      obtain ⟨μ', fp', h1, h2, h3⟩ := backP_rel r h hr (fun id hi' => hi id (by simp [DVal.idsL, hi'])) hk hb hM hf
      exact ⟨μ', fp', by simp only [backP, VsRel, VRel]; exact ⟨_, _, rfl, rfl, h1⟩, h2, h3⟩
  | .s :: r, os, vs, ds, y, f, rest, n, K, μ, fp, v, h, hr, hi, hk, hb, hM, hf => by
    simp only [backRepP] at hb
    obtain ⟨o, os', vs', rfl, rfl, hl, hb⟩ := hb
    cases ds with
    | nil => simp [VsRel] at hr
    | cons d q =>
      simp only [VsRel] at hr
      obtain ⟨v0, vs2, e, hd, hr⟩ := hr
      cases e
      obtain ⟨μ', fp', h1, h2, h3⟩ := backP_rel r h hr (fun id hi' => hi id (by simp [DVal.idsL, hi'])) hk hb hM hf
      exact ⟨μ', fp', by simp only [backP, VsRel, VRel]; exact ⟨_, _, rfl, ⟨rfl, hl⟩, h1⟩, h2, h3⟩
  | .ro _ :: r, os, vs, ds, y, f, rest, n, K, μ, fp, v, h, hr, hi, hk, hb, hM, hf => by
    simp only [backRepP] at hb
    obtain ⟨o, os', vs', rfl, rfl, hb⟩ := hb
    cases ds with
    | nil => simp [VsRel] at hr
    | cons d q =>
      simp only [VsRel] at hr
      obtain ⟨v0, vs2, e, hd, hr⟩ := hr
      cases e
      obtain ⟨μ', fp', h1, h2, h3⟩ := backP_rel r h hr (fun id hi' => hi id (by simp [DVal.idsL, hi'])) hk hb hM hf
      refine ⟨μ', fp', ?_, h2, h3⟩
      simp only [backP, VsRel]
      exact ⟨_, _, rfl, VRel.mono d (fun id hi' => (h3 id (hk id (hi id (by simp [DVal.idsL, hi']))).1).trans (hk id (hi id (by simp [DVal.idsL, hi']))).2) hd, h1⟩
  | .own e :: r, os, vs, ds, y, f, rest, n, K, μ, fp, v, h, hr, hi, hk, hb, hM, hf => by
    simp only [backRepP] at hb
    obtain ⟨o, os', v1, vs', f1, f2, rfl, rfl, rfl, hx, hb⟩ := hb
    cases ds with
    | nil => simp [VsRel] at hr
    | cons d q =>
      simp only [VsRel] at hr
      obtain ⟨v0, vs2, e, hd, hr⟩ := hr
      cases e
      have l1 := backP_le r q y.2 (n + 1)
      replace hf : ∀ id, n ≤ id → id < (backP r q y.2 (n + 1)).2.2 → ¬ K id := hf
      obtain ⟨μ1, fp1, g1, g2, g3⟩ := Pool.addL (rest := f2 ++ rest) (by rw [← List.append_assoc]; exact h) (hf n (Nat.le_refl n) (by omega)) hx (fun b hb => hM b (by simp [hb]))
      obtain ⟨μ', fp', h1, h2, h3⟩ := backP_rel r g2 hr (fun id hi' => hi id (by simp [DVal.idsL, hi'])) (fun id hi' => ⟨.inl (hk id hi').1, (g3 id (hk id hi').1).trans (hk id hi').2⟩) hb (fun b hb => hM b (by simp [hb]))
        (fun id q1 q2 q3 => q3.elim (hf id (by omega) q2) (by omega))
      refine ⟨μ', fp', ?_, h2.weaken fun id hi => ?_, fun id hi => (h3 id (.inl hi)).trans (g3 id hi)⟩
      · simp only [backP, VsRel]
        exact ⟨_, _, rfl, VRel.mono _ (fun id hi => by simp only [DVal.ids, List.mem_singleton] at hi; exact h3 id (.inr hi)) g1, h1⟩
      · show K id ∨ n ≤ id ∧ id < (backP r q y.2 (n + 1)).2.2
        rcases hi with (hi | hi) | hi
        · exact .inl hi
        · right; omega
        · right; omega
  | .mut e :: r, os, vs, ds, y, f, rest, n, K, μ, fp, v, h, hr, hi, hk, hb, hM, hf => by
    simp only [backRepP] at hb
    obtain ⟨o, os', v1, vs', f1, f2, rfl, rfl, rfl, hx, hb⟩ := hb
    cases ds with
    | nil => simp [VsRel] at hr
    | cons d q =>
      simp only [VsRel] at hr
      obtain ⟨v0, vs2, e, hd, hr⟩ := hr
      cases e
      have l1 := backP_le r q y.2 (n + 1)
      replace hf : ∀ id, n ≤ id → id < (backP r q y.2 (n + 1)).2.2 → ¬ K id := hf
      obtain ⟨μ1, fp1, g1, g2, g3⟩ := Pool.addL (rest := f2 ++ rest) (by rw [← List.append_assoc]; exact h) (hf n (Nat.le_refl n) (by omega)) hx (fun b hb => hM b (by simp [hb]))
      obtain ⟨μ', fp', h1, h2, h3⟩ := backP_rel r g2 hr (fun id hi' => hi id (by simp [DVal.idsL, hi'])) (fun id hi' => ⟨.inl (hk id hi').1, (g3 id (hk id hi').1).trans (hk id hi').2⟩) hb (fun b hb => hM b (by simp [hb]))
        (fun id q1 q2 q3 => q3.elim (hf id (by omega) q2) (by omega))
      refine ⟨μ', fp', ?_, h2.weaken fun id hi => ?_, fun id hi => (h3 id (.inl hi)).trans (g3 id hi)⟩
      · simp only [backP, VsRel]
        exact ⟨_, _, rfl, VRel.mono _ (fun id hi => by simp only [DVal.ids, List.mem_singleton] at hi; exact h3 id (.inr hi)) g1, h1⟩
      · show K id ∨ n ≤ id ∧ id < (backP r q y.2 (n + 1)).2.2
        rcases hi with (hi | hi) | hi
        · exact .inl hi
        · right; omega
        · right; omega
end
end Go.Proofs.Ytjcinikojcfebaa.Dm
