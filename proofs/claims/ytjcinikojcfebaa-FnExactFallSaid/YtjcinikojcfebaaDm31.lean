/- The data machine, part 31: arguments as memory holds them; variables made of them. -/
import Derived.Test.YtjcinikojcfebaaDm30
namespace Go.Proofs.Ytjcinikojcfebaa.Dm
open Go

/-- Cells that hold data: 'f' are the blocks of what is given away. -/
def cmRep (S : Nat → Prop) (w : World) : (l : List Cm) → List Value → cmD l → List Nat → Prop
  | [], vs, _, f => vs = [] ∧ f = []
  | .b :: r, vs, x, f => ∃ vs', vs = .bool x.1 :: vs' ∧ cmRep S w r vs' x.2 f
  | .i k :: r, vs, x, f => ∃ vs', vs = .int k x.1 :: vs' ∧ cmRep S w r vs' x.2 f
  | .s :: r, vs, x, f => ∃ vs', vs = .string ⟨List.toArray x.1⟩ :: vs' ∧ List.length x.1 ≤ BIG ∧ cmRep S w r vs' x.2 f
  | .ro e :: r, vs, x, f => ∃ v vs', vs = v :: vs' ∧ (Ty.sl e).repS S w [v] x.1 ∧ cmRep S w r vs' x.2 f
  | .own e :: r, vs, x, f => ∃ v vs' f1 f2, vs = v :: vs' ∧ f = f1 ++ f2 ∧ (Ty.sl e).repO w [v] x.1 f1 ∧ cmRep S w r vs' x.2 f2
  | .mut e :: r, vs, x, f => ∃ v vs' f1 f2, vs = v :: vs' ∧ f = f1 ++ f2 ∧ (Ty.sl e).repO w [v] x.1 f1 ∧ cmRep S w r vs' x.2 f2

theorem cmRep_length {S : Nat → Prop} {w : World} : (l : List Cm) → {vs : List Value} → {x : cmD l} → {f : List Nat} → cmRep S w l vs x f → vs.length = l.length
  | [], _, _, _, h => by simp only [cmRep] at h; rw [h.1]; rfl
  | .b :: r, _, _, _, h => by simp only [cmRep] at h; obtain ⟨vs', rfl, h⟩ := h; simp [cmRep_length r h]
  | .i _ :: r, _, _, _, h => by simp only [cmRep] at h; obtain ⟨vs', rfl, h⟩ := h; simp [cmRep_length r h]
  | .s :: r, _, _, _, h => by simp only [cmRep] at h; obtain ⟨vs', rfl, _, h⟩ := h; simp [cmRep_length r h]
  | .ro e :: r, _, _, _, h => by simp only [cmRep] at h; obtain ⟨v, vs', rfl, _, h⟩ := h; simp [cmRep_length r h]
  | .own e :: r, _, _, _, h => by simp only [cmRep] at h; obtain ⟨v, vs', f1, f2, rfl, _, _, h⟩ := h; simp [cmRep_length r h]
  | .mut e :: r, _, _, _, h => by simp only [cmRep] at h; obtain ⟨v, vs', f1, f2, rfl, _, _, h⟩ := h; simp [cmRep_length r h]

/-- What the tokens stand for. -/
def Toks (c : Ctx) (tk : Bool) : List Cm → List Value → Nat → Prop
  | .b :: r, _ :: vs, n => Toks c tk r vs n
  | .i _ :: r, _ :: vs, n => Toks c tk r vs n
  | .s :: r, _ :: vs, n => Toks c tk r vs n
  | .ro _ :: r, v :: vs, n => (tk = true → c.tok n = v) ∧ Toks c tk r vs (n + 1)
  | .own _ :: r, _ :: vs, n => Toks c tk r vs (n + 1)
  | .mut _ :: r, _ :: vs, n => Toks c tk r vs (n + 1)
  | _, _, _ => True

theorem enterC_N (tk : Bool) : (l : List Cm) → (x : cmD l) → (n : Nat) → (enterC tk l x n).2.2 = cmN l n
  | [], _, _ => rfl
  | .b :: r, x, n => enterC_N tk r x.2 n
  | .i _ :: r, x, n => enterC_N tk r x.2 n
  | .s :: r, x, n => enterC_N tk r x.2 n
  | .ro _ :: r, x, n => enterC_N tk r x.2 (n + 1)
  | .own _ :: r, x, n => enterC_N tk r x.2 (n + 1)
  | .mut _ :: r, x, n => enterC_N tk r x.2 (n + 1)
theorem cmN_le : (l : List Cm) → (n : Nat) → n ≤ cmN l n
  | [], n => Nat.le_refl n
  | .b :: r, n => cmN_le r n
  | .i _ :: r, n => cmN_le r n
  | .s :: r, n => cmN_le r n
  | .ro _ :: r, n => Nat.le_trans (Nat.le_succ n) (cmN_le r (n + 1))
  | .own _ :: r, n => Nat.le_trans (Nat.le_succ n) (cmN_le r (n + 1))
  | .mut _ :: r, n => Nat.le_trans (Nat.le_succ n) (cmN_le r (n + 1))
theorem itN_le (it : Item) (n : Nat) : n ≤ itN it n := by
  obtain ⟨p, a, cs⟩ := it
  cases p with
  | false => exact cmN_le cs n
  | true => exact Nat.le_trans (Nat.le_succ n) (cmN_le cs (n + 1))
theorem enterI_N (tk : Bool) (it : Item) (x : cmD it.cs) (n : Nat) : (enterI tk it x n).2.2 = itN it n := by
  obtain ⟨p, a, cs⟩ := it
  cases p with
  | false => exact enterC_N tk cs x n
  | true => exact enterC_N tk cs x (n + 1)
def itsN : List Item → Nat → Nat
  | [], n => n
  | it :: r, n => itsN r (itN it n)
theorem itsN_le : (l : List Item) → (n : Nat) → n ≤ itsN l n
  | [], n => Nat.le_refl n
  | it :: r, n => Nat.le_trans (itN_le it n) (itsN_le r _)
theorem enterIs_N (tk : Bool) : (l : List Item) → (x : itemsD l) → (n : Nat) → (enterIs tk l x n).2.2 = itsN l n
  | [], _, _ => rfl
  | it :: r, x, n => by
    show (enterIs tk r x.2 (enterI tk it x.1 n).2.2).2.2 = itsN r (itN it n)
    rw [enterIs_N tk r, enterI_N]

/-- Variables, and blocks that are to become others. -/
structure Pool (c : Ctx) (K : Nat → Prop) (μ : Nat → Loc) (fp : Nat → List Nat) (v : Env) (w : World) (rest : List Nat) : Prop where
  rel : RelV c μ fp v w
  known : ∀ id x, v id = some x → K id ∧ ∀ id' ∈ x.ids, K id'
  nodup : rest.Nodup
  far : ∀ id, v id ≠ none → ∀ b ∈ fp id, b ∉ rest
  ok : ∀ b ∈ rest, ¬ c.S b ∧ b < w.heap.size

section
variable {c : Ctx} {K K' : Nat → Prop} {μ μ' : Nat → Loc} {fp : Nat → List Nat} {v : Env} {w : World}

theorem Pool.perm {rest rest' : List Nat} (h : Pool c K μ fp v w rest) (hp : rest.Perm rest') : Pool c K μ fp v w rest' :=
  ⟨h.rel, h.known, hp.nodup_iff.1 h.nodup, fun id hv b hb hb' => h.far id hv b hb (hp.mem_iff.2 hb'), fun b hb => h.ok b (hp.mem_iff.2 hb)⟩

theorem Pool.add {f0 rest : List Nat} (h : Pool c K μ fp v w (f0 ++ rest)) {id0 : Nat} {x0 : DVar} (hμ : ∀ id, K id → μ' id = μ id) (hK : ∀ id, K id → K' id) (h0 : K' id0) (hx : ∀ id' ∈ x0.ids, K' id')
    (hrel : VarRel c μ' w id0 f0 x0) : Pool c K' μ' (fun k => if k = id0 then f0 else fp k) (updF v (news [(id0, x0)])) w rest := by
  have hna := List.nodup_append.1 h.nodup
  have hupd : ∀ k, updF v (news [(id0, x0)]) k = if k = id0 then some x0 else v k := fun k => rfl
  refine ⟨?_, ?_, hna.2.1, ?_, fun b hb => h.ok b (by simp [hb])⟩
  · exact h.rel.produce' [] id0 x0 f0 (fun id y hy _ _ => ⟨hμ id (h.known id y hy).1, fun i hi => hμ i ((h.known id y hy).2 i hi)⟩) (fun _ _ _ _ _ _ => rfl) (Nat.le_refl _) hrel hna.1
      fun b hb => ⟨(h.ok b (by simp [hb])).1, (h.ok b (by simp [hb])).2, fun id hv _ _ hb' => h.far id hv b hb' (by simp [hb])⟩
  · intro id y hy
    rw [hupd] at hy
    by_cases hi : id = id0
    · rw [if_pos hi] at hy; cases hy
      exact ⟨hi ▸ h0, hx⟩
    · rw [if_neg hi] at hy
      exact ⟨hK id (h.known id y hy).1, fun i hi' => hK i ((h.known id y hy).2 i hi')⟩
  · intro id hv b hb hb'
    rw [hupd] at hv
    by_cases hi : id = id0
    · simp only [if_pos hi] at hb
      exact hna.2.2 b hb b hb' rfl
    · rw [if_neg hi] at hv
      simp only [if_neg hi] at hb
      exact h.far id hv b hb (by simp [hb'])

/-- A list that was given. -/
theorem Pool.addL {f0 rest : List Nat} {n : Nat} {e : Ty} {xs : List e.D} {hd : Value} (h : Pool c K μ fp v w (f0 ++ rest)) (hn : ¬ K n) (hr : (Ty.sl e).repO w [hd] xs f0)
    (hM : ∀ b ∈ f0, b < c.w0.heap.size → ∀ j, c.M b j) :
    ∃ μ' fp', VRel c μ' hd (.sref n none) ∧ Pool c (fun id => K id ∨ id = n) μ' fp' (updF v (news [(n, .arr e xs)])) w rest ∧ ∀ id, K id → μ' id = μ id := by
  have hr' := hr
  simp only [Ty.repO] at hr'
  obtain ⟨a, cap, e1, hc, _⟩ := hr'
  cases e1
  have ha : ∀ id, K id → (if id = n then Loc.hdr a (List.length xs) cap e.size else μ id) = μ id := fun id hi => if_neg fun (e : id = n) => hn (e ▸ hi)
  refine ⟨fun id => if id = n then .hdr a (List.length xs) cap e.size else μ id, _, ?_, h.add (K' := fun id => K id ∨ id = n) ha (fun _ => .inl) (.inr rfl) (fun _ hi => by cases hi) ⟨a, cap, if_pos rfl, hr, hM⟩, ha⟩
  simp only [VRel]
  exact ⟨a, List.length xs, cap, e.size, by simp, rfl⟩

theorem Pool.weaken {rest : List Nat} (h : Pool c K μ fp v w rest) (hK : ∀ id, K id → K' id) : Pool c K' μ fp v w rest :=
  ⟨h.rel, fun id x hx => ⟨hK id (h.known id x hx).1, fun i hi => hK i ((h.known id x hx).2 i hi)⟩, h.nodup, h.far, h.ok⟩

theorem enterC_ids (tk : Bool) : (l : List Cm) → (x : cmD l) → (n : Nat) → ∀ id ∈ DVal.idsL (enterC tk l x n).1, n ≤ id ∧ id < cmN l n
  | [], _, _ => by intro id h; cases h
  | .b :: r, x, n => enterC_ids tk r x.2 n
  | .i _ :: r, x, n => enterC_ids tk r x.2 n
  | .s :: r, x, n => enterC_ids tk r x.2 n
  | .ro _ :: r, x, n => fun id h => by have := enterC_ids tk r x.2 (n + 1) id h; simp only [cmN]; omega
  | .own _ :: r, x, n => fun id h => by
    have h : id ∈ n :: DVal.idsL (enterC tk r x.2 (n + 1)).1 := h
    have l1 := cmN_le r (n + 1)
    simp only [cmN]
    rcases List.mem_cons.1 h with h | h
    · omega
    · have := enterC_ids tk r x.2 (n + 1) id h; omega
  | .mut _ :: r, x, n => fun id h => by
    have h : id ∈ n :: DVal.idsL (enterC tk r x.2 (n + 1)).1 := h
    have l1 := cmN_le r (n + 1)
    simp only [cmN]
    rcases List.mem_cons.1 h with h | h
    · omega
    · have := enterC_ids tk r x.2 (n + 1) id h; omega
theorem enterC_isCell (tk : Bool) : (l : List Cm) → (x : cmD l) → (n : Nat) → (enterC tk l x n).1.all DVal.isCell = true
  | [], _, _ => rfl
  | .b :: r, x, n => by simpa [enterC, DVal.isCell] using enterC_isCell tk r x.2 n
  | .i _ :: r, x, n => by simpa [enterC, DVal.isCell] using enterC_isCell tk r x.2 n
  | .s :: r, x, n => by simpa [enterC, DVal.isCell] using enterC_isCell tk r x.2 n
  | .ro _ :: r, x, n => by simpa [enterC, DVal.isCell] using enterC_isCell tk r x.2 (n + 1)
  | .own _ :: r, x, n => by simpa [enterC, DVal.isCell] using enterC_isCell tk r x.2 (n + 1)
  | .mut _ :: r, x, n => by simpa [enterC, DVal.isCell] using enterC_isCell tk r x.2 (n + 1)
theorem enterC_len (tk : Bool) : (l : List Cm) → (x : cmD l) → (n : Nat) → (enterC tk l x n).1.length = l.length
  | [], _, _ => rfl
  | .b :: r, x, n => by simpa [enterC] using enterC_len tk r x.2 n
  | .i _ :: r, x, n => by simpa [enterC] using enterC_len tk r x.2 n
  | .s :: r, x, n => by simpa [enterC] using enterC_len tk r x.2 n
  | .ro _ :: r, x, n => by simpa [enterC] using enterC_len tk r x.2 (n + 1)
  | .own _ :: r, x, n => by simpa [enterC] using enterC_len tk r x.2 (n + 1)
  | .mut _ :: r, x, n => by simpa [enterC] using enterC_len tk r x.2 (n + 1)

/-- The state behind some new variables. -/
def Entered (c : Ctx) (K : Nat → Prop) (μ : Nat → Loc) (v : Env) (w : World) (rest : List Nat) (n n' : Nat) (ns : List (Nat × DVar)) (R : (Nat → Loc) → Prop) : Prop :=
  ∃ μ' fp', R μ' ∧ Pool c (fun id => K id ∨ (n ≤ id ∧ id < n')) μ' fp' (updF v (news ns)) w rest ∧ ∀ id, K id → μ' id = μ id

theorem enterC_rel {S : Nat → Prop} (tk : Bool) (hS : ∀ b, S b → c.S b ∧ c.w0.heap[b]? = w.heap[b]?) : (l : List Cm) → ∀ {vs : List Value} {x : cmD l} {f rest : List Nat} {n : Nat} {K : Nat → Prop} {μ : Nat → Loc} {fp : Nat → List Nat} {v : Env},
    Pool c K μ fp v w (f ++ rest) → cmRep S w l vs x f → Toks c tk l vs n → (∀ b ∈ f, b < c.w0.heap.size → ∀ j, c.M b j) → (∀ id, n ≤ id → id < cmN l n → ¬ K id) →
    Entered c K μ v w rest n (cmN l n) (enterC tk l x n).2.1 fun μ' => VsRel c μ' vs (enterC tk l x n).1
  | [], vs, x, f, rest, n, K, μ, fp, v, h, hr, _, _, _ => by
    simp only [cmRep] at hr
    obtain ⟨rfl, rfl⟩ := hr
    exact ⟨μ, fp, by simp [enterC, VsRel], h.weaken fun _ => .inl, fun _ _ => rfl⟩
  | .b :: r, vs, x, f, rest, n, K, μ, fp, v, h, hr, ht, hM, hk => by
    simp only [cmRep] at hr
    obtain ⟨vs', rfl, hr⟩ := hr
    obtain ⟨μ', fp', h1, h2, h3⟩ := enterC_rel tk hS r h hr ht hM hk
    exact ⟨μ', fp', by simp only [enterC, VsRel, VRel]; exact ⟨_, _, rfl, rfl, h1⟩, h2, h3⟩
  | .i k :: r, vs, x, f, rest, n, K, μ, fp, v, h, hr, ht, hM, hk => by
    simp only [cmRep] at hr
    obtain ⟨vs', rfl, hr⟩ := hr
    obtain ⟨μ', fp', h1, h2, h3⟩ := enterC_rel tk hS r h hr ht hM hk
    exact ⟨μ', fp', by simp only [enterC, VsRel, VRel]; exact ⟨_, _, rfl, rfl, h1⟩, h2, h3⟩
  | .s :: r, vs, x, f, rest, n, K, μ, fp, v, h, hr, ht, hM, hk => by
    simp only [cmRep] at hr
    obtain ⟨vs', rfl, hl, hr⟩ := hr
    obtain ⟨μ', fp', h1, h2, h3⟩ := enterC_rel tk hS r h hr ht hM hk
    exact ⟨μ', fp', by simp only [enterC, VsRel, VRel]; exact ⟨_, _, rfl, ⟨rfl, hl⟩, h1⟩, h2, h3⟩
  | .ro e :: r, vs, x, f, rest, n, K, μ, fp, v, h, hr, ht, hM, hk => by
    simp only [cmRep] at hr
    obtain ⟨v0, vs', rfl, hx, hr⟩ := hr
    simp only [Toks] at ht
    have l1 := cmN_le r (n + 1)
    obtain ⟨μ', fp', h1, h2, h3⟩ := enterC_rel tk hS r h hr ht.2 hM (fun id g1 g2 => hk id (by omega) g2)
    refine ⟨μ', fp', ?_, h2.weaken fun id hi => hi.imp (fun h => h) fun g => ⟨by omega, g.2⟩, h3⟩
    simp only [enterC, VsRel, VRel]
    refine ⟨_, _, rfl, ⟨Ty.repS_congr (fun b hb => hS b hb) _ hx, fun k hk => ?_⟩, h1⟩
    cases tk with
    | false => cases hk
    | true => cases hk; exact (ht.1 rfl).symm
  | .own e :: r, vs, x, f, rest, n, K, μ, fp, v, h, hr, ht, hM, hk => by
    simp only [cmRep] at hr
    obtain ⟨v0, vs', f1, f2, rfl, rfl, hx, hr⟩ := hr
    have l1 := cmN_le r (n + 1)
    simp only [cmN] at hk
    obtain ⟨μ1, fp1, g1, g2, g3⟩ := Pool.addL (rest := f2 ++ rest) (by rw [← List.append_assoc]; exact h) (hk n (Nat.le_refl n) (by omega)) hx (fun b hb => hM b (by simp [hb]))
    obtain ⟨μ', fp', h1, h2, h3⟩ := enterC_rel tk hS r g2 hr ht (fun b hb => hM b (by simp [hb])) (fun id q1 q2 q3 => q3.elim (hk id (by omega) q2) (by omega))
    refine ⟨μ', fp', ?_, h2.weaken fun id hi => ?_, fun id hi => (h3 id (.inl hi)).trans (g3 id hi)⟩
    · simp only [enterC, VsRel]
      exact ⟨_, _, rfl, VRel.mono _ (fun id hi => by simp only [DVal.ids, List.mem_singleton] at hi; exact h3 id (.inr hi)) g1, h1⟩
    · simp only [cmN]
      rcases hi with (hi | hi) | hi
      · exact .inl hi
      · right; omega
      · right; omega
  | .mut e :: r, vs, x, f, rest, n, K, μ, fp, v, h, hr, ht, hM, hk => by
    simp only [cmRep] at hr
    obtain ⟨v0, vs', f1, f2, rfl, rfl, hx, hr⟩ := hr
    have l1 := cmN_le r (n + 1)
    simp only [cmN] at hk
    obtain ⟨μ1, fp1, g1, g2, g3⟩ := Pool.addL (rest := f2 ++ rest) (by rw [← List.append_assoc]; exact h) (hk n (Nat.le_refl n) (by omega)) hx (fun b hb => hM b (by simp [hb]))
    obtain ⟨μ', fp', h1, h2, h3⟩ := enterC_rel tk hS r g2 hr ht (fun b hb => hM b (by simp [hb])) (fun id q1 q2 q3 => q3.elim (hk id (by omega) q2) (by omega))
    refine ⟨μ', fp', ?_, h2.weaken fun id hi => ?_, fun id hi => (h3 id (.inl hi)).trans (g3 id hi)⟩
    · simp only [enterC, VsRel]
      exact ⟨_, _, rfl, VRel.mono _ (fun id hi => by simp only [DVal.ids, List.mem_singleton] at hi; exact h3 id (.inr hi)) g1, h1⟩
    · simp only [cmN]
      rcases hi with (hi | hi) | hi
      · exact .inl hi
      · right; omega
      · right; omega
end

/-! ## Items -/
theorem perm_items (f1 f2 g1 g2 : List Nat) : (f1 ++ f2 ++ (g1 ++ g2)).Perm ((f1 ++ g1) ++ (f2 ++ g2)) := by
  simp only [List.append_assoc]
  refine List.Perm.append_left f1 ?_
  rw [← List.append_assoc, ← List.append_assoc]
  exact List.Perm.append_right _ List.perm_append_comm

/-- An item as memory holds it: the blocks given away, the places of the variables. -/
def ItemRep (S : Nat → Prop) (w : World) : (it : Item) → Value → cmD it.cs → List Nat → List (Nat × Nat × Nat) → Prop
  | ⟨false, a, cs⟩, v, x, f, g => g = [] ∧ cmRep S w cs v.cells.toList x f ∧ (a = true → ∃ us, v = .agg us) ∧ (a = false → v.oneCell' = true)
  | ⟨true, _, cs⟩, v, x, f, g => ∃ B o C E, g = [(B, o, cs.length)] ∧ v = .pointer (some ⟨B, o, none⟩) ∧ w.heap[B]? = some (.cells C E (0, 0)) ∧ o + cs.length ≤ C.size ∧ cmRep S w cs (cellsAt w B o cs.length) x f
def ItemsRep (S : Nat → Prop) (w : World) : (l : List Item) → List Value → itemsD l → List Nat → List (Nat × Nat × Nat) → Prop
  | [], vs, _, f, g => vs = [] ∧ f = [] ∧ g = []
  | it :: r, vs, x, f, g => ∃ v vs' f1 f2 g1 g2, vs = v :: vs' ∧ f = f1 ++ f2 ∧ g = g1 ++ g2 ∧ ItemRep S w it v x.1 f1 g1 ∧ ItemsRep S w r vs' x.2 f2 g2

theorem ItemsRep.length {S : Nat → Prop} {w : World} : (l : List Item) → {vs : List Value} → {x : itemsD l} → {f : List Nat} → {g : List (Nat × Nat × Nat)} → ItemsRep S w l vs x f g → vs.length = l.length
  | [], _, _, _, _, h => by simp only [ItemsRep] at h; rw [h.1]; rfl
  | it :: r, _, _, _, _, h => by simp only [ItemsRep] at h; obtain ⟨v, vs', f1, f2, g1, g2, rfl, _, _, _, h⟩ := h; simp [ItemsRep.length r h]

def ToksI (c : Ctx) (tk : Bool) (w : World) : Item → Value → Nat → Prop
  | ⟨false, _, cs⟩, v, n => Toks c tk cs v.cells.toList n
  | ⟨true, _, cs⟩, v, n => ∀ B o, v = .pointer (some ⟨B, o, none⟩) → Toks c tk cs (cellsAt w B o cs.length) (n + 1)
def ToksIs (c : Ctx) (tk : Bool) (w : World) : List Item → List Value → Nat → Prop
  | it :: r, v :: vs, n => ToksI c tk w it v n ∧ ToksIs c tk w r vs (itN it n)
  | _, _, _ => True

section
variable {c : Ctx} {K K' : Nat → Prop} {μ μ' : Nat → Loc} {fp : Nat → List Nat} {v : Env} {w : World}

theorem headV_rel {a : Bool} {d : Value} {ds : List DVal} (h : VsRel c μ d.cells.toList ds) (h1 : a = true → ∃ us, d = .agg us) (h2 : a = false → d.oneCell' = true) : VRel c μ d (headV a ds) := by
  cases a with
  | true =>
    obtain ⟨us, rfl⟩ := h1 rfl
    simp only [headV, if_true, VRel]
    exact ⟨us, rfl, h⟩
  | false =>
    rw [cells_of_oneCell (h2 rfl)] at h
    simp only [headV]
    cases ds with
    | nil => simp [VsRel] at h
    | cons y ds =>
      simp only [VsRel] at h
      obtain ⟨v', vs', e, h, _⟩ := h
      cases e
      exact h

theorem enterI_rel {S : Nat → Prop} (tk : Bool) (hS : ∀ b, S b → c.S b ∧ c.w0.heap[b]? = w.heap[b]?) : (it : Item) → ∀ {d : Value} {x : cmD it.cs} {f rest : List Nat} {g : List (Nat × Nat × Nat)} {n : Nat} {K : Nat → Prop} {μ : Nat → Loc} {fp : Nat → List Nat} {v : Env},
    Pool c K μ fp v w (f ++ g.map (·.1) ++ rest) → ItemRep S w it d x f g → ToksI c tk w it d n → (∀ b ∈ f, b < c.w0.heap.size → ∀ j, c.M b j) →
    (∀ B o m, (B, o, m) ∈ g → B < c.w0.heap.size → ∀ j, j < m → c.M B (o + j)) → (∀ id, n ≤ id → id < itN it n → ¬ K id) →
    Entered c K μ v w rest n (itN it n) (enterI tk it x n).2.1 fun μ' => VRel c μ' d (enterI tk it x n).1
  | ⟨false, a, cs⟩, d, x, f, rest, g, n, K, μ, fp, v, h, hr, ht, hM, _, hk => by
    simp only [ItemRep] at hr
    obtain ⟨rfl, hr, h1, h2⟩ := hr
    obtain ⟨μ', fp', g1, g2, g3⟩ := enterC_rel tk hS cs (by simpa using h) hr ht hM hk
    exact ⟨μ', fp', headV_rel g1 h1 h2, g2, g3⟩
  | ⟨true, a, cs⟩, d, x, f, rest, g, n, K, μ, fp, v, h, hr, ht, hM, hG, hk => by
    simp only [ItemRep] at hr
    obtain ⟨B, o, C, E, rfl, rfl, hb, hC, hr⟩ := hr
    have hk : ∀ id, n ≤ id → id < cmN cs (n + 1) → ¬ K id := hk
    have l1 := cmN_le cs (n + 1)
    obtain ⟨μ1, fp1, g1, g2, g3⟩ := enterC_rel tk hS cs (rest := [B] ++ rest) (by simpa using h) hr (ht B o rfl) hM (fun id q1 q2 => hk id (by omega) q2)
    have hn : ¬ (K n ∨ n + 1 ≤ n ∧ n < cmN cs (n + 1)) := fun hi => hi.elim (hk n (Nat.le_refl n) (by omega)) (by omega)
    have ha : ∀ id, (K id ∨ n + 1 ≤ id ∧ id < cmN cs (n + 1)) → (if id = n then Loc.at B o else μ1 id) = μ1 id := fun id hi => if_neg fun (e : id = n) => hn (e ▸ hi)
    have hl : (enterC tk cs x (n + 1)).1.length = cs.length := enterC_len tk cs x (n + 1)
    have hids := enterC_ids tk cs x (n + 1)
    have hvar : VarRel c (fun id => if id = n then Loc.at B o else μ1 id) w n [B] (.var (enterC tk cs x (n + 1)).1) := by
      refine ⟨B, o, C, E, if_pos rfl, rfl, hb, by rw [hl]; exact hC, ?_, enterC_isCell tk cs x (n + 1), fun hlt j hj => hG B o cs.length (by simp) hlt j (by rwa [hl] at hj)⟩
      rw [hl]
      exact VsRel.mono _ (fun id hi => ha id (.inr (hids id hi))) g1
    refine ⟨fun id => if id = n then Loc.at B o else μ1 id, fun k => if k = n then [B] else fp1 k, ?_, ?_, ?_⟩
    · show VRel c _ _ (.vptr n 0)
      simp only [VRel]
      exact ⟨B, o, by simp, rfl⟩
    · show Pool c _ _ _ (updF v (news ((enterC tk cs x (n + 1)).2.1 ++ [(n, .var (enterC tk cs x (n + 1)).1)]))) w rest
      rw [news_append, updF_append]
      refine g2.add (μ' := fun id => if id = n then Loc.at B o else μ1 id) ha (fun id hi => ?_) (.inr ⟨Nat.le_refl n, show n < cmN cs (n + 1) by omega⟩) (fun id hi => ?_) hvar
      · exact hi.imp (fun h => h) fun q => ⟨by omega, q.2⟩
      · have := hids id hi
        exact .inr ⟨by omega, this.2⟩
    · exact fun id hi => (ha id (.inl hi)).trans (g3 id hi)

theorem enterI_ids (tk : Bool) : (it : Item) → (x : cmD it.cs) → (n : Nat) → ∀ id ∈ (enterI tk it x n).1.ids, n ≤ id ∧ id < itN it n
  | ⟨false, a, cs⟩, x, n => by
    intro id h
    refine enterC_ids tk cs x n id ?_
    cases a with
    | true => exact h
    | false =>
      have h : id ∈ ((enterC tk cs x n).1.headD .dead).ids := h
      cases hy : (enterC tk cs x n).1 with
      | nil => rw [hy] at h; cases h
      | cons y l => rw [hy] at h; simp only [List.headD_cons] at h; simp [DVal.idsL, h]
  | ⟨true, a, cs⟩, x, n => by
    intro id h
    have h : id ∈ [n] := h
    simp only [List.mem_singleton] at h
    have l1 := cmN_le cs (n + 1)
    show n ≤ id ∧ id < cmN cs (n + 1)
    omega

theorem enterIs_rel {S : Nat → Prop} (tk : Bool) (hS : ∀ b, S b → c.S b ∧ c.w0.heap[b]? = w.heap[b]?) : (l : List Item) → ∀ {vs : List Value} {x : itemsD l} {f rest : List Nat} {g : List (Nat × Nat × Nat)} {n : Nat} {K : Nat → Prop} {μ : Nat → Loc} {fp : Nat → List Nat} {v : Env},
    Pool c K μ fp v w (f ++ g.map (·.1) ++ rest) → ItemsRep S w l vs x f g → ToksIs c tk w l vs n → (∀ b ∈ f, b < c.w0.heap.size → ∀ j, c.M b j) →
    (∀ B o m, (B, o, m) ∈ g → B < c.w0.heap.size → ∀ j, j < m → c.M B (o + j)) → (∀ id, n ≤ id → id < itsN l n → ¬ K id) →
    Entered c K μ v w rest n (itsN l n) (enterIs tk l x n).2.1 fun μ' => VsRel c μ' vs (enterIs tk l x n).1
  | [], vs, x, f, rest, g, n, K, μ, fp, v, h, hr, _, _, _, _ => by
    simp only [ItemsRep] at hr
    obtain ⟨rfl, rfl, rfl⟩ := hr
    exact ⟨μ, fp, by simp [enterIs, VsRel], Pool.weaken (show Pool c K μ fp v w rest by simpa using h) fun _ => .inl, fun _ _ => rfl⟩
  | it :: r, vs, x, f, rest, g, n, K, μ, fp, v, h, hr, ht, hM, hG, hk => by
    simp only [ItemsRep] at hr
    obtain ⟨d, vs', f1, f2, g1, g2, rfl, rfl, rfl, h1, hr⟩ := hr
    simp only [ToksIs] at ht
    have hk : ∀ id, n ≤ id → id < itsN r (itN it n) → ¬ K id := hk
    have l1 := itN_le it n
    have l2 := itsN_le r (itN it n)
    have hp : (f1 ++ f2 ++ (g1 ++ g2).map (·.1) ++ rest).Perm (f1 ++ g1.map (·.1) ++ (f2 ++ g2.map (·.1) ++ rest)) := by
      rw [List.map_append]
      refine (List.Perm.append_right rest (perm_items f1 f2 _ _)).trans ?_
      rw [List.append_assoc]
    obtain ⟨μ1, fp1, q1, q2, q3⟩ := enterI_rel tk hS it (h.perm hp) h1 ht.1 (fun b hb => hM b (by simp [hb])) (fun B o m hb => hG B o m (by simp [hb])) (fun id e1 e2 => hk id e1 (by omega))
    obtain ⟨μ', fp', p1, p2, p3⟩ := enterIs_rel tk hS r q2 hr ht.2 (fun b hb => hM b (by simp [hb])) (fun B o m hb => hG B o m (by simp [hb])) (fun id e1 e2 e3 => e3.elim (hk id (by omega) e2) (by omega))
    refine ⟨μ', fp', ?_, ?_, fun id hi => (p3 id (.inl hi)).trans (q3 id hi)⟩
    · simp only [enterIs, VsRel]
      refine ⟨_, _, rfl, VRel.mono _ (fun id hi => p3 id (.inr (enterI_ids tk it x.1 n id hi))) q1, ?_⟩
      rw [enterI_N]; exact p1
    · simp only [enterIs, news_append, updF_append]
      rw [enterI_N]
      refine p2.weaken fun id hi => ?_
      simp only [itsN]
      rcases hi with (hi | hi) | hi
      · exact .inl hi
      · right; omega
      · right; omega
end
end Go.Proofs.Ytjcinikojcfebaa.Dm
