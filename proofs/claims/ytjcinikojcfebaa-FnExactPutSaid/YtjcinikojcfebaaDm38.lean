/- The data machine, part 38: a law's arguments, as the statements read them; what a law's contract gives. -/
import Derived.Test.YtjcinikojcfebaaDm37
import Derived.WalkKit
import Derived.ProofKit
import Derived.OpenShut
import Derived.JoinedCond
import Derived.Carry
namespace Go.Proofs.Ytjcinikojcfebaa.Dm
open Go Go.ChangeShapes Go.WideShapes Go.ChangeAt Go.RowKit

section
variable {H : Type} {enc : TypeId × Value → H} {P : Program} {w : World} {base : Nat} {sp : Nat → Bool} {held : Bool}

theorem cell?_cellsAt {b o : Nat} : ∀ (n : Nat) {cs : List Value}, cs.length = n → (∀ i, i < n → w.cell? ⟨b, o + i, none⟩ = cs[i]?) → 0 < n → cellsAt w b o n = cs := by
  intro n cs hl h hn
  have h0 := h 0 hn
  unfold World.cell? at h0
  cases hb : w.heap[b]? with
  | none => simp only [hb] at h0; rw [List.getElem?_eq_getElem (by omega)] at h0; cases h0
  | some ob =>
    cases ob with
    | map _ _ => simp only [hb] at h0; rw [List.getElem?_eq_getElem (by omega)] at h0; cases h0
    | cells C E fr =>
      simp only [cellsAt, hb]
      apply List.ext_getElem?
      intro i
      by_cases hi : i < n
      · have hi' := h i hi
        unfold World.cell? at hi'
        simp only [hb] at hi'
        rw [List.getElem?_take_of_lt hi, List.getElem?_drop, Array.getElem?_toList, ← hi']
        rfl
      · rw [List.getElem?_eq_none (by simp; omega), List.getElem?_eq_none (by omega)]
    | _ => simp only [hb] at h0; rw [List.getElem?_eq_getElem (by omega)] at h0; cases h0

theorem cells?_cellsAt {a : Addr} {n : Nat} {cs : List Value} (h : w.cells? base a n = some cs) (hn : 0 < n) : a.spot = none ∧ a.block < w.heap.size ∧ cellsAt w a.block a.off n = cs := by
  obtain ⟨_, hl, hc⟩ := World.cells?_some h
  have h0 := hc 0 hn
  have hsome : ∃ v, w.cell? a = some v := by
    rw [show a.add 0 = a from by simp [Addr.add]] at h0
    exact ⟨cs[0]'(by omega), by rw [h0, List.getElem?_eq_getElem]⟩
  obtain ⟨v, hv⟩ := hsome
  have hsp : a.spot = none := by
    unfold World.cell? at hv
    cases hs : a.spot with
    | none => rfl
    | some s =>
      rw [hs] at hv
      split at hv <;> simp_all
  have hbl : a.block < w.heap.size := by
    unfold World.cell? at hv
    cases hb : w.heap[a.block]? with
    | none => rw [hb] at hv; cases hv
    | some ob => exact (Array.getElem?_eq_some_iff.1 hb).1
  refine ⟨hsp, hbl, cell?_cellsAt n hl (fun i hi => ?_) hn⟩
  rw [← hc i hi]
  congr 1
  obtain ⟨b, o, s⟩ := a
  simp only at hsp
  subst hsp
  simp only [Addr.add]
  split
  · rename_i e; subst e; rfl
  · rfl

theorem Ty.Ok.cellsOf {t : Ty} {tid : TypeId} (h : t.Ok P tid) : P.cellsOf tid = t.size := by
  obtain ⟨i, z, h1, h2, _⟩ := h.base
  simp [Program.cellsOf, h1, h2]

theorem choose_list {α : Type} {n : Nat} {p : Nat → α → Prop} (h : ∀ i, i < n → ∃ x, p i x) : ∃ xs : List α, xs.length = n ∧ ∀ i x, xs[i]? = some x → p i x := by
  induction n with
  | zero => exact ⟨[], rfl, by simp⟩
  | succ n ih =>
    obtain ⟨xs, h1, h2⟩ := ih fun i hi => h i (by omega)
    obtain ⟨y, hy⟩ := h n (by omega)
    refine ⟨xs ++ [y], by simp [h1], fun i x hx => ?_⟩
    rcases Nat.lt_or_ge i xs.length with hi | hi
    · rw [List.getElem?_append_left hi] at hx; exact h2 i x hx
    · rw [List.getElem?_append_right hi] at hx
      cases hk : i - xs.length with
      | zero => rw [hk] at hx; simp at hx; subst hx; rwa [show i = n by omega]
      | succ k => rw [hk] at hx; simp at hx

mutual
theorem Ty.trod : (t : Ty) → {tid : TypeId} → {fuel : Nat} → {cs : List Value} → {y : DataW H × List MemPlace} → t.Ok P tid → DataW.trod enc P w base sp held fuel tid cs = some y → ∃ x, t.repS (fun b => b < w.heap.size) w cs x
  | .bool, tid, fuel, cs, y, hok, h => by
    simp only [Ty.Ok] at hok
    obtain ⟨b, rfl, _⟩ := DataW.trod_bool hok.2 h
    exact ⟨b, by simp [Ty.repS]⟩
  | .int k, tid, fuel, cs, y, hok, h => by
    simp only [Ty.Ok] at hok
    obtain ⟨n, rfl, _⟩ := DataW.trod_int hok.2 h
    exact ⟨n, by simp [Ty.repS]⟩
  | .str, tid, fuel, cs, y, hok, h => by
    simp only [Ty.Ok] at hok
    obtain ⟨s, rfl, _, hs⟩ := DataW.trod_string hok.2 h
    refine ⟨s.data.toList, ?_⟩
    simp only [Ty.repS]
    refine ⟨trivial, ?_⟩
    have hmax : maxLen = BIG := by unfold maxLen; decide
    exact hmax ▸ hs
  | .sl e, tid, fuel, cs, y, hok, h => by
    simp only [Ty.Ok] at hok
    obtain ⟨_, eid, hu, hoke⟩ := hok
    rcases DataW.trod_slice hu h with ⟨rfl, _⟩ | ⟨a, len, cap, elems, rest, n, _, rfl, _, _, hl, hm, hel, hi, _⟩
    · exact ⟨[], repS_nil _ w e none⟩
    have hmax : maxLen = BIG := by unfold maxLen; decide
    rw [hoke.cellsOf] at hi
    have hpos := hoke.pos
    have hex : ∀ i, i < len → ∃ x : e.D, a.block < w.heap.size ∧ (a.add (i * e.size)).spot = none ∧ e.repS (fun b => b < w.heap.size) w (cellsAt w (a.add (i * e.size)).block (a.add (i * e.size)).off e.size) x := by
      intro i hlt
      have h1 := hi i hlt
      rw [List.getElem?_eq_getElem (by omega)] at h1
      obtain ⟨cs', hc, h2⟩ := Option.bind_eq_some_iff.1 h1
      obtain ⟨q1, q2, q3⟩ := cells?_cellsAt hc hpos
      obtain ⟨x, hx⟩ := Ty.trod e hoke h2
      refine ⟨x, ?_, q1, by rw [q3]; exact hx⟩
      have : (a.add (i * e.size)).block = a.block := by unfold Addr.add; split <;> rfl
      rw [← this]; exact q2
    obtain ⟨xs, hxl, hxs⟩ := choose_list hex
    refine ⟨xs, ?_⟩
    simp only [Ty.repS]
    refine ⟨some a, cap, by rw [← hxl], ⟨by rw [hxl]; exact hl, by rw [hxl, ← hmax]; omega⟩, ?_⟩
    by_cases h0 : xs = []
    · exact .inl h0
    right
    have hp : 0 < xs.length := List.length_pos_iff.2 h0
    have hz := hxs 0 xs[0] (List.getElem?_eq_getElem hp)
    have hsp : a.spot = none := by simpa [Addr.add] using hz.2.1
    refine ⟨a.block, a.off, by obtain ⟨b, o, s⟩ := a; simp only at hsp; subst hsp; rfl, hz.1, fun i y hy => ?_⟩
    have := (hxs i y hy).2.2
    obtain ⟨b, o, s⟩ := a
    simp only at hsp
    subst hsp
    unfold Addr.add at this
    split at this
    · rename_i e0; rw [e0]; exact this
    · exact this
  | .st fs, tid, fuel, cs, y, hok, h => by
    simp only [Ty.Ok] at hok
    obtain ⟨hbase, fields, hu, hf⟩ := hok
    obtain ⟨xs, n, _, _, hl, hxl, hi⟩ := DataW.trod_struct hu h
    have hcs : P.cellsOf tid = (Ty.st fs).size := by
      obtain ⟨i, z, h1, h2, _⟩ := hbase
      simp [Program.cellsOf, h1, h2]
    have := Tys.trod (n := n) (off := 0) (cs := cs) fs hf (by rw [hl, hcs]; simp [Ty.size]) (fun i f hfi => by
      have hfi' : fields[i]? = some f := by simpa using hfi
      rw [hi i f hfi', List.getElem?_eq_getElem (by have := (Array.getElem?_eq_some_iff.1 hfi').1; omega)]
      exact ⟨_, rfl⟩)
    obtain ⟨x, hx⟩ := this
    refine ⟨x, ?_⟩
    simp only [Ty.repS]
    simpa using hx
theorem Tys.trod {n : Nat} : (ts : Tys) → {fs : List Field} → {off : Nat} → {cs : List Value} → ts.OkF P fs off → cs.length = off + ts.size →
    (∀ (i : Nat) (f : Field), fs[i]? = some f → ∃ z, DataW.trod enc P w base sp held n f.type ((cs.drop f.offset).take (P.cellsOf f.type)) = some z) → ∃ x, ts.repS (fun b => b < w.heap.size) w (cs.drop off) x
  | .nil, fs, off, cs, hok, hl, h => by
    refine ⟨(), ?_⟩
    simp only [Tys.repS]
    simp only [Tys.size] at hl
    exact List.drop_of_length_le (by omega)
  | .cons t ts, fs, off, cs, hok, hl, h => by
    simp only [Tys.OkF] at hok
    obtain ⟨f, r, rfl, rfl, h1, h2⟩ := hok
    obtain ⟨z, hz⟩ := h 0 f rfl
    rw [h1.cellsOf] at hz
    obtain ⟨x1, hx1⟩ := Ty.trod t h1 hz
    simp only [Tys.size] at hl
    obtain ⟨x2, hx2⟩ := Tys.trod (n := n) ts h2 (by omega) (fun i g hg => h (i + 1) g (by simpa using hg))
    refine ⟨(x1, x2), ?_⟩
    simp only [Tys.repS]
    refine ⟨_, _, ?_, hx1, hx2⟩
    rw [← List.drop_drop, List.take_append_drop]
end
end

/-! ## Arguments that are only read -/
mutual
def Ty.flatCm : Ty → List Cm
  | .bool => [.b]
  | .int k => [.i k]
  | .str => [.s]
  | .sl e => [.ro e]
  | .st fs => fs.flatCm
def Tys.flatCm : Tys → List Cm
  | .nil => []
  | .cons t ts => t.flatCm ++ ts.flatCm
end
def Ty.item (t : Ty) : Item := ⟨false, t.isSt, t.flatCm⟩

theorem cmRep_append {S : Nat → Prop} {w : World} {l' : List Cm} {vs' : List Value} {x' : cmD l'} {f' : List Nat} (h' : cmRep S w l' vs' x' f') : (l : List Cm) → {vs : List Value} → {x : cmD l} → {f : List Nat} → cmRep S w l vs x f → ∃ z, cmRep S w (l ++ l') (vs ++ vs') z (f ++ f')
  | [], _, _, _, h => by simp only [cmRep] at h; obtain ⟨rfl, rfl⟩ := h; exact ⟨x', h'⟩
  | .b :: r, _, x, _, h => by
    simp only [cmRep] at h
    obtain ⟨vs', rfl, h⟩ := h
    obtain ⟨z, hz⟩ := cmRep_append h' r h
    exact ⟨(x.1, z), by simp only [List.cons_append, cmRep]; exact ⟨_, rfl, hz⟩⟩
  | .i _ :: r, _, x, _, h => by
    simp only [cmRep] at h
    obtain ⟨vs', rfl, h⟩ := h
    obtain ⟨z, hz⟩ := cmRep_append h' r h
    exact ⟨(x.1, z), by simp only [List.cons_append, cmRep]; exact ⟨_, rfl, hz⟩⟩
  | .s :: r, _, x, _, h => by
    simp only [cmRep] at h
    obtain ⟨vs', rfl, hl, h⟩ := h
    obtain ⟨z, hz⟩ := cmRep_append h' r h
    exact ⟨(x.1, z), by simp only [List.cons_append, cmRep]; exact ⟨_, rfl, hl, hz⟩⟩
  | .ro e :: r, _, x, _, h => by
    simp only [cmRep] at h
    obtain ⟨v, vs', rfl, h1, h⟩ := h
    obtain ⟨z, hz⟩ := cmRep_append h' r h
    exact ⟨(x.1, z), by simp only [List.cons_append, cmRep]; exact ⟨_, _, rfl, h1, hz⟩⟩
  | .own e :: r, _, x, _, h => by
    simp only [cmRep] at h
    obtain ⟨v, vs', f1, f2, rfl, rfl, h1, h⟩ := h
    obtain ⟨z, hz⟩ := cmRep_append h' r h
    exact ⟨(x.1, z), by simp only [List.cons_append, cmRep]; exact ⟨_, _, f1, _, rfl, by simp, h1, hz⟩⟩
  | .mut e :: r, _, x, _, h => by
    simp only [cmRep] at h
    obtain ⟨v, vs', f1, f2, rfl, rfl, h1, h⟩ := h
    obtain ⟨z, hz⟩ := cmRep_append h' r h
    exact ⟨(x.1, z), by simp only [List.cons_append, cmRep]; exact ⟨_, _, f1, _, rfl, by simp, h1, hz⟩⟩

mutual
theorem Ty.flat_rep' {S : Nat → Prop} {w : World} : (t : Ty) → {cs : List Value} → {x : t.D} → t.repS S w cs x → ∃ z, cmRep S w t.flatCm cs z []
  | .bool, cs, x, h => by simp only [Ty.repS] at h; subst h; exact ⟨(x, ()), by simp [Ty.flatCm, cmRep]⟩
  | .int _, cs, x, h => by simp only [Ty.repS] at h; subst h; exact ⟨(x, ()), by simp [Ty.flatCm, cmRep]⟩
  | .str, cs, x, h => by simp only [Ty.repS] at h; obtain ⟨rfl, hl⟩ := h; exact ⟨(x, ()), by simp only [Ty.flatCm, cmRep]; exact ⟨_, rfl, hl, by simp⟩⟩
  | .sl e, cs, x, h => by
    have h' := h
    simp only [Ty.repS] at h
    obtain ⟨a, cap, rfl, _⟩ := h
    exact ⟨(x, ()), by simp only [Ty.flatCm, cmRep]; exact ⟨_, _, rfl, h', by simp⟩⟩
  | .st fs, cs, x, h => Tys.flat_rep' fs (by simpa only [Ty.repS] using h)
theorem Tys.flat_rep' {S : Nat → Prop} {w : World} : (t : Tys) → {cs : List Value} → {x : t.D} → t.repS S w cs x → ∃ z, cmRep S w t.flatCm cs z []
  | .nil, cs, x, h => by simp only [Tys.repS] at h; subst h; exact ⟨(), by simp [Tys.flatCm, cmRep]⟩
  | .cons t ts, cs, x, h => by
    simp only [Tys.repS] at h
    obtain ⟨c1, c2, rfl, h1, h2⟩ := h
    obtain ⟨z1, g1⟩ := Ty.flat_rep' t h1
    obtain ⟨z2, g2⟩ := Tys.flat_rep' ts h2
    obtain ⟨z, g⟩ := cmRep_append g2 t.flatCm g1
    exact ⟨z, by simpa only [Tys.flatCm, List.append_nil] using g⟩
end

/-- What is asked of a law's parameters. -/
def ParsOk (P : Program) : List Ty → List TypeId → Prop
  | [], [] => True
  | t :: ts, i :: is => t.Ok P i ∧ ParsOk P ts is
  | _, _ => False
def parsB (P : Program) : List Ty → List TypeId → Bool
  | [], [] => true
  | t :: ts, i :: is => t.okB P i && parsB P ts is
  | _, _ => false
theorem parsB_ok {P : Program} : ∀ {ts : List Ty} {is : List TypeId}, parsB P ts is = true → ParsOk P ts is
  | [], [], _ => trivial
  | [], _ :: _, h => by cases h
  | _ :: _, [], h => by cases h
  | t :: ts, i :: is, h => by
    simp only [parsB, Bool.and_eq_true] at h
    exact ⟨Ty.okB_ok t h.1, parsB_ok h.2⟩

section
variable {H : Type} {enc : TypeId × Value → H} {P : Program} {w : World} {base : Nat} {sp : Nat → Bool} {held : Bool}

theorem okWide_one {t : Ty} {tid : TypeId} (hok : t.Ok P tid) {b0 : Nat} {v : Value} (h : Value.okWide P w .any b0 tid v) : (t.isSt = true → ∃ us, v = .agg us) ∧ (t.isSt = false → v.oneCell' = true) := by
  cases t with
  | st fs =>
    simp only [Ty.Ok] at hok
    obtain ⟨_, fields, hu, _⟩ := hok
    obtain ⟨cs, hcs, _⟩ := okWide_struct hu h
    exact ⟨fun _ => ⟨cs, hcs⟩, fun e => (by cases e)⟩
  | bool =>
    simp only [Ty.Ok] at hok
    refine ⟨fun e => (by cases e), fun _ => ?_⟩
    simp only [Value.okWide, hok.2, Cell.okWide] at h
    cases v <;> simp_all [Cell.ok, Value.oneCell']
  | int k =>
    simp only [Ty.Ok] at hok
    refine ⟨fun e => (by cases e), fun _ => ?_⟩
    simp only [Value.okWide, hok.2, Cell.okWide] at h
    cases v <;> simp_all [Cell.ok, Value.oneCell']
  | str =>
    simp only [Ty.Ok] at hok
    refine ⟨fun e => (by cases e), fun _ => ?_⟩
    obtain ⟨s, rfl⟩ := okWide_string hok.2 h
    rfl
  | sl e =>
    simp only [Ty.Ok] at hok
    obtain ⟨_, eid, hu, _⟩ := hok
    refine ⟨fun e => (by cases e), fun _ => ?_⟩
    obtain ⟨a, len, cap, rfl⟩ := okWide_slice hu h
    rfl

theorem args_rep {b0 : Nat} : ∀ {ts : List Ty} {tids : List TypeId} {vs : List Value} {ds : List (DataW H)} {p : List MemPlace}, ParsOk P ts tids →
    (∀ (j : Nat) t v, tids[j]? = some t → vs[j]? = some v → Value.okWide P w .any b0 t v) → DataW.TrodAll enc P w base sp held tids vs ds p → ∃ x, ItemsRep (fun b => b < w.heap.size) w (ts.map Ty.item) vs x [] []
  | [], [], vs, ds, p, _, _, h => by
    obtain ⟨rfl, _, _⟩ := trodAll_nil h
    exact ⟨(), (⟨rfl, rfl, rfl⟩ : ItemsRep (fun b => b < w.heap.size) w [] [] () [] [])⟩
  | [], _ :: _, _, _, _, hp, _, _ => hp.elim
  | _ :: _, [], _, _, _, hp, _, _ => hp.elim
  | t :: ts, i :: is, vs, ds, p, hp, hv, h => by
    obtain ⟨v, vs', d, ds', p1, p2, rfl, rfl, rfl, h1, h2⟩ := trodAll_cons h
    obtain ⟨fuel, h1⟩ := h1
    obtain ⟨x, hx⟩ := Ty.trod t hp.1 h1
    obtain ⟨z, hz⟩ := Ty.flat_rep' t hx
    obtain ⟨y, hy⟩ := args_rep (ts := ts) hp.2 (fun j t v ht hv' => hv (j + 1) t v (by simpa using ht) (by simpa using hv')) h2
    have := okWide_one hp.1 (hv 0 i v rfl rfl)
    have hone : ItemRep (fun b => b < w.heap.size) w ⟨false, t.isSt, t.flatCm⟩ v z [] [] := ⟨rfl, hz, this.1, this.2⟩
    have hall : ItemsRep (fun b => b < w.heap.size) w (t.item :: ts.map Ty.item) (v :: vs') (z, y) [] [] := by
      simp only [ItemsRep]
      exact ⟨v, vs', [], [], [], [], rfl, rfl, rfl, hone, hy⟩
    exact ⟨(z, y), hall⟩
end

theorem layV_none : ∀ (ts : List Ty) (vs : List Value), vs.length = ts.length → layV (ts.map fun _ => none) vs = vs
  | [], vs, h => by simp at h; subst h; rfl
  | _ :: ts, [], h => by simp at h
  | _ :: ts, v :: vs, h => by simp only [List.map_cons, layV]; rw [layV_none ts vs (by simpa using h)]

theorem same_of_ev {P : Program} {S : Nat → Prop} {w w' : World} {tok : Nat → Value} {loc : Nat → Loc} {hS : ∀ b, S b → b < w.heap.size} (h : Ev (ctxOf P S w [] [] tok loc hS) w') : ∀ i, i < w.heap.size → w'.heap[i]? = w.heap[i]? := by
  intro i hi
  rcases h.old i hi with e | ⟨C, C', E, h1, h2, h3, h4⟩
  · exact e
  · have h1 : w.heap[i]? = some (.cells C E (0, 0)) := h1
    have : C' = C := same_arr fun j => h4 j fun hm => by
      rcases hm with hm | ⟨_, _, hm, _⟩ <;> cases hm
    rw [h2, h1, this]
theorem grown_of_ev {P : Program} {S : Nat → Prop} {w w' : World} {tok : Nat → Value} {loc : Nat → Loc} {hS : ∀ b, S b → b < w.heap.size} (h : Ev (ctxOf P S w [] [] tok loc hS) w') : Grown w w' := by
  have hsame := same_of_ev h
  refine ⟨⟨h.os, h.output, fun i hi => ?_⟩, h.frozen, h.size⟩
  rw [hsame i hi]
  cases w.heap[i]? with
  | none => trivial
  | some o => cases o <;> simp

theorem law_calls {P : Program} {f : Nat} {lend : Bool} {ts : List Ty} {tids : List TypeId} {F : itemsD (ts.map Ty.item) → Out (itemsD [⟨false, false, [.b]⟩] × backD (ts.map Ty.item))} {H : Type} {enc : TypeId × Value → H} {w : World} {base b0 : Nat} {sp : Nat → Bool} {held : Bool}
    (hK : Con.Ok P { f := f, lend := lend, its := ts.map Ty.item, lay := ts.map fun _ => none, rs := [⟨false, false, [.b]⟩], F := F }) (hp : ParsOk P ts tids)
    (hF : ∀ x, itemsWF (ts.map Ty.item) x → ∃ z, (F x).eval = some (((true, ()), ()), z)) {args : Array Value} {ds : List (DataW H)} {p : List MemPlace}
    (hv : ∀ (j : Nat) t v, tids[j]? = some t → args[j]? = some v → Value.okWide P w .any b0 t v) (h : DataW.TrodAll enc P w base sp held tids args.toList ds p) :
    Calls P f args w fun e w' => e = .returned (.bool true) ∧ Grown w w' ∧ ∀ b, b < w.heap.size → w'.heap[b]? = w.heap[b]? := by
  obtain ⟨x, hx⟩ := args_rep hp (fun j t v ht hv' => hv j t v ht (by simpa using hv')) h
  obtain ⟨z, hz⟩ := hF x (ItemsRep_WF _ hx)
  have hc := (hK x _ hz (fun b => b < w.heap.size) w (fun b hb => hb) args.toList [] [] hx (by simp) (by simp)).2
  have hl : args.toList.length = ts.length := by
    have := ItemsRep.length _ hx
    simpa using this
  have harg : (layV (ts.map fun _ => none) args.toList).toArray = args := by rw [layV_none ts _ hl]
  have hc : Calls P f (layV (ts.map fun _ => none) args.toList).toArray w _ := hc
  rw [harg] at hc
  refine Calls.mono hc fun e w' he => ?_
  cases e with
  | panicked _ => exact he.elim
  | outgrown => exact he.elim
  | returned v =>
    obtain ⟨⟨rvs, f1, g1, f2, rfl, hr, _⟩, hev⟩ := he
    refine ⟨?_, grown_of_ev hev, same_of_ev hev⟩
    simp only [ItemsRep, ItemRep] at hr
    obtain ⟨v, vs', _, _, _, _, rfl, _, _, ⟨_, hr, _, ho⟩, rfl, _⟩ := hr
    simp only [cmRep] at hr
    obtain ⟨q, hq, rfl, _⟩ := hr
    rw [cells_of_oneCell (ho trivial)] at hq
    simp only [retV]
    simp only [List.cons.injEq, and_true] at hq
    rw [hq]
end Go.Proofs.Ytjcinikojcfebaa.Dm
