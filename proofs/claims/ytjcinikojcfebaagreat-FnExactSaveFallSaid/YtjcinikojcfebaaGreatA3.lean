/- Functions of the program, and what they compute. -/
import Derived.Test.YtjcinikojcfebaaGreatA2
namespace Go.Proofs.YtjcinikojcfebaaGreat.Dm
open Go Go.ChangeShapes Go.WideShapes Go.ChangeAt Go.RowKit

/-! ## Kinds of loops over a list -/
section
variable {α σ β γ : Type} {f : σ → Out (Round σ β γ)}

/-- Something carried along, until it is used up. -/
def foldG {δ : Type} (g : δ → α → δ) (bad : δ → Bool) : δ → List α → Option δ
  | l, [] => some l
  | l, x :: r => if bad (g l x) = true then none else foldG g bad (g l x) r
theorem fold_loop {δ : Type} (a : List α) (S : δ → Nat → σ) (g : δ → α → δ) (bad : δ → Bool) {y : δ → β} {z : γ}
    (hs : ∀ i (hi : i < a.length) l, bad (g l a[i]) = false → (f (S l i)).eval = some (.again (S (g l a[i]) (i + 1)))) (hz : ∀ i (hi : i < a.length) l, bad (g l a[i]) = true → (f (S l i)).eval = some (.ret z))
    (hy : ∀ l, (f (S l a.length)).eval = some (.out (y l))) (ha : a.length ≤ BIG) (l : δ) :
    iter f FUEL (S l 0) = some (match foldG g bad l a with | some l' => .inl (y l') | none => .inr z) := by
  have key : ∀ (m : Nat) (l : δ) (i n : Nat), i + m = a.length → m < n → iter f n (S l i) = some (match foldG g bad l (a.drop i) with | some l' => .inl (y l') | none => .inr z) := by
    intro m
    induction m with
    | zero =>
      intro l i n hi hn
      have : i = a.length := by omega
      subst this
      rw [iter_out' (hy l) hn, List.drop_length]
      rfl
    | succ m ih =>
      intro l i n hi hn
      have hlt : i < a.length := by omega
      rw [List.drop_eq_getElem_cons hlt]
      simp only [foldG]
      cases hb : bad (g l a[i]) with
      | true => rw [iter_ret' (hz i hlt l hb) (by omega)]; rfl
      | false =>
        obtain ⟨n, rfl⟩ : ∃ n', n = n' + 1 := ⟨n - 1, by omega⟩
        rw [iter_again (hs i hlt l hb), ih _ (i + 1) n (by omega) (by omega)]
        rfl
  have := key a.length l 0 FUEL (by omega) (lt_fuel ha)
  simpa using this

/-- Where is the first one of a kind? -/
theorem idx_loop (a : List α) (p : α → Bool) (S : Nat → σ) {y : β} {z : Nat → γ} (hs : ∀ i (hi : i < a.length), p a[i] = false → (f (S i)).eval = some (.again (S (i + 1))))
    (hz : ∀ i (hi : i < a.length), p a[i] = true → (f (S i)).eval = some (.ret (z i))) (hy : (f (S a.length)).eval = some (.out y)) (ha : a.length ≤ BIG) :
    iter f FUEL (S 0) = some (match a.findIdx? p with | some i => .inr (z i) | none => .inl y) := by
  cases h : a.findIdx? p with
  | none =>
    rw [List.findIdx?_eq_none_iff] at h
    exact iter_out S a.length (lt_fuel ha) (fun i hi => hs i hi (h _ (List.getElem_mem hi))) hy
  | some i =>
    rw [List.findIdx?_eq_some_iff_getElem] at h
    obtain ⟨hi, hp, hmin⟩ := h
    exact iter_ret S i (Nat.lt_of_le_of_lt (by omega) (lt_fuel ha)) (fun j hj => hs j (by omega) (by simpa using hmin j hj)) (hz i hi hp)
/-- Is each item right? -/
theorem all_loop (a : List α) (p : α → Bool) (S : Nat → σ) {y : β} {z : γ} (hs : ∀ i (hi : i < a.length), p a[i] = true → (f (S i)).eval = some (.again (S (i + 1))))
    (hz : ∀ i (hi : i < a.length), p a[i] = false → (f (S i)).eval = some (.ret z)) (hy : (f (S a.length)).eval = some (.out y)) (ha : a.length ≤ BIG) :
    iter f FUEL (S 0) = some (if a.all p = true then .inl y else .inr z) := by
  rw [idx_loop (f := f) a (fun x => !p x) S (y := y) (z := fun _ => z) (fun i hi hp => hs i hi (by simpa using hp)) (fun i hi hp => hz i hi (by simpa using hp)) hy ha]
  cases h : a.findIdx? (fun x => !p x) with
  | none =>
    rw [List.findIdx?_eq_none_iff] at h
    rw [if_pos (List.all_eq_true.2 fun x hx => by simpa using h x hx)]
  | some i =>
    rw [List.findIdx?_eq_some_iff_getElem] at h
    obtain ⟨hi, hp, _⟩ := h
    rw [if_neg (fun q => by have := List.all_eq_true.1 q _ (List.getElem_mem hi); rw [this] at hp; exact absurd hp (by decide))]

end

/-- A list made item by item. -/
theorem copy_loop {α β σ : Type} {f : σ → Out (Round σ (Unit × List β × Unit) Empty)} (a : List α) (g : α → β) (b0 : List β) (S : Nat → List β → σ) (hb : b0.length = a.length) (ha : a.length ≤ BIG)
    (hs : ∀ i (hi : i < a.length) (l : List β) (hl : l.length = a.length), (f (S i l)).eval = some (.again (S (i + 1) (l.set i (g a[i]))))) (hy : ∀ l, (f (S a.length l)).eval = some (.out ((), (l, ())))) :
    iter1 f FUEL (S 0 b0) = some ((), (a.map g, ())) := by
  have h := iter1_out (f := f) (fun i => S i (((a.map g).take i) ++ b0.drop i)) a.length (y := ((), (a.map g, ()))) (lt_fuel ha)
    (fun i hi => by
      rw [hs i hi _ (by simp; omega)]
      congr 3
      apply List.ext_getElem?
      intro j
      rw [List.getElem?_set]
      by_cases hj : i = j
      · subst hj
        rw [if_pos rfl, if_pos (by simp; omega), List.getElem?_append_left (by simp; omega), List.getElem?_take_of_lt (by omega), List.getElem?_map, List.getElem?_eq_getElem hi]
        rfl
      · rw [if_neg hj]
        by_cases hlt : j < i
        · rw [List.getElem?_append_left (by simp; omega), List.getElem?_append_left (by simp; omega), List.getElem?_take_of_lt hlt, List.getElem?_take_of_lt (by omega)]
        · rw [List.getElem?_append_right (by simp; omega), List.getElem?_append_right (by simp; omega), List.getElem?_drop, List.getElem?_drop]
          congr 1
          simp
          omega)
    (by
      rw [hy]
      congr 4
      rw [List.drop_of_length_le (by omega), List.append_nil, List.take_of_length_le (by simp)])
  simpa using h

/-! ## How great a disk is -/
def f62_tree (a0 : Int) (a1 : List UInt8) (a2 : Int) : Out (((Int × Unit) × Unit) × (Unit × Unit × Unit)) :=
 .ite (decide ((IntKind.i64.wrap (a2 - ((List.length a1 : Nat) : Int))) < (0 : Int)))
 (.ret ((((-1 : Int), ()), ()), ((), (), ())))
 (.ret ((((IntKind.i64.wrap (a2 - ((List.length a1 : Nat) : Int))), ()), ()), ((), (), ())))
def szWriteV (_b : Int) (t : Str) (left : Int) : Int := lessV left t.length
def k62 : Con := { f := 62, lend := true, its := [⟨false, true, [.i .i64, .s]⟩, ⟨false, false, [.i .i64]⟩], lay := [none, none], rs := [⟨false, false, [.i .i64]⟩], F := fun x => .ret ((((szWriteV x.1.1 x.1.2.1 x.2.1.1), ()), ()), ((), (), ())) }
theorem f62_eq (x : itemsD k62.its) : bodyOut (cxOf []) (fun _ => none) (codeOf Tryz.f62) k62.its k62.lay Tryz.f62.ntmps k62.rs [.tmp 4] x = f62_tree x.1.1 x.1.2.1 x.2.1.1 := by kernel_rfl
theorem f62_ok (hr : ∀ x : (Int × List UInt8 × Unit) × (Int × Unit) × Unit, itemsWF k62.its x → (f62_tree x.1.1 x.1.2.1 x.2.1.1).eval = (k62.F x).eval) : k62.Ok Tryz.prog :=
  con_fn [] trivial (by kernel_rfl) (codeOf_eq (by kernel_rfl)) (by kernel_rfl) (by kernel_rfl) (by kernel_rfl) f62_eq fun x hw _ hy => (hr x hw).trans hy
theorem k62_ok : k62.Ok Tryz.prog := by
  refine f62_ok fun x _ => ?_
  obtain ⟨⟨b, t, _⟩, ⟨k, _⟩, _⟩ := x
  show (f62_tree b t k).eval = some (((szWriteV b t k, ()), ()), ((), ((), ())))
  unfold f62_tree szWriteV lessV
  by_cases h : IntKind.i64.wrap (k - ((t.length : Nat) : Int)) < 0
  · rw [eval_ite_t (decide_eq_true h), if_pos h]; rfl
  · rw [eval_ite_f (decide_eq_false h), if_neg h]; rfl
def negB (l : Int) : Bool := decide (l < 0)
/-- A list: its length, and each item. -/
def szListV {α : Type} (g : Int → α → Int) (a : List α) (left : Int) : Int := if lessV left a.length < 0 then -1 else (foldG g negB (lessV left a.length) a).getD (-1)
theorem szListV_t {α : Type} {g : Int → α → Int} {a : List α} {left : Int} (h : IntKind.i64.wrap (left - ((a.length : Nat) : Int)) < 0) : szListV g a left = -1 := by
  unfold szListV lessV; simp [h]
theorem szListV_f {α : Type} {g : Int → α → Int} {a : List α} {left : Int} (h : ¬ IntKind.i64.wrap (left - ((a.length : Nat) : Int)) < 0) : szListV g a left = (foldG g negB (IntKind.i64.wrap (left - ((a.length : Nat) : Int))) a).getD (-1) := by
  unfold szListV lessV; simp [h]
theorem lessV_ite {left : Int} {n : Nat} : (lessV left n < 0) = (IntKind.i64.wrap (left - ((n : Nat) : Int)) < 0) := by
  unfold lessV
  split <;> simp_all
theorem lessV_eq {left : Int} {n : Nat} (h : ¬ IntKind.i64.wrap (left - ((n : Nat) : Int)) < 0) : lessV left n = IntKind.i64.wrap (left - ((n : Nat) : Int)) := if_neg h
abbrev f30_S0 := (List ((Int × List UInt8 × Unit)) × Int × Int × Unit) × (Unit)
def f30_L0 (x : f30_S0) : Out (Round f30_S0 ((Int × Unit) × (Unit)) ((Int × Unit) × (Unit))) :=
 .ite (decide (x.1.2.2.1 < ((List.length x.1.1 : Nat) : Int)))
 (.ite (decide (0 ≤ x.1.2.2.1))
 (.get (nth x.1.1 (Int.toNat x.1.2.2.1)) fun y1 =>
 .ite (decide ((szWriteV y1.1 y1.2.1 x.1.2.1) < (0 : Int)))
 (.ret (.ret (((-1 : Int), ()), ())))
 (.ret (.again ((x.1.1, (szWriteV y1.1 y1.2.1 x.1.2.1), (IntKind.i64.wrap (x.1.2.2.1 + (1 : Int))), ()), ()))))
 .fail)
 (.ret (.out ((x.1.2.1, ()), ())))
def f30_tree (a0 : List (Int × List UInt8 × Unit)) (a1 : Int) : Out (((Int × Unit) × Unit) × (Unit × Unit × Unit)) :=
 .ite (decide ((IntKind.i64.wrap (a1 - ((List.length a0 : Nat) : Int))) < (0 : Int)))
 (.ret ((((-1 : Int), ()), ()), ((), (), ())))
 (.get (iter f30_L0 FUEL ((a0, (IntKind.i64.wrap (a1 - ((List.length a0 : Nat) : Int))), (0 : Int), ()), ())) fun y1 => .alt y1 (fun y2 =>
 .ret (((y2.1.1, ()), ()), ((), (), ()))) (fun y3 =>
 .ret (((y3.1.1, ()), ()), ((), (), ()))))
def f30_A : Nat → Option LoopAnn := fun n => annOf [(0, { head := { t := [.ro (.st (.cons (.int .i64) (.cons .str .nil))) (some 0), .i .i64, .dead, .dead, .dead, .i .i64, .dead, .dead, .dead, .dead, .dead, .dead, .dead, .dead, .dead, .dead, .dead, .dead, .dead, .dead, .dead, .dead, .dead, .dead, .dead, .dead, .dead], v := [] }, out := { t := [.dead, .i .i64, .dead, .dead, .dead, .dead, .dead, .dead, .dead, .dead, .dead, .dead, .dead, .dead, .dead, .dead, .dead, .dead, .dead, .dead, .dead, .dead, .dead, .dead, .dead, .dead, .dead], v := [] }, ret := some { t := [.dead, .dead, .dead, .dead, .i .i64, .dead, .dead, .dead, .dead, .dead, .dead, .dead, .dead, .dead, .dead, .dead, .dead, .dead, .dead, .dead, .dead, .dead, .dead, .dead, .dead, .dead, .dead], v := [] } })] n
def szWritesV (a : List WriteD) (left : Int) : Int := szListV (fun l (x : WriteD) => szWriteV x.1 x.2.1 l) a left
def k30 : Con := { f := 30, lend := true, its := [⟨false, false, [.ro (.st (.cons (.int .i64) (.cons .str .nil)))]⟩, ⟨false, false, [.i .i64]⟩], lay := [none, none], rs := [⟨false, false, [.i .i64]⟩], F := fun x => .ret ((((szWritesV x.1.1 x.2.1.1), ()), ()), ((), (), ())) }
theorem f30_eq (x : itemsD k30.its) : bodyOut (cxOf [k62]) (f30_A) (codeOf Tryz.f30) k30.its k30.lay Tryz.f30.ntmps k30.rs [.tmp 4] x = f30_tree x.1.1 x.2.1.1 := by kernel_rfl
theorem f30_ok (hr : ∀ x : (List (Int × List UInt8 × Unit) × Unit) × (Int × Unit) × Unit, itemsWF k30.its x → (f30_tree x.1.1 x.2.1.1).eval = (k30.F x).eval) : k30.Ok Tryz.prog :=
  con_fn [k62] ⟨k62_ok, trivial⟩ (by kernel_rfl) (codeOf_eq (by kernel_rfl)) (by kernel_rfl) (by kernel_rfl) (by kernel_rfl) f30_eq fun x hw _ hy => (hr x hw).trans hy
theorem k30_ok : k30.Ok Tryz.prog := by
  refine f30_ok fun x hw => ?_
  obtain ⟨⟨a, _⟩, ⟨k, _⟩, _⟩ := x
  have ha : a.length ≤ BIG := hw.1.1.1
  show (f30_tree a k).eval = some (((szWritesV a k, ()), ()), ((), ((), ())))
  unfold f30_tree szWritesV
  by_cases h : IntKind.i64.wrap (k - ((a.length : Nat) : Int)) < 0
  · rw [eval_ite_t (decide_eq_true h), szListV_t h]; rfl
  · rw [eval_ite_f (decide_eq_false h), szListV_f h]
    have := fold_loop (f := f30_L0) a (fun l i => ((a, (l, (((i : Nat) : Int), ()))), ())) (fun l (x : WriteD) => szWriteV x.1 x.2.1 l) negB (y := fun l => ((l, ()), ())) (z := ((-1, ()), ()))
      (fun i hi l hb => by
        have h1 := wrap_succ (i := i) (by omega)
        have hb : ¬ szWriteV a[i].1 a[i].2.1 l < 0 := of_decide_eq_false hb
        simp [f30_L0, Out.eval, hi, h1, hb])
      (fun i hi l hb => by
        have hb : szWriteV a[i].1 a[i].2.1 l < 0 := of_decide_eq_true hb
        simp [f30_L0, Out.eval, hi, hb])
      (fun l => by simp [f30_L0, Out.eval]) ha (IntKind.i64.wrap (k - ((a.length : Nat) : Int)))
    refine (eval_get_some this).trans ?_
    cases foldG (fun l (x : WriteD) => szWriteV x.1 x.2.1 l) negB (IntKind.i64.wrap (k - ((a.length : Nat) : Int))) a <;> rfl
abbrev f29_S0 := (List (List UInt8) × Int × Int × Unit) × (Unit)
def f29_L0 (x : f29_S0) : Out (Round f29_S0 ((Int × Unit) × (Unit)) ((Int × Unit) × (Unit))) :=
 .ite (decide (x.1.2.2.1 < ((List.length x.1.1 : Nat) : Int)))
 (.ite (decide (0 ≤ x.1.2.2.1))
 (.get (nth x.1.1 (Int.toNat x.1.2.2.1)) fun y1 =>
 .ite (decide ((IntKind.i64.wrap (x.1.2.1 - ((List.length y1 : Nat) : Int))) < (0 : Int)))
 (.ret (.ret (((-1 : Int), ()), ())))
 (.ret (.again ((x.1.1, (IntKind.i64.wrap (x.1.2.1 - ((List.length y1 : Nat) : Int))), (IntKind.i64.wrap (x.1.2.2.1 + (1 : Int))), ()), ()))))
 .fail)
 (.ret (.out ((x.1.2.1, ()), ())))
def f29_tree (a0 : List (List UInt8)) (a1 : Int) : Out (((Int × Unit) × Unit) × (Unit × Unit × Unit)) :=
 .ite (decide ((IntKind.i64.wrap (a1 - ((List.length a0 : Nat) : Int))) < (0 : Int)))
 (.ret ((((-1 : Int), ()), ()), ((), (), ())))
 (.get (iter f29_L0 FUEL ((a0, (IntKind.i64.wrap (a1 - ((List.length a0 : Nat) : Int))), (0 : Int), ()), ())) fun y1 => .alt y1 (fun y2 =>
 .ret (((y2.1.1, ()), ()), ((), (), ()))) (fun y3 =>
 .ret (((y3.1.1, ()), ()), ((), (), ()))))
def f29_A : Nat → Option LoopAnn := fun n => annOf [(0, { head := { t := [.ro .str (some 0), .i .i64, .dead, .dead, .dead, .i .i64, .dead, .dead, .dead, .dead, .dead, .dead, .dead, .dead, .dead, .dead, .dead, .dead, .dead, .dead, .dead, .dead, .dead, .dead, .dead, .dead, .dead, .dead], v := [] }, out := { t := [.dead, .i .i64, .dead, .dead, .dead, .dead, .dead, .dead, .dead, .dead, .dead, .dead, .dead, .dead, .dead, .dead, .dead, .dead, .dead, .dead, .dead, .dead, .dead, .dead, .dead, .dead, .dead, .dead], v := [] }, ret := some { t := [.dead, .dead, .dead, .dead, .i .i64, .dead, .dead, .dead, .dead, .dead, .dead, .dead, .dead, .dead, .dead, .dead, .dead, .dead, .dead, .dead, .dead, .dead, .dead, .dead, .dead, .dead, .dead, .dead], v := [] } })] n
def szStrsV (a : List Str) (left : Int) : Int := szListV (fun l (x : Str) => lessV l x.length) a left
def k29 : Con := { f := 29, lend := true, its := [⟨false, false, [.ro .str]⟩, ⟨false, false, [.i .i64]⟩], lay := [none, none], rs := [⟨false, false, [.i .i64]⟩], F := fun x => .ret ((((szStrsV x.1.1 x.2.1.1), ()), ()), ((), (), ())) }
theorem f29_eq (x : itemsD k29.its) : bodyOut (cxOf []) (f29_A) (codeOf Tryz.f29) k29.its k29.lay Tryz.f29.ntmps k29.rs [.tmp 4] x = f29_tree x.1.1 x.2.1.1 := by kernel_rfl
theorem f29_ok (hr : ∀ x : (List (List UInt8) × Unit) × (Int × Unit) × Unit, itemsWF k29.its x → (f29_tree x.1.1 x.2.1.1).eval = (k29.F x).eval) : k29.Ok Tryz.prog :=
  con_fn [] trivial (by kernel_rfl) (codeOf_eq (by kernel_rfl)) (by kernel_rfl) (by kernel_rfl) (by kernel_rfl) f29_eq fun x hw _ hy => (hr x hw).trans hy
theorem k29_ok : k29.Ok Tryz.prog := by
  refine f29_ok fun x hw => ?_
  obtain ⟨⟨a, _⟩, ⟨k, _⟩, _⟩ := x
  have ha : a.length ≤ BIG := hw.1.1.1
  show (f29_tree a k).eval = some (((szStrsV a k, ()), ()), ((), ((), ())))
  unfold f29_tree szStrsV
  by_cases h : IntKind.i64.wrap (k - ((a.length : Nat) : Int)) < 0
  · rw [eval_ite_t (decide_eq_true h), szListV_t h]; rfl
  · rw [eval_ite_f (decide_eq_false h), szListV_f h]
    have := fold_loop (f := f29_L0) a (fun l i => ((a, (l, (((i : Nat) : Int), ()))), ())) (fun l (x : Str) => lessV l x.length) negB (y := fun l => ((l, ()), ())) (z := ((-1, ()), ()))
      (fun i hi l hb => by
        have h1 := wrap_succ (i := i) (by omega)
        have hb : ¬ lessV l a[i].length < 0 := of_decide_eq_false hb
        rw [lessV_ite] at hb
        have h2 := lessV_eq hb
        simp [f29_L0, Out.eval, hi, h1, hb, h2])
      (fun i hi l hb => by
        have hb : lessV l a[i].length < 0 := of_decide_eq_true hb
        rw [lessV_ite] at hb
        simp [f29_L0, Out.eval, hi, hb])
      (fun l => by simp [f29_L0, Out.eval]) ha (IntKind.i64.wrap (k - ((a.length : Nat) : Int)))
    refine (eval_get_some this).trans ?_
    cases foldG (fun l (x : Str) => lessV l x.length) negB (IntKind.i64.wrap (k - ((a.length : Nat) : Int))) a <;> rfl
theorem szList_le {α : Type} {g : Int → α → Int} {a : List α} {left : Int} {m : Nat} (hm : m ≤ 4611686018427387904) (h0 : -1 ≤ left) (h1 : left ≤ m) (hn : a.length ≤ BIG)
    (hg : ∀ x ∈ a, ∀ l : Int, -1 ≤ l → l ≤ (m : Int) → -1 ≤ g l x ∧ g l x ≤ m) (h : ¬ szListV g a left < 0) : a.length ≤ m ∧ -1 ≤ szListV g a left ∧ szListV g a left ≤ m := by
  unfold szListV at h ⊢
  split at h
  · omega
  · rename_i hlt
    rw [if_neg hlt]
    have q := lessV_le hm h0 h1 hn hlt
    refine ⟨q.1, ?_⟩
    have key : ∀ (b : List α), (∀ x ∈ b, x ∈ a) → ∀ l : Int, -1 ≤ l → l ≤ (m : Int) → -1 ≤ (foldG g negB l b).getD (-1) ∧ (foldG g negB l b).getD (-1) ≤ m := by
      intro b
      induction b with
      | nil => intro _ l hl1 hl2; exact ⟨hl1, hl2⟩
      | cons x r ih =>
        intro hb l hl1 hl2
        have := hg x (hb x (by simp)) l hl1 hl2
        simp only [foldG]
        split
        · simp only [Option.getD_none]; omega
        · exact ih (fun y hy => hb y (by simp [hy])) _ this.1 this.2
    exact key a (fun x hx => hx) _ (by omega) (by omega)
def f11_tree (a0 : List (List UInt8)) (a1 : List (Int × List UInt8 × Unit)) (a2 : Int) : Out (((Int × Unit) × Unit) × (Unit × Unit × Unit)) :=
 .ite (decide ((szStrsV a0 a2) < (0 : Int)))
 (.ret ((((-1 : Int), ()), ()), ((), (), ())))
 (.ite (decide ((szWritesV a1 (szStrsV a0 a2)) < (0 : Int)))
 (.ret ((((-1 : Int), ()), ()), ((), (), ())))
 (.ret ((((szWritesV a1 (szStrsV a0 a2)), ()), ()), ((), (), ()))))
def szDiskV (a : List Str) (b : List WriteD) (left : Int) : Int := thenV (szStrsV a left) (thenV (szWritesV b (szStrsV a left)) (szWritesV b (szStrsV a left)))
def k11 : Con := { f := 11, lend := true, its := [⟨false, true, [.ro .str, .ro (.st (.cons (.int .i64) (.cons .str .nil)))]⟩, ⟨false, false, [.i .i64]⟩], lay := [none, none], rs := [⟨false, false, [.i .i64]⟩], F := fun x => .ret ((((szDiskV x.1.1 x.1.2.1 x.2.1.1), ()), ()), ((), (), ())) }
theorem f11_eq (x : itemsD k11.its) : bodyOut (cxOf [k29, k30]) (fun _ => none) (codeOf Tryz.f11) k11.its k11.lay Tryz.f11.ntmps k11.rs [.tmp 4] x = f11_tree x.1.1 x.1.2.1 x.2.1.1 := by kernel_rfl
theorem f11_ok (hr : ∀ x : (List (List UInt8) × List (Int × List UInt8 × Unit) × Unit) × (Int × Unit) × Unit, itemsWF k11.its x → (f11_tree x.1.1 x.1.2.1 x.2.1.1).eval = (k11.F x).eval) : k11.Ok Tryz.prog :=
  con_fn [k29, k30] ⟨k29_ok, k30_ok, trivial⟩ (by kernel_rfl) (codeOf_eq (by kernel_rfl)) (by kernel_rfl) (by kernel_rfl) (by kernel_rfl) f11_eq fun x hw _ hy => (hr x hw).trans hy
theorem k11_ok : k11.Ok Tryz.prog := by
  refine f11_ok fun x _ => ?_
  obtain ⟨⟨a, b, _⟩, ⟨k, _⟩, _⟩ := x
  show (f11_tree a b k).eval = some (((szDiskV a b k, ()), ()), ((), ((), ())))
  unfold f11_tree szDiskV thenV
  by_cases h : szStrsV a k < 0
  · simp [Out.eval, h]
  · by_cases h2 : szWritesV b (szStrsV a k) < 0 <;> simp [Out.eval, h, h2]
theorem szDisk_le {a : List Str} {b : List WriteD} {left : Int} (ha : a.length ≤ BIG) (ha' : ∀ x ∈ a, x.length ≤ BIG) (hb : b.length ≤ BIG) (hb' : ∀ x ∈ b, x.2.1.length ≤ BIG) (h0 : -1 ≤ left) (h1 : left ≤ 1048576) (h : ¬ szDiskV a b left < 0) :
    a.length ≤ 1048576 ∧ b.length ≤ 1048576 ∧ -1 ≤ szDiskV a b left ∧ szDiskV a b left ≤ 1048576 := by
  unfold szDiskV at h ⊢
  obtain ⟨g1, e1⟩ := thenV_not h
  rw [e1] at h ⊢
  obtain ⟨g2, e2⟩ := thenV_not h
  rw [e2] at h ⊢
  have q1 := szList_le (m := 1048576) (by decide) h0 h1 ha (fun x hx l hl1 hl2 => lessV_bound (by decide) hl1 hl2 (ha' x hx)) g1
  have q2 := szList_le (m := 1048576) (by decide) q1.2.1 q1.2.2 hb (fun x hx l hl1 hl2 => lessV_bound (by decide) hl1 hl2 (hb' x hx)) g2
  exact ⟨q1.1, q2.1, q2.2.1, q2.2.2⟩

/-! ## Copies -/
def f72_tree (a0 : Int) (a1 : List UInt8) : Out (((Int × List UInt8 × Unit) × Unit) × (Unit × Unit)) :=
 .ret (((a0, a1, ()), ()), ((), ()))
def k72 : Con := { f := 72, lend := true, its := [⟨false, true, [.i .i64, .s]⟩], lay := [none], rs := [⟨false, true, [.i .i64, .s]⟩], F := fun x => .ret ((((Prod.mk x.1.1 x.1.2.1).1, (Prod.mk x.1.1 x.1.2.1).2, ()), ()), ((), ())) }
theorem f72_eq (x : itemsD k72.its) : bodyOut (cxOf []) (fun _ => none) (codeOf Tryz.f72) k72.its k72.lay Tryz.f72.ntmps k72.rs [.cell 2 50] x = f72_tree x.1.1 x.1.2.1 := by kernel_rfl
theorem f72_ok (hr : ∀ x : (Int × List UInt8 × Unit) × Unit, itemsWF k72.its x → (f72_tree x.1.1 x.1.2.1).eval = (k72.F x).eval) : k72.Ok Tryz.prog :=
  con_fn [] trivial (by kernel_rfl) (codeOf_eq (by kernel_rfl)) (by kernel_rfl) (by kernel_rfl) (by kernel_rfl) f72_eq fun x hw _ hy => (hr x hw).trans hy
theorem k72_ok : k72.Ok Tryz.prog := f72_ok fun _ _ => rfl
abbrev f41_S0 := (List ((Int × List UInt8 × Unit)) × Int × Unit) × (List ((Int × List UInt8 × Unit)) × Unit)
def f41_L0 (x : f41_S0) : Out (Round f41_S0 ((Unit) × (List ((Int × List UInt8 × Unit)) × Unit)) Empty) :=
 .ite (decide (x.1.2.1 < ((List.length x.1.1 : Nat) : Int)))
 (.ite (decide (0 ≤ x.1.2.1))
 (.get (nth x.1.1 (Int.toNat x.1.2.1)) fun y1 =>
 .ite (decide (0 ≤ x.1.2.1 ∧ x.1.2.1 < ((List.length x.2.1 : Nat) : Int)))
 (.get (nth x.2.1 (Int.toNat x.1.2.1)) fun y2 =>
 .ret (.again ((x.1.1, (IntKind.i64.wrap (x.1.2.1 + (1 : Int))), ()), ((List.set x.2.1 (Int.toNat x.1.2.1) ((Prod.mk y1.1 y1.2.1).1, (Prod.mk y1.1 y1.2.1).2, ())), ()))))
 .fail)
 .fail)
 (.ret (.out ((), (x.2.1, ()))))
def f41_tree (a0 : List (Int × List UInt8 × Unit)) : Out (((List (Int × List UInt8 × Unit) × Unit) × Unit) × (Unit × Unit)) :=
 .ite (decide (0 ≤ ((List.length a0 : Nat) : Int) ∧ ((List.length a0 : Nat) : Int) ≤ ((List.length a0 : Nat) : Int) ∧ ((List.length a0 : Nat) : Int) ≤ (LIM : Int)))
 (.get (iter1 f41_L0 FUEL ((a0, (0 : Int), ()), ((List.replicate (Int.toNat ((List.length a0 : Nat) : Int)) ((0 : Int), (([] : List UInt8), ()))), ()))) fun y1 =>
 .ret (((y1.2.1, ()), ()), ((), ())))
 .fail
def f41_A : Nat → Option LoopAnn := fun n => annOf [(0, { head := { t := [.ro (.st (.cons (.int .i64) (.cons .str .nil))) (some 0), .dead, .dead, .srf 64000000, .i .i64, .dead, .dead, .dead, .dead, .dead, .dead, .dead, .dead, .dead, .dead, .dead, .dead, .dead, .dead, .dead, .dead, .dead, .dead], v := [(64000000, .arr (.st (.cons (.int .i64) (.cons .str .nil))))] }, out := { t := [.dead, .dead, .dead, .srf 64000256, .dead, .dead, .dead, .dead, .dead, .dead, .dead, .dead, .dead, .dead, .dead, .dead, .dead, .dead, .dead, .dead, .dead, .dead, .dead], v := [(64000256, .arr (.st (.cons (.int .i64) (.cons .str .nil))))] }, ret := none })] n
def toWritesV (a : List WriteD) : Option (List WriteD) := lim a a
def k41 : Con := { f := 41, lend := true, its := [⟨false, false, [.ro (.st (.cons (.int .i64) (.cons .str .nil)))]⟩], lay := [none], rs := [⟨false, false, [.own (.st (.cons (.int .i64) (.cons .str .nil)))]⟩], F := fun x => .get (toWritesV x.1.1) fun y => .ret (((y, ()), ()), ((), ())) }
theorem f41_eq (x : itemsD k41.its) : bodyOut (cxOf [k72]) (f41_A) (codeOf Tryz.f41) k41.its k41.lay Tryz.f41.ntmps k41.rs [.tmp 2] x = f41_tree x.1.1 := by kernel_rfl
theorem f41_ok (hr : ∀ x : (List (Int × List UInt8 × Unit) × Unit) × Unit, itemsWF k41.its x → (f41_tree x.1.1).eval = (k41.F x).eval) : k41.Ok Tryz.prog :=
  con_fn [k72] ⟨k72_ok, trivial⟩ (by kernel_rfl) (codeOf_eq (by kernel_rfl)) (by kernel_rfl) (by kernel_rfl) (by kernel_rfl) f41_eq fun x hw _ hy => (hr x hw).trans hy
theorem lim_cond {α : Type} {a : List α} (h : a.length ≤ LIM) : decide (0 ≤ ((a.length : Nat) : Int) ∧ ((a.length : Nat) : Int) ≤ ((a.length : Nat) : Int) ∧ ((a.length : Nat) : Int) ≤ (LIM : Int)) = true := decide_eq_true (by omega)
theorem lim_cond' {α : Type} {a : List α} (h : ¬ a.length ≤ LIM) : decide (0 ≤ ((a.length : Nat) : Int) ∧ ((a.length : Nat) : Int) ≤ ((a.length : Nat) : Int) ∧ ((a.length : Nat) : Int) ≤ (LIM : Int)) = false := decide_eq_false (by omega)
theorem k41_ok : k41.Ok Tryz.prog := by
  refine f41_ok fun x hw => ?_
  obtain ⟨⟨a, _⟩, _⟩ := x
  have ha : a.length ≤ BIG := hw.1.1.1
  show (f41_tree a).eval = (Out.get (toWritesV a) fun y => Out.ret (((y, ()), ()), ((), ()))).eval
  unfold f41_tree toWritesV
  by_cases h : a.length ≤ LIM
  · rw [lim_some h, eval_ite_t (lim_cond h), Int.toNat_natCast]
    have := copy_loop (f := f41_L0) a (fun x : WriteD => x) (List.replicate a.length ((0 : Int), (([] : Str), ()))) (fun i l => ((a, (((i : Nat) : Int), ())), (l, ()))) (by simp) ha
      (fun i hi l hl => by
        have h1 := wrap_succ (i := i) (by omega)
        have h2 : i < l.length := by omega
        have h3 : ((a[i].1, (a[i].2.1, ())) : WriteD) = a[i] := rfl
        simp [f41_L0, Out.eval, hi, h1, h2, h3])
      (fun l => by simp [f41_L0, Out.eval])
    refine (eval_get_some this).trans ?_
    rw [List.map_id']
    rfl
  · rw [lim_not h, eval_ite_f (lim_cond' h)]; rfl
abbrev f40_S0 := (List (List UInt8) × Int × Unit) × (List (List UInt8) × Unit)
def f40_L0 (x : f40_S0) : Out (Round f40_S0 ((Unit) × (List (List UInt8) × Unit)) Empty) :=
 .ite (decide (x.1.2.1 < ((List.length x.1.1 : Nat) : Int)))
 (.ite (decide (0 ≤ x.1.2.1))
 (.get (nth x.1.1 (Int.toNat x.1.2.1)) fun y1 =>
 .ite (decide (0 ≤ x.1.2.1 ∧ x.1.2.1 < ((List.length x.2.1 : Nat) : Int)))
 (.get (nth x.2.1 (Int.toNat x.1.2.1)) fun y2 =>
 .ret (.again ((x.1.1, (IntKind.i64.wrap (x.1.2.1 + (1 : Int))), ()), ((List.set x.2.1 (Int.toNat x.1.2.1) y1), ()))))
 .fail)
 .fail)
 (.ret (.out ((), (x.2.1, ()))))
def f40_tree (a0 : List (List UInt8)) : Out (((List (List UInt8) × Unit) × Unit) × (Unit × Unit)) :=
 .ite (decide (0 ≤ ((List.length a0 : Nat) : Int) ∧ ((List.length a0 : Nat) : Int) ≤ ((List.length a0 : Nat) : Int) ∧ ((List.length a0 : Nat) : Int) ≤ (LIM : Int)))
 (.get (iter1 f40_L0 FUEL ((a0, (0 : Int), ()), ((List.replicate (Int.toNat ((List.length a0 : Nat) : Int)) ([] : List UInt8)), ()))) fun y1 =>
 .ret (((y1.2.1, ()), ()), ((), ())))
 .fail
def f40_A : Nat → Option LoopAnn := fun n => annOf [(0, { head := { t := [.ro .str (some 0), .dead, .dead, .srf 64000000, .i .i64, .dead, .dead, .dead, .dead, .dead, .dead, .dead, .dead, .dead, .dead, .dead, .dead, .dead, .dead, .dead, .dead, .dead], v := [(64000000, .arr .str)] }, out := { t := [.dead, .dead, .dead, .srf 64000256, .dead, .dead, .dead, .dead, .dead, .dead, .dead, .dead, .dead, .dead, .dead, .dead, .dead, .dead, .dead, .dead, .dead, .dead], v := [(64000256, .arr .str)] }, ret := none })] n
def toStrsV (a : List Str) : Option (List Str) := lim a a
def k40 : Con := { f := 40, lend := true, its := [⟨false, false, [.ro .str]⟩], lay := [none], rs := [⟨false, false, [.own .str]⟩], F := fun x => .get (toStrsV x.1.1) fun y => .ret (((y, ()), ()), ((), ())) }
theorem f40_eq (x : itemsD k40.its) : bodyOut (cxOf []) (f40_A) (codeOf Tryz.f40) k40.its k40.lay Tryz.f40.ntmps k40.rs [.tmp 2] x = f40_tree x.1.1 := by kernel_rfl
theorem f40_ok (hr : ∀ x : (List (List UInt8) × Unit) × Unit, itemsWF k40.its x → (f40_tree x.1.1).eval = (k40.F x).eval) : k40.Ok Tryz.prog :=
  con_fn [] trivial (by kernel_rfl) (codeOf_eq (by kernel_rfl)) (by kernel_rfl) (by kernel_rfl) (by kernel_rfl) f40_eq fun x hw _ hy => (hr x hw).trans hy
theorem k40_ok : k40.Ok Tryz.prog := by
  refine f40_ok fun x hw => ?_
  obtain ⟨⟨a, _⟩, _⟩ := x
  have ha : a.length ≤ BIG := hw.1.1.1
  show (f40_tree a).eval = (Out.get (toStrsV a) fun y => Out.ret (((y, ()), ()), ((), ()))).eval
  unfold f40_tree toStrsV
  by_cases h : a.length ≤ LIM
  · rw [lim_some h, eval_ite_t (lim_cond h), Int.toNat_natCast]
    have := copy_loop (f := f40_L0) a (fun x : Str => x) (List.replicate a.length ([] : Str)) (fun i l => ((a, (((i : Nat) : Int), ())), (l, ()))) (by simp) ha
      (fun i hi l hl => by
        have h1 := wrap_succ (i := i) (by omega)
        have h2 : i < l.length := by omega
        simp [f40_L0, Out.eval, hi, h1, h2])
      (fun l => by simp [f40_L0, Out.eval])
    refine (eval_get_some this).trans ?_
    rw [List.map_id']
    rfl
  · rw [lim_not h, eval_ite_f (lim_cond' h)]; rfl
def f17_tree (a0 : List (List UInt8)) (a1 : List (Int × List UInt8 × Unit)) : Out (((List (List UInt8) × List (Int × List UInt8 × Unit) × Unit) × Unit) × (Unit × Unit)) :=
 .get (toStrsV a0) fun y1 =>
 .get (toWritesV a1) fun y2 =>
 .ret (((y1, y2, ()), ()), ((), ()))
def toDiskV (a : List Str) (b : List WriteD) : Option (List Str × List WriteD) := if a.length ≤ LIM ∧ b.length ≤ LIM then some (a, b) else none
def k17 : Con := { f := 17, lend := true, its := [⟨false, true, [.ro .str, .ro (.st (.cons (.int .i64) (.cons .str .nil)))]⟩], lay := [none], rs := [⟨false, true, [.own .str, .own (.st (.cons (.int .i64) (.cons .str .nil)))]⟩], F := fun x => .get (toDiskV x.1.1 x.1.2.1) fun y => .ret (((y.1, y.2, ()), ()), ((), ())) }
theorem f17_eq (x : itemsD k17.its) : bodyOut (cxOf [k40, k41]) (fun _ => none) (codeOf Tryz.f17) k17.its k17.lay Tryz.f17.ntmps k17.rs [.cell 2 32] x = f17_tree x.1.1 x.1.2.1 := by kernel_rfl
theorem f17_ok (hr : ∀ x : (List (List UInt8) × List (Int × List UInt8 × Unit) × Unit) × Unit, itemsWF k17.its x → (f17_tree x.1.1 x.1.2.1).eval = (k17.F x).eval) : k17.Ok Tryz.prog :=
  con_fn [k40, k41] ⟨k40_ok, k41_ok, trivial⟩ (by kernel_rfl) (codeOf_eq (by kernel_rfl)) (by kernel_rfl) (by kernel_rfl) (by kernel_rfl) f17_eq fun x hw _ hy => (hr x hw).trans hy
theorem k17_ok : k17.Ok Tryz.prog := by
  refine f17_ok fun x _ => ?_
  obtain ⟨⟨a, b, _⟩, _⟩ := x
  show (f17_tree a b).eval = (Out.get (toDiskV a b) fun y => Out.ret (((y.1, (y.2, ())), ()), ((), ()))).eval
  unfold f17_tree toDiskV toStrsV toWritesV
  by_cases h1 : a.length ≤ LIM
  · by_cases h2 : b.length ≤ LIM
    · simp [lim_some, h1, h2, Out.eval]
    · simp [lim_some, lim_not, h1, h2, Out.eval]
  · simp [lim_not, h1, Out.eval]

/-! ## Is it a disk? -/
def f64_tree (a0 : Int) (a1 : List UInt8) : Out (((Bool × Unit) × Unit) × (Unit × Unit)) :=
 .ite ((decide (a0 ≥ (0 : Int))) == true)
 (.ite ((decide (a0 < (7 : Int))) == true)
 (.ret ((((decide (((List.length a1 : Nat) : Int) ≤ (600 : Int))), ()), ()), ((), ())))
 (.ret (((false, ()), ()), ((), ()))))
 (.ret (((false, ()), ()), ((), ())))
def writeOkV (b : Int) (t : Str) : Bool := decide (0 ≤ b) && decide (b < 7) && decide (t.length ≤ 600)
def k64 : Con := { f := 64, lend := true, its := [⟨false, true, [.i .i64, .s]⟩], lay := [none], rs := [⟨false, false, [.b]⟩], F := fun x => .ret ((((writeOkV x.1.1 x.1.2.1), ()), ()), ((), ())) }
theorem f64_eq (x : itemsD k64.its) : bodyOut (cxOf []) (fun _ => none) (codeOf Tryz.f64) k64.its k64.lay Tryz.f64.ntmps k64.rs [.tmp 2] x = f64_tree x.1.1 x.1.2.1 := by kernel_rfl
theorem f64_ok (hr : ∀ x : (Int × List UInt8 × Unit) × Unit, itemsWF k64.its x → (f64_tree x.1.1 x.1.2.1).eval = (k64.F x).eval) : k64.Ok Tryz.prog :=
  con_fn [] trivial (by kernel_rfl) (codeOf_eq (by kernel_rfl)) (by kernel_rfl) (by kernel_rfl) (by kernel_rfl) f64_eq fun x hw _ hy => (hr x hw).trans hy
theorem le_cast {n : Nat} {m : Nat} : decide (((n : Nat) : Int) ≤ ((m : Nat) : Int)) = decide (n ≤ m) := by
  rw [Bool.eq_iff_iff]; simp
theorem k64_ok : k64.Ok Tryz.prog := by
  refine f64_ok fun x _ => ?_
  obtain ⟨⟨b, t, _⟩, _⟩ := x
  show (f64_tree b t).eval = some (((writeOkV b t, ()), ()), ((), ()))
  unfold f64_tree writeOkV
  have h3 : decide (((t.length : Nat) : Int) ≤ (600 : Int)) = decide (t.length ≤ 600) := le_cast (m := 600)
  by_cases h1 : 0 ≤ b <;> by_cases h2 : b < 7 <;> simp [Out.eval, h1, h2, h3]
def diskOkV (a : List Str) (b : List WriteD) : Bool := decide (a.length = 7) && decide (b.length ≤ 20) && a.all (fun x => decide (x.length ≤ 600)) && b.all (fun x => writeOkV x.1 x.2.1)
abbrev f32_S0 := (Int × Unit) × ((List (List UInt8) × List ((Int × List UInt8 × Unit)) × Unit) × Unit)
def f32_L0 (x : f32_S0) : Out (Round f32_S0 ((Unit) × ((List (List UInt8) × List ((Int × List UInt8 × Unit)) × Unit) × Unit)) ((Bool × Unit) × (Unit))) :=
 .ite (decide (x.1.1 < ((List.length x.2.1.1 : Nat) : Int)))
 (.ite (decide (0 ≤ x.1.1))
 (.get (nth x.2.1.1 (Int.toNat x.1.1)) fun y1 =>
 .ite (decide (((List.length y1 : Nat) : Int) > (600 : Int)))
 (.ret (.ret ((false, ()), ())))
 (.ret (.again (((IntKind.i64.wrap (x.1.1 + (1 : Int))), ()), ((x.2.1.1, x.2.1.2.1, ()), ())))))
 .fail)
 (.ret (.out ((), ((x.2.1.1, x.2.1.2.1, ()), ()))))
abbrev f32_S2 := (Int × Unit) × ((List (List UInt8) × List ((Int × List UInt8 × Unit)) × Unit) × Unit)
def f32_L2 (x : f32_S2) : Out (Round f32_S2 ((Unit) × (Unit)) ((Bool × Unit) × (Unit))) :=
 .ite (decide (x.1.1 < ((List.length x.2.1.2.1 : Nat) : Int)))
 (.ite (decide (0 ≤ x.1.1))
 (.get (nth x.2.1.2.1 (Int.toNat x.1.1)) fun y1 =>
 .ite (!(writeOkV y1.1 y1.2.1))
 (.ret (.ret ((false, ()), ())))
 (.ret (.again (((IntKind.i64.wrap (x.1.1 + (1 : Int))), ()), ((x.2.1.1, x.2.1.2.1, ()), ())))))
 .fail)
 (.ret (.out ((), ())))
def f32_tree (a0 : List (List UInt8)) (a1 : List (Int × List UInt8 × Unit)) : Out (((Bool × Unit) × Unit) × (Unit × Unit)) :=
 .ite (((((List.length a0 : Nat) : Int) != (7 : Int))) == false)
 (.ite (decide (((List.length a1 : Nat) : Int) > (20 : Int)))
 (.ret (((false, ()), ()), ((), ())))
 (.get (iter f32_L0 FUEL (((0 : Int), ()), ((a0, a1, ()), ()))) fun y1 => .alt y1 (fun y2 =>
 .get (iter f32_L2 FUEL (((0 : Int), ()), ((y2.2.1.1, y2.2.1.2.1, ()), ()))) fun y4 => .alt y4 (fun y5 =>
 .ret (((true, ()), ()), ((), ()))) (fun y6 =>
 .ret (((y6.1.1, ()), ()), ((), ())))) (fun y3 =>
 .ret (((y3.1.1, ()), ()), ((), ())))))
 (.ret (((false, ()), ()), ((), ())))
def f32_A : Nat → Option LoopAnn := fun n => annOf [(0, { head := { t := [.dead, .vptr 64000000 0, .dead, .i .i64, .dead, .dead, .dead, .dead, .dead, .dead, .dead, .dead, .dead, .dead, .dead, .dead, .dead, .dead, .dead, .dead, .dead, .dead, .dead, .dead, .dead, .dead, .dead, .dead, .dead, .dead, .dead, .dead, .dead, .dead, .dead, .dead, .dead, .dead, .dead, .dead, .dead, .dead, .dead], v := [(64000000, .var [.ro .str (some 0), .ro (.st (.cons (.int .i64) (.cons .str .nil))) (some 1)])] }, out := { t := [.dead, .vptr 64000256 0, .dead, .dead, .dead, .dead, .dead, .dead, .dead, .dead, .dead, .dead, .dead, .dead, .dead, .dead, .dead, .dead, .dead, .dead, .dead, .dead, .dead, .dead, .dead, .dead, .dead, .dead, .dead, .dead, .dead, .dead, .dead, .dead, .dead, .dead, .dead, .dead, .dead, .dead, .dead, .dead, .dead], v := [(64000256, .var [.ro .str (some 0), .ro (.st (.cons (.int .i64) (.cons .str .nil))) (some 1)])] }, ret := some { t := [.dead, .dead, .b, .dead, .dead, .dead, .dead, .dead, .dead, .dead, .dead, .dead, .dead, .dead, .dead, .dead, .dead, .dead, .dead, .dead, .dead, .dead, .dead, .dead, .dead, .dead, .dead, .dead, .dead, .dead, .dead, .dead, .dead, .dead, .dead, .dead, .dead, .dead, .dead, .dead, .dead, .dead, .dead], v := [] } }), (2, { head := { t := [.dead, .vptr 64002048 0, .dead, .dead, .i .i64, .dead, .dead, .dead, .dead, .dead, .dead, .dead, .dead, .dead, .dead, .dead, .dead, .dead, .dead, .dead, .dead, .dead, .dead, .dead, .dead, .dead, .dead, .dead, .dead, .dead, .dead, .dead, .dead, .dead, .dead, .dead, .dead, .dead, .dead, .dead, .dead, .dead, .dead], v := [(64002048, .var [.ro .str (some 0), .ro (.st (.cons (.int .i64) (.cons .str .nil))) (some 1)])] }, out := { t := [.dead, .dead, .dead, .dead, .dead, .dead, .dead, .dead, .dead, .dead, .dead, .dead, .dead, .dead, .dead, .dead, .dead, .dead, .dead, .dead, .dead, .dead, .dead, .dead, .dead, .dead, .dead, .dead, .dead, .dead, .dead, .dead, .dead, .dead, .dead, .dead, .dead, .dead, .dead, .dead, .dead, .dead, .dead], v := [] }, ret := some { t := [.dead, .dead, .b, .dead, .dead, .dead, .dead, .dead, .dead, .dead, .dead, .dead, .dead, .dead, .dead, .dead, .dead, .dead, .dead, .dead, .dead, .dead, .dead, .dead, .dead, .dead, .dead, .dead, .dead, .dead, .dead, .dead, .dead, .dead, .dead, .dead, .dead, .dead, .dead, .dead, .dead, .dead, .dead], v := [] } })] n
def k32 : Con := { f := 32, lend := true, its := [⟨false, true, [.ro .str, .ro (.st (.cons (.int .i64) (.cons .str .nil)))]⟩], lay := [none], rs := [⟨false, false, [.b]⟩], F := fun x => .ret ((((diskOkV x.1.1 x.1.2.1), ()), ()), ((), ())) }
theorem f32_eq (x : itemsD k32.its) : bodyOut (cxOf [k64]) (f32_A) (codeOf Tryz.f32) k32.its k32.lay Tryz.f32.ntmps k32.rs [.tmp 2] x = f32_tree x.1.1 x.1.2.1 := by kernel_rfl
theorem f32_ok (hr : ∀ x : (List (List UInt8) × List (Int × List UInt8 × Unit) × Unit) × Unit, itemsWF k32.its x → (f32_tree x.1.1 x.1.2.1).eval = (k32.F x).eval) : k32.Ok Tryz.prog :=
  con_fn [k64] ⟨k64_ok, trivial⟩ (by kernel_rfl) (codeOf_eq (by kernel_rfl)) (by kernel_rfl) (by kernel_rfl) (by kernel_rfl) f32_eq fun x hw _ hy => (hr x hw).trans hy
theorem ne_cast {n m : Nat} : (((n : Nat) : Int) != ((m : Nat) : Int)) = !decide (n = m) := by
  rw [Bool.eq_iff_iff]; simp; omega
theorem gt_cast {n m : Nat} : decide (((n : Nat) : Int) > ((m : Nat) : Int)) = !decide (n ≤ m) := by
  rw [Bool.eq_iff_iff]; simp
theorem k32_ok : k32.Ok Tryz.prog := by
  refine f32_ok fun x hw => ?_
  obtain ⟨⟨a, b, _⟩, _⟩ := x
  have ha : a.length ≤ BIG := hw.1.1.1
  have hb : b.length ≤ BIG := hw.1.2.1.1
  show (f32_tree a b).eval = some (((diskOkV a b, ()), ()), ((), ()))
  unfold f32_tree diskOkV
  have e1 : (((a.length : Nat) : Int) != (7 : Int)) = !decide (a.length = 7) := ne_cast (m := 7)
  have e2 : decide (((b.length : Nat) : Int) > (20 : Int)) = !decide (b.length ≤ 20) := gt_cast (m := 20)
  rw [e1, e2]
  by_cases h1 : a.length = 7
  · by_cases h2 : b.length ≤ 20
    · rw [eval_ite_t (by simp [h1]), eval_ite_f (by simp [h2])]
      have l1 := all_loop (f := f32_L0) a (fun x => decide (x.length ≤ 600)) (fun i => ((((i : Nat) : Int), ()), ((a, (b, ())), ()))) (y := ((), ((a, (b, ())), ()))) (z := ((false, ()), ()))
        (fun i hi hp => by
          have g1 := wrap_succ (i := i) (by omega)
          have g3 : ¬ (600 : Int) < ((a[i].length : Nat) : Int) := by have := of_decide_eq_true hp; omega
          simp [f32_L0, Out.eval, hi, g1, g3])
        (fun i hi hp => by
          have g3 : (600 : Int) < ((a[i].length : Nat) : Int) := by have := of_decide_eq_false hp; omega
          simp [f32_L0, Out.eval, hi, g3])
        (by simp [f32_L0, Out.eval]) ha
      have l2 := all_loop (f := f32_L2) b (fun x : WriteD => writeOkV x.1 x.2.1) (fun i => ((((i : Nat) : Int), ()), ((a, (b, ())), ()))) (y := ((), ())) (z := ((false, ()), ()))
        (fun i hi hp => by
          have g1 := wrap_succ (i := i) (by omega)
          simp [f32_L2, Out.eval, hi, g1, hp])
        (fun i hi hp => by simp [f32_L2, Out.eval, hi, hp])
        (by simp [f32_L2, Out.eval]) hb
      refine (eval_get_some l1).trans ?_
      by_cases q1 : a.all (fun x => decide (x.length ≤ 600)) = true
      · rw [if_pos q1]
        refine (eval_get_some l2).trans ?_
        by_cases q2 : b.all (fun x => writeOkV x.1 x.2.1) = true
        · rw [if_pos q2, q1, q2]; simp [h1, h2]; rfl
        · rw [if_neg q2, q1, Bool.eq_false_iff.2 q2]; simp [h1, h2]; rfl
      · rw [if_neg q1, Bool.eq_false_iff.2 q1]; simp; rfl
    · rw [eval_ite_t (by simp [h1]), eval_ite_t (by simp [h2])]; simp [h2]; rfl
  · rw [eval_ite_f (by simp [h1])]; simp [h1]; rfl
def f45_tree (a0 : Int) (a1 : Int) (a2 : Int) : Out (((Bool × Unit) × Unit) × (Unit × Unit × Unit × Unit)) :=
 .ite ((decide (a0 ≥ a1)) == true)
 (.ret ((((decide (a0 ≤ a2)), ()), ()), ((), (), (), ())))
 (.ret (((false, ()), ()), ((), (), (), ())))
def inV (x a b : Int) : Bool := decide (a ≤ x) && decide (x ≤ b)
def k45 : Con := { f := 45, lend := true, its := [⟨false, false, [.i .i64]⟩, ⟨false, false, [.i .i64]⟩, ⟨false, false, [.i .i64]⟩], lay := [none, none, none], rs := [⟨false, false, [.b]⟩], F := fun x => .ret ((((inV x.1.1 x.2.1.1 x.2.2.1.1), ()), ()), ((), (), (), ())) }
theorem f45_eq (x : itemsD k45.its) : bodyOut (cxOf []) (fun _ => none) (codeOf Tryz.f45) k45.its k45.lay Tryz.f45.ntmps k45.rs [.tmp 6] x = f45_tree x.1.1 x.2.1.1 x.2.2.1.1 := by kernel_rfl
theorem f45_ok (hr : ∀ x : (Int × Unit) × (Int × Unit) × (Int × Unit) × Unit, itemsWF k45.its x → (f45_tree x.1.1 x.2.1.1 x.2.2.1.1).eval = (k45.F x).eval) : k45.Ok Tryz.prog :=
  con_fn [] trivial (by kernel_rfl) (codeOf_eq (by kernel_rfl)) (by kernel_rfl) (by kernel_rfl) (by kernel_rfl) f45_eq fun x hw _ hy => (hr x hw).trans hy
theorem k45_ok : k45.Ok Tryz.prog := by
  refine f45_ok fun x _ => ?_
  obtain ⟨⟨x, _⟩, ⟨a, _⟩, ⟨b, _⟩, _⟩ := x
  show (f45_tree x a b).eval = some (((inV x a b, ()), ()), ((), ((), ((), ()))))
  unfold f45_tree inV
  by_cases h1 : a ≤ x <;> simp [Out.eval, h1]
def f34_tree (a0 : Int) (a1 : Int) (a2 : Int) : Out (((Bool × Unit) × Unit) × (Unit × Unit × Unit × Unit)) :=
 .ite ((decide (a0 ≥ a1)) == true)
 (.ret ((((decide (a0 ≤ a2)), ()), ()), ((), (), (), ())))
 (.ret (((false, ()), ()), ((), (), (), ())))
def k34 : Con := { f := 34, lend := true, its := [⟨false, false, [.i .i64]⟩, ⟨false, false, [.i .i64]⟩, ⟨false, false, [.i .i64]⟩], lay := [none, none, none], rs := [⟨false, false, [.b]⟩], F := fun x => .ret ((((inV x.1.1 x.2.1.1 x.2.2.1.1), ()), ()), ((), (), (), ())) }
theorem f34_eq (x : itemsD k34.its) : bodyOut (cxOf []) (fun _ => none) (codeOf Tryz.f34) k34.its k34.lay Tryz.f34.ntmps k34.rs [.tmp 6] x = f34_tree x.1.1 x.2.1.1 x.2.2.1.1 := by kernel_rfl
theorem f34_ok (hr : ∀ x : (Int × Unit) × (Int × Unit) × (Int × Unit) × Unit, itemsWF k34.its x → (f34_tree x.1.1 x.2.1.1 x.2.2.1.1).eval = (k34.F x).eval) : k34.Ok Tryz.prog :=
  con_fn [] trivial (by kernel_rfl) (codeOf_eq (by kernel_rfl)) (by kernel_rfl) (by kernel_rfl) (by kernel_rfl) f34_eq fun x hw _ hy => (hr x hw).trans hy
theorem k34_ok : k34.Ok Tryz.prog := by
  refine f34_ok fun x _ => ?_
  obtain ⟨⟨x, _⟩, ⟨a, _⟩, ⟨b, _⟩, _⟩ := x
  show (f34_tree x a b).eval = some (((inV x a b, ()), ()), ((), ((), ((), ()))))
  unfold f34_tree inV
  by_cases h1 : a ≤ x <;> simp [Out.eval, h1]
def f78_tree (a0 : Int) (a1 : List UInt8) : Out (((Bool × Unit) × Unit) × (Unit × Unit)) :=
 .ite ((inV a0 (0 : Int) (6 : Int)) == true)
 (.ret ((((decide (((List.length a1 : Nat) : Int) ≤ (600 : Int))), ()), ()), ((), ())))
 (.ret (((false, ()), ()), ((), ())))
def k78 : Con := { f := 78, lend := true, its := [⟨false, true, [.i .i64, .s]⟩], lay := [none], rs := [⟨false, false, [.b]⟩], F := fun x => .ret ((((writeOkV x.1.1 x.1.2.1), ()), ()), ((), ())) }
theorem f78_eq (x : itemsD k78.its) : bodyOut (cxOf [k45]) (fun _ => none) (codeOf Tryz.f78) k78.its k78.lay Tryz.f78.ntmps k78.rs [.tmp 2] x = f78_tree x.1.1 x.1.2.1 := by kernel_rfl
theorem f78_ok (hr : ∀ x : (Int × List UInt8 × Unit) × Unit, itemsWF k78.its x → (f78_tree x.1.1 x.1.2.1).eval = (k78.F x).eval) : k78.Ok Tryz.prog :=
  con_fn [k45] ⟨k45_ok, trivial⟩ (by kernel_rfl) (codeOf_eq (by kernel_rfl)) (by kernel_rfl) (by kernel_rfl) (by kernel_rfl) f78_eq fun x hw _ hy => (hr x hw).trans hy
theorem k78_ok : k78.Ok Tryz.prog := by
  refine f78_ok fun x _ => ?_
  obtain ⟨⟨b, t, _⟩, _⟩ := x
  show (f78_tree b t).eval = some (((writeOkV b t, ()), ()), ((), ()))
  unfold f78_tree writeOkV inV
  have h3 : decide (((t.length : Nat) : Int) ≤ (600 : Int)) = decide (t.length ≤ 600) := le_cast (m := 600)
  have h4 : decide (b ≤ 6) = decide (b < 7) := by rw [Bool.eq_iff_iff]; simp; omega
  rw [h3, h4]
  by_cases h1 : 0 ≤ b <;> by_cases h2 : b < 7 <;> simp [Out.eval, h1, h2]
def f75_tree (a0 : List UInt8) : Out (((Bool × Unit) × Unit) × (Unit × Unit)) :=
 .ret ((((decide (((List.length a0 : Nat) : Int) > (600 : Int))), ()), ()), ((), ()))
def tooLongV (t : Str) : Bool := !decide (t.length ≤ 600)
def k75 : Con := { f := 75, lend := true, its := [⟨false, false, [.s]⟩], lay := [none], rs := [⟨false, false, [.b]⟩], F := fun x => .ret ((((tooLongV x.1.1), ()), ()), ((), ())) }
theorem f75_eq (x : itemsD k75.its) : bodyOut (cxOf []) (fun _ => none) (codeOf Tryz.f75) k75.its k75.lay Tryz.f75.ntmps k75.rs [.tmp 2] x = f75_tree x.1.1 := by kernel_rfl
theorem f75_ok (hr : ∀ x : (List UInt8 × Unit) × Unit, itemsWF k75.its x → (f75_tree x.1.1).eval = (k75.F x).eval) : k75.Ok Tryz.prog :=
  con_fn [] trivial (by kernel_rfl) (codeOf_eq (by kernel_rfl)) (by kernel_rfl) (by kernel_rfl) (by kernel_rfl) f75_eq fun x hw _ hy => (hr x hw).trans hy
theorem k75_ok : k75.Ok Tryz.prog := by
  refine f75_ok fun x _ => ?_
  obtain ⟨⟨t, _⟩, _⟩ := x
  show (f75_tree t).eval = some (((tooLongV t, ()), ()), ((), ()))
  unfold f75_tree tooLongV
  have g2 : decide (((t.length : Nat) : Int) > (600 : Int)) = !decide (t.length ≤ 600) := gt_cast (m := 600)
  rw [g2]
  rfl
def f77_tree (a0 : Int) (a1 : List UInt8) : Out (((Bool × Unit) × Unit) × (Unit × Unit)) :=
 .ret ((((!(writeOkV a0 a1)), ()), ()), ((), ()))
def writeNotV (b : Int) (t : Str) : Bool := !writeOkV b t
def k77 : Con := { f := 77, lend := true, its := [⟨false, true, [.i .i64, .s]⟩], lay := [none], rs := [⟨false, false, [.b]⟩], F := fun x => .ret ((((writeNotV x.1.1 x.1.2.1), ()), ()), ((), ())) }
theorem f77_eq (x : itemsD k77.its) : bodyOut (cxOf [k78]) (fun _ => none) (codeOf Tryz.f77) k77.its k77.lay Tryz.f77.ntmps k77.rs [.tmp 2] x = f77_tree x.1.1 x.1.2.1 := by kernel_rfl
theorem f77_ok (hr : ∀ x : (Int × List UInt8 × Unit) × Unit, itemsWF k77.its x → (f77_tree x.1.1 x.1.2.1).eval = (k77.F x).eval) : k77.Ok Tryz.prog :=
  con_fn [k78] ⟨k78_ok, trivial⟩ (by kernel_rfl) (codeOf_eq (by kernel_rfl)) (by kernel_rfl) (by kernel_rfl) (by kernel_rfl) f77_eq fun x hw _ hy => (hr x hw).trans hy
theorem k77_ok : k77.Ok Tryz.prog := f77_ok fun _ _ => rfl
/-- A place, or -1. -/
def idxV : Option Nat → Int
  | some i => ((i : Nat) : Int)
  | none => -1
theorem idxV_ge {α : Type} (a : List α) (p : α → Bool) : decide (idxV (a.findIdx? p) ≥ 0) = a.any p := by
  cases h : a.findIdx? p with
  | none =>
    rw [List.findIdx?_eq_none_iff] at h
    have : a.any p = false := by rw [List.any_eq_false]; intro x hx; simp [h x hx]
    rw [this]; rfl
  | some i =>
    rw [List.findIdx?_eq_some_iff_getElem] at h
    obtain ⟨hi, hp, _⟩ := h
    have : a.any p = true := List.any_eq_true.2 ⟨a[i], List.getElem_mem hi, hp⟩
    rw [this]
    exact decide_eq_true (by show ((i : Nat) : Int) ≥ 0; omega)
abbrev f99_S0 := (List (List UInt8) × Int × Int × Unit) × (Unit)
def f99_L0 (x : f99_S0) : Out (Round f99_S0 ((Unit) × (Unit)) ((Int × Unit) × (Unit))) :=
 .ite (decide (x.1.2.2.1 < x.1.2.1))
 (.ite (decide (0 ≤ x.1.2.2.1))
 (.get (nth x.1.1 (Int.toNat x.1.2.2.1)) fun y1 =>
 .ite (tooLongV y1)
 (.ret (.ret ((x.1.2.2.1, ()), ())))
 (.ret (.again ((x.1.1, x.1.2.1, (IntKind.i64.wrap (x.1.2.2.1 + (1 : Int))), ()), ()))))
 .fail)
 (.ret (.out ((), ())))
def f99_tree (a0 : List (List UInt8)) : Out (((Int × Unit) × Unit) × (Unit × Unit)) :=
 .get (iter f99_L0 FUEL ((a0, ((List.length a0 : Nat) : Int), (0 : Int), ()), ())) fun y1 => .alt y1 (fun y2 =>
 .ret ((((-1 : Int), ()), ()), ((), ()))) (fun y3 =>
 .ret (((y3.1.1, ()), ()), ((), ())))
def f99_A : Nat → Option LoopAnn := fun n => annOf [(0, { head := { t := [.ro .str (some 0), .fn 75 [], .dead, .dead, .dead, .dead, .dead, .i .i64, .i .i64, .dead, .dead, .dead, .dead, .dead, .dead, .dead, .dead, .dead, .dead], v := [] }, out := { t := [.dead, .dead, .dead, .dead, .dead, .dead, .dead, .dead, .dead, .dead, .dead, .dead, .dead, .dead, .dead, .dead, .dead, .dead, .dead], v := [] }, ret := some { t := [.dead, .dead, .dead, .dead, .i .i64, .dead, .dead, .dead, .dead, .dead, .dead, .dead, .dead, .dead, .dead, .dead, .dead, .dead, .dead], v := [] } })] n
def indexLongV (a : List Str) : Int := idxV (a.findIdx? tooLongV)
def k99 : Con := { f := 99, lend := true, its := [⟨false, false, [.ro .str]⟩], lay := [none, some (75, 0)], rs := [⟨false, false, [.i .i64]⟩], F := fun x => .ret ((((indexLongV x.1.1), ()), ()), ((), ())) }
theorem f99_eq (x : itemsD k99.its) : bodyOut (cxOf [k75]) (f99_A) (codeOf Tryz.f99) k99.its k99.lay Tryz.f99.ntmps k99.rs [.tmp 4] x = f99_tree x.1.1 := by kernel_rfl
theorem f99_ok (hr : ∀ x : (List (List UInt8) × Unit) × Unit, itemsWF k99.its x → (f99_tree x.1.1).eval = (k99.F x).eval) : k99.Ok Tryz.prog :=
  con_fn [k75] ⟨k75_ok, trivial⟩ (by kernel_rfl) (codeOf_eq (by kernel_rfl)) (by kernel_rfl) (by kernel_rfl) (by kernel_rfl) f99_eq fun x hw _ hy => (hr x hw).trans hy
theorem k99_ok : k99.Ok Tryz.prog := by
  refine f99_ok fun x hw => ?_
  obtain ⟨⟨a, _⟩, _⟩ := x
  have ha : a.length ≤ BIG := hw.1.1.1
  show (f99_tree a).eval = some (((indexLongV a, ()), ()), ((), ()))
  unfold f99_tree indexLongV
  have := idx_loop (f := f99_L0) a tooLongV (fun i => ((a, (((a.length : Nat) : Int), (((i : Nat) : Int), ()))), ())) (y := ((), ())) (z := fun i => ((((i : Nat) : Int), ()), ()))
    (fun i hi hp => by
      have g1 := wrap_succ (i := i) (by omega)
      simp [f99_L0, Out.eval, hi, g1, hp])
    (fun i hi hp => by simp [f99_L0, Out.eval, hi, hp])
    (by simp [f99_L0, Out.eval]) ha
  refine (eval_get_some this).trans ?_
  cases a.findIdx? tooLongV <;> rfl
def f74_tree (a0 : List (List UInt8)) : Out (((Bool × Unit) × Unit) × (Unit × Unit)) :=
 .ret ((((decide ((indexLongV a0) ≥ (0 : Int))), ()), ()), ((), ()))
def anyLongV (a : List Str) : Bool := a.any tooLongV
def k74 : Con := { f := 74, lend := true, its := [⟨false, false, [.ro .str]⟩], lay := [none, some (75, 0)], rs := [⟨false, false, [.b]⟩], F := fun x => .ret ((((anyLongV x.1.1), ()), ()), ((), ())) }
theorem f74_eq (x : itemsD k74.its) : bodyOut (cxOf [k99]) (fun _ => none) (codeOf Tryz.f74) k74.its k74.lay Tryz.f74.ntmps k74.rs [.tmp 4] x = f74_tree x.1.1 := by kernel_rfl
theorem f74_ok (hr : ∀ x : (List (List UInt8) × Unit) × Unit, itemsWF k74.its x → (f74_tree x.1.1).eval = (k74.F x).eval) : k74.Ok Tryz.prog :=
  con_fn [k99] ⟨k99_ok, trivial⟩ (by kernel_rfl) (codeOf_eq (by kernel_rfl)) (by kernel_rfl) (by kernel_rfl) (by kernel_rfl) f74_eq fun x hw _ hy => (hr x hw).trans hy
theorem k74_ok : k74.Ok Tryz.prog := by
  refine f74_ok fun x _ => ?_
  obtain ⟨⟨a, _⟩, _⟩ := x
  show (f74_tree a).eval = some (((anyLongV a, ()), ()), ((), ()))
  unfold f74_tree anyLongV indexLongV
  rw [idxV_ge]
  rfl
abbrev f100_S0 := (List ((Int × List UInt8 × Unit)) × Int × Int × Unit) × (Unit)
def f100_L0 (x : f100_S0) : Out (Round f100_S0 ((Unit) × (Unit)) ((Int × Unit) × (Unit))) :=
 .ite (decide (x.1.2.2.1 < x.1.2.1))
 (.ite (decide (0 ≤ x.1.2.2.1))
 (.get (nth x.1.1 (Int.toNat x.1.2.2.1)) fun y1 =>
 .ite (writeNotV y1.1 y1.2.1)
 (.ret (.ret ((x.1.2.2.1, ()), ())))
 (.ret (.again ((x.1.1, x.1.2.1, (IntKind.i64.wrap (x.1.2.2.1 + (1 : Int))), ()), ()))))
 .fail)
 (.ret (.out ((), ())))
def f100_tree (a0 : List (Int × List UInt8 × Unit)) : Out (((Int × Unit) × Unit) × (Unit × Unit)) :=
 .get (iter f100_L0 FUEL ((a0, ((List.length a0 : Nat) : Int), (0 : Int), ()), ())) fun y1 => .alt y1 (fun y2 =>
 .ret ((((-1 : Int), ()), ()), ((), ()))) (fun y3 =>
 .ret (((y3.1.1, ()), ()), ((), ())))
def f100_A : Nat → Option LoopAnn := fun n => annOf [(0, { head := { t := [.ro (.st (.cons (.int .i64) (.cons .str .nil))) (some 0), .fn 77 [], .dead, .dead, .dead, .dead, .dead, .i .i64, .i .i64, .dead, .dead, .dead, .dead, .dead, .dead, .dead, .dead, .dead, .dead], v := [] }, out := { t := [.dead, .dead, .dead, .dead, .dead, .dead, .dead, .dead, .dead, .dead, .dead, .dead, .dead, .dead, .dead, .dead, .dead, .dead, .dead], v := [] }, ret := some { t := [.dead, .dead, .dead, .dead, .i .i64, .dead, .dead, .dead, .dead, .dead, .dead, .dead, .dead, .dead, .dead, .dead, .dead, .dead, .dead], v := [] } })] n
def indexBadV (a : List WriteD) : Int := idxV (a.findIdx? fun x => writeNotV x.1 x.2.1)
def k100 : Con := { f := 100, lend := true, its := [⟨false, false, [.ro (.st (.cons (.int .i64) (.cons .str .nil)))]⟩], lay := [none, some (77, 0)], rs := [⟨false, false, [.i .i64]⟩], F := fun x => .ret ((((indexBadV x.1.1), ()), ()), ((), ())) }
theorem f100_eq (x : itemsD k100.its) : bodyOut (cxOf [k77]) (f100_A) (codeOf Tryz.f100) k100.its k100.lay Tryz.f100.ntmps k100.rs [.tmp 4] x = f100_tree x.1.1 := by kernel_rfl
theorem f100_ok (hr : ∀ x : (List (Int × List UInt8 × Unit) × Unit) × Unit, itemsWF k100.its x → (f100_tree x.1.1).eval = (k100.F x).eval) : k100.Ok Tryz.prog :=
  con_fn [k77] ⟨k77_ok, trivial⟩ (by kernel_rfl) (codeOf_eq (by kernel_rfl)) (by kernel_rfl) (by kernel_rfl) (by kernel_rfl) f100_eq fun x hw _ hy => (hr x hw).trans hy
theorem k100_ok : k100.Ok Tryz.prog := by
  refine f100_ok fun x hw => ?_
  obtain ⟨⟨a, _⟩, _⟩ := x
  have ha : a.length ≤ BIG := hw.1.1.1
  show (f100_tree a).eval = some (((indexBadV a, ()), ()), ((), ()))
  unfold f100_tree indexBadV
  have := idx_loop (f := f100_L0) a (fun x : WriteD => writeNotV x.1 x.2.1) (fun i => ((a, (((a.length : Nat) : Int), (((i : Nat) : Int), ()))), ())) (y := ((), ())) (z := fun i => ((((i : Nat) : Int), ()), ()))
    (fun i hi hp => by
      have g1 := wrap_succ (i := i) (by omega)
      simp [f100_L0, Out.eval, hi, g1, hp])
    (fun i hi hp => by simp [f100_L0, Out.eval, hi, hp])
    (by simp [f100_L0, Out.eval]) ha
  refine (eval_get_some this).trans ?_
  cases a.findIdx? (fun x : WriteD => writeNotV x.1 x.2.1) <;> rfl
def f76_tree (a0 : List (Int × List UInt8 × Unit)) : Out (((Bool × Unit) × Unit) × (Unit × Unit)) :=
 .ret ((((decide ((indexBadV a0) ≥ (0 : Int))), ()), ()), ((), ()))
def anyBadV (a : List WriteD) : Bool := a.any fun x => writeNotV x.1 x.2.1
def k76 : Con := { f := 76, lend := true, its := [⟨false, false, [.ro (.st (.cons (.int .i64) (.cons .str .nil)))]⟩], lay := [none, some (77, 0)], rs := [⟨false, false, [.b]⟩], F := fun x => .ret ((((anyBadV x.1.1), ()), ()), ((), ())) }
theorem f76_eq (x : itemsD k76.its) : bodyOut (cxOf [k100]) (fun _ => none) (codeOf Tryz.f76) k76.its k76.lay Tryz.f76.ntmps k76.rs [.tmp 4] x = f76_tree x.1.1 := by kernel_rfl
theorem f76_ok (hr : ∀ x : (List (Int × List UInt8 × Unit) × Unit) × Unit, itemsWF k76.its x → (f76_tree x.1.1).eval = (k76.F x).eval) : k76.Ok Tryz.prog :=
  con_fn [k100] ⟨k100_ok, trivial⟩ (by kernel_rfl) (codeOf_eq (by kernel_rfl)) (by kernel_rfl) (by kernel_rfl) (by kernel_rfl) f76_eq fun x hw _ hy => (hr x hw).trans hy
theorem k76_ok : k76.Ok Tryz.prog := by
  refine f76_ok fun x _ => ?_
  obtain ⟨⟨a, _⟩, _⟩ := x
  show (f76_tree a).eval = some (((anyBadV a, ()), ()), ((), ()))
  unfold f76_tree anyBadV indexBadV
  rw [idxV_ge]
  rfl
theorem not_any {α : Type} (a : List α) (p : α → Bool) : (!a.any fun x => !p x) = a.all p := by
  rw [Bool.eq_iff_iff]; simp
def f43_tree (a0 : List (List UInt8)) (a1 : List (Int × List UInt8 × Unit)) : Out (((Bool × Unit) × Unit) × (Unit × Unit)) :=
 .ite (((((List.length a0 : Nat) : Int) != (7 : Int))) == false)
 (.ite ((decide (((List.length a1 : Nat) : Int) > (20 : Int))) == false)
 (.ite (anyLongV a0)
 (.ret (((false, ()), ()), ((), ())))
 (.ret ((((!(anyBadV a1)), ()), ()), ((), ()))))
 (.ret (((false, ()), ()), ((), ()))))
 (.ret (((false, ()), ()), ((), ())))
def k43 : Con := { f := 43, lend := true, its := [⟨false, true, [.ro .str, .ro (.st (.cons (.int .i64) (.cons .str .nil)))]⟩], lay := [none], rs := [⟨false, false, [.b]⟩], F := fun x => .ret ((((diskOkV x.1.1 x.1.2.1), ()), ()), ((), ())) }
theorem f43_eq (x : itemsD k43.its) : bodyOut (cxOf [k74, k76]) (fun _ => none) (codeOf Tryz.f43) k43.its k43.lay Tryz.f43.ntmps k43.rs [.tmp 2] x = f43_tree x.1.1 x.1.2.1 := by kernel_rfl
theorem f43_ok (hr : ∀ x : (List (List UInt8) × List (Int × List UInt8 × Unit) × Unit) × Unit, itemsWF k43.its x → (f43_tree x.1.1 x.1.2.1).eval = (k43.F x).eval) : k43.Ok Tryz.prog :=
  con_fn [k74, k76] ⟨k74_ok, k76_ok, trivial⟩ (by kernel_rfl) (codeOf_eq (by kernel_rfl)) (by kernel_rfl) (by kernel_rfl) (by kernel_rfl) f43_eq fun x hw _ hy => (hr x hw).trans hy
theorem k43_ok : k43.Ok Tryz.prog := by
  refine f43_ok fun x _ => ?_
  obtain ⟨⟨a, b, _⟩, _⟩ := x
  show (f43_tree a b).eval = some (((diskOkV a b, ()), ()), ((), ()))
  unfold f43_tree diskOkV
  have e1 : (((a.length : Nat) : Int) != (7 : Int)) = !decide (a.length = 7) := ne_cast (m := 7)
  have e2 : decide (((b.length : Nat) : Int) > (20 : Int)) = !decide (b.length ≤ 20) := gt_cast (m := 20)
  have e3 : a.all (fun x => decide (x.length ≤ 600)) = !anyLongV a := (not_any a _).symm
  have e4 : b.all (fun x => writeOkV x.1 x.2.1) = !anyBadV b := (not_any b _).symm
  rw [e1, e2, e3, e4]
  by_cases h1 : a.length = 7 <;> by_cases h2 : b.length ≤ 20 <;> cases h3 : anyLongV a <;> simp [Out.eval, h1, h2]

end Go.Proofs.YtjcinikojcfebaaGreat.Dm
