/- Functions of the program, and what they compute. -/
import Derived.Test.YtjcinikojcfebaaA2
namespace Go.Proofs.Ytjcinikojcfebaa.Dm
open Go Go.ChangeShapes Go.WideShapes Go.ChangeAt Go.RowKit

/-! ## Kinds of loops over a list -/
section
variable {α σ β γ : Type} {f : σ → Out (Round σ β γ)}

/-- Something carried along, until it is used up. -/
def foldG {δ : Type} (g : δ → α → δ) (bad : δ → Bool) : δ → List α → Option δ
  | l, [] => some l
  | l, x :: r => if bad (g l x) = true then none else foldG g bad (g l x) r
theorem fold_loop {δ : Type} (a : List α) (S : δ → Nat → σ) (g : δ → α → δ) (bad : δ → Bool) {y : δ → β} {z : γ}
    (hs : ∀ i (hi : i < a.length) l, bad (g l a[i]) = false → (f (S l i)).eval = some (.again (S (g l a[i]) (i + 1)))) (hz : ∀ i (hi : i < a.length) l, bad (g l a[i]) = true → (f (S l i)).eval = some (.ret z))
    (hy : ∀ l, (f (S l a.length)).eval = some (.out (y l))) (ha : a.length ≤ BIG) (l : δ) :
    iter f FUEL (S l 0) = some (match foldG g bad l a with | some l' => .inl (y l') | none => .inr z) := by
  have key : ∀ (m : Nat) (l : δ) (i n : Nat), i + m = a.length → m < n → iter f n (S l i) = some (match foldG g bad l (a.drop i) with | some l' => .inl (y l') | none => .inr z) := by
    intro m
    induction m with
    | zero =>
      intro l i n hi hn
      have : i = a.length := by omega
      subst this
      rw [iter_out' (hy l) hn, List.drop_length]
      rfl
    | succ m ih =>
      intro l i n hi hn
      have hlt : i < a.length := by omega
      rw [List.drop_eq_getElem_cons hlt]
      simp only [foldG]
      cases hb : bad (g l a[i]) with
      | true => rw [iter_ret' (hz i hlt l hb) (by omega)]; rfl
      | false =>
        obtain ⟨n, rfl⟩ : ∃ n', n = n' + 1 := ⟨n - 1, by omega⟩
        rw [iter_again (hs i hlt l hb), ih _ (i + 1) n (by omega) (by omega)]
        rfl
  have := key a.length l 0 FUEL (by omega) (lt_fuel ha)
  simpa using this

/-- Where is the first one of a kind? -/
theorem idx_loop (a : List α) (p : α → Bool) (S : Nat → σ) {y : β} {z : Nat → γ} (hs : ∀ i (hi : i < a.length), p a[i] = false → (f (S i)).eval = some (.again (S (i + 1))))
    (hz : ∀ i (hi : i < a.length), p a[i] = true → (f (S i)).eval = some (.ret (z i))) (hy : (f (S a.length)).eval = some (.out y)) (ha : a.length ≤ BIG) :
    iter f FUEL (S 0) = some (match a.findIdx? p with | some i => .inr (z i) | none => .inl y) := by
  cases h : a.findIdx? p with
  | none =>
    rw [List.findIdx?_eq_none_iff] at h
    exact iter_out S a.length (lt_fuel ha) (fun i hi => hs i hi (h _ (List.getElem_mem hi))) hy
  | some i =>
    rw [List.findIdx?_eq_some_iff_getElem] at h
    obtain ⟨hi, hp, hmin⟩ := h
    exact iter_ret S i (Nat.lt_of_le_of_lt (by omega) (lt_fuel ha)) (fun j hj => hs j (by omega) (by simpa using hmin j hj)) (hz i hi hp)
/-- Is each item right? -/
theorem all_loop (a : List α) (p : α → Bool) (S : Nat → σ) {y : β} {z : γ} (hs : ∀ i (hi : i < a.length), p a[i] = true → (f (S i)).eval = some (.again (S (i + 1))))
    (hz : ∀ i (hi : i < a.length), p a[i] = false → (f (S i)).eval = some (.ret z)) (hy : (f (S a.length)).eval = some (.out y)) (ha : a.length ≤ BIG) :
    iter f FUEL (S 0) = some (if a.all p = true then .inl y else .inr z) := by
  rw [idx_loop (f := f) a (fun x => !p x) S (y := y) (z := fun _ => z) (fun i hi hp => hs i hi (by simpa using hp)) (fun i hi hp => hz i hi (by simpa using hp)) hy ha]
  cases h : a.findIdx? (fun x => !p x) with
  | none =>
    rw [List.findIdx?_eq_none_iff] at h
    rw [if_pos (List.all_eq_true.2 fun x hx => by simpa using h x hx)]
  | some i =>
    rw [List.findIdx?_eq_some_iff_getElem] at h
    obtain ⟨hi, hp, _⟩ := h
    rw [if_neg (fun q => by have := List.all_eq_true.1 q _ (List.getElem_mem hi); rw [this] at hp; exact absurd hp (by decide))]

end

/-- A list made item by item. -/
theorem copy_loop {α β σ : Type} {f : σ → Out (Round σ (Unit × List β × Unit) Empty)} (a : List α) (g : α → β) (b0 : List β) (S : Nat → List β → σ) (hb : b0.length = a.length) (ha : a.length ≤ BIG)
    (hs : ∀ i (hi : i < a.length) (l : List β) (hl : l.length = a.length), (f (S i l)).eval = some (.again (S (i + 1) (l.set i (g a[i]))))) (hy : ∀ l, (f (S a.length l)).eval = some (.out ((), (l, ())))) :
    iter1 f FUEL (S 0 b0) = some ((), (a.map g, ())) := by
  have h := iter1_out (f := f) (fun i => S i (((a.map g).take i) ++ b0.drop i)) a.length (y := ((), (a.map g, ()))) (lt_fuel ha)
    (fun i hi => by
      rw [hs i hi _ (by simp; omega)]
      congr 3
      apply List.ext_getElem?
      intro j
      rw [List.getElem?_set]
      by_cases hj : i = j
      · subst hj
        rw [if_pos rfl, if_pos (by simp; omega), List.getElem?_append_left (by simp; omega), List.getElem?_take_of_lt (by omega), List.getElem?_map, List.getElem?_eq_getElem hi]
        rfl
      · rw [if_neg hj]
        by_cases hlt : j < i
        · rw [List.getElem?_append_left (by simp; omega), List.getElem?_append_left (by simp; omega), List.getElem?_take_of_lt hlt, List.getElem?_take_of_lt (by omega)]
        · rw [List.getElem?_append_right (by simp; omega), List.getElem?_append_right (by simp; omega), List.getElem?_drop, List.getElem?_drop]
          congr 1
          simp
          omega)
    (by
      rw [hy]
      congr 4
      rw [List.drop_of_length_le (by omega), List.append_nil, List.take_of_length_le (by simp)])
  simpa using h

/-! ## How great a disk is -/
def f155_tree (a0 : Int) (a1 : List UInt8) (a2 : Int) : Out (((Int × Unit) × Unit) × (Unit × Unit × Unit)) :=
 .ite (decide ((IntKind.i64.wrap (a2 - ((List.length a1 : Nat) : Int))) < (0 : Int)))
 (.ret ((((-1 : Int), ()), ()), ((), (), ())))
 (.ret ((((IntKind.i64.wrap (a2 - ((List.length a1 : Nat) : Int))), ()), ()), ((), (), ())))
def szWriteV (_b : Int) (t : Str) (left : Int) : Int := lessV left t.length
def k155 : Con := { f := 155, lend := true, its := [⟨false, true, [.i .i64, .s]⟩, ⟨false, false, [.i .i64]⟩], lay := [none, none], rs := [⟨false, false, [.i .i64]⟩], F := fun x => .ret ((((szWriteV x.1.1 x.1.2.1 x.2.1.1), ()), ()), ((), (), ())) }
theorem f155_eq (x : itemsD k155.its) : bodyOut (cxOf []) (fun _ => none) (codeOf Try.f155) k155.its k155.lay Try.f155.ntmps k155.rs [.tmp 4] x = f155_tree x.1.1 x.1.2.1 x.2.1.1 := by kernel_rfl
theorem f155_ok (hr : ∀ x : (Int × List UInt8 × Unit) × (Int × Unit) × Unit, itemsWF k155.its x → (f155_tree x.1.1 x.1.2.1 x.2.1.1).eval = (k155.F x).eval) : k155.Ok Try.prog :=
  con_fn [] trivial (by kernel_rfl) (codeOf_eq (by kernel_rfl)) (by kernel_rfl) (by kernel_rfl) (by kernel_rfl) f155_eq fun x hw _ hy => (hr x hw).trans hy
theorem k155_ok : k155.Ok Try.prog := by
  refine f155_ok fun x _ => ?_
  obtain ⟨⟨b, t, _⟩, ⟨k, _⟩, _⟩ := x
  show (f155_tree b t k).eval = some (((szWriteV b t k, ()), ()), ((), ((), ())))
  unfold f155_tree szWriteV lessV
  by_cases h : IntKind.i64.wrap (k - ((t.length : Nat) : Int)) < 0
  · rw [eval_ite_t (decide_eq_true h), if_pos h]; rfl
  · rw [eval_ite_f (decide_eq_false h), if_neg h]; rfl
def negB (l : Int) : Bool := decide (l < 0)
/-- A list: its length, and each item. -/
def szListV {α : Type} (g : Int → α → Int) (a : List α) (left : Int) : Int := if lessV left a.length < 0 then -1 else (foldG g negB (lessV left a.length) a).getD (-1)
theorem szListV_t {α : Type} {g : Int → α → Int} {a : List α} {left : Int} (h : IntKind.i64.wrap (left - ((a.length : Nat) : Int)) < 0) : szListV g a left = -1 := by
  unfold szListV lessV; simp [h]
theorem szListV_f {α : Type} {g : Int → α → Int} {a : List α} {left : Int} (h : ¬ IntKind.i64.wrap (left - ((a.length : Nat) : Int)) < 0) : szListV g a left = (foldG g negB (IntKind.i64.wrap (left - ((a.length : Nat) : Int))) a).getD (-1) := by
  unfold szListV lessV; simp [h]
theorem lessV_ite {left : Int} {n : Nat} : (lessV left n < 0) = (IntKind.i64.wrap (left - ((n : Nat) : Int)) < 0) := by
  unfold lessV
  split <;> simp_all
theorem lessV_eq {left : Int} {n : Nat} (h : ¬ IntKind.i64.wrap (left - ((n : Nat) : Int)) < 0) : lessV left n = IntKind.i64.wrap (left - ((n : Nat) : Int)) := if_neg h
abbrev f64_S0 := (List ((Int × List UInt8 × Unit)) × Int × Int × Unit) × (Unit)
def f64_L0 (x : f64_S0) : Out (Round f64_S0 ((Int × Unit) × (Unit)) ((Int × Unit) × (Unit))) :=
 .ite (decide (x.1.2.2.1 < ((List.length x.1.1 : Nat) : Int)))
 (.ite (decide (0 ≤ x.1.2.2.1))
 (.get (nth x.1.1 (Int.toNat x.1.2.2.1)) fun y1 =>
 .ite (decide ((szWriteV y1.1 y1.2.1 x.1.2.1) < (0 : Int)))
 (.ret (.ret (((-1 : Int), ()), ())))
 (.ret (.again ((x.1.1, (szWriteV y1.1 y1.2.1 x.1.2.1), (IntKind.i64.wrap (x.1.2.2.1 + (1 : Int))), ()), ()))))
 .fail)
 (.ret (.out ((x.1.2.1, ()), ())))
def f64_tree (a0 : List (Int × List UInt8 × Unit)) (a1 : Int) : Out (((Int × Unit) × Unit) × (Unit × Unit × Unit)) :=
 .ite (decide ((IntKind.i64.wrap (a1 - ((List.length a0 : Nat) : Int))) < (0 : Int)))
 (.ret ((((-1 : Int), ()), ()), ((), (), ())))
 (.get (iter f64_L0 FUEL ((a0, (IntKind.i64.wrap (a1 - ((List.length a0 : Nat) : Int))), (0 : Int), ()), ())) fun y1 => .alt y1 (fun y2 =>
 .ret (((y2.1.1, ()), ()), ((), (), ()))) (fun y3 =>
 .ret (((y3.1.1, ()), ()), ((), (), ()))))
def f64_A : Nat → Option LoopAnn := fun n => annOf [(0, { head := { t := [.ro (.st (.cons (.int .i64) (.cons .str .nil))) (some 0), .i .i64, .dead, .dead, .dead, .i .i64, .dead, .dead, .dead, .dead, .dead, .dead, .dead, .dead, .dead, .dead, .dead, .dead, .dead, .dead, .dead, .dead, .dead, .dead, .dead, .dead, .dead], v := [] }, out := { t := [.dead, .i .i64, .dead, .dead, .dead, .dead, .dead, .dead, .dead, .dead, .dead, .dead, .dead, .dead, .dead, .dead, .dead, .dead, .dead, .dead, .dead, .dead, .dead, .dead, .dead, .dead, .dead], v := [] }, ret := some { t := [.dead, .dead, .dead, .dead, .i .i64, .dead, .dead, .dead, .dead, .dead, .dead, .dead, .dead, .dead, .dead, .dead, .dead, .dead, .dead, .dead, .dead, .dead, .dead, .dead, .dead, .dead, .dead], v := [] } })] n
def szWritesV (a : List WriteD) (left : Int) : Int := szListV (fun l (x : WriteD) => szWriteV x.1 x.2.1 l) a left
def k64 : Con := { f := 64, lend := true, its := [⟨false, false, [.ro (.st (.cons (.int .i64) (.cons .str .nil)))]⟩, ⟨false, false, [.i .i64]⟩], lay := [none, none], rs := [⟨false, false, [.i .i64]⟩], F := fun x => .ret ((((szWritesV x.1.1 x.2.1.1), ()), ()), ((), (), ())) }
theorem f64_eq (x : itemsD k64.its) : bodyOut (cxOf [k155]) (f64_A) (codeOf Try.f64) k64.its k64.lay Try.f64.ntmps k64.rs [.tmp 4] x = f64_tree x.1.1 x.2.1.1 := by kernel_rfl
theorem f64_ok (hr : ∀ x : (List (Int × List UInt8 × Unit) × Unit) × (Int × Unit) × Unit, itemsWF k64.its x → (f64_tree x.1.1 x.2.1.1).eval = (k64.F x).eval) : k64.Ok Try.prog :=
  con_fn [k155] ⟨k155_ok, trivial⟩ (by kernel_rfl) (codeOf_eq (by kernel_rfl)) (by kernel_rfl) (by kernel_rfl) (by kernel_rfl) f64_eq fun x hw _ hy => (hr x hw).trans hy
theorem k64_ok : k64.Ok Try.prog := by
  refine f64_ok fun x hw => ?_
  obtain ⟨⟨a, _⟩, ⟨k, _⟩, _⟩ := x
  have ha : a.length ≤ BIG := hw.1.1.1
  show (f64_tree a k).eval = some (((szWritesV a k, ()), ()), ((), ((), ())))
  unfold f64_tree szWritesV
  by_cases h : IntKind.i64.wrap (k - ((a.length : Nat) : Int)) < 0
  · rw [eval_ite_t (decide_eq_true h), szListV_t h]; rfl
  · rw [eval_ite_f (decide_eq_false h), szListV_f h]
    have := fold_loop (f := f64_L0) a (fun l i => ((a, (l, (((i : Nat) : Int), ()))), ())) (fun l (x : WriteD) => szWriteV x.1 x.2.1 l) negB (y := fun l => ((l, ()), ())) (z := ((-1, ()), ()))
      (fun i hi l hb => by
        have h1 := wrap_succ (i := i) (by omega)
        have hb : ¬ szWriteV a[i].1 a[i].2.1 l < 0 := of_decide_eq_false hb
        simp [f64_L0, Out.eval, hi, h1, hb])
      (fun i hi l hb => by
        have hb : szWriteV a[i].1 a[i].2.1 l < 0 := of_decide_eq_true hb
        simp [f64_L0, Out.eval, hi, hb])
      (fun l => by simp [f64_L0, Out.eval]) ha (IntKind.i64.wrap (k - ((a.length : Nat) : Int)))
    refine (eval_get_some this).trans ?_
    cases foldG (fun l (x : WriteD) => szWriteV x.1 x.2.1 l) negB (IntKind.i64.wrap (k - ((a.length : Nat) : Int))) a <;> rfl
abbrev f85_S0 := (List (List UInt8) × Int × Int × Unit) × (Unit)
def f85_L0 (x : f85_S0) : Out (Round f85_S0 ((Int × Unit) × (Unit)) ((Int × Unit) × (Unit))) :=
 .ite (decide (x.1.2.2.1 < ((List.length x.1.1 : Nat) : Int)))
 (.ite (decide (0 ≤ x.1.2.2.1))
 (.get (nth x.1.1 (Int.toNat x.1.2.2.1)) fun y1 =>
 .ite (decide ((IntKind.i64.wrap (x.1.2.1 - ((List.length y1 : Nat) : Int))) < (0 : Int)))
 (.ret (.ret (((-1 : Int), ()), ())))
 (.ret (.again ((x.1.1, (IntKind.i64.wrap (x.1.2.1 - ((List.length y1 : Nat) : Int))), (IntKind.i64.wrap (x.1.2.2.1 + (1 : Int))), ()), ()))))
 .fail)
 (.ret (.out ((x.1.2.1, ()), ())))
def f85_tree (a0 : List (List UInt8)) (a1 : Int) : Out (((Int × Unit) × Unit) × (Unit × Unit × Unit)) :=
 .ite (decide ((IntKind.i64.wrap (a1 - ((List.length a0 : Nat) : Int))) < (0 : Int)))
 (.ret ((((-1 : Int), ()), ()), ((), (), ())))
 (.get (iter f85_L0 FUEL ((a0, (IntKind.i64.wrap (a1 - ((List.length a0 : Nat) : Int))), (0 : Int), ()), ())) fun y1 => .alt y1 (fun y2 =>
 .ret (((y2.1.1, ()), ()), ((), (), ()))) (fun y3 =>
 .ret (((y3.1.1, ()), ()), ((), (), ()))))
def f85_A : Nat → Option LoopAnn := fun n => annOf [(0, { head := { t := [.ro .str (some 0), .i .i64, .dead, .dead, .dead, .i .i64, .dead, .dead, .dead, .dead, .dead, .dead, .dead, .dead, .dead, .dead, .dead, .dead, .dead, .dead, .dead, .dead, .dead, .dead, .dead, .dead, .dead, .dead], v := [] }, out := { t := [.dead, .i .i64, .dead, .dead, .dead, .dead, .dead, .dead, .dead, .dead, .dead, .dead, .dead, .dead, .dead, .dead, .dead, .dead, .dead, .dead, .dead, .dead, .dead, .dead, .dead, .dead, .dead, .dead], v := [] }, ret := some { t := [.dead, .dead, .dead, .dead, .i .i64, .dead, .dead, .dead, .dead, .dead, .dead, .dead, .dead, .dead, .dead, .dead, .dead, .dead, .dead, .dead, .dead, .dead, .dead, .dead, .dead, .dead, .dead, .dead], v := [] } })] n
def szStrsV (a : List Str) (left : Int) : Int := szListV (fun l (x : Str) => lessV l x.length) a left
def k85 : Con := { f := 85, lend := true, its := [⟨false, false, [.ro .str]⟩, ⟨false, false, [.i .i64]⟩], lay := [none, none], rs := [⟨false, false, [.i .i64]⟩], F := fun x => .ret ((((szStrsV x.1.1 x.2.1.1), ()), ()), ((), (), ())) }
theorem f85_eq (x : itemsD k85.its) : bodyOut (cxOf []) (f85_A) (codeOf Try.f85) k85.its k85.lay Try.f85.ntmps k85.rs [.tmp 4] x = f85_tree x.1.1 x.2.1.1 := by kernel_rfl
theorem f85_ok (hr : ∀ x : (List (List UInt8) × Unit) × (Int × Unit) × Unit, itemsWF k85.its x → (f85_tree x.1.1 x.2.1.1).eval = (k85.F x).eval) : k85.Ok Try.prog :=
  con_fn [] trivial (by kernel_rfl) (codeOf_eq (by kernel_rfl)) (by kernel_rfl) (by kernel_rfl) (by kernel_rfl) f85_eq fun x hw _ hy => (hr x hw).trans hy
theorem k85_ok : k85.Ok Try.prog := by
  refine f85_ok fun x hw => ?_
  obtain ⟨⟨a, _⟩, ⟨k, _⟩, _⟩ := x
  have ha : a.length ≤ BIG := hw.1.1.1
  show (f85_tree a k).eval = some (((szStrsV a k, ()), ()), ((), ((), ())))
  unfold f85_tree szStrsV
  by_cases h : IntKind.i64.wrap (k - ((a.length : Nat) : Int)) < 0
  · rw [eval_ite_t (decide_eq_true h), szListV_t h]; rfl
  · rw [eval_ite_f (decide_eq_false h), szListV_f h]
    have := fold_loop (f := f85_L0) a (fun l i => ((a, (l, (((i : Nat) : Int), ()))), ())) (fun l (x : Str) => lessV l x.length) negB (y := fun l => ((l, ()), ())) (z := ((-1, ()), ()))
      (fun i hi l hb => by
        have h1 := wrap_succ (i := i) (by omega)
        have hb : ¬ lessV l a[i].length < 0 := of_decide_eq_false hb
        rw [lessV_ite] at hb
        have h2 := lessV_eq hb
        simp [f85_L0, Out.eval, hi, h1, hb, h2])
      (fun i hi l hb => by
        have hb : lessV l a[i].length < 0 := of_decide_eq_true hb
        rw [lessV_ite] at hb
        simp [f85_L0, Out.eval, hi, hb])
      (fun l => by simp [f85_L0, Out.eval]) ha (IntKind.i64.wrap (k - ((a.length : Nat) : Int)))
    refine (eval_get_some this).trans ?_
    cases foldG (fun l (x : Str) => lessV l x.length) negB (IntKind.i64.wrap (k - ((a.length : Nat) : Int))) a <;> rfl
theorem szList_le {α : Type} {g : Int → α → Int} {a : List α} {left : Int} {m : Nat} (hm : m ≤ 4611686018427387904) (h0 : -1 ≤ left) (h1 : left ≤ m) (hn : a.length ≤ BIG)
    (hg : ∀ x ∈ a, ∀ l : Int, -1 ≤ l → l ≤ (m : Int) → -1 ≤ g l x ∧ g l x ≤ m) (h : ¬ szListV g a left < 0) : a.length ≤ m ∧ -1 ≤ szListV g a left ∧ szListV g a left ≤ m := by
  unfold szListV at h ⊢
  split at h
  · omega
  · rename_i hlt
    rw [if_neg hlt]
    have q := lessV_le hm h0 h1 hn hlt
    refine ⟨q.1, ?_⟩
    have key : ∀ (b : List α), (∀ x ∈ b, x ∈ a) → ∀ l : Int, -1 ≤ l → l ≤ (m : Int) → -1 ≤ (foldG g negB l b).getD (-1) ∧ (foldG g negB l b).getD (-1) ≤ m := by
      intro b
      induction b with
      | nil => intro _ l hl1 hl2; exact ⟨hl1, hl2⟩
      | cons x r ih =>
        intro hb l hl1 hl2
        have := hg x (hb x (by simp)) l hl1 hl2
        simp only [foldG]
        split
        · simp only [Option.getD_none]; omega
        · exact ih (fun y hy => hb y (by simp [hy])) _ this.1 this.2
    exact key a (fun x hx => hx) _ (by omega) (by omega)
def f36_tree (a0 : List (List UInt8)) (a1 : List (Int × List UInt8 × Unit)) (a2 : Int) : Out (((Int × Unit) × Unit) × (Unit × Unit × Unit)) :=
 .ite (decide ((szStrsV a0 a2) < (0 : Int)))
 (.ret ((((-1 : Int), ()), ()), ((), (), ())))
 (.ite (decide ((szWritesV a1 (szStrsV a0 a2)) < (0 : Int)))
 (.ret ((((-1 : Int), ()), ()), ((), (), ())))
 (.ret ((((szWritesV a1 (szStrsV a0 a2)), ()), ()), ((), (), ()))))
def szDiskV (a : List Str) (b : List WriteD) (left : Int) : Int := thenV (szStrsV a left) (thenV (szWritesV b (szStrsV a left)) (szWritesV b (szStrsV a left)))
def k36 : Con := { f := 36, lend := true, its := [⟨false, true, [.ro .str, .ro (.st (.cons (.int .i64) (.cons .str .nil)))]⟩, ⟨false, false, [.i .i64]⟩], lay := [none, none], rs := [⟨false, false, [.i .i64]⟩], F := fun x => .ret ((((szDiskV x.1.1 x.1.2.1 x.2.1.1), ()), ()), ((), (), ())) }
theorem f36_eq (x : itemsD k36.its) : bodyOut (cxOf [k85, k64]) (fun _ => none) (codeOf Try.f36) k36.its k36.lay Try.f36.ntmps k36.rs [.tmp 4] x = f36_tree x.1.1 x.1.2.1 x.2.1.1 := by kernel_rfl
theorem f36_ok (hr : ∀ x : (List (List UInt8) × List (Int × List UInt8 × Unit) × Unit) × (Int × Unit) × Unit, itemsWF k36.its x → (f36_tree x.1.1 x.1.2.1 x.2.1.1).eval = (k36.F x).eval) : k36.Ok Try.prog :=
  con_fn [k85, k64] ⟨k85_ok, k64_ok, trivial⟩ (by kernel_rfl) (codeOf_eq (by kernel_rfl)) (by kernel_rfl) (by kernel_rfl) (by kernel_rfl) f36_eq fun x hw _ hy => (hr x hw).trans hy
theorem k36_ok : k36.Ok Try.prog := by
  refine f36_ok fun x _ => ?_
  obtain ⟨⟨a, b, _⟩, ⟨k, _⟩, _⟩ := x
  show (f36_tree a b k).eval = some (((szDiskV a b k, ()), ()), ((), ((), ())))
  unfold f36_tree szDiskV thenV
  by_cases h : szStrsV a k < 0
  · simp [Out.eval, h]
  · by_cases h2 : szWritesV b (szStrsV a k) < 0 <;> simp [Out.eval, h, h2]
theorem szDisk_le {a : List Str} {b : List WriteD} {left : Int} (ha : a.length ≤ BIG) (ha' : ∀ x ∈ a, x.length ≤ BIG) (hb : b.length ≤ BIG) (hb' : ∀ x ∈ b, x.2.1.length ≤ BIG) (h0 : -1 ≤ left) (h1 : left ≤ 1048576) (h : ¬ szDiskV a b left < 0) :
    a.length ≤ 1048576 ∧ b.length ≤ 1048576 ∧ -1 ≤ szDiskV a b left ∧ szDiskV a b left ≤ 1048576 := by
  unfold szDiskV at h ⊢
  obtain ⟨g1, e1⟩ := thenV_not h
  rw [e1] at h ⊢
  obtain ⟨g2, e2⟩ := thenV_not h
  rw [e2] at h ⊢
  have q1 := szList_le (m := 1048576) (by decide) h0 h1 ha (fun x hx l hl1 hl2 => lessV_bound (by decide) hl1 hl2 (ha' x hx)) g1
  have q2 := szList_le (m := 1048576) (by decide) q1.2.1 q1.2.2 hb (fun x hx l hl1 hl2 => lessV_bound (by decide) hl1 hl2 (hb' x hx)) g2
  exact ⟨q1.1, q2.1, q2.2.1, q2.2.2⟩

/-! ## Copies -/
def f157_tree (a0 : Int) (a1 : List UInt8) : Out (((Int × List UInt8 × Unit) × Unit) × (Unit × Unit)) :=
 .ret (((a0, a1, ()), ()), ((), ()))
def k157 : Con := { f := 157, lend := true, its := [⟨false, true, [.i .i64, .s]⟩], lay := [none], rs := [⟨false, true, [.i .i64, .s]⟩], F := fun x => .ret ((((Prod.mk x.1.1 x.1.2.1).1, (Prod.mk x.1.1 x.1.2.1).2, ()), ()), ((), ())) }
theorem f157_eq (x : itemsD k157.its) : bodyOut (cxOf []) (fun _ => none) (codeOf Try.f157) k157.its k157.lay Try.f157.ntmps k157.rs [.cell 2 66] x = f157_tree x.1.1 x.1.2.1 := by kernel_rfl
theorem f157_ok (hr : ∀ x : (Int × List UInt8 × Unit) × Unit, itemsWF k157.its x → (f157_tree x.1.1 x.1.2.1).eval = (k157.F x).eval) : k157.Ok Try.prog :=
  con_fn [] trivial (by kernel_rfl) (codeOf_eq (by kernel_rfl)) (by kernel_rfl) (by kernel_rfl) (by kernel_rfl) f157_eq fun x hw _ hy => (hr x hw).trans hy
theorem k157_ok : k157.Ok Try.prog := f157_ok fun _ _ => rfl
abbrev f66_S0 := (List ((Int × List UInt8 × Unit)) × Int × Unit) × (List ((Int × List UInt8 × Unit)) × Unit)
def f66_L0 (x : f66_S0) : Out (Round f66_S0 ((Unit) × (List ((Int × List UInt8 × Unit)) × Unit)) Empty) :=
 .ite (decide (x.1.2.1 < ((List.length x.1.1 : Nat) : Int)))
 (.ite (decide (0 ≤ x.1.2.1))
 (.get (nth x.1.1 (Int.toNat x.1.2.1)) fun y1 =>
 .ite (decide (0 ≤ x.1.2.1 ∧ x.1.2.1 < ((List.length x.2.1 : Nat) : Int)))
 (.get (nth x.2.1 (Int.toNat x.1.2.1)) fun y2 =>
 .ret (.again ((x.1.1, (IntKind.i64.wrap (x.1.2.1 + (1 : Int))), ()), ((List.set x.2.1 (Int.toNat x.1.2.1) ((Prod.mk y1.1 y1.2.1).1, (Prod.mk y1.1 y1.2.1).2, ())), ()))))
 .fail)
 .fail)
 (.ret (.out ((), (x.2.1, ()))))
def f66_tree (a0 : List (Int × List UInt8 × Unit)) : Out (((List (Int × List UInt8 × Unit) × Unit) × Unit) × (Unit × Unit)) :=
 .ite (decide (0 ≤ ((List.length a0 : Nat) : Int) ∧ ((List.length a0 : Nat) : Int) ≤ ((List.length a0 : Nat) : Int) ∧ ((List.length a0 : Nat) : Int) ≤ (LIM : Int)))
 (.get (iter1 f66_L0 FUEL ((a0, (0 : Int), ()), ((List.replicate (Int.toNat ((List.length a0 : Nat) : Int)) ((0 : Int), (([] : List UInt8), ()))), ()))) fun y1 =>
 .ret (((y1.2.1, ()), ()), ((), ())))
 .fail
def f66_A : Nat → Option LoopAnn := fun n => annOf [(0, { head := { t := [.ro (.st (.cons (.int .i64) (.cons .str .nil))) (some 0), .dead, .dead, .srf 64000000, .i .i64, .dead, .dead, .dead, .dead, .dead, .dead, .dead, .dead, .dead, .dead, .dead, .dead, .dead, .dead, .dead, .dead, .dead, .dead], v := [(64000000, .arr (.st (.cons (.int .i64) (.cons .str .nil))))] }, out := { t := [.dead, .dead, .dead, .srf 64000256, .dead, .dead, .dead, .dead, .dead, .dead, .dead, .dead, .dead, .dead, .dead, .dead, .dead, .dead, .dead, .dead, .dead, .dead, .dead], v := [(64000256, .arr (.st (.cons (.int .i64) (.cons .str .nil))))] }, ret := none })] n
def toWritesV (a : List WriteD) : Option (List WriteD) := lim a a
def k66 : Con := { f := 66, lend := true, its := [⟨false, false, [.ro (.st (.cons (.int .i64) (.cons .str .nil)))]⟩], lay := [none], rs := [⟨false, false, [.own (.st (.cons (.int .i64) (.cons .str .nil)))]⟩], F := fun x => .get (toWritesV x.1.1) fun y => .ret (((y, ()), ()), ((), ())) }
theorem f66_eq (x : itemsD k66.its) : bodyOut (cxOf [k157]) (f66_A) (codeOf Try.f66) k66.its k66.lay Try.f66.ntmps k66.rs [.tmp 2] x = f66_tree x.1.1 := by kernel_rfl
theorem f66_ok (hr : ∀ x : (List (Int × List UInt8 × Unit) × Unit) × Unit, itemsWF k66.its x → (f66_tree x.1.1).eval = (k66.F x).eval) : k66.Ok Try.prog :=
  con_fn [k157] ⟨k157_ok, trivial⟩ (by kernel_rfl) (codeOf_eq (by kernel_rfl)) (by kernel_rfl) (by kernel_rfl) (by kernel_rfl) f66_eq fun x hw _ hy => (hr x hw).trans hy
theorem lim_cond {α : Type} {a : List α} (h : a.length ≤ LIM) : decide (0 ≤ ((a.length : Nat) : Int) ∧ ((a.length : Nat) : Int) ≤ ((a.length : Nat) : Int) ∧ ((a.length : Nat) : Int) ≤ (LIM : Int)) = true := decide_eq_true (by omega)
theorem lim_cond' {α : Type} {a : List α} (h : ¬ a.length ≤ LIM) : decide (0 ≤ ((a.length : Nat) : Int) ∧ ((a.length : Nat) : Int) ≤ ((a.length : Nat) : Int) ∧ ((a.length : Nat) : Int) ≤ (LIM : Int)) = false := decide_eq_false (by omega)
theorem k66_ok : k66.Ok Try.prog := by
  refine f66_ok fun x hw => ?_
  obtain ⟨⟨a, _⟩, _⟩ := x
  have ha : a.length ≤ BIG := hw.1.1.1
  show (f66_tree a).eval = (Out.get (toWritesV a) fun y => Out.ret (((y, ()), ()), ((), ()))).eval
  unfold f66_tree toWritesV
  by_cases h : a.length ≤ LIM
  · rw [lim_some h, eval_ite_t (lim_cond h), Int.toNat_natCast]
    have := copy_loop (f := f66_L0) a (fun x : WriteD => x) (List.replicate a.length ((0 : Int), (([] : Str), ()))) (fun i l => ((a, (((i : Nat) : Int), ())), (l, ()))) (by simp) ha
      (fun i hi l hl => by
        have h1 := wrap_succ (i := i) (by omega)
        have h2 : i < l.length := by omega
        have h3 : ((a[i].1, (a[i].2.1, ())) : WriteD) = a[i] := rfl
        simp [f66_L0, Out.eval, hi, h1, h2, h3])
      (fun l => by simp [f66_L0, Out.eval])
    refine (eval_get_some this).trans ?_
    rw [List.map_id']
    rfl
  · rw [lim_not h, eval_ite_f (lim_cond' h)]; rfl
abbrev f87_S0 := (List (List UInt8) × Int × Unit) × (List (List UInt8) × Unit)
def f87_L0 (x : f87_S0) : Out (Round f87_S0 ((Unit) × (List (List UInt8) × Unit)) Empty) :=
 .ite (decide (x.1.2.1 < ((List.length x.1.1 : Nat) : Int)))
 (.ite (decide (0 ≤ x.1.2.1))
 (.get (nth x.1.1 (Int.toNat x.1.2.1)) fun y1 =>
 .ite (decide (0 ≤ x.1.2.1 ∧ x.1.2.1 < ((List.length x.2.1 : Nat) : Int)))
 (.get (nth x.2.1 (Int.toNat x.1.2.1)) fun y2 =>
 .ret (.again ((x.1.1, (IntKind.i64.wrap (x.1.2.1 + (1 : Int))), ()), ((List.set x.2.1 (Int.toNat x.1.2.1) y1), ()))))
 .fail)
 .fail)
 (.ret (.out ((), (x.2.1, ()))))
def f87_tree (a0 : List (List UInt8)) : Out (((List (List UInt8) × Unit) × Unit) × (Unit × Unit)) :=
 .ite (decide (0 ≤ ((List.length a0 : Nat) : Int) ∧ ((List.length a0 : Nat) : Int) ≤ ((List.length a0 : Nat) : Int) ∧ ((List.length a0 : Nat) : Int) ≤ (LIM : Int)))
 (.get (iter1 f87_L0 FUEL ((a0, (0 : Int), ()), ((List.replicate (Int.toNat ((List.length a0 : Nat) : Int)) ([] : List UInt8)), ()))) fun y1 =>
 .ret (((y1.2.1, ()), ()), ((), ())))
 .fail
def f87_A : Nat → Option LoopAnn := fun n => annOf [(0, { head := { t := [.ro .str (some 0), .dead, .dead, .srf 64000000, .i .i64, .dead, .dead, .dead, .dead, .dead, .dead, .dead, .dead, .dead, .dead, .dead, .dead, .dead, .dead, .dead, .dead, .dead], v := [(64000000, .arr .str)] }, out := { t := [.dead, .dead, .dead, .srf 64000256, .dead, .dead, .dead, .dead, .dead, .dead, .dead, .dead, .dead, .dead, .dead, .dead, .dead, .dead, .dead, .dead, .dead, .dead], v := [(64000256, .arr .str)] }, ret := none })] n
def toStrsV (a : List Str) : Option (List Str) := lim a a
def k87 : Con := { f := 87, lend := true, its := [⟨false, false, [.ro .str]⟩], lay := [none], rs := [⟨false, false, [.own .str]⟩], F := fun x => .get (toStrsV x.1.1) fun y => .ret (((y, ()), ()), ((), ())) }
theorem f87_eq (x : itemsD k87.its) : bodyOut (cxOf []) (f87_A) (codeOf Try.f87) k87.its k87.lay Try.f87.ntmps k87.rs [.tmp 2] x = f87_tree x.1.1 := by kernel_rfl
theorem f87_ok (hr : ∀ x : (List (List UInt8) × Unit) × Unit, itemsWF k87.its x → (f87_tree x.1.1).eval = (k87.F x).eval) : k87.Ok Try.prog :=
  con_fn [] trivial (by kernel_rfl) (codeOf_eq (by kernel_rfl)) (by kernel_rfl) (by kernel_rfl) (by kernel_rfl) f87_eq fun x hw _ hy => (hr x hw).trans hy
theorem k87_ok : k87.Ok Try.prog := by
  refine f87_ok fun x hw => ?_
  obtain ⟨⟨a, _⟩, _⟩ := x
  have ha : a.length ≤ BIG := hw.1.1.1
  show (f87_tree a).eval = (Out.get (toStrsV a) fun y => Out.ret (((y, ()), ()), ((), ()))).eval
  unfold f87_tree toStrsV
  by_cases h : a.length ≤ LIM
  · rw [lim_some h, eval_ite_t (lim_cond h), Int.toNat_natCast]
    have := copy_loop (f := f87_L0) a (fun x : Str => x) (List.replicate a.length ([] : Str)) (fun i l => ((a, (((i : Nat) : Int), ())), (l, ()))) (by simp) ha
      (fun i hi l hl => by
        have h1 := wrap_succ (i := i) (by omega)
        have h2 : i < l.length := by omega
        simp [f87_L0, Out.eval, hi, h1, h2])
      (fun l => by simp [f87_L0, Out.eval])
    refine (eval_get_some this).trans ?_
    rw [List.map_id']
    rfl
  · rw [lim_not h, eval_ite_f (lim_cond' h)]; rfl
def f38_tree (a0 : List (List UInt8)) (a1 : List (Int × List UInt8 × Unit)) : Out (((List (List UInt8) × List (Int × List UInt8 × Unit) × Unit) × Unit) × (Unit × Unit)) :=
 .get (toStrsV a0) fun y1 =>
 .get (toWritesV a1) fun y2 =>
 .ret (((y1, y2, ()), ()), ((), ()))
def toDiskV (a : List Str) (b : List WriteD) : Option (List Str × List WriteD) := if a.length ≤ LIM ∧ b.length ≤ LIM then some (a, b) else none
def k38 : Con := { f := 38, lend := true, its := [⟨false, true, [.ro .str, .ro (.st (.cons (.int .i64) (.cons .str .nil)))]⟩], lay := [none], rs := [⟨false, true, [.own .str, .own (.st (.cons (.int .i64) (.cons .str .nil)))]⟩], F := fun x => .get (toDiskV x.1.1 x.1.2.1) fun y => .ret (((y.1, y.2, ()), ()), ((), ())) }
theorem f38_eq (x : itemsD k38.its) : bodyOut (cxOf [k87, k66]) (fun _ => none) (codeOf Try.f38) k38.its k38.lay Try.f38.ntmps k38.rs [.cell 2 25] x = f38_tree x.1.1 x.1.2.1 := by kernel_rfl
theorem f38_ok (hr : ∀ x : (List (List UInt8) × List (Int × List UInt8 × Unit) × Unit) × Unit, itemsWF k38.its x → (f38_tree x.1.1 x.1.2.1).eval = (k38.F x).eval) : k38.Ok Try.prog :=
  con_fn [k87, k66] ⟨k87_ok, k66_ok, trivial⟩ (by kernel_rfl) (codeOf_eq (by kernel_rfl)) (by kernel_rfl) (by kernel_rfl) (by kernel_rfl) f38_eq fun x hw _ hy => (hr x hw).trans hy
theorem k38_ok : k38.Ok Try.prog := by
  refine f38_ok fun x _ => ?_
  obtain ⟨⟨a, b, _⟩, _⟩ := x
  show (f38_tree a b).eval = (Out.get (toDiskV a b) fun y => Out.ret (((y.1, (y.2, ())), ()), ((), ()))).eval
  unfold f38_tree toDiskV toStrsV toWritesV
  by_cases h1 : a.length ≤ LIM
  · by_cases h2 : b.length ≤ LIM
    · simp [lim_some, h1, h2, Out.eval]
    · simp [lim_some, lim_not, h1, h2, Out.eval]
  · simp [lim_not, h1, Out.eval]

/-! ## Is it a disk? -/
def f124_tree (a0 : Int) (a1 : List UInt8) : Out (((Bool × Unit) × Unit) × (Unit × Unit)) :=
 .ite ((decide (a0 ≥ (0 : Int))) == true)
 (.ite ((decide (a0 < (7 : Int))) == true)
 (.ret ((((decide (((List.length a1 : Nat) : Int) ≤ (600 : Int))), ()), ()), ((), ())))
 (.ret (((false, ()), ()), ((), ()))))
 (.ret (((false, ()), ()), ((), ())))
def writeOkV (b : Int) (t : Str) : Bool := decide (0 ≤ b) && decide (b < 7) && decide (t.length ≤ 600)
def k124 : Con := { f := 124, lend := true, its := [⟨false, true, [.i .i64, .s]⟩], lay := [none], rs := [⟨false, false, [.b]⟩], F := fun x => .ret ((((writeOkV x.1.1 x.1.2.1), ()), ()), ((), ())) }
theorem f124_eq (x : itemsD k124.its) : bodyOut (cxOf []) (fun _ => none) (codeOf Try.f124) k124.its k124.lay Try.f124.ntmps k124.rs [.tmp 2] x = f124_tree x.1.1 x.1.2.1 := by kernel_rfl
theorem f124_ok (hr : ∀ x : (Int × List UInt8 × Unit) × Unit, itemsWF k124.its x → (f124_tree x.1.1 x.1.2.1).eval = (k124.F x).eval) : k124.Ok Try.prog :=
  con_fn [] trivial (by kernel_rfl) (codeOf_eq (by kernel_rfl)) (by kernel_rfl) (by kernel_rfl) (by kernel_rfl) f124_eq fun x hw _ hy => (hr x hw).trans hy
theorem le_cast {n : Nat} {m : Nat} : decide (((n : Nat) : Int) ≤ ((m : Nat) : Int)) = decide (n ≤ m) := by
  rw [Bool.eq_iff_iff]; simp
theorem k124_ok : k124.Ok Try.prog := by
  refine f124_ok fun x _ => ?_
  obtain ⟨⟨b, t, _⟩, _⟩ := x
  show (f124_tree b t).eval = some (((writeOkV b t, ()), ()), ((), ()))
  unfold f124_tree writeOkV
  have h3 : decide (((t.length : Nat) : Int) ≤ (600 : Int)) = decide (t.length ≤ 600) := le_cast (m := 600)
  by_cases h1 : 0 ≤ b <;> by_cases h2 : b < 7 <;> simp [Out.eval, h1, h2, h3]
def diskOkV (a : List Str) (b : List WriteD) : Bool := decide (a.length = 7) && decide (b.length ≤ 20) && a.all (fun x => decide (x.length ≤ 600)) && b.all (fun x => writeOkV x.1 x.2.1)
abbrev f37_S0 := (Int × Unit) × ((List (List UInt8) × List ((Int × List UInt8 × Unit)) × Unit) × Unit)
def f37_L0 (x : f37_S0) : Out (Round f37_S0 ((Unit) × ((List (List UInt8) × List ((Int × List UInt8 × Unit)) × Unit) × Unit)) ((Bool × Unit) × (Unit))) :=
 .ite (decide (x.1.1 < ((List.length x.2.1.1 : Nat) : Int)))
 (.ite (decide (0 ≤ x.1.1))
 (.get (nth x.2.1.1 (Int.toNat x.1.1)) fun y1 =>
 .ite (decide (((List.length y1 : Nat) : Int) > (600 : Int)))
 (.ret (.ret ((false, ()), ())))
 (.ret (.again (((IntKind.i64.wrap (x.1.1 + (1 : Int))), ()), ((x.2.1.1, x.2.1.2.1, ()), ())))))
 .fail)
 (.ret (.out ((), ((x.2.1.1, x.2.1.2.1, ()), ()))))
abbrev f37_S2 := (Int × Unit) × ((List (List UInt8) × List ((Int × List UInt8 × Unit)) × Unit) × Unit)
def f37_L2 (x : f37_S2) : Out (Round f37_S2 ((Unit) × (Unit)) ((Bool × Unit) × (Unit))) :=
 .ite (decide (x.1.1 < ((List.length x.2.1.2.1 : Nat) : Int)))
 (.ite (decide (0 ≤ x.1.1))
 (.get (nth x.2.1.2.1 (Int.toNat x.1.1)) fun y1 =>
 .ite (!(writeOkV y1.1 y1.2.1))
 (.ret (.ret ((false, ()), ())))
 (.ret (.again (((IntKind.i64.wrap (x.1.1 + (1 : Int))), ()), ((x.2.1.1, x.2.1.2.1, ()), ())))))
 .fail)
 (.ret (.out ((), ())))
def f37_tree (a0 : List (List UInt8)) (a1 : List (Int × List UInt8 × Unit)) : Out (((Bool × Unit) × Unit) × (Unit × Unit)) :=
 .ite (((((List.length a0 : Nat) : Int) != (7 : Int))) == false)
 (.ite (decide (((List.length a1 : Nat) : Int) > (20 : Int)))
 (.ret (((false, ()), ()), ((), ())))
 (.get (iter f37_L0 FUEL (((0 : Int), ()), ((a0, a1, ()), ()))) fun y1 => .alt y1 (fun y2 =>
 .get (iter f37_L2 FUEL (((0 : Int), ()), ((y2.2.1.1, y2.2.1.2.1, ()), ()))) fun y4 => .alt y4 (fun y5 =>
 .ret (((true, ()), ()), ((), ()))) (fun y6 =>
 .ret (((y6.1.1, ()), ()), ((), ())))) (fun y3 =>
 .ret (((y3.1.1, ()), ()), ((), ())))))
 (.ret (((false, ()), ()), ((), ())))
def f37_A : Nat → Option LoopAnn := fun n => annOf [(0, { head := { t := [.dead, .vptr 64000000 0, .dead, .i .i64, .dead, .dead, .dead, .dead, .dead, .dead, .dead, .dead, .dead, .dead, .dead, .dead, .dead, .dead, .dead, .dead, .dead, .dead, .dead, .dead, .dead, .dead, .dead, .dead, .dead, .dead, .dead, .dead, .dead, .dead, .dead, .dead, .dead, .dead, .dead, .dead, .dead, .dead, .dead], v := [(64000000, .var [.ro .str (some 0), .ro (.st (.cons (.int .i64) (.cons .str .nil))) (some 1)])] }, out := { t := [.dead, .vptr 64000256 0, .dead, .dead, .dead, .dead, .dead, .dead, .dead, .dead, .dead, .dead, .dead, .dead, .dead, .dead, .dead, .dead, .dead, .dead, .dead, .dead, .dead, .dead, .dead, .dead, .dead, .dead, .dead, .dead, .dead, .dead, .dead, .dead, .dead, .dead, .dead, .dead, .dead, .dead, .dead, .dead, .dead], v := [(64000256, .var [.ro .str (some 0), .ro (.st (.cons (.int .i64) (.cons .str .nil))) (some 1)])] }, ret := some { t := [.dead, .dead, .b, .dead, .dead, .dead, .dead, .dead, .dead, .dead, .dead, .dead, .dead, .dead, .dead, .dead, .dead, .dead, .dead, .dead, .dead, .dead, .dead, .dead, .dead, .dead, .dead, .dead, .dead, .dead, .dead, .dead, .dead, .dead, .dead, .dead, .dead, .dead, .dead, .dead, .dead, .dead, .dead], v := [] } }), (2, { head := { t := [.dead, .vptr 64002048 0, .dead, .dead, .i .i64, .dead, .dead, .dead, .dead, .dead, .dead, .dead, .dead, .dead, .dead, .dead, .dead, .dead, .dead, .dead, .dead, .dead, .dead, .dead, .dead, .dead, .dead, .dead, .dead, .dead, .dead, .dead, .dead, .dead, .dead, .dead, .dead, .dead, .dead, .dead, .dead, .dead, .dead], v := [(64002048, .var [.ro .str (some 0), .ro (.st (.cons (.int .i64) (.cons .str .nil))) (some 1)])] }, out := { t := [.dead, .dead, .dead, .dead, .dead, .dead, .dead, .dead, .dead, .dead, .dead, .dead, .dead, .dead, .dead, .dead, .dead, .dead, .dead, .dead, .dead, .dead, .dead, .dead, .dead, .dead, .dead, .dead, .dead, .dead, .dead, .dead, .dead, .dead, .dead, .dead, .dead, .dead, .dead, .dead, .dead, .dead, .dead], v := [] }, ret := some { t := [.dead, .dead, .b, .dead, .dead, .dead, .dead, .dead, .dead, .dead, .dead, .dead, .dead, .dead, .dead, .dead, .dead, .dead, .dead, .dead, .dead, .dead, .dead, .dead, .dead, .dead, .dead, .dead, .dead, .dead, .dead, .dead, .dead, .dead, .dead, .dead, .dead, .dead, .dead, .dead, .dead, .dead, .dead], v := [] } })] n
def k37 : Con := { f := 37, lend := true, its := [⟨false, true, [.ro .str, .ro (.st (.cons (.int .i64) (.cons .str .nil)))]⟩], lay := [none], rs := [⟨false, false, [.b]⟩], F := fun x => .ret ((((diskOkV x.1.1 x.1.2.1), ()), ()), ((), ())) }
theorem f37_eq (x : itemsD k37.its) : bodyOut (cxOf [k124]) (f37_A) (codeOf Try.f37) k37.its k37.lay Try.f37.ntmps k37.rs [.tmp 2] x = f37_tree x.1.1 x.1.2.1 := by kernel_rfl
theorem f37_ok (hr : ∀ x : (List (List UInt8) × List (Int × List UInt8 × Unit) × Unit) × Unit, itemsWF k37.its x → (f37_tree x.1.1 x.1.2.1).eval = (k37.F x).eval) : k37.Ok Try.prog :=
  con_fn [k124] ⟨k124_ok, trivial⟩ (by kernel_rfl) (codeOf_eq (by kernel_rfl)) (by kernel_rfl) (by kernel_rfl) (by kernel_rfl) f37_eq fun x hw _ hy => (hr x hw).trans hy
theorem ne_cast {n m : Nat} : (((n : Nat) : Int) != ((m : Nat) : Int)) = !decide (n = m) := by
  rw [Bool.eq_iff_iff]; simp; omega
theorem gt_cast {n m : Nat} : decide (((n : Nat) : Int) > ((m : Nat) : Int)) = !decide (n ≤ m) := by
  rw [Bool.eq_iff_iff]; simp
theorem k37_ok : k37.Ok Try.prog := by
  refine f37_ok fun x hw => ?_
  obtain ⟨⟨a, b, _⟩, _⟩ := x
  have ha : a.length ≤ BIG := hw.1.1.1
  have hb : b.length ≤ BIG := hw.1.2.1.1
  show (f37_tree a b).eval = some (((diskOkV a b, ()), ()), ((), ()))
  unfold f37_tree diskOkV
  have e1 : (((a.length : Nat) : Int) != (7 : Int)) = !decide (a.length = 7) := ne_cast (m := 7)
  have e2 : decide (((b.length : Nat) : Int) > (20 : Int)) = !decide (b.length ≤ 20) := gt_cast (m := 20)
  rw [e1, e2]
  by_cases h1 : a.length = 7
  · by_cases h2 : b.length ≤ 20
    · rw [eval_ite_t (by simp [h1]), eval_ite_f (by simp [h2])]
      have l1 := all_loop (f := f37_L0) a (fun x => decide (x.length ≤ 600)) (fun i => ((((i : Nat) : Int), ()), ((a, (b, ())), ()))) (y := ((), ((a, (b, ())), ()))) (z := ((false, ()), ()))
        (fun i hi hp => by
          have g1 := wrap_succ (i := i) (by omega)
          have g3 : ¬ (600 : Int) < ((a[i].length : Nat) : Int) := by have := of_decide_eq_true hp; omega
          simp [f37_L0, Out.eval, hi, g1, g3])
        (fun i hi hp => by
          have g3 : (600 : Int) < ((a[i].length : Nat) : Int) := by have := of_decide_eq_false hp; omega
          simp [f37_L0, Out.eval, hi, g3])
        (by simp [f37_L0, Out.eval]) ha
      have l2 := all_loop (f := f37_L2) b (fun x : WriteD => writeOkV x.1 x.2.1) (fun i => ((((i : Nat) : Int), ()), ((a, (b, ())), ()))) (y := ((), ())) (z := ((false, ()), ()))
        (fun i hi hp => by
          have g1 := wrap_succ (i := i) (by omega)
          simp [f37_L2, Out.eval, hi, g1, hp])
        (fun i hi hp => by simp [f37_L2, Out.eval, hi, hp])
        (by simp [f37_L2, Out.eval]) hb
      refine (eval_get_some l1).trans ?_
      by_cases q1 : a.all (fun x => decide (x.length ≤ 600)) = true
      · rw [if_pos q1]
        refine (eval_get_some l2).trans ?_
        by_cases q2 : b.all (fun x => writeOkV x.1 x.2.1) = true
        · rw [if_pos q2, q1, q2]; simp [h1, h2]; rfl
        · rw [if_neg q2, q1, Bool.eq_false_iff.2 q2]; simp [h1, h2]; rfl
      · rw [if_neg q1, Bool.eq_false_iff.2 q1]; simp; rfl
    · rw [eval_ite_t (by simp [h1]), eval_ite_t (by simp [h2])]; simp [h2]; rfl
  · rw [eval_ite_f (by simp [h1])]; simp [h1]; rfl
def f166_tree (a0 : Int) (a1 : Int) (a2 : Int) : Out (((Bool × Unit) × Unit) × (Unit × Unit × Unit × Unit)) :=
 .ite ((decide (a0 ≥ a1)) == true)
 (.ret ((((decide (a0 ≤ a2)), ()), ()), ((), (), (), ())))
 (.ret (((false, ()), ()), ((), (), (), ())))
def inV (x a b : Int) : Bool := decide (a ≤ x) && decide (x ≤ b)
def k166 : Con := { f := 166, lend := true, its := [⟨false, false, [.i .i64]⟩, ⟨false, false, [.i .i64]⟩, ⟨false, false, [.i .i64]⟩], lay := [none, none, none], rs := [⟨false, false, [.b]⟩], F := fun x => .ret ((((inV x.1.1 x.2.1.1 x.2.2.1.1), ()), ()), ((), (), (), ())) }
theorem f166_eq (x : itemsD k166.its) : bodyOut (cxOf []) (fun _ => none) (codeOf Try.f166) k166.its k166.lay Try.f166.ntmps k166.rs [.tmp 6] x = f166_tree x.1.1 x.2.1.1 x.2.2.1.1 := by kernel_rfl
theorem f166_ok (hr : ∀ x : (Int × Unit) × (Int × Unit) × (Int × Unit) × Unit, itemsWF k166.its x → (f166_tree x.1.1 x.2.1.1 x.2.2.1.1).eval = (k166.F x).eval) : k166.Ok Try.prog :=
  con_fn [] trivial (by kernel_rfl) (codeOf_eq (by kernel_rfl)) (by kernel_rfl) (by kernel_rfl) (by kernel_rfl) f166_eq fun x hw _ hy => (hr x hw).trans hy
theorem k166_ok : k166.Ok Try.prog := by
  refine f166_ok fun x _ => ?_
  obtain ⟨⟨x, _⟩, ⟨a, _⟩, ⟨b, _⟩, _⟩ := x
  show (f166_tree x a b).eval = some (((inV x a b, ()), ()), ((), ((), ((), ()))))
  unfold f166_tree inV
  by_cases h1 : a ≤ x <;> simp [Out.eval, h1]
def f165_tree (a0 : Int) (a1 : Int) (a2 : Int) : Out (((Bool × Unit) × Unit) × (Unit × Unit × Unit × Unit)) :=
 .ite ((decide (a0 ≥ a1)) == true)
 (.ret ((((decide (a0 ≤ a2)), ()), ()), ((), (), (), ())))
 (.ret (((false, ()), ()), ((), (), (), ())))
def k165 : Con := { f := 165, lend := true, its := [⟨false, false, [.i .i64]⟩, ⟨false, false, [.i .i64]⟩, ⟨false, false, [.i .i64]⟩], lay := [none, none, none], rs := [⟨false, false, [.b]⟩], F := fun x => .ret ((((inV x.1.1 x.2.1.1 x.2.2.1.1), ()), ()), ((), (), (), ())) }
theorem f165_eq (x : itemsD k165.its) : bodyOut (cxOf []) (fun _ => none) (codeOf Try.f165) k165.its k165.lay Try.f165.ntmps k165.rs [.tmp 6] x = f165_tree x.1.1 x.2.1.1 x.2.2.1.1 := by kernel_rfl
theorem f165_ok (hr : ∀ x : (Int × Unit) × (Int × Unit) × (Int × Unit) × Unit, itemsWF k165.its x → (f165_tree x.1.1 x.2.1.1 x.2.2.1.1).eval = (k165.F x).eval) : k165.Ok Try.prog :=
  con_fn [] trivial (by kernel_rfl) (codeOf_eq (by kernel_rfl)) (by kernel_rfl) (by kernel_rfl) (by kernel_rfl) f165_eq fun x hw _ hy => (hr x hw).trans hy
theorem k165_ok : k165.Ok Try.prog := by
  refine f165_ok fun x _ => ?_
  obtain ⟨⟨x, _⟩, ⟨a, _⟩, ⟨b, _⟩, _⟩ := x
  show (f165_tree x a b).eval = some (((inV x a b, ()), ()), ((), ((), ((), ()))))
  unfold f165_tree inV
  by_cases h1 : a ≤ x <;> simp [Out.eval, h1]
def f129_tree (a0 : Int) (a1 : List UInt8) : Out (((Bool × Unit) × Unit) × (Unit × Unit)) :=
 .ite ((inV a0 (0 : Int) (6 : Int)) == true)
 (.ret ((((decide (((List.length a1 : Nat) : Int) ≤ (600 : Int))), ()), ()), ((), ())))
 (.ret (((false, ()), ()), ((), ())))
def k129 : Con := { f := 129, lend := true, its := [⟨false, true, [.i .i64, .s]⟩], lay := [none], rs := [⟨false, false, [.b]⟩], F := fun x => .ret ((((writeOkV x.1.1 x.1.2.1), ()), ()), ((), ())) }
theorem f129_eq (x : itemsD k129.its) : bodyOut (cxOf [k166]) (fun _ => none) (codeOf Try.f129) k129.its k129.lay Try.f129.ntmps k129.rs [.tmp 2] x = f129_tree x.1.1 x.1.2.1 := by kernel_rfl
theorem f129_ok (hr : ∀ x : (Int × List UInt8 × Unit) × Unit, itemsWF k129.its x → (f129_tree x.1.1 x.1.2.1).eval = (k129.F x).eval) : k129.Ok Try.prog :=
  con_fn [k166] ⟨k166_ok, trivial⟩ (by kernel_rfl) (codeOf_eq (by kernel_rfl)) (by kernel_rfl) (by kernel_rfl) (by kernel_rfl) f129_eq fun x hw _ hy => (hr x hw).trans hy
theorem k129_ok : k129.Ok Try.prog := by
  refine f129_ok fun x _ => ?_
  obtain ⟨⟨b, t, _⟩, _⟩ := x
  show (f129_tree b t).eval = some (((writeOkV b t, ()), ()), ((), ()))
  unfold f129_tree writeOkV inV
  have h3 : decide (((t.length : Nat) : Int) ≤ (600 : Int)) = decide (t.length ≤ 600) := le_cast (m := 600)
  have h4 : decide (b ≤ 6) = decide (b < 7) := by rw [Bool.eq_iff_iff]; simp; omega
  rw [h3, h4]
  by_cases h1 : 0 ≤ b <;> by_cases h2 : b < 7 <;> simp [Out.eval, h1, h2]
def f126_tree (a0 : List UInt8) : Out (((Bool × Unit) × Unit) × (Unit × Unit)) :=
 .ret ((((decide (((List.length a0 : Nat) : Int) > (600 : Int))), ()), ()), ((), ()))
def tooLongV (t : Str) : Bool := !decide (t.length ≤ 600)
def k126 : Con := { f := 126, lend := true, its := [⟨false, false, [.s]⟩], lay := [none], rs := [⟨false, false, [.b]⟩], F := fun x => .ret ((((tooLongV x.1.1), ()), ()), ((), ())) }
theorem f126_eq (x : itemsD k126.its) : bodyOut (cxOf []) (fun _ => none) (codeOf Try.f126) k126.its k126.lay Try.f126.ntmps k126.rs [.tmp 2] x = f126_tree x.1.1 := by kernel_rfl
theorem f126_ok (hr : ∀ x : (List UInt8 × Unit) × Unit, itemsWF k126.its x → (f126_tree x.1.1).eval = (k126.F x).eval) : k126.Ok Try.prog :=
  con_fn [] trivial (by kernel_rfl) (codeOf_eq (by kernel_rfl)) (by kernel_rfl) (by kernel_rfl) (by kernel_rfl) f126_eq fun x hw _ hy => (hr x hw).trans hy
theorem k126_ok : k126.Ok Try.prog := by
  refine f126_ok fun x _ => ?_
  obtain ⟨⟨t, _⟩, _⟩ := x
  show (f126_tree t).eval = some (((tooLongV t, ()), ()), ((), ()))
  unfold f126_tree tooLongV
  have g2 : decide (((t.length : Nat) : Int) > (600 : Int)) = !decide (t.length ≤ 600) := gt_cast (m := 600)
  rw [g2]
  rfl
def f128_tree (a0 : Int) (a1 : List UInt8) : Out (((Bool × Unit) × Unit) × (Unit × Unit)) :=
 .ret ((((!(writeOkV a0 a1)), ()), ()), ((), ()))
def writeNotV (b : Int) (t : Str) : Bool := !writeOkV b t
def k128 : Con := { f := 128, lend := true, its := [⟨false, true, [.i .i64, .s]⟩], lay := [none], rs := [⟨false, false, [.b]⟩], F := fun x => .ret ((((writeNotV x.1.1 x.1.2.1), ()), ()), ((), ())) }
theorem f128_eq (x : itemsD k128.its) : bodyOut (cxOf [k129]) (fun _ => none) (codeOf Try.f128) k128.its k128.lay Try.f128.ntmps k128.rs [.tmp 2] x = f128_tree x.1.1 x.1.2.1 := by kernel_rfl
theorem f128_ok (hr : ∀ x : (Int × List UInt8 × Unit) × Unit, itemsWF k128.its x → (f128_tree x.1.1 x.1.2.1).eval = (k128.F x).eval) : k128.Ok Try.prog :=
  con_fn [k129] ⟨k129_ok, trivial⟩ (by kernel_rfl) (codeOf_eq (by kernel_rfl)) (by kernel_rfl) (by kernel_rfl) (by kernel_rfl) f128_eq fun x hw _ hy => (hr x hw).trans hy
theorem k128_ok : k128.Ok Try.prog := f128_ok fun _ _ => rfl
/-- A place, or -1. -/
def idxV : Option Nat → Int
  | some i => ((i : Nat) : Int)
  | none => -1
theorem idxV_ge {α : Type} (a : List α) (p : α → Bool) : decide (idxV (a.findIdx? p) ≥ 0) = a.any p := by
  cases h : a.findIdx? p with
  | none =>
    rw [List.findIdx?_eq_none_iff] at h
    have : a.any p = false := by rw [List.any_eq_false]; intro x hx; simp [h x hx]
    rw [this]; rfl
  | some i =>
    rw [List.findIdx?_eq_some_iff_getElem] at h
    obtain ⟨hi, hp, _⟩ := h
    have : a.any p = true := List.any_eq_true.2 ⟨a[i], List.getElem_mem hi, hp⟩
    rw [this]
    exact decide_eq_true (by show ((i : Nat) : Int) ≥ 0; omega)
abbrev f198_S0 := (List (List UInt8) × Int × Int × Unit) × (Unit)
def f198_L0 (x : f198_S0) : Out (Round f198_S0 ((Unit) × (Unit)) ((Int × Unit) × (Unit))) :=
 .ite (decide (x.1.2.2.1 < x.1.2.1))
 (.ite (decide (0 ≤ x.1.2.2.1))
 (.get (nth x.1.1 (Int.toNat x.1.2.2.1)) fun y1 =>
 .ite (tooLongV y1)
 (.ret (.ret ((x.1.2.2.1, ()), ())))
 (.ret (.again ((x.1.1, x.1.2.1, (IntKind.i64.wrap (x.1.2.2.1 + (1 : Int))), ()), ()))))
 .fail)
 (.ret (.out ((), ())))
def f198_tree (a0 : List (List UInt8)) : Out (((Int × Unit) × Unit) × (Unit × Unit)) :=
 .get (iter f198_L0 FUEL ((a0, ((List.length a0 : Nat) : Int), (0 : Int), ()), ())) fun y1 => .alt y1 (fun y2 =>
 .ret ((((-1 : Int), ()), ()), ((), ()))) (fun y3 =>
 .ret (((y3.1.1, ()), ()), ((), ())))
def f198_A : Nat → Option LoopAnn := fun n => annOf [(0, { head := { t := [.ro .str (some 0), .fn 126 [], .dead, .dead, .dead, .dead, .dead, .i .i64, .i .i64, .dead, .dead, .dead, .dead, .dead, .dead, .dead, .dead, .dead, .dead], v := [] }, out := { t := [.dead, .dead, .dead, .dead, .dead, .dead, .dead, .dead, .dead, .dead, .dead, .dead, .dead, .dead, .dead, .dead, .dead, .dead, .dead], v := [] }, ret := some { t := [.dead, .dead, .dead, .dead, .i .i64, .dead, .dead, .dead, .dead, .dead, .dead, .dead, .dead, .dead, .dead, .dead, .dead, .dead, .dead], v := [] } })] n
def indexLongV (a : List Str) : Int := idxV (a.findIdx? tooLongV)
def k198 : Con := { f := 198, lend := true, its := [⟨false, false, [.ro .str]⟩], lay := [none, some (126, 0)], rs := [⟨false, false, [.i .i64]⟩], F := fun x => .ret ((((indexLongV x.1.1), ()), ()), ((), ())) }
theorem f198_eq (x : itemsD k198.its) : bodyOut (cxOf [k126]) (f198_A) (codeOf Try.f198) k198.its k198.lay Try.f198.ntmps k198.rs [.tmp 4] x = f198_tree x.1.1 := by kernel_rfl
theorem f198_ok (hr : ∀ x : (List (List UInt8) × Unit) × Unit, itemsWF k198.its x → (f198_tree x.1.1).eval = (k198.F x).eval) : k198.Ok Try.prog :=
  con_fn [k126] ⟨k126_ok, trivial⟩ (by kernel_rfl) (codeOf_eq (by kernel_rfl)) (by kernel_rfl) (by kernel_rfl) (by kernel_rfl) f198_eq fun x hw _ hy => (hr x hw).trans hy
theorem k198_ok : k198.Ok Try.prog := by
  refine f198_ok fun x hw => ?_
  obtain ⟨⟨a, _⟩, _⟩ := x
  have ha : a.length ≤ BIG := hw.1.1.1
  show (f198_tree a).eval = some (((indexLongV a, ()), ()), ((), ()))
  unfold f198_tree indexLongV
  have := idx_loop (f := f198_L0) a tooLongV (fun i => ((a, (((a.length : Nat) : Int), (((i : Nat) : Int), ()))), ())) (y := ((), ())) (z := fun i => ((((i : Nat) : Int), ()), ()))
    (fun i hi hp => by
      have g1 := wrap_succ (i := i) (by omega)
      simp [f198_L0, Out.eval, hi, g1, hp])
    (fun i hi hp => by simp [f198_L0, Out.eval, hi, hp])
    (by simp [f198_L0, Out.eval]) ha
  refine (eval_get_some this).trans ?_
  cases a.findIdx? tooLongV <;> rfl
def f125_tree (a0 : List (List UInt8)) : Out (((Bool × Unit) × Unit) × (Unit × Unit)) :=
 .ret ((((decide ((indexLongV a0) ≥ (0 : Int))), ()), ()), ((), ()))
def anyLongV (a : List Str) : Bool := a.any tooLongV
def k125 : Con := { f := 125, lend := true, its := [⟨false, false, [.ro .str]⟩], lay := [none, some (126, 0)], rs := [⟨false, false, [.b]⟩], F := fun x => .ret ((((anyLongV x.1.1), ()), ()), ((), ())) }
theorem f125_eq (x : itemsD k125.its) : bodyOut (cxOf [k198]) (fun _ => none) (codeOf Try.f125) k125.its k125.lay Try.f125.ntmps k125.rs [.tmp 4] x = f125_tree x.1.1 := by kernel_rfl
theorem f125_ok (hr : ∀ x : (List (List UInt8) × Unit) × Unit, itemsWF k125.its x → (f125_tree x.1.1).eval = (k125.F x).eval) : k125.Ok Try.prog :=
  con_fn [k198] ⟨k198_ok, trivial⟩ (by kernel_rfl) (codeOf_eq (by kernel_rfl)) (by kernel_rfl) (by kernel_rfl) (by kernel_rfl) f125_eq fun x hw _ hy => (hr x hw).trans hy
theorem k125_ok : k125.Ok Try.prog := by
  refine f125_ok fun x _ => ?_
  obtain ⟨⟨a, _⟩, _⟩ := x
  show (f125_tree a).eval = some (((anyLongV a, ()), ()), ((), ()))
  unfold f125_tree anyLongV indexLongV
  rw [idxV_ge]
  rfl
abbrev f199_S0 := (List ((Int × List UInt8 × Unit)) × Int × Int × Unit) × (Unit)
def f199_L0 (x : f199_S0) : Out (Round f199_S0 ((Unit) × (Unit)) ((Int × Unit) × (Unit))) :=
 .ite (decide (x.1.2.2.1 < x.1.2.1))
 (.ite (decide (0 ≤ x.1.2.2.1))
 (.get (nth x.1.1 (Int.toNat x.1.2.2.1)) fun y1 =>
 .ite (writeNotV y1.1 y1.2.1)
 (.ret (.ret ((x.1.2.2.1, ()), ())))
 (.ret (.again ((x.1.1, x.1.2.1, (IntKind.i64.wrap (x.1.2.2.1 + (1 : Int))), ()), ()))))
 .fail)
 (.ret (.out ((), ())))
def f199_tree (a0 : List (Int × List UInt8 × Unit)) : Out (((Int × Unit) × Unit) × (Unit × Unit)) :=
 .get (iter f199_L0 FUEL ((a0, ((List.length a0 : Nat) : Int), (0 : Int), ()), ())) fun y1 => .alt y1 (fun y2 =>
 .ret ((((-1 : Int), ()), ()), ((), ()))) (fun y3 =>
 .ret (((y3.1.1, ()), ()), ((), ())))
def f199_A : Nat → Option LoopAnn := fun n => annOf [(0, { head := { t := [.ro (.st (.cons (.int .i64) (.cons .str .nil))) (some 0), .fn 128 [], .dead, .dead, .dead, .dead, .dead, .i .i64, .i .i64, .dead, .dead, .dead, .dead, .dead, .dead, .dead, .dead, .dead, .dead], v := [] }, out := { t := [.dead, .dead, .dead, .dead, .dead, .dead, .dead, .dead, .dead, .dead, .dead, .dead, .dead, .dead, .dead, .dead, .dead, .dead, .dead], v := [] }, ret := some { t := [.dead, .dead, .dead, .dead, .i .i64, .dead, .dead, .dead, .dead, .dead, .dead, .dead, .dead, .dead, .dead, .dead, .dead, .dead, .dead], v := [] } })] n
def indexBadV (a : List WriteD) : Int := idxV (a.findIdx? fun x => writeNotV x.1 x.2.1)
def k199 : Con := { f := 199, lend := true, its := [⟨false, false, [.ro (.st (.cons (.int .i64) (.cons .str .nil)))]⟩], lay := [none, some (128, 0)], rs := [⟨false, false, [.i .i64]⟩], F := fun x => .ret ((((indexBadV x.1.1), ()), ()), ((), ())) }
theorem f199_eq (x : itemsD k199.its) : bodyOut (cxOf [k128]) (f199_A) (codeOf Try.f199) k199.its k199.lay Try.f199.ntmps k199.rs [.tmp 4] x = f199_tree x.1.1 := by kernel_rfl
theorem f199_ok (hr : ∀ x : (List (Int × List UInt8 × Unit) × Unit) × Unit, itemsWF k199.its x → (f199_tree x.1.1).eval = (k199.F x).eval) : k199.Ok Try.prog :=
  con_fn [k128] ⟨k128_ok, trivial⟩ (by kernel_rfl) (codeOf_eq (by kernel_rfl)) (by kernel_rfl) (by kernel_rfl) (by kernel_rfl) f199_eq fun x hw _ hy => (hr x hw).trans hy
theorem k199_ok : k199.Ok Try.prog := by
  refine f199_ok fun x hw => ?_
  obtain ⟨⟨a, _⟩, _⟩ := x
  have ha : a.length ≤ BIG := hw.1.1.1
  show (f199_tree a).eval = some (((indexBadV a, ()), ()), ((), ()))
  unfold f199_tree indexBadV
  have := idx_loop (f := f199_L0) a (fun x : WriteD => writeNotV x.1 x.2.1) (fun i => ((a, (((a.length : Nat) : Int), (((i : Nat) : Int), ()))), ())) (y := ((), ())) (z := fun i => ((((i : Nat) : Int), ()), ()))
    (fun i hi hp => by
      have g1 := wrap_succ (i := i) (by omega)
      simp [f199_L0, Out.eval, hi, g1, hp])
    (fun i hi hp => by simp [f199_L0, Out.eval, hi, hp])
    (by simp [f199_L0, Out.eval]) ha
  refine (eval_get_some this).trans ?_
  cases a.findIdx? (fun x : WriteD => writeNotV x.1 x.2.1) <;> rfl
def f127_tree (a0 : List (Int × List UInt8 × Unit)) : Out (((Bool × Unit) × Unit) × (Unit × Unit)) :=
 .ret ((((decide ((indexBadV a0) ≥ (0 : Int))), ()), ()), ((), ()))
def anyBadV (a : List WriteD) : Bool := a.any fun x => writeNotV x.1 x.2.1
def k127 : Con := { f := 127, lend := true, its := [⟨false, false, [.ro (.st (.cons (.int .i64) (.cons .str .nil)))]⟩], lay := [none, some (128, 0)], rs := [⟨false, false, [.b]⟩], F := fun x => .ret ((((anyBadV x.1.1), ()), ()), ((), ())) }
theorem f127_eq (x : itemsD k127.its) : bodyOut (cxOf [k199]) (fun _ => none) (codeOf Try.f127) k127.its k127.lay Try.f127.ntmps k127.rs [.tmp 4] x = f127_tree x.1.1 := by kernel_rfl
theorem f127_ok (hr : ∀ x : (List (Int × List UInt8 × Unit) × Unit) × Unit, itemsWF k127.its x → (f127_tree x.1.1).eval = (k127.F x).eval) : k127.Ok Try.prog :=
  con_fn [k199] ⟨k199_ok, trivial⟩ (by kernel_rfl) (codeOf_eq (by kernel_rfl)) (by kernel_rfl) (by kernel_rfl) (by kernel_rfl) f127_eq fun x hw _ hy => (hr x hw).trans hy
theorem k127_ok : k127.Ok Try.prog := by
  refine f127_ok fun x _ => ?_
  obtain ⟨⟨a, _⟩, _⟩ := x
  show (f127_tree a).eval = some (((anyBadV a, ()), ()), ((), ()))
  unfold f127_tree anyBadV indexBadV
  rw [idxV_ge]
  rfl
theorem not_any {α : Type} (a : List α) (p : α → Bool) : (!a.any fun x => !p x) = a.all p := by
  rw [Bool.eq_iff_iff]; simp
def f39_tree (a0 : List (List UInt8)) (a1 : List (Int × List UInt8 × Unit)) : Out (((Bool × Unit) × Unit) × (Unit × Unit)) :=
 .ite (((((List.length a0 : Nat) : Int) != (7 : Int))) == false)
 (.ite ((decide (((List.length a1 : Nat) : Int) > (20 : Int))) == false)
 (.ite (anyLongV a0)
 (.ret (((false, ()), ()), ((), ())))
 (.ret ((((!(anyBadV a1)), ()), ()), ((), ()))))
 (.ret (((false, ()), ()), ((), ()))))
 (.ret (((false, ()), ()), ((), ())))
def k39 : Con := { f := 39, lend := true, its := [⟨false, true, [.ro .str, .ro (.st (.cons (.int .i64) (.cons .str .nil)))]⟩], lay := [none], rs := [⟨false, false, [.b]⟩], F := fun x => .ret ((((diskOkV x.1.1 x.1.2.1), ()), ()), ((), ())) }
theorem f39_eq (x : itemsD k39.its) : bodyOut (cxOf [k125, k127]) (fun _ => none) (codeOf Try.f39) k39.its k39.lay Try.f39.ntmps k39.rs [.tmp 2] x = f39_tree x.1.1 x.1.2.1 := by kernel_rfl
theorem f39_ok (hr : ∀ x : (List (List UInt8) × List (Int × List UInt8 × Unit) × Unit) × Unit, itemsWF k39.its x → (f39_tree x.1.1 x.1.2.1).eval = (k39.F x).eval) : k39.Ok Try.prog :=
  con_fn [k125, k127] ⟨k125_ok, k127_ok, trivial⟩ (by kernel_rfl) (codeOf_eq (by kernel_rfl)) (by kernel_rfl) (by kernel_rfl) (by kernel_rfl) f39_eq fun x hw _ hy => (hr x hw).trans hy
theorem k39_ok : k39.Ok Try.prog := by
  refine f39_ok fun x _ => ?_
  obtain ⟨⟨a, b, _⟩, _⟩ := x
  show (f39_tree a b).eval = some (((diskOkV a b, ()), ()), ((), ()))
  unfold f39_tree diskOkV
  have e1 : (((a.length : Nat) : Int) != (7 : Int)) = !decide (a.length = 7) := ne_cast (m := 7)
  have e2 : decide (((b.length : Nat) : Int) > (20 : Int)) = !decide (b.length ≤ 20) := gt_cast (m := 20)
  have e3 : a.all (fun x => decide (x.length ≤ 600)) = !anyLongV a := (not_any a _).symm
  have e4 : b.all (fun x => writeOkV x.1 x.2.1) = !anyBadV b := (not_any b _).symm
  rw [e1, e2, e3, e4]
  by_cases h1 : a.length = 7 <;> by_cases h2 : b.length ≤ 20 <;> cases h3 : anyLongV a <;> simp [Out.eval, h1, h2]

end Go.Proofs.Ytjcinikojcfebaa.Dm
