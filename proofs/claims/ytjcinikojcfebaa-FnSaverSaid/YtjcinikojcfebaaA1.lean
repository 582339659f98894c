/- Functions of the program, and what they compute. -/
import Derived.Test.YtjcinikojcfebaaBase
namespace Go.Proofs.Ytjcinikojcfebaa.Dm
open Go Go.ChangeShapes Go.WideShapes Go.ChangeAt Go.RowKit

abbrev Str := List UInt8
abbrev WriteD := Int × (Str × Unit)

/-! ## Numbers that go up -/
def up (k : Int) : Nat → Int
  | 0 => k
  | n + 1 => IntKind.i64.wrap (up k n + 1)
theorem up_one : ∀ {n : Nat}, n < BIG → up 1 n = ((n + 1 : Nat) : Int)
  | 0, _ => rfl
  | n + 1, h => by
    rw [up, up_one (by omega)]
    exact wrap_succ (by omega)
theorem up_add (k : Int) (n : Nat) : ∀ m, up (up k n) m = up k (n + m)
  | 0 => rfl
  | m + 1 => by rw [up, up_add k n m]; rfl

/-! ## Lists, item by item -/
theorem all_eq {α : Type} [DecidableEq α] (a b : List α) (hl : a.length = b.length) : (List.range a.length).all (fun i => decide (a[i]? = b[i]?)) = decide (a = b) := by
  rw [Bool.eq_iff_iff, List.all_eq_true, decide_eq_true_iff]
  constructor
  · intro h
    apply List.ext_getElem?
    intro i
    by_cases hi : i < a.length
    · exact of_decide_eq_true (h i (List.mem_range.2 hi))
    · rw [List.getElem?_eq_none (by omega), List.getElem?_eq_none (by omega)]
  · rintro rfl
    intro i _
    exact decide_eq_true rfl
theorem len_ne {a b : Nat} (h : a ≠ b) : (((a : Nat) : Int) != ((b : Nat) : Int)) = true := by
  simp only [bne_iff_ne, ne_eq]; omega
theorem len_eq {a b : Nat} (h : a = b) : (((a : Nat) : Int) != ((b : Nat) : Int)) = false := by
  subst h; simp
theorem lt_t {i n : Nat} (h : i < n) : decide (((i : Nat) : Int) < ((n : Nat) : Int)) = true := decide_eq_true (by omega)
theorem lt_f {i n : Nat} (h : ¬ i < n) : decide (((i : Nat) : Int) < ((n : Nat) : Int)) = false := decide_eq_false (by omega)
theorem ge0 (i : Nat) : decide (0 ≤ ((i : Nat) : Int)) = true := decide_eq_true (by omega)
theorem inr_t {i n : Nat} (h : i < n) : decide (0 ≤ ((i : Nat) : Int) ∧ ((i : Nat) : Int) < ((n : Nat) : Int)) = true := decide_eq_true (by omega)

/-- A loop that holds two lists against each other. -/
theorem eq_loop {α : Type} [DecidableEq α] {σ β γ : Type} {f : σ → Out (Round σ β γ)} (a b : List α) (s : Nat → σ) {y : β} {z : γ} (hl : a.length = b.length) (ha : a.length ≤ BIG)
    (hy : ∀ i (hi : i < a.length) (hi' : i < b.length), a[i] = b[i] → (f (s i)).eval = some (.again (s (i + 1)))) (hn : ∀ i (hi : i < a.length) (hi' : i < b.length), a[i] ≠ b[i] → (f (s i)).eval = some (.ret z))
    (he : (f (s a.length)).eval = some (.out y)) : iter f FUEL (s 0) = some (if a = b then .inl y else .inr z) := by
  have := iter_scan s (fun i => decide (a[i]? = b[i]?)) a.length (lt_fuel ha) (fun i hi hp => by
    have he := of_decide_eq_true hp
    rw [List.getElem?_eq_getElem hi, List.getElem?_eq_getElem (by omega)] at he
    exact hy i hi (by omega) (Option.some.inj he)) (fun i hi hp => by
    have he := of_decide_eq_false hp
    rw [List.getElem?_eq_getElem hi, List.getElem?_eq_getElem (by omega)] at he
    exact hn i hi (by omega) fun e => he (by rw [e])) he
  rw [this, all_eq a b hl]
  by_cases h : a = b
  · simp only [decide_eq_true h, if_true, if_pos h]
  · simp only [decide_eq_false h, if_neg h]; rfl

/-! ## Equal texts -/
abbrev f59_S0 := (List (List UInt8) × List (List UInt8) × Int × Unit) × (Unit)
def f59_L0 (x : f59_S0) : Out (Round f59_S0 ((Unit) × (Unit)) ((Bool × Unit) × (Unit))) :=
 .ite (decide (x.1.2.2.1 < ((List.length x.1.1 : Nat) : Int)))
 (.ite (decide (0 ≤ x.1.2.2.1))
 (.get (nth x.1.1 (Int.toNat x.1.2.2.1)) fun y1 =>
 .ite (decide (0 ≤ x.1.2.2.1))
 (.get (nth x.1.2.1 (Int.toNat x.1.2.2.1)) fun y2 =>
 .ite (y1 != y2)
 (.ret (.ret ((false, ()), ())))
 (.ret (.again ((x.1.1, x.1.2.1, (IntKind.i64.wrap (x.1.2.2.1 + (1 : Int))), ()), ()))))
 .fail)
 .fail)
 (.ret (.out ((), ())))
def f59_tree (a0 : List (List UInt8)) (a1 : List (List UInt8)) : Out (((Bool × Unit) × Unit) × (Unit × Unit × Unit)) :=
 .ite ((((List.length a0 : Nat) : Int) != ((List.length a1 : Nat) : Int)))
 (.ret (((false, ()), ()), ((), (), ())))
 (.get (iter f59_L0 FUEL ((a0, a1, (0 : Int), ()), ())) fun y1 => .alt y1 (fun y2 =>
 .ret (((true, ()), ()), ((), (), ()))) (fun y3 =>
 .ret (((y3.1.1, ()), ()), ((), (), ()))))
def f59_A : Nat → Option LoopAnn := fun n => annOf [(0, { head := { t := [.ro .str (some 0), .ro .str (some 1), .dead, .dead, .dead, .i .i64, .dead, .dead, .dead, .dead, .dead, .dead, .dead, .dead, .dead, .dead, .dead, .dead, .dead, .dead, .dead, .dead, .dead, .dead, .dead, .dead], v := [] }, out := { t := [.dead, .dead, .dead, .dead, .dead, .dead, .dead, .dead, .dead, .dead, .dead, .dead, .dead, .dead, .dead, .dead, .dead, .dead, .dead, .dead, .dead, .dead, .dead, .dead, .dead, .dead], v := [] }, ret := some { t := [.dead, .dead, .dead, .dead, .b, .dead, .dead, .dead, .dead, .dead, .dead, .dead, .dead, .dead, .dead, .dead, .dead, .dead, .dead, .dead, .dead, .dead, .dead, .dead, .dead, .dead], v := [] } })] n
def eqStrsV (a b : List Str) : Bool := decide (a = b)
def k59 : Con := { f := 59, lend := true, its := [⟨false, false, [.ro .str]⟩, ⟨false, false, [.ro .str]⟩], lay := [none, none], rs := [⟨false, false, [.b]⟩], F := fun x => .ret ((((eqStrsV x.1.1 x.2.1.1), ()), ()), ((), (), ())) }
theorem f59_eq (x : itemsD k59.its) : bodyOut (cxOf []) (f59_A) (codeOf Try.f59) k59.its k59.lay Try.f59.ntmps k59.rs [.tmp 4] x = f59_tree x.1.1 x.2.1.1 := by kernel_rfl
theorem f59_ok (hr : ∀ x : (List (List UInt8) × Unit) × (List (List UInt8) × Unit) × Unit, itemsWF k59.its x → (f59_tree x.1.1 x.2.1.1).eval = (k59.F x).eval) : k59.Ok Try.prog :=
  con_fn [] trivial (by kernel_rfl) (codeOf_eq (by kernel_rfl)) (by kernel_rfl) (by kernel_rfl) (by kernel_rfl) f59_eq fun x hw _ hy => (hr x hw).trans hy
theorem k59_ok : k59.Ok Try.prog := by
  refine f59_ok fun x hw => ?_
  obtain ⟨⟨a, _⟩, ⟨b, _⟩, _⟩ := x
  have ha : a.length ≤ BIG := hw.1.1.1
  show (f59_tree a b).eval = some (((eqStrsV a b, ()), ()), ((), ((), ())))
  unfold f59_tree
  by_cases hl : a.length = b.length
  · rw [eval_ite_f (len_eq hl)]
    have := eq_loop (f := f59_L0) a b (fun i => ((a, (b, (((i : Nat) : Int), ()))), ())) (y := ((), ())) (z := ((false, ()), ())) hl ha
      (fun i hi hi' he => by
        have := wrap_succ (i := i) (by omega)
        simp [f59_L0, Out.eval, hi, hi', he, this])
      (fun i hi hi' he => by simp [f59_L0, Out.eval, hi, hi', he, cond_eq_ite])
      (by simp [f59_L0, Out.eval])
    refine (eval_get_some this).trans ?_
    unfold eqStrsV
    by_cases hab : a = b
    · simp only [if_pos hab, decide_eq_true hab]; rfl
    · simp only [if_neg hab, decide_eq_false hab]; rfl
  · rw [eval_ite_t (len_ne hl)]
    have : eqStrsV a b = false := decide_eq_false fun e => hl (by rw [e])
    rw [this]
    rfl

/-! ## Writes -/
def f160_tree (a0 : Int) (a1 : List UInt8) (a2 : Int) (a3 : List UInt8) : Out (((Bool × Unit) × Unit) × (Unit × Unit × Unit)) :=
 .ite ((a0 != a2))
 (.ret (((false, ()), ()), ((), (), ())))
 (.ite (a1 != a3)
 (.ret (((false, ()), ()), ((), (), ())))
 (.ret (((true, ()), ()), ((), (), ()))))
def eqWriteV (a : Int) (b : Str) (c : Int) (d : Str) : Bool := decide ((a, (b, ())) = ((c, (d, ())) : WriteD))
def k160 : Con := { f := 160, lend := true, its := [⟨false, true, [.i .i64, .s]⟩, ⟨false, true, [.i .i64, .s]⟩], lay := [none, none], rs := [⟨false, false, [.b]⟩], F := fun x => .ret ((((eqWriteV x.1.1 x.1.2.1 x.2.1.1 x.2.1.2.1), ()), ()), ((), (), ())) }
theorem f160_eq (x : itemsD k160.its) : bodyOut (cxOf []) (fun _ => none) (codeOf Try.f160) k160.its k160.lay Try.f160.ntmps k160.rs [.tmp 4] x = f160_tree x.1.1 x.1.2.1 x.2.1.1 x.2.1.2.1 := by kernel_rfl
theorem f160_ok (hr : ∀ x : (Int × List UInt8 × Unit) × (Int × List UInt8 × Unit) × Unit, itemsWF k160.its x → (f160_tree x.1.1 x.1.2.1 x.2.1.1 x.2.1.2.1).eval = (k160.F x).eval) : k160.Ok Try.prog :=
  con_fn [] trivial (by kernel_rfl) (codeOf_eq (by kernel_rfl)) (by kernel_rfl) (by kernel_rfl) (by kernel_rfl) f160_eq fun x hw _ hy => (hr x hw).trans hy
theorem k160_ok : k160.Ok Try.prog := by
  refine f160_ok fun x _ => ?_
  obtain ⟨⟨a, b, _⟩, ⟨c, d, _⟩, _⟩ := x
  show (f160_tree a b c d).eval = some (((eqWriteV a b c d, ()), ()), ((), ((), ())))
  unfold f160_tree eqWriteV
  by_cases h1 : a = c
  · rw [eval_ite_f (by simp [h1])]
    by_cases h2 : b = d
    · rw [eval_ite_f (by simp [h2])]
      simp [h1, h2]; rfl
    · rw [eval_ite_t (by simp [h2])]
      simp [h1, h2]; rfl
  · rw [eval_ite_t (by simp [h1])]
    simp [h1]; rfl
theorem eqWriteV_eq (x y : WriteD) : eqWriteV x.1 x.2.1 y.1 y.2.1 = decide (x = y) := rfl
abbrev f68_S0 := (List ((Int × List UInt8 × Unit)) × List ((Int × List UInt8 × Unit)) × Int × Unit) × (Unit)
def f68_L0 (x : f68_S0) : Out (Round f68_S0 ((Unit) × (Unit)) ((Bool × Unit) × (Unit))) :=
 .ite (decide (x.1.2.2.1 < ((List.length x.1.1 : Nat) : Int)))
 (.ite (decide (0 ≤ x.1.2.2.1))
 (.get (nth x.1.1 (Int.toNat x.1.2.2.1)) fun y1 =>
 .ite (decide (0 ≤ x.1.2.2.1))
 (.get (nth x.1.2.1 (Int.toNat x.1.2.2.1)) fun y2 =>
 .ite (!(eqWriteV y1.1 y1.2.1 y2.1 y2.2.1))
 (.ret (.ret ((false, ()), ())))
 (.ret (.again ((x.1.1, x.1.2.1, (IntKind.i64.wrap (x.1.2.2.1 + (1 : Int))), ()), ()))))
 .fail)
 .fail)
 (.ret (.out ((), ())))
def f68_tree (a0 : List (Int × List UInt8 × Unit)) (a1 : List (Int × List UInt8 × Unit)) : Out (((Bool × Unit) × Unit) × (Unit × Unit × Unit)) :=
 .ite ((((List.length a0 : Nat) : Int) != ((List.length a1 : Nat) : Int)))
 (.ret (((false, ()), ()), ((), (), ())))
 (.get (iter f68_L0 FUEL ((a0, a1, (0 : Int), ()), ())) fun y1 => .alt y1 (fun y2 =>
 .ret (((true, ()), ()), ((), (), ()))) (fun y3 =>
 .ret (((y3.1.1, ()), ()), ((), (), ()))))
def f68_A : Nat → Option LoopAnn := fun n => annOf [(0, { head := { t := [.ro (.st (.cons (.int .i64) (.cons .str .nil))) (some 0), .ro (.st (.cons (.int .i64) (.cons .str .nil))) (some 1), .dead, .dead, .dead, .i .i64, .dead, .dead, .dead, .dead, .dead, .dead, .dead, .dead, .dead, .dead, .dead, .dead, .dead, .dead, .dead, .dead, .dead, .dead, .dead, .dead, .dead], v := [] }, out := { t := [.dead, .dead, .dead, .dead, .dead, .dead, .dead, .dead, .dead, .dead, .dead, .dead, .dead, .dead, .dead, .dead, .dead, .dead, .dead, .dead, .dead, .dead, .dead, .dead, .dead, .dead, .dead], v := [] }, ret := some { t := [.dead, .dead, .dead, .dead, .b, .dead, .dead, .dead, .dead, .dead, .dead, .dead, .dead, .dead, .dead, .dead, .dead, .dead, .dead, .dead, .dead, .dead, .dead, .dead, .dead, .dead, .dead], v := [] } })] n
def eqWritesV (a b : List WriteD) : Bool := decide (a = b)
def k68 : Con := { f := 68, lend := true, its := [⟨false, false, [.ro (.st (.cons (.int .i64) (.cons .str .nil)))]⟩, ⟨false, false, [.ro (.st (.cons (.int .i64) (.cons .str .nil)))]⟩], lay := [none, none], rs := [⟨false, false, [.b]⟩], F := fun x => .ret ((((eqWritesV x.1.1 x.2.1.1), ()), ()), ((), (), ())) }
theorem f68_eq (x : itemsD k68.its) : bodyOut (cxOf [k160]) (f68_A) (codeOf Try.f68) k68.its k68.lay Try.f68.ntmps k68.rs [.tmp 4] x = f68_tree x.1.1 x.2.1.1 := by kernel_rfl
theorem f68_ok (hr : ∀ x : (List (Int × List UInt8 × Unit) × Unit) × (List (Int × List UInt8 × Unit) × Unit) × Unit, itemsWF k68.its x → (f68_tree x.1.1 x.2.1.1).eval = (k68.F x).eval) : k68.Ok Try.prog :=
  con_fn [k160] ⟨k160_ok, trivial⟩ (by kernel_rfl) (codeOf_eq (by kernel_rfl)) (by kernel_rfl) (by kernel_rfl) (by kernel_rfl) f68_eq fun x hw _ hy => (hr x hw).trans hy
theorem k68_ok : k68.Ok Try.prog := by
  refine f68_ok fun x hw => ?_
  obtain ⟨⟨a, _⟩, ⟨b, _⟩, _⟩ := x
  have ha : a.length ≤ BIG := hw.1.1.1
  show (f68_tree a b).eval = some (((eqWritesV a b, ()), ()), ((), ((), ())))
  unfold f68_tree
  by_cases hl : a.length = b.length
  · rw [eval_ite_f (len_eq hl)]
    have := eq_loop (f := f68_L0) a b (fun i => ((a, (b, (((i : Nat) : Int), ()))), ())) (y := ((), ())) (z := ((false, ()), ())) hl ha
      (fun i hi hi' he => by
        have := wrap_succ (i := i) (by omega)
        simp [f68_L0, Out.eval, hi, hi', he, this, eqWriteV_eq])
      (fun i hi hi' he => by simp [f68_L0, Out.eval, hi, hi', he, cond_eq_ite, eqWriteV_eq])
      (by simp [f68_L0, Out.eval])
    refine (eval_get_some this).trans ?_
    unfold eqWritesV
    by_cases hab : a = b
    · simp only [if_pos hab, decide_eq_true hab]; rfl
    · simp only [if_neg hab, decide_eq_false hab]; rfl
  · rw [eval_ite_t (len_ne hl)]
    have : eqWritesV a b = false := decide_eq_false fun e => hl (by rw [e])
    rw [this]
    rfl

/-! ## Disks -/
def f26_tree  : Out (((List (List UInt8) × List (Int × List UInt8 × Unit) × Unit) × Unit) × (Unit)) :=
 .ite (decide (0 ≤ (7 : Int) ∧ (7 : Int) ≤ (7 : Int) ∧ (7 : Int) ≤ (LIM : Int)))
 (.ret ((((List.replicate (Int.toNat (7 : Int)) ([] : List UInt8)), ([] : List ((Int × List UInt8 × Unit))), ()), ()), ()))
 .fail
def newDiskV : List Str × List WriteD := (List.replicate 7 [], [])
def k26 : Con := { f := 26, lend := true, its := [], lay := [], rs := [⟨false, true, [.own .str, .own (.st (.cons (.int .i64) (.cons .str .nil)))]⟩], F := fun x => .ret ((((newDiskV).1, (newDiskV).2, ()), ()), ()) }
theorem f26_eq (x : itemsD k26.its) : bodyOut (cxOf []) (fun _ => none) (codeOf Try.f26) k26.its k26.lay Try.f26.ntmps k26.rs [.cell 0 25] x = f26_tree  := by kernel_rfl
theorem f26_ok (hr : ∀ x : Unit, itemsWF k26.its x → (f26_tree ).eval = (k26.F x).eval) : k26.Ok Try.prog :=
  con_fn [] trivial (by kernel_rfl) (codeOf_eq (by kernel_rfl)) (by kernel_rfl) (by kernel_rfl) (by kernel_rfl) f26_eq fun x hw _ hy => (hr x hw).trans hy
theorem k26_ok : k26.Ok Try.prog := f26_ok fun _ _ => rfl
def f27_tree  : Out (((List (List UInt8) × List (Int × List UInt8 × Unit) × Unit) × Unit) × (Unit)) :=
 .ite (decide (0 ≤ (7 : Int) ∧ (7 : Int) ≤ (7 : Int) ∧ (7 : Int) ≤ (LIM : Int)))
 (.ret ((((List.replicate (Int.toNat (7 : Int)) ([] : List UInt8)), ([] : List ((Int × List UInt8 × Unit))), ()), ()), ()))
 .fail
def k27 : Con := { f := 27, lend := true, its := [], lay := [], rs := [⟨false, true, [.own .str, .own (.st (.cons (.int .i64) (.cons .str .nil)))]⟩], F := fun x => .ret ((((newDiskV).1, (newDiskV).2, ()), ()), ()) }
theorem f27_eq (x : itemsD k27.its) : bodyOut (cxOf []) (fun _ => none) (codeOf Try.f27) k27.its k27.lay Try.f27.ntmps k27.rs [.cell 0 25] x = f27_tree  := by kernel_rfl
theorem f27_ok (hr : ∀ x : Unit, itemsWF k27.its x → (f27_tree ).eval = (k27.F x).eval) : k27.Ok Try.prog :=
  con_fn [] trivial (by kernel_rfl) (codeOf_eq (by kernel_rfl)) (by kernel_rfl) (by kernel_rfl) (by kernel_rfl) f27_eq fun x hw _ hy => (hr x hw).trans hy
theorem k27_ok : k27.Ok Try.prog := f27_ok fun _ _ => rfl
def f28_tree (a0 : List (List UInt8)) (a1 : List (Int × List UInt8 × Unit)) (a2 : List (List UInt8)) (a3 : List (Int × List UInt8 × Unit)) : Out (((Bool × Unit) × Unit) × (Unit × Unit × Unit)) :=
 .ite (!(eqStrsV a0 a2))
 (.ret (((false, ()), ()), ((), (), ())))
 (.ite (!(eqWritesV a1 a3))
 (.ret (((false, ()), ()), ((), (), ())))
 (.ret (((true, ()), ()), ((), (), ()))))
def eqDiskV (a : List Str) (b : List WriteD) (c : List Str) (d : List WriteD) : Bool := decide (a = c) && decide (b = d)
def k28 : Con := { f := 28, lend := true, its := [⟨false, true, [.ro .str, .ro (.st (.cons (.int .i64) (.cons .str .nil)))]⟩, ⟨false, true, [.ro .str, .ro (.st (.cons (.int .i64) (.cons .str .nil)))]⟩], lay := [none, none], rs := [⟨false, false, [.b]⟩], F := fun x => .ret ((((eqDiskV x.1.1 x.1.2.1 x.2.1.1 x.2.1.2.1), ()), ()), ((), (), ())) }
theorem f28_eq (x : itemsD k28.its) : bodyOut (cxOf [k59, k68]) (fun _ => none) (codeOf Try.f28) k28.its k28.lay Try.f28.ntmps k28.rs [.tmp 4] x = f28_tree x.1.1 x.1.2.1 x.2.1.1 x.2.1.2.1 := by kernel_rfl
theorem f28_ok (hr : ∀ x : (List (List UInt8) × List (Int × List UInt8 × Unit) × Unit) × (List (List UInt8) × List (Int × List UInt8 × Unit) × Unit) × Unit, itemsWF k28.its x → (f28_tree x.1.1 x.1.2.1 x.2.1.1 x.2.1.2.1).eval = (k28.F x).eval) : k28.Ok Try.prog :=
  con_fn [k59, k68] ⟨k59_ok, k68_ok, trivial⟩ (by kernel_rfl) (codeOf_eq (by kernel_rfl)) (by kernel_rfl) (by kernel_rfl) (by kernel_rfl) f28_eq fun x hw _ hy => (hr x hw).trans hy
theorem k28_ok : k28.Ok Try.prog := by
  refine f28_ok fun x _ => ?_
  obtain ⟨⟨a, b, _⟩, ⟨c, d, _⟩, _⟩ := x
  show (f28_tree a b c d).eval = some (((eqDiskV a b c d, ()), ()), ((), ((), ())))
  unfold f28_tree eqDiskV eqStrsV eqWritesV
  by_cases h1 : a = c <;> by_cases h2 : b = d <;> simp [Out.eval, h1, h2] <;> rfl

/-! ## Marks -/
abbrev f154_S0 := (Int × List UInt8 × Unit) × (Unit)
def f154_L0 (x : f154_S0) : Out (Round f154_S0 ((List UInt8 × Unit) × (Unit)) Empty) :=
 .ite (decide (x.1.1 > (0 : Int)))
 (.ite ((10 : Int) == 0)
 .fail
 (.ite (decide (List.length (List.map (fun n : Int => UInt8.ofNat n.toNat) ([(IntKind.u8.wrap (IntKind.i64.wrap ((48 : Int) + (Int.tmod x.1.1 (10 : Int)))))] : List (Int))) + List.length x.1.2.1 ≤ LIM))
 (.ite ((10 : Int) == 0)
 .fail
 (.ret (.again (((IntKind.i64.wrap (Int.tdiv x.1.1 (10 : Int))), ((List.map (fun n : Int => UInt8.ofNat n.toNat) ([(IntKind.u8.wrap (IntKind.i64.wrap ((48 : Int) + (Int.tmod x.1.1 (10 : Int)))))] : List (Int))) ++ x.1.2.1), ()), ()))))
 .fail))
 (.ret (.out ((x.1.2.1, ()), ())))
def f154_tree (a0 : Int) : Out (((List UInt8 × Unit) × Unit) × (Unit × Unit)) :=
 .ite (decide (a0 ≤ (0 : Int)))
 (.ret (((([109, 48] : List UInt8), ()), ()), ((), ())))
 (.get (iter1 f154_L0 FUEL ((a0, ([] : List UInt8), ()), ())) fun y1 =>
 .ite (decide (List.length ([109] : List UInt8) + List.length y1.1.1 ≤ LIM))
 (.ret ((((([109] : List UInt8) ++ y1.1.1), ()), ()), ((), ())))
 .fail)
def f154_A : Nat → Option LoopAnn := fun n => annOf [(0, { head := { t := [.i .i64, .dead, .dead, .s, .dead, .dead, .dead, .dead, .dead, .dead, .dead, .dead, .dead, .dead, .dead, .dead, .dead, .dead, .dead, .dead], v := [] }, out := { t := [.dead, .dead, .dead, .s, .dead, .dead, .dead, .dead, .dead, .dead, .dead, .dead, .dead, .dead, .dead, .dead, .dead, .dead, .dead, .dead], v := [] }, ret := none })] n
def markTextV (k : Int) : Str :=
  match (f154_tree k).eval with
  | some r => r.1.1.1
  | none => []
theorem f154_loop : ∀ (m : Nat) (k : Int) (out : Str) (n : Nat), k < 10 ^ m → k ≤ 9223372036854775807 → out.length + m ≤ 100 → m < n → ∃ out', out'.length ≤ 100 ∧ iter f154_L0 n ((k, (out, ())), ()) = some (.inl ((out', ()), ()))
  | 0, k, out, n, h1, _, h3, h4 => by
    refine ⟨out, by omega, iter_out' ?_ h4⟩
    have : ¬ (0 < k) := by simp at h1; omega
    simp [f154_L0, Out.eval, this]
  | m + 1, k, out, n, h1, h2, h3, h4 => by
    obtain ⟨n, rfl⟩ : ∃ n', n = n' + 1 := ⟨n - 1, by omega⟩
    by_cases hk : 0 < k
    · have hd : k.tdiv 10 = k / 10 := Int.tdiv_eq_ediv_of_nonneg (by omega)
      have hw : IntKind.i64.wrap (k.tdiv 10) = k / 10 := by rw [hd]; exact wrap_id (by omega) (by omega)
      have hl : 1 + out.length ≤ LIM := by show 1 + out.length ≤ 68719476736; omega
      obtain ⟨out', q1, q2⟩ := f154_loop m (k / 10) ([UInt8.ofNat (IntKind.u8.wrap (IntKind.i64.wrap (48 + k.tmod 10))).toNat] ++ out) n (by rw [Int.pow_succ] at h1; omega) (by omega) (by simp; omega) (by omega)
      refine ⟨out', q1, ?_⟩
      rw [iter_again (x' := ((k / 10, ([UInt8.ofNat (IntKind.u8.wrap (IntKind.i64.wrap (48 + k.tmod 10))).toNat] ++ out, ())), ())), q2]
      simp [f154_L0, Out.eval, hk, hw, hl]
    · refine ⟨out, by omega, iter_out' ?_ (by omega)⟩
      simp [f154_L0, Out.eval, hk]
theorem f154_first (k : Int) : ∃ out', out'.length ≤ 100 ∧ iter f154_L0 FUEL ((k, (([] : Str), ())), ()) = some (.inl ((out', ()), ())) := by
  by_cases hk : 0 < k
  · have hw := wrap_within .i64 (k.tdiv 10)
    have hmax : IntKind.i64.max = 9223372036854775807 := by decide
    have h19 : (10 : Int) ^ 19 = 10000000000000000000 := by decide
    obtain ⟨out', q1, q2⟩ := f154_loop 19 (IntKind.i64.wrap (k.tdiv 10)) ([UInt8.ofNat (IntKind.u8.wrap (IntKind.i64.wrap (48 + k.tmod 10))).toNat] ++ []) (FUEL - 1) (by omega) (by omega) (by simp) (by decide)
    refine ⟨out', q1, ?_⟩
    rw [show FUEL = (FUEL - 1) + 1 by decide, iter_again (x' := ((IntKind.i64.wrap (k.tdiv 10), ([UInt8.ofNat (IntKind.u8.wrap (IntKind.i64.wrap (48 + k.tmod 10))).toNat] ++ [], ())), ())), q2]
    have h1 : 1 ≤ LIM := by decide
    simp [f154_L0, Out.eval, hk, h1]
  · refine ⟨[], by simp, iter_out' ?_ (by decide)⟩
    simp [f154_L0, Out.eval, hk]
theorem f154_total (k : Int) : ∃ s, (f154_tree k).eval = some (((s, ()), ()), ((), ())) := by
  unfold f154_tree
  by_cases hk : k ≤ 0
  · exact ⟨_, by rw [eval_ite_t (decide_eq_true hk)]; rfl⟩
  · obtain ⟨out', q1, q2⟩ := f154_first k
    refine ⟨[109] ++ out', ?_⟩
    rw [eval_ite_f (decide_eq_false hk)]
    have : iter1 f154_L0 FUEL ((k, (([] : Str), ())), ()) = some ((out', ()), ()) := by unfold iter1; rw [q2]; rfl
    refine (eval_get_some this).trans ?_
    rw [eval_ite_t (decide_eq_true (by show 1 + out'.length ≤ 68719476736; omega))]
    rfl
def k154 : Con := { f := 154, lend := true, its := [⟨false, false, [.i .i64]⟩], lay := [none], rs := [⟨false, false, [.s]⟩], F := fun x => .ret ((((markTextV x.1.1), ()), ()), ((), ())) }
theorem f154_eq (x : itemsD k154.its) : bodyOut (cxOf []) (f154_A) (codeOf Try.f154) k154.its k154.lay Try.f154.ntmps k154.rs [.tmp 2] x = f154_tree x.1.1 := by kernel_rfl
theorem f154_ok (hr : ∀ x : (Int × Unit) × Unit, itemsWF k154.its x → (f154_tree x.1.1).eval = (k154.F x).eval) : k154.Ok Try.prog :=
  con_fn [] trivial (by kernel_rfl) (codeOf_eq (by kernel_rfl)) (by kernel_rfl) (by kernel_rfl) (by kernel_rfl) f154_eq fun x hw _ hy => (hr x hw).trans hy
theorem k154_ok : k154.Ok Try.prog := by
  refine f154_ok fun x _ => ?_
  obtain ⟨⟨k, _⟩, _⟩ := x
  show (f154_tree k).eval = some (((markTextV k, ()), ()), ((), ()))
  obtain ⟨s, hs⟩ := f154_total k
  unfold markTextV
  rw [hs]

/-- A list whose first items are new. -/
def markL {α : Type} (g : Nat → α) (a : List α) (i : Nat) : List α := (List.range i).map g ++ a.drop i
theorem markL_zero {α : Type} (g : Nat → α) (a : List α) : markL g a 0 = a := by simp [markL]
theorem markL_all {α : Type} (g : Nat → α) (a : List α) : markL g a a.length = (List.range a.length).map g := by simp [markL]
theorem markL_length {α : Type} {g : Nat → α} {a : List α} {i : Nat} (h : i ≤ a.length) : (markL g a i).length = a.length := by simp [markL]; omega
theorem markL_get {α : Type} {g : Nat → α} {a : List α} {i : Nat} (h : i < a.length) : (markL g a i)[i]? = some a[i] := by
  unfold markL
  rw [List.getElem?_append_right (by simp)]
  simp [List.getElem?_eq_getElem h]
theorem markL_set {α : Type} {g : Nat → α} {a : List α} {i : Nat} (h : i < a.length) : (markL g a i).set i (g i) = markL g a (i + 1) := by
  apply List.ext_getElem?
  intro j
  have h1 : i < (markL g a i).length := by rw [markL_length (by omega)]; exact h
  rw [List.getElem?_set]
  by_cases hj : i = j
  · subst hj
    rw [if_pos rfl, if_pos h1]
    unfold markL
    rw [List.getElem?_append_left (by simp)]
    simp
  · rw [if_neg hj]
    unfold markL
    by_cases hlt : j < i
    · rw [List.getElem?_append_left (by simp; exact hlt), List.getElem?_append_left (by simp; omega)]
      simp [hlt, show j < i + 1 by omega]
    · rw [List.getElem?_append_right (by simp; omega), List.getElem?_append_right (by simp; omega)]
      simp only [List.length_map, List.length_range, List.getElem?_drop]
      congr 1
      omega

abbrev f62_S0 := (Int × Int × Unit) × (List (List UInt8) × Unit)
def f62_L0 (x : f62_S0) : Out (Round f62_S0 ((Int × Unit) × (List (List UInt8) × Unit)) Empty) :=
 .ite (decide (x.1.2.1 < ((List.length x.2.1 : Nat) : Int)))
 (.ite (decide (0 ≤ x.1.2.1 ∧ x.1.2.1 < ((List.length x.2.1 : Nat) : Int)))
 (.get (nth x.2.1 (Int.toNat x.1.2.1)) fun y1 =>
 .ret (.again (((IntKind.i64.wrap (x.1.1 + (1 : Int))), (IntKind.i64.wrap (x.1.2.1 + (1 : Int))), ()), ((List.set x.2.1 (Int.toNat x.1.2.1) (markTextV x.1.1)), ()))))
 .fail)
 (.ret (.out ((x.1.1, ()), (x.2.1, ()))))
def f62_tree (a0 : List (List UInt8)) (a1 : Int) : Out (((Int × Unit) × Unit) × ((List (List UInt8) × Unit) × Unit × Unit)) :=
 .get (iter1 f62_L0 FUEL ((a1, (0 : Int), ()), (a0, ()))) fun y1 =>
 .ret (((y1.1.1, ()), ()), ((y1.2.1, ()), (), ()))
def f62_A : Nat → Option LoopAnn := fun n => annOf [(0, { head := { t := [.srf 0, .i .i64, .dead, .dead, .dead, .i .i64, .dead, .dead, .dead, .dead, .dead, .dead, .dead, .dead, .dead, .dead, .dead, .dead, .dead, .dead], v := [(0, .arr .str)] }, out := { t := [.srf 0, .i .i64, .dead, .dead, .dead, .dead, .dead, .dead, .dead, .dead, .dead, .dead, .dead, .dead, .dead, .dead, .dead, .dead, .dead, .dead], v := [(0, .arr .str)] }, ret := none })] n
def markStringSV (a : List Str) (k : Int) : Int × List Str := (up k a.length, (List.range a.length).map fun i => markTextV (up k i))
def k62 : Con := { f := 62, lend := true, its := [⟨false, false, [.mut .str]⟩, ⟨false, false, [.i .i64]⟩], lay := [none, none], rs := [⟨false, false, [.i .i64]⟩], F := fun x => .ret ((((markStringSV x.1.1 x.2.1.1).1, ()), ()), (((markStringSV x.1.1 x.2.1.1).2, ()), (), ())) }
theorem f62_eq (x : itemsD k62.its) : bodyOut (cxOf [k154]) (f62_A) (codeOf Try.f62) k62.its k62.lay Try.f62.ntmps k62.rs [.tmp 4] x = f62_tree x.1.1 x.2.1.1 := by kernel_rfl
theorem f62_ok (hr : ∀ x : (List (List UInt8) × Unit) × (Int × Unit) × Unit, itemsWF k62.its x → (f62_tree x.1.1 x.2.1.1).eval = (k62.F x).eval) : k62.Ok Try.prog :=
  con_fn [k154] ⟨k154_ok, trivial⟩ (by kernel_rfl) (codeOf_eq (by kernel_rfl)) (by kernel_rfl) (by kernel_rfl) (by kernel_rfl) f62_eq fun x hw _ hy => (hr x hw).trans hy
theorem k62_ok : k62.Ok Try.prog := by
  refine f62_ok fun x hw => ?_
  obtain ⟨⟨a, _⟩, ⟨k, _⟩, _⟩ := x
  have ha : a.length ≤ BIG := hw.1.1.1
  show (f62_tree a k).eval = some ((((markStringSV a k).1, ()), ()), (((markStringSV a k).2, ()), ((), ())))
  unfold f62_tree
  have := iter1_out (f := f62_L0) (fun i => ((up k i, (((i : Nat) : Int), ())), (markL (fun i => markTextV (up k i)) a i, ()))) a.length (y := ((up k a.length, ()), (markL (fun i => markTextV (up k i)) a a.length, ()))) (lt_fuel ha)
    (fun i hi => by
      have h1 := wrap_succ (i := i) (by omega)
      have h2 := markL_length (g := fun i => markTextV (up k i)) (show i ≤ a.length by omega)
      have h3 := markL_get (g := fun i => markTextV (up k i)) hi
      have h4 := markL_set (g := fun i => markTextV (up k i)) hi
      simp [f62_L0, Out.eval, h1, h2, h3, h4, hi, up])
    (by
      have h2 := markL_length (g := fun i => markTextV (up k i)) (Nat.le_refl a.length)
      simp [f62_L0, Out.eval, h2])
  simp only [markL_zero] at this
  refine (eval_get_some this).trans ?_
  rw [markL_all]
  rfl

def markW (k : Int) (i : Nat) : WriteD := (up k (2 * i), (markTextV (up k (2 * i + 1)), ()))
abbrev f69_S0 := (Int × Int × Unit) × (List ((Int × List UInt8 × Unit)) × Unit)
def f69_L0 (x : f69_S0) : Out (Round f69_S0 ((Int × Unit) × (List ((Int × List UInt8 × Unit)) × Unit)) Empty) :=
 .ite (decide (x.1.2.1 < ((List.length x.2.1 : Nat) : Int)))
 (.ite (decide (0 ≤ x.1.2.1 ∧ x.1.2.1 < ((List.length x.2.1 : Nat) : Int)))
 (.get (nth x.2.1 (Int.toNat x.1.2.1)) fun y1 =>
 .ite (decide (0 ≤ x.1.2.1 ∧ x.1.2.1 < ((List.length (List.set x.2.1 (Int.toNat x.1.2.1) (x.1.1, y1.2)) : Nat) : Int)))
 (.get (nth (List.set x.2.1 (Int.toNat x.1.2.1) (x.1.1, y1.2)) (Int.toNat x.1.2.1)) fun y2 =>
 .ret (.again (((IntKind.i64.wrap ((IntKind.i64.wrap (x.1.1 + (1 : Int))) + (1 : Int))), (IntKind.i64.wrap (x.1.2.1 + (1 : Int))), ()), ((List.set (List.set x.2.1 (Int.toNat x.1.2.1) (x.1.1, y1.2)) (Int.toNat x.1.2.1) (y2.1, ((markTextV (IntKind.i64.wrap (x.1.1 + (1 : Int)))), y2.2.2))), ()))))
 .fail)
 .fail)
 (.ret (.out ((x.1.1, ()), (x.2.1, ()))))
def f69_tree (a0 : List (Int × List UInt8 × Unit)) (a1 : Int) : Out (((Int × Unit) × Unit) × ((List (Int × List UInt8 × Unit) × Unit) × Unit × Unit)) :=
 .get (iter1 f69_L0 FUEL ((a1, (0 : Int), ()), (a0, ()))) fun y1 =>
 .ret (((y1.1.1, ()), ()), ((y1.2.1, ()), (), ()))
def f69_A : Nat → Option LoopAnn := fun n => annOf [(0, { head := { t := [.srf 0, .i .i64, .dead, .dead, .dead, .i .i64, .dead, .dead, .dead, .dead, .dead, .dead, .dead, .dead, .dead, .dead, .dead, .dead, .dead, .dead, .dead, .dead, .dead, .dead, .dead, .dead, .dead, .dead], v := [(0, .arr (.st (.cons (.int .i64) (.cons .str .nil))))] }, out := { t := [.srf 0, .i .i64, .dead, .dead, .dead, .dead, .dead, .dead, .dead, .dead, .dead, .dead, .dead, .dead, .dead, .dead, .dead, .dead, .dead, .dead, .dead, .dead, .dead, .dead, .dead, .dead, .dead, .dead], v := [(0, .arr (.st (.cons (.int .i64) (.cons .str .nil))))] }, ret := none })] n
def markWriteSV (a : List WriteD) (k : Int) : Int × List WriteD := (up k (2 * a.length), (List.range a.length).map (markW k))
def k69 : Con := { f := 69, lend := true, its := [⟨false, false, [.mut (.st (.cons (.int .i64) (.cons .str .nil)))]⟩, ⟨false, false, [.i .i64]⟩], lay := [none, none], rs := [⟨false, false, [.i .i64]⟩], F := fun x => .ret ((((markWriteSV x.1.1 x.2.1.1).1, ()), ()), (((markWriteSV x.1.1 x.2.1.1).2, ()), (), ())) }
theorem f69_eq (x : itemsD k69.its) : bodyOut (cxOf [k154]) (f69_A) (codeOf Try.f69) k69.its k69.lay Try.f69.ntmps k69.rs [.tmp 4] x = f69_tree x.1.1 x.2.1.1 := by kernel_rfl
theorem f69_ok (hr : ∀ x : (List (Int × List UInt8 × Unit) × Unit) × (Int × Unit) × Unit, itemsWF k69.its x → (f69_tree x.1.1 x.2.1.1).eval = (k69.F x).eval) : k69.Ok Try.prog :=
  con_fn [k154] ⟨k154_ok, trivial⟩ (by kernel_rfl) (codeOf_eq (by kernel_rfl)) (by kernel_rfl) (by kernel_rfl) (by kernel_rfl) f69_eq fun x hw _ hy => (hr x hw).trans hy
theorem k69_ok : k69.Ok Try.prog := by
  refine f69_ok fun x hw => ?_
  obtain ⟨⟨a, _⟩, ⟨k, _⟩, _⟩ := x
  have ha : a.length ≤ BIG := hw.1.1.1
  show (f69_tree a k).eval = some ((((markWriteSV a k).1, ()), ()), (((markWriteSV a k).2, ()), ((), ())))
  unfold f69_tree
  have := iter1_out (f := f69_L0) (fun i => ((up k (2 * i), (((i : Nat) : Int), ())), (markL (markW k) a i, ()))) a.length (y := ((up k (2 * a.length), ()), (markL (markW k) a a.length, ()))) (lt_fuel ha)
    (fun i hi => by
      have h1 := wrap_succ (i := i) (by omega)
      have h2 := markL_length (g := markW k) (show i ≤ a.length by omega)
      have h3 := markL_get (g := markW k) hi
      have h4 := markL_set (g := markW k) hi
      have h5 : i < (markL (markW k) a i).length := by omega
      have h6 : up k (2 * (i + 1)) = IntKind.i64.wrap (IntKind.i64.wrap (up k (2 * i) + 1) + 1) := rfl
      have h7 : markW k i = (up k (2 * i), (markTextV (IntKind.i64.wrap (up k (2 * i) + 1)), ())) := rfl
      rw [h7] at h4
      simp [f69_L0, Out.eval, h1, h2, h3, hi, h5, h6, h4])
    (by
      have h2 := markL_length (g := markW k) (Nat.le_refl a.length)
      simp [f69_L0, Out.eval, h2])
  simp only [markL_zero] at this
  refine (eval_get_some this).trans ?_
  rw [markL_all]
  rfl

def f29_tree (a0 : List (List UInt8)) (a1 : List (Int × List UInt8 × Unit)) (a2 : Int) : Out (((Int × Unit) × Unit) × ((List (List UInt8) × List (Int × List UInt8 × Unit) × Unit) × Unit × Unit)) :=
 .ret ((((markWriteSV a1 (markStringSV a0 a2).1).1, ()), ()), (((markStringSV a0 a2).2, (markWriteSV a1 (markStringSV a0 a2).1).2, ()), (), ()))
def markDiskV (a : List Str) (b : List WriteD) (k : Int) : Int × List Str × List WriteD := ((markWriteSV b (markStringSV a k).1).1, (markStringSV a k).2, (markWriteSV b (markStringSV a k).1).2)
def k29 : Con := { f := 29, lend := true, its := [⟨false, true, [.mut .str, .mut (.st (.cons (.int .i64) (.cons .str .nil)))]⟩, ⟨false, false, [.i .i64]⟩], lay := [none, none], rs := [⟨false, false, [.i .i64]⟩], F := fun x => .ret ((((markDiskV x.1.1 x.1.2.1 x.2.1.1).1, ()), ()), (((markDiskV x.1.1 x.1.2.1 x.2.1.1).2.1, (markDiskV x.1.1 x.1.2.1 x.2.1.1).2.2, ()), (), ())) }
theorem f29_eq (x : itemsD k29.its) : bodyOut (cxOf [k62, k69]) (fun _ => none) (codeOf Try.f29) k29.its k29.lay Try.f29.ntmps k29.rs [.tmp 4] x = f29_tree x.1.1 x.1.2.1 x.2.1.1 := by kernel_rfl
theorem f29_ok (hr : ∀ x : (List (List UInt8) × List (Int × List UInt8 × Unit) × Unit) × (Int × Unit) × Unit, itemsWF k29.its x → (f29_tree x.1.1 x.1.2.1 x.2.1.1).eval = (k29.F x).eval) : k29.Ok Try.prog :=
  con_fn [k62, k69] ⟨k62_ok, k69_ok, trivial⟩ (by kernel_rfl) (codeOf_eq (by kernel_rfl)) (by kernel_rfl) (by kernel_rfl) (by kernel_rfl) f29_eq fun x hw _ hy => (hr x hw).trans hy
theorem k29_ok : k29.Ok Try.prog := f29_ok fun _ _ => rfl

abbrev f63_S0 := (List (List UInt8) × Int × Int × Unit) × (Unit)
def f63_L0 (x : f63_S0) : Out (Round f63_S0 ((Int × Unit) × (Unit)) ((Int × Unit) × (Unit))) :=
 .ite (decide (x.1.2.2.1 < ((List.length x.1.1 : Nat) : Int)))
 (.ite (decide (0 ≤ x.1.2.2.1))
 (.get (nth x.1.1 (Int.toNat x.1.2.2.1)) fun y1 =>
 .ite (y1 != (markTextV x.1.2.1))
 (.ret (.ret (((-1 : Int), ()), ())))
 (.ret (.again ((x.1.1, (IntKind.i64.wrap (x.1.2.1 + (1 : Int))), (IntKind.i64.wrap (x.1.2.2.1 + (1 : Int))), ()), ()))))
 .fail)
 (.ret (.out ((x.1.2.1, ()), ())))
def f63_tree (a0 : List (List UInt8)) (a1 : Int) : Out (((Int × Unit) × Unit) × (Unit × Unit × Unit)) :=
 .get (iter f63_L0 FUEL ((a0, a1, (0 : Int), ()), ())) fun y1 => .alt y1 (fun y2 =>
 .ret (((y2.1.1, ()), ()), ((), (), ()))) (fun y3 =>
 .ret (((y3.1.1, ()), ()), ((), (), ())))
def f63_A : Nat → Option LoopAnn := fun n => annOf [(0, { head := { t := [.ro .str (some 0), .i .i64, .dead, .dead, .dead, .i .i64, .dead, .dead, .dead, .dead, .dead, .dead, .dead, .dead, .dead, .dead, .dead, .dead, .dead, .dead, .dead, .dead], v := [] }, out := { t := [.dead, .i .i64, .dead, .dead, .dead, .dead, .dead, .dead, .dead, .dead, .dead, .dead, .dead, .dead, .dead, .dead, .dead, .dead, .dead, .dead, .dead, .dead], v := [] }, ret := some { t := [.dead, .dead, .dead, .dead, .i .i64, .dead, .dead, .dead, .dead, .dead, .dead, .dead, .dead, .dead, .dead, .dead, .dead, .dead, .dead, .dead, .dead, .dead], v := [] } })] n
def heldStringSV (a : List Str) (k : Int) : Int := if a = (List.range a.length).map (fun i => markTextV (up k i)) then up k a.length else -1
def k63 : Con := { f := 63, lend := true, its := [⟨false, false, [.ro .str]⟩, ⟨false, false, [.i .i64]⟩], lay := [none, none], rs := [⟨false, false, [.i .i64]⟩], F := fun x => .ret ((((heldStringSV x.1.1 x.2.1.1), ()), ()), ((), (), ())) }
theorem f63_eq (x : itemsD k63.its) : bodyOut (cxOf [k154]) (f63_A) (codeOf Try.f63) k63.its k63.lay Try.f63.ntmps k63.rs [.tmp 4] x = f63_tree x.1.1 x.2.1.1 := by kernel_rfl
theorem f63_ok (hr : ∀ x : (List (List UInt8) × Unit) × (Int × Unit) × Unit, itemsWF k63.its x → (f63_tree x.1.1 x.2.1.1).eval = (k63.F x).eval) : k63.Ok Try.prog :=
  con_fn [k154] ⟨k154_ok, trivial⟩ (by kernel_rfl) (codeOf_eq (by kernel_rfl)) (by kernel_rfl) (by kernel_rfl) (by kernel_rfl) f63_eq fun x hw _ hy => (hr x hw).trans hy
theorem k63_ok : k63.Ok Try.prog := by
  refine f63_ok fun x hw => ?_
  obtain ⟨⟨a, _⟩, ⟨k, _⟩, _⟩ := x
  have ha : a.length ≤ BIG := hw.1.1.1
  show (f63_tree a k).eval = some (((heldStringSV a k, ()), ()), ((), ((), ())))
  unfold f63_tree
  have := eq_loop (f := f63_L0) a ((List.range a.length).map (fun i => markTextV (up k i))) (fun i => ((a, (up k i, (((i : Nat) : Int), ()))), ())) (y := ((up k a.length, ()), ())) (z := ((-1, ()), ())) (by simp) ha
    (fun i hi hi' he => by
      have := wrap_succ (i := i) (by omega)
      simp only [List.getElem_map, List.getElem_range] at he
      simp [f63_L0, Out.eval, hi, he, this, up])
    (fun i hi hi' he => by
      simp only [List.getElem_map, List.getElem_range] at he
      simp [f63_L0, Out.eval, hi, he, cond_eq_ite])
    (by simp [f63_L0, Out.eval])
  refine (eval_get_some this).trans ?_
  unfold heldStringSV
  split <;> rfl

abbrev f113_S0 := (List ((Int × List UInt8 × Unit)) × Int × Int × Unit) × (Unit)
def f113_L0 (x : f113_S0) : Out (Round f113_S0 ((Int × Unit) × (Unit)) ((Int × Unit) × (Unit))) :=
 .ite (decide (x.1.2.2.1 < ((List.length x.1.1 : Nat) : Int)))
 (.ite (decide (0 ≤ x.1.2.2.1))
 (.get (nth x.1.1 (Int.toNat x.1.2.2.1)) fun y1 =>
 .ite ((y1.1 != x.1.2.1))
 (.ret (.ret (((-1 : Int), ()), ())))
 (.ite (decide (0 ≤ x.1.2.2.1))
 (.get (nth x.1.1 (Int.toNat x.1.2.2.1)) fun y2 =>
 .ite (y2.2.1 != (markTextV (IntKind.i64.wrap (x.1.2.1 + (1 : Int)))))
 (.ret (.ret (((-1 : Int), ()), ())))
 (.ret (.again ((x.1.1, (IntKind.i64.wrap ((IntKind.i64.wrap (x.1.2.1 + (1 : Int))) + (1 : Int))), (IntKind.i64.wrap (x.1.2.2.1 + (1 : Int))), ()), ()))))
 .fail))
 .fail)
 (.ret (.out ((x.1.2.1, ()), ())))
def f113_tree (a0 : List (Int × List UInt8 × Unit)) (a1 : Int) : Out (((Int × Unit) × Unit) × (Unit × Unit × Unit)) :=
 .get (iter f113_L0 FUEL ((a0, a1, (0 : Int), ()), ())) fun y1 => .alt y1 (fun y2 =>
 .ret (((y2.1.1, ()), ()), ((), (), ()))) (fun y3 =>
 .ret (((y3.1.1, ()), ()), ((), (), ())))
def f113_A : Nat → Option LoopAnn := fun n => annOf [(0, { head := { t := [.ro (.st (.cons (.int .i64) (.cons .str .nil))) (some 0), .i .i64, .dead, .dead, .dead, .i .i64, .dead, .dead, .dead, .dead, .dead, .dead, .dead, .dead, .dead, .dead, .dead, .dead, .dead, .dead, .dead, .dead, .dead, .dead, .dead, .dead, .dead, .dead, .dead, .dead, .dead, .dead], v := [] }, out := { t := [.dead, .i .i64, .dead, .dead, .dead, .dead, .dead, .dead, .dead, .dead, .dead, .dead, .dead, .dead, .dead, .dead, .dead, .dead, .dead, .dead, .dead, .dead, .dead, .dead, .dead, .dead, .dead, .dead, .dead, .dead, .dead, .dead], v := [] }, ret := some { t := [.dead, .dead, .dead, .dead, .i .i64, .dead, .dead, .dead, .dead, .dead, .dead, .dead, .dead, .dead, .dead, .dead, .dead, .dead, .dead, .dead, .dead, .dead, .dead, .dead, .dead, .dead, .dead, .dead, .dead, .dead, .dead, .dead], v := [] } })] n
def heldWriteSV (a : List WriteD) (k : Int) : Int := if a = (List.range a.length).map (markW k) then up k (2 * a.length) else -1
def k113 : Con := { f := 113, lend := true, its := [⟨false, false, [.ro (.st (.cons (.int .i64) (.cons .str .nil)))]⟩, ⟨false, false, [.i .i64]⟩], lay := [none, none], rs := [⟨false, false, [.i .i64]⟩], F := fun x => .ret ((((heldWriteSV x.1.1 x.2.1.1), ()), ()), ((), (), ())) }
theorem f113_eq (x : itemsD k113.its) : bodyOut (cxOf [k154]) (f113_A) (codeOf Try.f113) k113.its k113.lay Try.f113.ntmps k113.rs [.tmp 4] x = f113_tree x.1.1 x.2.1.1 := by kernel_rfl
theorem f113_ok (hr : ∀ x : (List (Int × List UInt8 × Unit) × Unit) × (Int × Unit) × Unit, itemsWF k113.its x → (f113_tree x.1.1 x.2.1.1).eval = (k113.F x).eval) : k113.Ok Try.prog :=
  con_fn [k154] ⟨k154_ok, trivial⟩ (by kernel_rfl) (codeOf_eq (by kernel_rfl)) (by kernel_rfl) (by kernel_rfl) (by kernel_rfl) f113_eq fun x hw _ hy => (hr x hw).trans hy
theorem k113_ok : k113.Ok Try.prog := by
  refine f113_ok fun x hw => ?_
  obtain ⟨⟨a, _⟩, ⟨k, _⟩, _⟩ := x
  have ha : a.length ≤ BIG := hw.1.1.1
  show (f113_tree a k).eval = some (((heldWriteSV a k, ()), ()), ((), ((), ())))
  unfold f113_tree
  have := eq_loop (f := f113_L0) a ((List.range a.length).map (markW k)) (fun i => ((a, (up k (2 * i), (((i : Nat) : Int), ()))), ())) (y := ((up k (2 * a.length), ()), ())) (z := ((-1, ()), ())) (by simp) ha
    (fun i hi hi' he => by
      have := wrap_succ (i := i) (by omega)
      have h6 : up k (2 * (i + 1)) = IntKind.i64.wrap (IntKind.i64.wrap (up k (2 * i) + 1) + 1) := rfl
      simp only [List.getElem_map, List.getElem_range] at he
      simp [f113_L0, Out.eval, hi, he, this, h6, markW, up])
    (fun i hi hi' he => by
      simp only [List.getElem_map, List.getElem_range] at he
      by_cases h1 : a[i].1 = up k (2 * i)
      · have h2 : a[i].2.1 ≠ markTextV (IntKind.i64.wrap (up k (2 * i) + 1)) := fun e => he (by
          have : a[i] = (a[i].1, (a[i].2.1, ())) := rfl
          rw [this, h1, e]; rfl)
        simp [f113_L0, Out.eval, hi, h1, h2, cond_eq_ite]
      · simp [f113_L0, Out.eval, hi, h1, cond_eq_ite])
    (by simp [f113_L0, Out.eval])
  refine (eval_get_some this).trans ?_
  unfold heldWriteSV
  split <;> rfl

def f30_tree (a0 : List (List UInt8)) (a1 : List (Int × List UInt8 × Unit)) (a2 : Int) : Out (((Int × Unit) × Unit) × (Unit × Unit × Unit)) :=
 .ite (decide ((heldStringSV a0 a2) < (0 : Int)))
 (.ret ((((-1 : Int), ()), ()), ((), (), ())))
 (.ite (decide ((heldWriteSV a1 (heldStringSV a0 a2)) < (0 : Int)))
 (.ret ((((-1 : Int), ()), ()), ((), (), ())))
 (.ret ((((heldWriteSV a1 (heldStringSV a0 a2)), ()), ()), ((), (), ()))))
def heldDiskV (a : List Str) (b : List WriteD) (k : Int) : Int :=
  if heldStringSV a k < 0 then -1 else if heldWriteSV b (heldStringSV a k) < 0 then -1 else heldWriteSV b (heldStringSV a k)
def k30 : Con := { f := 30, lend := true, its := [⟨false, true, [.ro .str, .ro (.st (.cons (.int .i64) (.cons .str .nil)))]⟩, ⟨false, false, [.i .i64]⟩], lay := [none, none], rs := [⟨false, false, [.i .i64]⟩], F := fun x => .ret ((((heldDiskV x.1.1 x.1.2.1 x.2.1.1), ()), ()), ((), (), ())) }
theorem f30_eq (x : itemsD k30.its) : bodyOut (cxOf [k63, k113]) (fun _ => none) (codeOf Try.f30) k30.its k30.lay Try.f30.ntmps k30.rs [.tmp 4] x = f30_tree x.1.1 x.1.2.1 x.2.1.1 := by kernel_rfl
theorem f30_ok (hr : ∀ x : (List (List UInt8) × List (Int × List UInt8 × Unit) × Unit) × (Int × Unit) × Unit, itemsWF k30.its x → (f30_tree x.1.1 x.1.2.1 x.2.1.1).eval = (k30.F x).eval) : k30.Ok Try.prog :=
  con_fn [k63, k113] ⟨k63_ok, k113_ok, trivial⟩ (by kernel_rfl) (codeOf_eq (by kernel_rfl)) (by kernel_rfl) (by kernel_rfl) (by kernel_rfl) f30_eq fun x hw _ hy => (hr x hw).trans hy
theorem k30_ok : k30.Ok Try.prog := by
  refine f30_ok fun x _ => ?_
  obtain ⟨⟨a, b, _⟩, ⟨k, _⟩, _⟩ := x
  show (f30_tree a b k).eval = some (((heldDiskV a b k, ()), ()), ((), ((), ())))
  unfold f30_tree heldDiskV
  by_cases h1 : heldStringSV a k < 0
  · simp [Out.eval, h1]
  · by_cases h2 : heldWriteSV b (heldStringSV a k) < 0 <;> simp [Out.eval, h1, h2]

theorem held_markStrings (a : List Str) (k : Int) : heldStringSV (markStringSV a k).2 k = (markStringSV a k).1 := by
  simp [heldStringSV, markStringSV]
theorem held_markWrites (a : List WriteD) (k : Int) : heldWriteSV (markWriteSV a k).2 k = (markWriteSV a k).1 := by
  simp [heldWriteSV, markWriteSV]
/-- What was marked is held. -/
theorem held_markDisk {a : List Str} {b : List WriteD} (h : a.length + 2 * b.length < 4611686018427387904) : heldDiskV (markDiskV a b 1).2.1 (markDiskV a b 1).2.2 1 = (markDiskV a b 1).1 ∧ 0 ≤ (markDiskV a b 1).1 := by
  have h1 : (markStringSV a 1).1 = ((a.length + 1 : Nat) : Int) := up_one (by unfold BIG; omega)
  have h2 : (markWriteSV b (markStringSV a 1).1).1 = ((a.length + 2 * b.length + 1 : Nat) : Int) := by
    show up (up 1 a.length) (2 * b.length) = _
    rw [up_add, up_one (by unfold BIG; omega)]
  have h3 : (markDiskV a b 1).1 = ((a.length + 2 * b.length + 1 : Nat) : Int) := h2
  refine ⟨?_, by omega⟩
  unfold heldDiskV
  show (if heldStringSV (markStringSV a 1).2 1 < 0 then (-1 : Int) else if heldWriteSV (markWriteSV b (markStringSV a 1).1).2 (heldStringSV (markStringSV a 1).2 1) < 0 then -1 else heldWriteSV (markWriteSV b (markStringSV a 1).1).2 (heldStringSV (markStringSV a 1).2 1)) = _
  rw [held_markStrings, held_markWrites, if_neg (by omega), if_neg (by omega)]
  rfl

end Go.Proofs.Ytjcinikojcfebaa.Dm
