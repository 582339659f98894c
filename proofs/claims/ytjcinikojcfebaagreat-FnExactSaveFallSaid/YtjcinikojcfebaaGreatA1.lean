/- Functions of the program, and what they compute. -/
import Derived.Test.YtjcinikojcfebaaGreatBase
namespace Go.Proofs.YtjcinikojcfebaaGreat.Dm
open Go Go.ChangeShapes Go.WideShapes Go.ChangeAt Go.RowKit

abbrev Str := List UInt8
abbrev WriteD := Int × (Str × Unit)

/-! ## Numbers that go up -/
def up (k : Int) : Nat → Int
  | 0 => k
  | n + 1 => IntKind.i64.wrap (up k n + 1)
theorem up_one : ∀ {n : Nat}, n < BIG → up 1 n = ((n + 1 : Nat) : Int)
  | 0, _ => rfl
  | n + 1, h => by
    rw [up, up_one (by omega)]
    exact wrap_succ (by omega)
theorem up_add (k : Int) (n : Nat) : ∀ m, up (up k n) m = up k (n + m)
  | 0 => rfl
  | m + 1 => by rw [up, up_add k n m]; rfl

/-! ## Lists, item by item -/
theorem all_eq {α : Type} [DecidableEq α] (a b : List α) (hl : a.length = b.length) : (List.range a.length).all (fun i => decide (a[i]? = b[i]?)) = decide (a = b) := by
  rw [Bool.eq_iff_iff, List.all_eq_true, decide_eq_true_iff]
  constructor
  · intro h
    apply List.ext_getElem?
    intro i
    by_cases hi : i < a.length
    · exact of_decide_eq_true (h i (List.mem_range.2 hi))
    · rw [List.getElem?_eq_none (by omega), List.getElem?_eq_none (by omega)]
  · rintro rfl
    intro i _
    exact decide_eq_true rfl
theorem len_ne {a b : Nat} (h : a ≠ b) : (((a : Nat) : Int) != ((b : Nat) : Int)) = true := by
  simp only [bne_iff_ne, ne_eq]; omega
theorem len_eq {a b : Nat} (h : a = b) : (((a : Nat) : Int) != ((b : Nat) : Int)) = false := by
  subst h; simp
theorem lt_t {i n : Nat} (h : i < n) : decide (((i : Nat) : Int) < ((n : Nat) : Int)) = true := decide_eq_true (by omega)
theorem lt_f {i n : Nat} (h : ¬ i < n) : decide (((i : Nat) : Int) < ((n : Nat) : Int)) = false := decide_eq_false (by omega)
theorem ge0 (i : Nat) : decide (0 ≤ ((i : Nat) : Int)) = true := decide_eq_true (by omega)
theorem inr_t {i n : Nat} (h : i < n) : decide (0 ≤ ((i : Nat) : Int) ∧ ((i : Nat) : Int) < ((n : Nat) : Int)) = true := decide_eq_true (by omega)

/-- A loop that holds two lists against each other. -/
theorem eq_loop {α : Type} [DecidableEq α] {σ β γ : Type} {f : σ → Out (Round σ β γ)} (a b : List α) (s : Nat → σ) {y : β} {z : γ} (hl : a.length = b.length) (ha : a.length ≤ BIG)
    (hy : ∀ i (hi : i < a.length) (hi' : i < b.length), a[i] = b[i] → (f (s i)).eval = some (.again (s (i + 1)))) (hn : ∀ i (hi : i < a.length) (hi' : i < b.length), a[i] ≠ b[i] → (f (s i)).eval = some (.ret z))
    (he : (f (s a.length)).eval = some (.out y)) : iter f FUEL (s 0) = some (if a = b then .inl y else .inr z) := by
  have := iter_scan s (fun i => decide (a[i]? = b[i]?)) a.length (lt_fuel ha) (fun i hi hp => by
    have he := of_decide_eq_true hp
    rw [List.getElem?_eq_getElem hi, List.getElem?_eq_getElem (by omega)] at he
    exact hy i hi (by omega) (Option.some.inj he)) (fun i hi hp => by
    have he := of_decide_eq_false hp
    rw [List.getElem?_eq_getElem hi, List.getElem?_eq_getElem (by omega)] at he
    exact hn i hi (by omega) fun e => he (by rw [e])) he
  rw [this, all_eq a b hl]
  by_cases h : a = b
  · simp only [decide_eq_true h, if_true, if_pos h]
  · simp only [decide_eq_false h, if_neg h]; rfl

/-! ## Equal texts -/
abbrev f53_S0 := (List (List UInt8) × List (List UInt8) × Int × Unit) × (Unit)
def f53_L0 (x : f53_S0) : Out (Round f53_S0 ((Unit) × (Unit)) ((Bool × Unit) × (Unit))) :=
 .ite (decide (x.1.2.2.1 < ((List.length x.1.1 : Nat) : Int)))
 (.ite (decide (0 ≤ x.1.2.2.1))
 (.get (nth x.1.1 (Int.toNat x.1.2.2.1)) fun y1 =>
 .ite (decide (0 ≤ x.1.2.2.1))
 (.get (nth x.1.2.1 (Int.toNat x.1.2.2.1)) fun y2 =>
 .ite (y1 != y2)
 (.ret (.ret ((false, ()), ())))
 (.ret (.again ((x.1.1, x.1.2.1, (IntKind.i64.wrap (x.1.2.2.1 + (1 : Int))), ()), ()))))
 .fail)
 .fail)
 (.ret (.out ((), ())))
def f53_tree (a0 : List (List UInt8)) (a1 : List (List UInt8)) : Out (((Bool × Unit) × Unit) × (Unit × Unit × Unit)) :=
 .ite ((((List.length a0 : Nat) : Int) != ((List.length a1 : Nat) : Int)))
 (.ret (((false, ()), ()), ((), (), ())))
 (.get (iter f53_L0 FUEL ((a0, a1, (0 : Int), ()), ())) fun y1 => .alt y1 (fun y2 =>
 .ret (((true, ()), ()), ((), (), ()))) (fun y3 =>
 .ret (((y3.1.1, ()), ()), ((), (), ()))))
def f53_A : Nat → Option LoopAnn := fun n => annOf [(0, { head := { t := [.ro .str (some 0), .ro .str (some 1), .dead, .dead, .dead, .i .i64, .dead, .dead, .dead, .dead, .dead, .dead, .dead, .dead, .dead, .dead, .dead, .dead, .dead, .dead, .dead, .dead, .dead, .dead, .dead, .dead], v := [] }, out := { t := [.dead, .dead, .dead, .dead, .dead, .dead, .dead, .dead, .dead, .dead, .dead, .dead, .dead, .dead, .dead, .dead, .dead, .dead, .dead, .dead, .dead, .dead, .dead, .dead, .dead, .dead], v := [] }, ret := some { t := [.dead, .dead, .dead, .dead, .b, .dead, .dead, .dead, .dead, .dead, .dead, .dead, .dead, .dead, .dead, .dead, .dead, .dead, .dead, .dead, .dead, .dead, .dead, .dead, .dead, .dead], v := [] } })] n
def eqStrsV (a b : List Str) : Bool := decide (a = b)
def k53 : Con := { f := 53, lend := true, its := [⟨false, false, [.ro .str]⟩, ⟨false, false, [.ro .str]⟩], lay := [none, none], rs := [⟨false, false, [.b]⟩], F := fun x => .ret ((((eqStrsV x.1.1 x.2.1.1), ()), ()), ((), (), ())) }
theorem f53_eq (x : itemsD k53.its) : bodyOut (cxOf []) (f53_A) (codeOf Tryz.f53) k53.its k53.lay Tryz.f53.ntmps k53.rs [.tmp 4] x = f53_tree x.1.1 x.2.1.1 := by kernel_rfl
theorem f53_ok (hr : ∀ x : (List (List UInt8) × Unit) × (List (List UInt8) × Unit) × Unit, itemsWF k53.its x → (f53_tree x.1.1 x.2.1.1).eval = (k53.F x).eval) : k53.Ok Tryz.prog :=
  con_fn [] trivial (by kernel_rfl) (codeOf_eq (by kernel_rfl)) (by kernel_rfl) (by kernel_rfl) (by kernel_rfl) f53_eq fun x hw _ hy => (hr x hw).trans hy
theorem k53_ok : k53.Ok Tryz.prog := by
  refine f53_ok fun x hw => ?_
  obtain ⟨⟨a, _⟩, ⟨b, _⟩, _⟩ := x
  have ha : a.length ≤ BIG := hw.1.1.1
  show (f53_tree a b).eval = some (((eqStrsV a b, ()), ()), ((), ((), ())))
  unfold f53_tree
  by_cases hl : a.length = b.length
  · rw [eval_ite_f (len_eq hl)]
    have := eq_loop (f := f53_L0) a b (fun i => ((a, (b, (((i : Nat) : Int), ()))), ())) (y := ((), ())) (z := ((false, ()), ())) hl ha
      (fun i hi hi' he => by
        have := wrap_succ (i := i) (by omega)
        simp [f53_L0, Out.eval, hi, hi', he, this])
      (fun i hi hi' he => by simp [f53_L0, Out.eval, hi, hi', he, cond_eq_ite])
      (by simp [f53_L0, Out.eval])
    refine (eval_get_some this).trans ?_
    unfold eqStrsV
    by_cases hab : a = b
    · simp only [if_pos hab, decide_eq_true hab]; rfl
    · simp only [if_neg hab, decide_eq_false hab]; rfl
  · rw [eval_ite_t (len_ne hl)]
    have : eqStrsV a b = false := decide_eq_false fun e => hl (by rw [e])
    rw [this]
    rfl

/-! ## Writes -/
def f88_tree (a0 : Int) (a1 : List UInt8) (a2 : Int) (a3 : List UInt8) : Out (((Bool × Unit) × Unit) × (Unit × Unit × Unit)) :=
 .ite ((a0 != a2))
 (.ret (((false, ()), ()), ((), (), ())))
 (.ite (a1 != a3)
 (.ret (((false, ()), ()), ((), (), ())))
 (.ret (((true, ()), ()), ((), (), ()))))
def eqWriteV (a : Int) (b : Str) (c : Int) (d : Str) : Bool := decide ((a, (b, ())) = ((c, (d, ())) : WriteD))
def k88 : Con := { f := 88, lend := true, its := [⟨false, true, [.i .i64, .s]⟩, ⟨false, true, [.i .i64, .s]⟩], lay := [none, none], rs := [⟨false, false, [.b]⟩], F := fun x => .ret ((((eqWriteV x.1.1 x.1.2.1 x.2.1.1 x.2.1.2.1), ()), ()), ((), (), ())) }
theorem f88_eq (x : itemsD k88.its) : bodyOut (cxOf []) (fun _ => none) (codeOf Tryz.f88) k88.its k88.lay Tryz.f88.ntmps k88.rs [.tmp 4] x = f88_tree x.1.1 x.1.2.1 x.2.1.1 x.2.1.2.1 := by kernel_rfl
theorem f88_ok (hr : ∀ x : (Int × List UInt8 × Unit) × (Int × List UInt8 × Unit) × Unit, itemsWF k88.its x → (f88_tree x.1.1 x.1.2.1 x.2.1.1 x.2.1.2.1).eval = (k88.F x).eval) : k88.Ok Tryz.prog :=
  con_fn [] trivial (by kernel_rfl) (codeOf_eq (by kernel_rfl)) (by kernel_rfl) (by kernel_rfl) (by kernel_rfl) f88_eq fun x hw _ hy => (hr x hw).trans hy
theorem k88_ok : k88.Ok Tryz.prog := by
  refine f88_ok fun x _ => ?_
  obtain ⟨⟨a, b, _⟩, ⟨c, d, _⟩, _⟩ := x
  show (f88_tree a b c d).eval = some (((eqWriteV a b c d, ()), ()), ((), ((), ())))
  unfold f88_tree eqWriteV
  by_cases h1 : a = c
  · rw [eval_ite_f (by simp [h1])]
    by_cases h2 : b = d
    · rw [eval_ite_f (by simp [h2])]
      simp [h1, h2]; rfl
    · rw [eval_ite_t (by simp [h2])]
      simp [h1, h2]; rfl
  · rw [eval_ite_t (by simp [h1])]
    simp [h1]; rfl
theorem eqWriteV_eq (x y : WriteD) : eqWriteV x.1 x.2.1 y.1 y.2.1 = decide (x = y) := rfl
abbrev f54_S0 := (List ((Int × List UInt8 × Unit)) × List ((Int × List UInt8 × Unit)) × Int × Unit) × (Unit)
def f54_L0 (x : f54_S0) : Out (Round f54_S0 ((Unit) × (Unit)) ((Bool × Unit) × (Unit))) :=
 .ite (decide (x.1.2.2.1 < ((List.length x.1.1 : Nat) : Int)))
 (.ite (decide (0 ≤ x.1.2.2.1))
 (.get (nth x.1.1 (Int.toNat x.1.2.2.1)) fun y1 =>
 .ite (decide (0 ≤ x.1.2.2.1))
 (.get (nth x.1.2.1 (Int.toNat x.1.2.2.1)) fun y2 =>
 .ite (!(eqWriteV y1.1 y1.2.1 y2.1 y2.2.1))
 (.ret (.ret ((false, ()), ())))
 (.ret (.again ((x.1.1, x.1.2.1, (IntKind.i64.wrap (x.1.2.2.1 + (1 : Int))), ()), ()))))
 .fail)
 .fail)
 (.ret (.out ((), ())))
def f54_tree (a0 : List (Int × List UInt8 × Unit)) (a1 : List (Int × List UInt8 × Unit)) : Out (((Bool × Unit) × Unit) × (Unit × Unit × Unit)) :=
 .ite ((((List.length a0 : Nat) : Int) != ((List.length a1 : Nat) : Int)))
 (.ret (((false, ()), ()), ((), (), ())))
 (.get (iter f54_L0 FUEL ((a0, a1, (0 : Int), ()), ())) fun y1 => .alt y1 (fun y2 =>
 .ret (((true, ()), ()), ((), (), ()))) (fun y3 =>
 .ret (((y3.1.1, ()), ()), ((), (), ()))))
def f54_A : Nat → Option LoopAnn := fun n => annOf [(0, { head := { t := [.ro (.st (.cons (.int .i64) (.cons .str .nil))) (some 0), .ro (.st (.cons (.int .i64) (.cons .str .nil))) (some 1), .dead, .dead, .dead, .i .i64, .dead, .dead, .dead, .dead, .dead, .dead, .dead, .dead, .dead, .dead, .dead, .dead, .dead, .dead, .dead, .dead, .dead, .dead, .dead, .dead, .dead], v := [] }, out := { t := [.dead, .dead, .dead, .dead, .dead, .dead, .dead, .dead, .dead, .dead, .dead, .dead, .dead, .dead, .dead, .dead, .dead, .dead, .dead, .dead, .dead, .dead, .dead, .dead, .dead, .dead, .dead], v := [] }, ret := some { t := [.dead, .dead, .dead, .dead, .b, .dead, .dead, .dead, .dead, .dead, .dead, .dead, .dead, .dead, .dead, .dead, .dead, .dead, .dead, .dead, .dead, .dead, .dead, .dead, .dead, .dead, .dead], v := [] } })] n
def eqWritesV (a b : List WriteD) : Bool := decide (a = b)
def k54 : Con := { f := 54, lend := true, its := [⟨false, false, [.ro (.st (.cons (.int .i64) (.cons .str .nil)))]⟩, ⟨false, false, [.ro (.st (.cons (.int .i64) (.cons .str .nil)))]⟩], lay := [none, none], rs := [⟨false, false, [.b]⟩], F := fun x => .ret ((((eqWritesV x.1.1 x.2.1.1), ()), ()), ((), (), ())) }
theorem f54_eq (x : itemsD k54.its) : bodyOut (cxOf [k88]) (f54_A) (codeOf Tryz.f54) k54.its k54.lay Tryz.f54.ntmps k54.rs [.tmp 4] x = f54_tree x.1.1 x.2.1.1 := by kernel_rfl
theorem f54_ok (hr : ∀ x : (List (Int × List UInt8 × Unit) × Unit) × (List (Int × List UInt8 × Unit) × Unit) × Unit, itemsWF k54.its x → (f54_tree x.1.1 x.2.1.1).eval = (k54.F x).eval) : k54.Ok Tryz.prog :=
  con_fn [k88] ⟨k88_ok, trivial⟩ (by kernel_rfl) (codeOf_eq (by kernel_rfl)) (by kernel_rfl) (by kernel_rfl) (by kernel_rfl) f54_eq fun x hw _ hy => (hr x hw).trans hy
theorem k54_ok : k54.Ok Tryz.prog := by
  refine f54_ok fun x hw => ?_
  obtain ⟨⟨a, _⟩, ⟨b, _⟩, _⟩ := x
  have ha : a.length ≤ BIG := hw.1.1.1
  show (f54_tree a b).eval = some (((eqWritesV a b, ()), ()), ((), ((), ())))
  unfold f54_tree
  by_cases hl : a.length = b.length
  · rw [eval_ite_f (len_eq hl)]
    have := eq_loop (f := f54_L0) a b (fun i => ((a, (b, (((i : Nat) : Int), ()))), ())) (y := ((), ())) (z := ((false, ()), ())) hl ha
      (fun i hi hi' he => by
        have := wrap_succ (i := i) (by omega)
        simp [f54_L0, Out.eval, hi, hi', he, this, eqWriteV_eq])
      (fun i hi hi' he => by simp [f54_L0, Out.eval, hi, hi', he, cond_eq_ite, eqWriteV_eq])
      (by simp [f54_L0, Out.eval])
    refine (eval_get_some this).trans ?_
    unfold eqWritesV
    by_cases hab : a = b
    · simp only [if_pos hab, decide_eq_true hab]; rfl
    · simp only [if_neg hab, decide_eq_false hab]; rfl
  · rw [eval_ite_t (len_ne hl)]
    have : eqWritesV a b = false := decide_eq_false fun e => hl (by rw [e])
    rw [this]
    rfl

/-! ## Disks -/
def newDiskV : List Str × List WriteD := (List.replicate 7 [], [])
def f23_tree (a0 : List (List UInt8)) (a1 : List (Int × List UInt8 × Unit)) (a2 : List (List UInt8)) (a3 : List (Int × List UInt8 × Unit)) : Out (((Bool × Unit) × Unit) × (Unit × Unit × Unit)) :=
 .ite (!(eqStrsV a0 a2))
 (.ret (((false, ()), ()), ((), (), ())))
 (.ite (!(eqWritesV a1 a3))
 (.ret (((false, ()), ()), ((), (), ())))
 (.ret (((true, ()), ()), ((), (), ()))))
def eqDiskV (a : List Str) (b : List WriteD) (c : List Str) (d : List WriteD) : Bool := decide (a = c) && decide (b = d)
def k23 : Con := { f := 23, lend := true, its := [⟨false, true, [.ro .str, .ro (.st (.cons (.int .i64) (.cons .str .nil)))]⟩, ⟨false, true, [.ro .str, .ro (.st (.cons (.int .i64) (.cons .str .nil)))]⟩], lay := [none, none], rs := [⟨false, false, [.b]⟩], F := fun x => .ret ((((eqDiskV x.1.1 x.1.2.1 x.2.1.1 x.2.1.2.1), ()), ()), ((), (), ())) }
theorem f23_eq (x : itemsD k23.its) : bodyOut (cxOf [k53, k54]) (fun _ => none) (codeOf Tryz.f23) k23.its k23.lay Tryz.f23.ntmps k23.rs [.tmp 4] x = f23_tree x.1.1 x.1.2.1 x.2.1.1 x.2.1.2.1 := by kernel_rfl
theorem f23_ok (hr : ∀ x : (List (List UInt8) × List (Int × List UInt8 × Unit) × Unit) × (List (List UInt8) × List (Int × List UInt8 × Unit) × Unit) × Unit, itemsWF k23.its x → (f23_tree x.1.1 x.1.2.1 x.2.1.1 x.2.1.2.1).eval = (k23.F x).eval) : k23.Ok Tryz.prog :=
  con_fn [k53, k54] ⟨k53_ok, k54_ok, trivial⟩ (by kernel_rfl) (codeOf_eq (by kernel_rfl)) (by kernel_rfl) (by kernel_rfl) (by kernel_rfl) f23_eq fun x hw _ hy => (hr x hw).trans hy
theorem k23_ok : k23.Ok Tryz.prog := by
  refine f23_ok fun x _ => ?_
  obtain ⟨⟨a, b, _⟩, ⟨c, d, _⟩, _⟩ := x
  show (f23_tree a b c d).eval = some (((eqDiskV a b c d, ()), ()), ((), ((), ())))
  unfold f23_tree eqDiskV eqStrsV eqWritesV
  by_cases h1 : a = c <;> by_cases h2 : b = d <;> simp [Out.eval, h1, h2] <;> rfl

/-! ## Marks -/
abbrev f90_S0 := (Int × List UInt8 × Unit) × (Unit)
def f90_L0 (x : f90_S0) : Out (Round f90_S0 ((List UInt8 × Unit) × (Unit)) Empty) :=
 .ite (decide (x.1.1 > (0 : Int)))
 (.ite ((10 : Int) == 0)
 .fail
 (.ite (decide (List.length (List.map (fun n : Int => UInt8.ofNat n.toNat) ([(IntKind.u8.wrap (IntKind.i64.wrap ((48 : Int) + (Int.tmod x.1.1 (10 : Int)))))] : List (Int))) + List.length x.1.2.1 ≤ LIM))
 (.ite ((10 : Int) == 0)
 .fail
 (.ret (.again (((IntKind.i64.wrap (Int.tdiv x.1.1 (10 : Int))), ((List.map (fun n : Int => UInt8.ofNat n.toNat) ([(IntKind.u8.wrap (IntKind.i64.wrap ((48 : Int) + (Int.tmod x.1.1 (10 : Int)))))] : List (Int))) ++ x.1.2.1), ()), ()))))
 .fail))
 (.ret (.out ((x.1.2.1, ()), ())))
def f90_tree (a0 : Int) : Out (((List UInt8 × Unit) × Unit) × (Unit × Unit)) :=
 .ite (decide (a0 ≤ (0 : Int)))
 (.ret (((([109, 48] : List UInt8), ()), ()), ((), ())))
 (.get (iter1 f90_L0 FUEL ((a0, ([] : List UInt8), ()), ())) fun y1 =>
 .ite (decide (List.length ([109] : List UInt8) + List.length y1.1.1 ≤ LIM))
 (.ret ((((([109] : List UInt8) ++ y1.1.1), ()), ()), ((), ())))
 .fail)
def f90_A : Nat → Option LoopAnn := fun n => annOf [(0, { head := { t := [.i .i64, .dead, .dead, .s, .dead, .dead, .dead, .dead, .dead, .dead, .dead, .dead, .dead, .dead, .dead, .dead, .dead, .dead, .dead, .dead], v := [] }, out := { t := [.dead, .dead, .dead, .s, .dead, .dead, .dead, .dead, .dead, .dead, .dead, .dead, .dead, .dead, .dead, .dead, .dead, .dead, .dead, .dead], v := [] }, ret := none })] n
def markTextV (k : Int) : Str :=
  match (f90_tree k).eval with
  | some r => r.1.1.1
  | none => []
theorem f90_loop : ∀ (m : Nat) (k : Int) (out : Str) (n : Nat), k < 10 ^ m → k ≤ 9223372036854775807 → out.length + m ≤ 100 → m < n → ∃ out', out'.length ≤ 100 ∧ iter f90_L0 n ((k, (out, ())), ()) = some (.inl ((out', ()), ()))
  | 0, k, out, n, h1, _, h3, h4 => by
    refine ⟨out, by omega, iter_out' ?_ h4⟩
    have : ¬ (0 < k) := by simp at h1; omega
    simp [f90_L0, Out.eval, this]
  | m + 1, k, out, n, h1, h2, h3, h4 => by
    obtain ⟨n, rfl⟩ : ∃ n', n = n' + 1 := ⟨n - 1, by omega⟩
    by_cases hk : 0 < k
    · have hd : k.tdiv 10 = k / 10 := Int.tdiv_eq_ediv_of_nonneg (by omega)
      have hw : IntKind.i64.wrap (k.tdiv 10) = k / 10 := by rw [hd]; exact wrap_id (by omega) (by omega)
      have hl : 1 + out.length ≤ LIM := by show 1 + out.length ≤ 68719476736; omega
      obtain ⟨out', q1, q2⟩ := f90_loop m (k / 10) ([UInt8.ofNat (IntKind.u8.wrap (IntKind.i64.wrap (48 + k.tmod 10))).toNat] ++ out) n (by rw [Int.pow_succ] at h1; omega) (by omega) (by simp; omega) (by omega)
      refine ⟨out', q1, ?_⟩
      rw [iter_again (x' := ((k / 10, ([UInt8.ofNat (IntKind.u8.wrap (IntKind.i64.wrap (48 + k.tmod 10))).toNat] ++ out, ())), ())), q2]
      simp [f90_L0, Out.eval, hk, hw, hl]
    · refine ⟨out, by omega, iter_out' ?_ (by omega)⟩
      simp [f90_L0, Out.eval, hk]
theorem f90_first (k : Int) : ∃ out', out'.length ≤ 100 ∧ iter f90_L0 FUEL ((k, (([] : Str), ())), ()) = some (.inl ((out', ()), ())) := by
  by_cases hk : 0 < k
  · have hw := wrap_within .i64 (k.tdiv 10)
    have hmax : IntKind.i64.max = 9223372036854775807 := by decide
    have h19 : (10 : Int) ^ 19 = 10000000000000000000 := by decide
    obtain ⟨out', q1, q2⟩ := f90_loop 19 (IntKind.i64.wrap (k.tdiv 10)) ([UInt8.ofNat (IntKind.u8.wrap (IntKind.i64.wrap (48 + k.tmod 10))).toNat] ++ []) (FUEL - 1) (by omega) (by omega) (by simp) (by decide)
    refine ⟨out', q1, ?_⟩
    rw [show FUEL = (FUEL - 1) + 1 by decide, iter_again (x' := ((IntKind.i64.wrap (k.tdiv 10), ([UInt8.ofNat (IntKind.u8.wrap (IntKind.i64.wrap (48 + k.tmod 10))).toNat] ++ [], ())), ())), q2]
    have h1 : 1 ≤ LIM := by decide
    simp [f90_L0, Out.eval, hk, h1]
  · refine ⟨[], by simp, iter_out' ?_ (by decide)⟩
    simp [f90_L0, Out.eval, hk]
theorem f90_total (k : Int) : ∃ s, (f90_tree k).eval = some (((s, ()), ()), ((), ())) := by
  unfold f90_tree
  by_cases hk : k ≤ 0
  · exact ⟨_, by rw [eval_ite_t (decide_eq_true hk)]; rfl⟩
  · obtain ⟨out', q1, q2⟩ := f90_first k
    refine ⟨[109] ++ out', ?_⟩
    rw [eval_ite_f (decide_eq_false hk)]
    have : iter1 f90_L0 FUEL ((k, (([] : Str), ())), ()) = some ((out', ()), ()) := by unfold iter1; rw [q2]; rfl
    refine (eval_get_some this).trans ?_
    rw [eval_ite_t (decide_eq_true (by show 1 + out'.length ≤ 68719476736; omega))]
    rfl
def k90 : Con := { f := 90, lend := true, its := [⟨false, false, [.i .i64]⟩], lay := [none], rs := [⟨false, false, [.s]⟩], F := fun x => .ret ((((markTextV x.1.1), ()), ()), ((), ())) }
theorem f90_eq (x : itemsD k90.its) : bodyOut (cxOf []) (f90_A) (codeOf Tryz.f90) k90.its k90.lay Tryz.f90.ntmps k90.rs [.tmp 2] x = f90_tree x.1.1 := by kernel_rfl
theorem f90_ok (hr : ∀ x : (Int × Unit) × Unit, itemsWF k90.its x → (f90_tree x.1.1).eval = (k90.F x).eval) : k90.Ok Tryz.prog :=
  con_fn [] trivial (by kernel_rfl) (codeOf_eq (by kernel_rfl)) (by kernel_rfl) (by kernel_rfl) (by kernel_rfl) f90_eq fun x hw _ hy => (hr x hw).trans hy
theorem k90_ok : k90.Ok Tryz.prog := by
  refine f90_ok fun x _ => ?_
  obtain ⟨⟨k, _⟩, _⟩ := x
  show (f90_tree k).eval = some (((markTextV k, ()), ()), ((), ()))
  obtain ⟨s, hs⟩ := f90_total k
  unfold markTextV
  rw [hs]

/-- A list whose first items are new. -/
def markL {α : Type} (g : Nat → α) (a : List α) (i : Nat) : List α := (List.range i).map g ++ a.drop i
theorem markL_zero {α : Type} (g : Nat → α) (a : List α) : markL g a 0 = a := by simp [markL]
theorem markL_all {α : Type} (g : Nat → α) (a : List α) : markL g a a.length = (List.range a.length).map g := by simp [markL]
theorem markL_length {α : Type} {g : Nat → α} {a : List α} {i : Nat} (h : i ≤ a.length) : (markL g a i).length = a.length := by simp [markL]; omega
theorem markL_get {α : Type} {g : Nat → α} {a : List α} {i : Nat} (h : i < a.length) : (markL g a i)[i]? = some a[i] := by
  unfold markL
  rw [List.getElem?_append_right (by simp)]
  simp [List.getElem?_eq_getElem h]
theorem markL_set {α : Type} {g : Nat → α} {a : List α} {i : Nat} (h : i < a.length) : (markL g a i).set i (g i) = markL g a (i + 1) := by
  apply List.ext_getElem?
  intro j
  have h1 : i < (markL g a i).length := by rw [markL_length (by omega)]; exact h
  rw [List.getElem?_set]
  by_cases hj : i = j
  · subst hj
    rw [if_pos rfl, if_pos h1]
    unfold markL
    rw [List.getElem?_append_left (by simp)]
    simp
  · rw [if_neg hj]
    unfold markL
    by_cases hlt : j < i
    · rw [List.getElem?_append_left (by simp; exact hlt), List.getElem?_append_left (by simp; omega)]
      simp [hlt, show j < i + 1 by omega]
    · rw [List.getElem?_append_right (by simp; omega), List.getElem?_append_right (by simp; omega)]
      simp only [List.length_map, List.length_range, List.getElem?_drop]
      congr 1
      omega

abbrev f56_S0 := (Int × Int × Unit) × (List (List UInt8) × Unit)
def f56_L0 (x : f56_S0) : Out (Round f56_S0 ((Int × Unit) × (List (List UInt8) × Unit)) Empty) :=
 .ite (decide (x.1.2.1 < ((List.length x.2.1 : Nat) : Int)))
 (.ite (decide (0 ≤ x.1.2.1 ∧ x.1.2.1 < ((List.length x.2.1 : Nat) : Int)))
 (.get (nth x.2.1 (Int.toNat x.1.2.1)) fun y1 =>
 .ret (.again (((IntKind.i64.wrap (x.1.1 + (1 : Int))), (IntKind.i64.wrap (x.1.2.1 + (1 : Int))), ()), ((List.set x.2.1 (Int.toNat x.1.2.1) (markTextV x.1.1)), ()))))
 .fail)
 (.ret (.out ((x.1.1, ()), (x.2.1, ()))))
def f56_tree (a0 : List (List UInt8)) (a1 : Int) : Out (((Int × Unit) × Unit) × ((List (List UInt8) × Unit) × Unit × Unit)) :=
 .get (iter1 f56_L0 FUEL ((a1, (0 : Int), ()), (a0, ()))) fun y1 =>
 .ret (((y1.1.1, ()), ()), ((y1.2.1, ()), (), ()))
def f56_A : Nat → Option LoopAnn := fun n => annOf [(0, { head := { t := [.srf 0, .i .i64, .dead, .dead, .dead, .i .i64, .dead, .dead, .dead, .dead, .dead, .dead, .dead, .dead, .dead, .dead, .dead, .dead, .dead, .dead], v := [(0, .arr .str)] }, out := { t := [.srf 0, .i .i64, .dead, .dead, .dead, .dead, .dead, .dead, .dead, .dead, .dead, .dead, .dead, .dead, .dead, .dead, .dead, .dead, .dead, .dead], v := [(0, .arr .str)] }, ret := none })] n
def markStringSV (a : List Str) (k : Int) : Int × List Str := (up k a.length, (List.range a.length).map fun i => markTextV (up k i))
def k56 : Con := { f := 56, lend := true, its := [⟨false, false, [.mut .str]⟩, ⟨false, false, [.i .i64]⟩], lay := [none, none], rs := [⟨false, false, [.i .i64]⟩], F := fun x => .ret ((((markStringSV x.1.1 x.2.1.1).1, ()), ()), (((markStringSV x.1.1 x.2.1.1).2, ()), (), ())) }
theorem f56_eq (x : itemsD k56.its) : bodyOut (cxOf [k90]) (f56_A) (codeOf Tryz.f56) k56.its k56.lay Tryz.f56.ntmps k56.rs [.tmp 4] x = f56_tree x.1.1 x.2.1.1 := by kernel_rfl
theorem f56_ok (hr : ∀ x : (List (List UInt8) × Unit) × (Int × Unit) × Unit, itemsWF k56.its x → (f56_tree x.1.1 x.2.1.1).eval = (k56.F x).eval) : k56.Ok Tryz.prog :=
  con_fn [k90] ⟨k90_ok, trivial⟩ (by kernel_rfl) (codeOf_eq (by kernel_rfl)) (by kernel_rfl) (by kernel_rfl) (by kernel_rfl) f56_eq fun x hw _ hy => (hr x hw).trans hy
theorem k56_ok : k56.Ok Tryz.prog := by
  refine f56_ok fun x hw => ?_
  obtain ⟨⟨a, _⟩, ⟨k, _⟩, _⟩ := x
  have ha : a.length ≤ BIG := hw.1.1.1
  show (f56_tree a k).eval = some ((((markStringSV a k).1, ()), ()), (((markStringSV a k).2, ()), ((), ())))
  unfold f56_tree
  have := iter1_out (f := f56_L0) (fun i => ((up k i, (((i : Nat) : Int), ())), (markL (fun i => markTextV (up k i)) a i, ()))) a.length (y := ((up k a.length, ()), (markL (fun i => markTextV (up k i)) a a.length, ()))) (lt_fuel ha)
    (fun i hi => by
      have h1 := wrap_succ (i := i) (by omega)
      have h2 := markL_length (g := fun i => markTextV (up k i)) (show i ≤ a.length by omega)
      have h3 := markL_get (g := fun i => markTextV (up k i)) hi
      have h4 := markL_set (g := fun i => markTextV (up k i)) hi
      simp [f56_L0, Out.eval, h1, h2, h3, h4, hi, up])
    (by
      have h2 := markL_length (g := fun i => markTextV (up k i)) (Nat.le_refl a.length)
      simp [f56_L0, Out.eval, h2])
  simp only [markL_zero] at this
  refine (eval_get_some this).trans ?_
  rw [markL_all]
  rfl

def markW (k : Int) (i : Nat) : WriteD := (up k (2 * i), (markTextV (up k (2 * i + 1)), ()))
abbrev f57_S0 := (Int × Int × Unit) × (List ((Int × List UInt8 × Unit)) × Unit)
def f57_L0 (x : f57_S0) : Out (Round f57_S0 ((Int × Unit) × (List ((Int × List UInt8 × Unit)) × Unit)) Empty) :=
 .ite (decide (x.1.2.1 < ((List.length x.2.1 : Nat) : Int)))
 (.ite (decide (0 ≤ x.1.2.1 ∧ x.1.2.1 < ((List.length x.2.1 : Nat) : Int)))
 (.get (nth x.2.1 (Int.toNat x.1.2.1)) fun y1 =>
 .ite (decide (0 ≤ x.1.2.1 ∧ x.1.2.1 < ((List.length (List.set x.2.1 (Int.toNat x.1.2.1) (x.1.1, y1.2)) : Nat) : Int)))
 (.get (nth (List.set x.2.1 (Int.toNat x.1.2.1) (x.1.1, y1.2)) (Int.toNat x.1.2.1)) fun y2 =>
 .ret (.again (((IntKind.i64.wrap ((IntKind.i64.wrap (x.1.1 + (1 : Int))) + (1 : Int))), (IntKind.i64.wrap (x.1.2.1 + (1 : Int))), ()), ((List.set (List.set x.2.1 (Int.toNat x.1.2.1) (x.1.1, y1.2)) (Int.toNat x.1.2.1) (y2.1, ((markTextV (IntKind.i64.wrap (x.1.1 + (1 : Int)))), y2.2.2))), ()))))
 .fail)
 .fail)
 (.ret (.out ((x.1.1, ()), (x.2.1, ()))))
def f57_tree (a0 : List (Int × List UInt8 × Unit)) (a1 : Int) : Out (((Int × Unit) × Unit) × ((List (Int × List UInt8 × Unit) × Unit) × Unit × Unit)) :=
 .get (iter1 f57_L0 FUEL ((a1, (0 : Int), ()), (a0, ()))) fun y1 =>
 .ret (((y1.1.1, ()), ()), ((y1.2.1, ()), (), ()))
def f57_A : Nat → Option LoopAnn := fun n => annOf [(0, { head := { t := [.srf 0, .i .i64, .dead, .dead, .dead, .i .i64, .dead, .dead, .dead, .dead, .dead, .dead, .dead, .dead, .dead, .dead, .dead, .dead, .dead, .dead, .dead, .dead, .dead, .dead, .dead, .dead, .dead, .dead], v := [(0, .arr (.st (.cons (.int .i64) (.cons .str .nil))))] }, out := { t := [.srf 0, .i .i64, .dead, .dead, .dead, .dead, .dead, .dead, .dead, .dead, .dead, .dead, .dead, .dead, .dead, .dead, .dead, .dead, .dead, .dead, .dead, .dead, .dead, .dead, .dead, .dead, .dead, .dead], v := [(0, .arr (.st (.cons (.int .i64) (.cons .str .nil))))] }, ret := none })] n
def markWriteSV (a : List WriteD) (k : Int) : Int × List WriteD := (up k (2 * a.length), (List.range a.length).map (markW k))
def k57 : Con := { f := 57, lend := true, its := [⟨false, false, [.mut (.st (.cons (.int .i64) (.cons .str .nil)))]⟩, ⟨false, false, [.i .i64]⟩], lay := [none, none], rs := [⟨false, false, [.i .i64]⟩], F := fun x => .ret ((((markWriteSV x.1.1 x.2.1.1).1, ()), ()), (((markWriteSV x.1.1 x.2.1.1).2, ()), (), ())) }
theorem f57_eq (x : itemsD k57.its) : bodyOut (cxOf [k90]) (f57_A) (codeOf Tryz.f57) k57.its k57.lay Tryz.f57.ntmps k57.rs [.tmp 4] x = f57_tree x.1.1 x.2.1.1 := by kernel_rfl
theorem f57_ok (hr : ∀ x : (List (Int × List UInt8 × Unit) × Unit) × (Int × Unit) × Unit, itemsWF k57.its x → (f57_tree x.1.1 x.2.1.1).eval = (k57.F x).eval) : k57.Ok Tryz.prog :=
  con_fn [k90] ⟨k90_ok, trivial⟩ (by kernel_rfl) (codeOf_eq (by kernel_rfl)) (by kernel_rfl) (by kernel_rfl) (by kernel_rfl) f57_eq fun x hw _ hy => (hr x hw).trans hy
theorem k57_ok : k57.Ok Tryz.prog := by
  refine f57_ok fun x hw => ?_
  obtain ⟨⟨a, _⟩, ⟨k, _⟩, _⟩ := x
  have ha : a.length ≤ BIG := hw.1.1.1
  show (f57_tree a k).eval = some ((((markWriteSV a k).1, ()), ()), (((markWriteSV a k).2, ()), ((), ())))
  unfold f57_tree
  have := iter1_out (f := f57_L0) (fun i => ((up k (2 * i), (((i : Nat) : Int), ())), (markL (markW k) a i, ()))) a.length (y := ((up k (2 * a.length), ()), (markL (markW k) a a.length, ()))) (lt_fuel ha)
    (fun i hi => by
      have h1 := wrap_succ (i := i) (by omega)
      have h2 := markL_length (g := markW k) (show i ≤ a.length by omega)
      have h3 := markL_get (g := markW k) hi
      have h4 := markL_set (g := markW k) hi
      have h5 : i < (markL (markW k) a i).length := by omega
      have h6 : up k (2 * (i + 1)) = IntKind.i64.wrap (IntKind.i64.wrap (up k (2 * i) + 1) + 1) := rfl
      have h7 : markW k i = (up k (2 * i), (markTextV (IntKind.i64.wrap (up k (2 * i) + 1)), ())) := rfl
      rw [h7] at h4
      simp [f57_L0, Out.eval, h1, h2, h3, hi, h5, h6, h4])
    (by
      have h2 := markL_length (g := markW k) (Nat.le_refl a.length)
      simp [f57_L0, Out.eval, h2])
  simp only [markL_zero] at this
  refine (eval_get_some this).trans ?_
  rw [markL_all]
  rfl

def f25_tree (a0 : List (List UInt8)) (a1 : List (Int × List UInt8 × Unit)) (a2 : Int) : Out (((Int × Unit) × Unit) × ((List (List UInt8) × List (Int × List UInt8 × Unit) × Unit) × Unit × Unit)) :=
 .ret ((((markWriteSV a1 (markStringSV a0 a2).1).1, ()), ()), (((markStringSV a0 a2).2, (markWriteSV a1 (markStringSV a0 a2).1).2, ()), (), ()))
def markDiskV (a : List Str) (b : List WriteD) (k : Int) : Int × List Str × List WriteD := ((markWriteSV b (markStringSV a k).1).1, (markStringSV a k).2, (markWriteSV b (markStringSV a k).1).2)
def k25 : Con := { f := 25, lend := true, its := [⟨false, true, [.mut .str, .mut (.st (.cons (.int .i64) (.cons .str .nil)))]⟩, ⟨false, false, [.i .i64]⟩], lay := [none, none], rs := [⟨false, false, [.i .i64]⟩], F := fun x => .ret ((((markDiskV x.1.1 x.1.2.1 x.2.1.1).1, ()), ()), (((markDiskV x.1.1 x.1.2.1 x.2.1.1).2.1, (markDiskV x.1.1 x.1.2.1 x.2.1.1).2.2, ()), (), ())) }
theorem f25_eq (x : itemsD k25.its) : bodyOut (cxOf [k56, k57]) (fun _ => none) (codeOf Tryz.f25) k25.its k25.lay Tryz.f25.ntmps k25.rs [.tmp 4] x = f25_tree x.1.1 x.1.2.1 x.2.1.1 := by kernel_rfl
theorem f25_ok (hr : ∀ x : (List (List UInt8) × List (Int × List UInt8 × Unit) × Unit) × (Int × Unit) × Unit, itemsWF k25.its x → (f25_tree x.1.1 x.1.2.1 x.2.1.1).eval = (k25.F x).eval) : k25.Ok Tryz.prog :=
  con_fn [k56, k57] ⟨k56_ok, k57_ok, trivial⟩ (by kernel_rfl) (codeOf_eq (by kernel_rfl)) (by kernel_rfl) (by kernel_rfl) (by kernel_rfl) f25_eq fun x hw _ hy => (hr x hw).trans hy
theorem k25_ok : k25.Ok Tryz.prog := f25_ok fun _ _ => rfl

abbrev f59_S0 := (List (List UInt8) × Int × Int × Unit) × (Unit)
def f59_L0 (x : f59_S0) : Out (Round f59_S0 ((Int × Unit) × (Unit)) ((Int × Unit) × (Unit))) :=
 .ite (decide (x.1.2.2.1 < ((List.length x.1.1 : Nat) : Int)))
 (.ite (decide (0 ≤ x.1.2.2.1))
 (.get (nth x.1.1 (Int.toNat x.1.2.2.1)) fun y1 =>
 .ite (y1 != (markTextV x.1.2.1))
 (.ret (.ret (((-1 : Int), ()), ())))
 (.ret (.again ((x.1.1, (IntKind.i64.wrap (x.1.2.1 + (1 : Int))), (IntKind.i64.wrap (x.1.2.2.1 + (1 : Int))), ()), ()))))
 .fail)
 (.ret (.out ((x.1.2.1, ()), ())))
def f59_tree (a0 : List (List UInt8)) (a1 : Int) : Out (((Int × Unit) × Unit) × (Unit × Unit × Unit)) :=
 .get (iter f59_L0 FUEL ((a0, a1, (0 : Int), ()), ())) fun y1 => .alt y1 (fun y2 =>
 .ret (((y2.1.1, ()), ()), ((), (), ()))) (fun y3 =>
 .ret (((y3.1.1, ()), ()), ((), (), ())))
def f59_A : Nat → Option LoopAnn := fun n => annOf [(0, { head := { t := [.ro .str (some 0), .i .i64, .dead, .dead, .dead, .i .i64, .dead, .dead, .dead, .dead, .dead, .dead, .dead, .dead, .dead, .dead, .dead, .dead, .dead, .dead, .dead, .dead], v := [] }, out := { t := [.dead, .i .i64, .dead, .dead, .dead, .dead, .dead, .dead, .dead, .dead, .dead, .dead, .dead, .dead, .dead, .dead, .dead, .dead, .dead, .dead, .dead, .dead], v := [] }, ret := some { t := [.dead, .dead, .dead, .dead, .i .i64, .dead, .dead, .dead, .dead, .dead, .dead, .dead, .dead, .dead, .dead, .dead, .dead, .dead, .dead, .dead, .dead, .dead], v := [] } })] n
def heldStringSV (a : List Str) (k : Int) : Int := if a = (List.range a.length).map (fun i => markTextV (up k i)) then up k a.length else -1
def k59 : Con := { f := 59, lend := true, its := [⟨false, false, [.ro .str]⟩, ⟨false, false, [.i .i64]⟩], lay := [none, none], rs := [⟨false, false, [.i .i64]⟩], F := fun x => .ret ((((heldStringSV x.1.1 x.2.1.1), ()), ()), ((), (), ())) }
theorem f59_eq (x : itemsD k59.its) : bodyOut (cxOf [k90]) (f59_A) (codeOf Tryz.f59) k59.its k59.lay Tryz.f59.ntmps k59.rs [.tmp 4] x = f59_tree x.1.1 x.2.1.1 := by kernel_rfl
theorem f59_ok (hr : ∀ x : (List (List UInt8) × Unit) × (Int × Unit) × Unit, itemsWF k59.its x → (f59_tree x.1.1 x.2.1.1).eval = (k59.F x).eval) : k59.Ok Tryz.prog :=
  con_fn [k90] ⟨k90_ok, trivial⟩ (by kernel_rfl) (codeOf_eq (by kernel_rfl)) (by kernel_rfl) (by kernel_rfl) (by kernel_rfl) f59_eq fun x hw _ hy => (hr x hw).trans hy
theorem k59_ok : k59.Ok Tryz.prog := by
  refine f59_ok fun x hw => ?_
  obtain ⟨⟨a, _⟩, ⟨k, _⟩, _⟩ := x
  have ha : a.length ≤ BIG := hw.1.1.1
  show (f59_tree a k).eval = some (((heldStringSV a k, ()), ()), ((), ((), ())))
  unfold f59_tree
  have := eq_loop (f := f59_L0) a ((List.range a.length).map (fun i => markTextV (up k i))) (fun i => ((a, (up k i, (((i : Nat) : Int), ()))), ())) (y := ((up k a.length, ()), ())) (z := ((-1, ()), ())) (by simp) ha
    (fun i hi hi' he => by
      have := wrap_succ (i := i) (by omega)
      simp only [List.getElem_map, List.getElem_range] at he
      simp [f59_L0, Out.eval, hi, he, this, up])
    (fun i hi hi' he => by
      simp only [List.getElem_map, List.getElem_range] at he
      simp [f59_L0, Out.eval, hi, he, cond_eq_ite])
    (by simp [f59_L0, Out.eval])
  refine (eval_get_some this).trans ?_
  unfold heldStringSV
  split <;> rfl

abbrev f60_S0 := (List ((Int × List UInt8 × Unit)) × Int × Int × Unit) × (Unit)
def f60_L0 (x : f60_S0) : Out (Round f60_S0 ((Int × Unit) × (Unit)) ((Int × Unit) × (Unit))) :=
 .ite (decide (x.1.2.2.1 < ((List.length x.1.1 : Nat) : Int)))
 (.ite (decide (0 ≤ x.1.2.2.1))
 (.get (nth x.1.1 (Int.toNat x.1.2.2.1)) fun y1 =>
 .ite ((y1.1 != x.1.2.1))
 (.ret (.ret (((-1 : Int), ()), ())))
 (.ite (decide (0 ≤ x.1.2.2.1))
 (.get (nth x.1.1 (Int.toNat x.1.2.2.1)) fun y2 =>
 .ite (y2.2.1 != (markTextV (IntKind.i64.wrap (x.1.2.1 + (1 : Int)))))
 (.ret (.ret (((-1 : Int), ()), ())))
 (.ret (.again ((x.1.1, (IntKind.i64.wrap ((IntKind.i64.wrap (x.1.2.1 + (1 : Int))) + (1 : Int))), (IntKind.i64.wrap (x.1.2.2.1 + (1 : Int))), ()), ()))))
 .fail))
 .fail)
 (.ret (.out ((x.1.2.1, ()), ())))
def f60_tree (a0 : List (Int × List UInt8 × Unit)) (a1 : Int) : Out (((Int × Unit) × Unit) × (Unit × Unit × Unit)) :=
 .get (iter f60_L0 FUEL ((a0, a1, (0 : Int), ()), ())) fun y1 => .alt y1 (fun y2 =>
 .ret (((y2.1.1, ()), ()), ((), (), ()))) (fun y3 =>
 .ret (((y3.1.1, ()), ()), ((), (), ())))
def f60_A : Nat → Option LoopAnn := fun n => annOf [(0, { head := { t := [.ro (.st (.cons (.int .i64) (.cons .str .nil))) (some 0), .i .i64, .dead, .dead, .dead, .i .i64, .dead, .dead, .dead, .dead, .dead, .dead, .dead, .dead, .dead, .dead, .dead, .dead, .dead, .dead, .dead, .dead, .dead, .dead, .dead, .dead, .dead, .dead, .dead, .dead, .dead, .dead], v := [] }, out := { t := [.dead, .i .i64, .dead, .dead, .dead, .dead, .dead, .dead, .dead, .dead, .dead, .dead, .dead, .dead, .dead, .dead, .dead, .dead, .dead, .dead, .dead, .dead, .dead, .dead, .dead, .dead, .dead, .dead, .dead, .dead, .dead, .dead], v := [] }, ret := some { t := [.dead, .dead, .dead, .dead, .i .i64, .dead, .dead, .dead, .dead, .dead, .dead, .dead, .dead, .dead, .dead, .dead, .dead, .dead, .dead, .dead, .dead, .dead, .dead, .dead, .dead, .dead, .dead, .dead, .dead, .dead, .dead, .dead], v := [] } })] n
def heldWriteSV (a : List WriteD) (k : Int) : Int := if a = (List.range a.length).map (markW k) then up k (2 * a.length) else -1
def k60 : Con := { f := 60, lend := true, its := [⟨false, false, [.ro (.st (.cons (.int .i64) (.cons .str .nil)))]⟩, ⟨false, false, [.i .i64]⟩], lay := [none, none], rs := [⟨false, false, [.i .i64]⟩], F := fun x => .ret ((((heldWriteSV x.1.1 x.2.1.1), ()), ()), ((), (), ())) }
theorem f60_eq (x : itemsD k60.its) : bodyOut (cxOf [k90]) (f60_A) (codeOf Tryz.f60) k60.its k60.lay Tryz.f60.ntmps k60.rs [.tmp 4] x = f60_tree x.1.1 x.2.1.1 := by kernel_rfl
theorem f60_ok (hr : ∀ x : (List (Int × List UInt8 × Unit) × Unit) × (Int × Unit) × Unit, itemsWF k60.its x → (f60_tree x.1.1 x.2.1.1).eval = (k60.F x).eval) : k60.Ok Tryz.prog :=
  con_fn [k90] ⟨k90_ok, trivial⟩ (by kernel_rfl) (codeOf_eq (by kernel_rfl)) (by kernel_rfl) (by kernel_rfl) (by kernel_rfl) f60_eq fun x hw _ hy => (hr x hw).trans hy
theorem k60_ok : k60.Ok Tryz.prog := by
  refine f60_ok fun x hw => ?_
  obtain ⟨⟨a, _⟩, ⟨k, _⟩, _⟩ := x
  have ha : a.length ≤ BIG := hw.1.1.1
  show (f60_tree a k).eval = some (((heldWriteSV a k, ()), ()), ((), ((), ())))
  unfold f60_tree
  have := eq_loop (f := f60_L0) a ((List.range a.length).map (markW k)) (fun i => ((a, (up k (2 * i), (((i : Nat) : Int), ()))), ())) (y := ((up k (2 * a.length), ()), ())) (z := ((-1, ()), ())) (by simp) ha
    (fun i hi hi' he => by
      have := wrap_succ (i := i) (by omega)
      have h6 : up k (2 * (i + 1)) = IntKind.i64.wrap (IntKind.i64.wrap (up k (2 * i) + 1) + 1) := rfl
      simp only [List.getElem_map, List.getElem_range] at he
      simp [f60_L0, Out.eval, hi, he, this, h6, markW, up])
    (fun i hi hi' he => by
      simp only [List.getElem_map, List.getElem_range] at he
      by_cases h1 : a[i].1 = up k (2 * i)
      · have h2 : a[i].2.1 ≠ markTextV (IntKind.i64.wrap (up k (2 * i) + 1)) := fun e => he (by
          have : a[i] = (a[i].1, (a[i].2.1, ())) := rfl
          rw [this, h1, e]; rfl)
        simp [f60_L0, Out.eval, hi, h1, h2, cond_eq_ite]
      · simp [f60_L0, Out.eval, hi, h1, cond_eq_ite])
    (by simp [f60_L0, Out.eval])
  refine (eval_get_some this).trans ?_
  unfold heldWriteSV
  split <;> rfl

def f27_tree (a0 : List (List UInt8)) (a1 : List (Int × List UInt8 × Unit)) (a2 : Int) : Out (((Int × Unit) × Unit) × (Unit × Unit × Unit)) :=
 .ite (decide ((heldStringSV a0 a2) < (0 : Int)))
 (.ret ((((-1 : Int), ()), ()), ((), (), ())))
 (.ite (decide ((heldWriteSV a1 (heldStringSV a0 a2)) < (0 : Int)))
 (.ret ((((-1 : Int), ()), ()), ((), (), ())))
 (.ret ((((heldWriteSV a1 (heldStringSV a0 a2)), ()), ()), ((), (), ()))))
def heldDiskV (a : List Str) (b : List WriteD) (k : Int) : Int :=
  if heldStringSV a k < 0 then -1 else if heldWriteSV b (heldStringSV a k) < 0 then -1 else heldWriteSV b (heldStringSV a k)
def k27 : Con := { f := 27, lend := true, its := [⟨false, true, [.ro .str, .ro (.st (.cons (.int .i64) (.cons .str .nil)))]⟩, ⟨false, false, [.i .i64]⟩], lay := [none, none], rs := [⟨false, false, [.i .i64]⟩], F := fun x => .ret ((((heldDiskV x.1.1 x.1.2.1 x.2.1.1), ()), ()), ((), (), ())) }
theorem f27_eq (x : itemsD k27.its) : bodyOut (cxOf [k59, k60]) (fun _ => none) (codeOf Tryz.f27) k27.its k27.lay Tryz.f27.ntmps k27.rs [.tmp 4] x = f27_tree x.1.1 x.1.2.1 x.2.1.1 := by kernel_rfl
theorem f27_ok (hr : ∀ x : (List (List UInt8) × List (Int × List UInt8 × Unit) × Unit) × (Int × Unit) × Unit, itemsWF k27.its x → (f27_tree x.1.1 x.1.2.1 x.2.1.1).eval = (k27.F x).eval) : k27.Ok Tryz.prog :=
  con_fn [k59, k60] ⟨k59_ok, k60_ok, trivial⟩ (by kernel_rfl) (codeOf_eq (by kernel_rfl)) (by kernel_rfl) (by kernel_rfl) (by kernel_rfl) f27_eq fun x hw _ hy => (hr x hw).trans hy
theorem k27_ok : k27.Ok Tryz.prog := by
  refine f27_ok fun x _ => ?_
  obtain ⟨⟨a, b, _⟩, ⟨k, _⟩, _⟩ := x
  show (f27_tree a b k).eval = some (((heldDiskV a b k, ()), ()), ((), ((), ())))
  unfold f27_tree heldDiskV
  by_cases h1 : heldStringSV a k < 0
  · simp [Out.eval, h1]
  · by_cases h2 : heldWriteSV b (heldStringSV a k) < 0 <;> simp [Out.eval, h1, h2]

theorem held_markStrings (a : List Str) (k : Int) : heldStringSV (markStringSV a k).2 k = (markStringSV a k).1 := by
  simp [heldStringSV, markStringSV]
theorem held_markWrites (a : List WriteD) (k : Int) : heldWriteSV (markWriteSV a k).2 k = (markWriteSV a k).1 := by
  simp [heldWriteSV, markWriteSV]
/-- What was marked is held. -/
theorem held_markDisk {a : List Str} {b : List WriteD} (h : a.length + 2 * b.length < 4611686018427387904) : heldDiskV (markDiskV a b 1).2.1 (markDiskV a b 1).2.2 1 = (markDiskV a b 1).1 ∧ 0 ≤ (markDiskV a b 1).1 := by
  have h1 : (markStringSV a 1).1 = ((a.length + 1 : Nat) : Int) := up_one (by unfold BIG; omega)
  have h2 : (markWriteSV b (markStringSV a 1).1).1 = ((a.length + 2 * b.length + 1 : Nat) : Int) := by
    show up (up 1 a.length) (2 * b.length) = _
    rw [up_add, up_one (by unfold BIG; omega)]
  have h3 : (markDiskV a b 1).1 = ((a.length + 2 * b.length + 1 : Nat) : Int) := h2
  refine ⟨?_, by omega⟩
  unfold heldDiskV
  show (if heldStringSV (markStringSV a 1).2 1 < 0 then (-1 : Int) else if heldWriteSV (markWriteSV b (markStringSV a 1).1).2 (heldStringSV (markStringSV a 1).2 1) < 0 then -1 else heldWriteSV (markWriteSV b (markStringSV a 1).1).2 (heldStringSV (markStringSV a 1).2 1)) = _
  rw [held_markStrings, held_markWrites, if_neg (by omega), if_neg (by omega)]
  rfl

end Go.Proofs.YtjcinikojcfebaaGreat.Dm
