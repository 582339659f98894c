/- Functions of the program, and what they compute. -/
import Derived.Test.YtjcinikojcfebaaGreatA9
namespace Go.Proofs.YtjcinikojcfebaaGreat.Dm
open Go Go.ChangeShapes Go.WideShapes Go.ChangeAt Go.RowKit

/-! ## Right files, told -/
def f91_tree (a0 : Int) : Out (((Bool × Unit) × Unit) × (Unit × Unit)) :=
 .ret ((((inV a0 (-1000000 : Int) (1000000 : Int)), ()), ()), ((), ()))
def k91 : Con := { f := 91, lend := true, its := [⟨false, false, [.i .i64]⟩], lay := [none], rs := [⟨false, false, [.b]⟩], F := fun x => .ret ((((wordV x.1.1), ()), ()), ((), ())) }
theorem f91_eq (x : itemsD k91.its) : bodyOut (cxOf [k34]) (fun _ => none) (codeOf Tryz.f91) k91.its k91.lay Tryz.f91.ntmps k91.rs [.tmp 2] x = f91_tree x.1.1 := by kernel_rfl
theorem f91_ok (hr : ∀ x : (Int × Unit) × Unit, itemsWF k91.its x → (f91_tree x.1.1).eval = (k91.F x).eval) : k91.Ok Tryz.prog :=
  con_fn [k34] ⟨k34_ok, trivial⟩ (by kernel_rfl) (codeOf_eq (by kernel_rfl)) (by kernel_rfl) (by kernel_rfl) (by kernel_rfl) f91_eq fun x hw _ hy => (hr x hw).trans hy
theorem k91_ok : k91.Ok Tryz.prog := f91_ok fun _ _ => rfl
abbrev f65_S0 := (List (Int) × Int × Unit) × (Unit)
def f65_L0 (x : f65_S0) : Out (Round f65_S0 ((Unit) × (Unit)) ((Bool × Unit) × (Unit))) :=
 .ite (decide (x.1.2.1 < ((List.length x.1.1 : Nat) : Int)))
 (.ite (decide (0 ≤ x.1.2.1))
 (.get (nth x.1.1 (Int.toNat x.1.2.1)) fun y1 =>
 .ite (!(wordV y1))
 (.ret (.ret ((false, ()), ())))
 (.ret (.again ((x.1.1, (IntKind.i64.wrap (x.1.2.1 + (1 : Int))), ()), ()))))
 .fail)
 (.ret (.out ((), ())))
def f65_tree (a0 : List Int) : Out (((Bool × Unit) × Unit) × (Unit × Unit)) :=
 .get (iter f65_L0 FUEL ((a0, (0 : Int), ()), ())) fun y1 => .alt y1 (fun y2 =>
 .ret (((true, ()), ()), ((), ()))) (fun y3 =>
 .ret (((y3.1.1, ()), ()), ((), ())))
def f65_A : Nat → Option LoopAnn := fun n => annOf [(0, { head := { t := [.ro (.int .i64) (some 0), .dead, .dead, .i .i64, .dead, .dead, .dead, .dead, .dead, .dead, .dead, .dead, .dead, .dead, .dead, .dead], v := [] }, out := { t := [.dead, .dead, .dead, .dead, .dead, .dead, .dead, .dead, .dead, .dead, .dead, .dead, .dead, .dead, .dead, .dead], v := [] }, ret := some { t := [.dead, .dead, .b, .dead, .dead, .dead, .dead, .dead, .dead, .dead, .dead, .dead, .dead, .dead, .dead, .dead], v := [] } })] n
def k65 : Con := { f := 65, lend := true, its := [⟨false, false, [.ro (.int .i64)]⟩], lay := [none], rs := [⟨false, false, [.b]⟩], F := fun x => .ret ((((wordsOkV x.1.1), ()), ()), ((), ())) }
theorem f65_eq (x : itemsD k65.its) : bodyOut (cxOf [k91]) (f65_A) (codeOf Tryz.f65) k65.its k65.lay Tryz.f65.ntmps k65.rs [.tmp 2] x = f65_tree x.1.1 := by kernel_rfl
theorem f65_ok (hr : ∀ x : (List Int × Unit) × Unit, itemsWF k65.its x → (f65_tree x.1.1).eval = (k65.F x).eval) : k65.Ok Tryz.prog :=
  con_fn [k91] ⟨k91_ok, trivial⟩ (by kernel_rfl) (codeOf_eq (by kernel_rfl)) (by kernel_rfl) (by kernel_rfl) (by kernel_rfl) f65_eq fun x hw _ hy => (hr x hw).trans hy
theorem k65_ok : k65.Ok Tryz.prog := by
  refine f65_ok fun x hw => ?_
  obtain ⟨⟨a, _⟩, _⟩ := x
  have ha : a.length ≤ BIG := hw.1.1.1
  show (f65_tree a).eval = some (((wordsOkV a, ()), ()), ((), ()))
  unfold f65_tree wordsOkV
  have := all_loop (f := f65_L0) a wordV (fun i => ((a, (((i : Nat) : Int), ())), ())) (y := ((), ())) (z := ((false, ()), ()))
    (fun i hi hp => by
      have g1 := wrap_succ (i := i) (by omega)
      simp [f65_L0, Out.eval, hi, g1, hp])
    (fun i hi hp => by simp [f65_L0, Out.eval, hi, hp])
    (by simp [f65_L0, Out.eval]) ha
  refine (eval_get_some this).trans ?_
  cases a.all wordV <;> rfl
theorem rowOk_cases {α : Type} (b : Bool) (x y : α) (h : b = true ∨ b = false) : (if b = true then x else y) = bif b then x else y := by rcases h with h | h <;> subst h <;> rfl
abbrev f33_S0 := (List ((Int × List Int × Unit)) × Int × Unit) × (Unit)
def f33_L0 (x : f33_S0) : Out (Round f33_S0 ((Unit) × (Unit)) ((Bool × Unit) × (Unit))) :=
 .ite (decide (x.1.2.1 < ((List.length x.1.1 : Nat) : Int)))
 (.ite (decide (0 ≤ x.1.2.1))
 (.get (nth x.1.1 (Int.toNat x.1.2.1)) fun y1 =>
 .ite ((!(inV y1.1 (0 : Int) (5 : Int))) == false)
 (.ite ((decide (x.1.2.1 > (0 : Int))) == true)
 (.ite (decide (0 ≤ (IntKind.i64.wrap (x.1.2.1 - (1 : Int)))))
 (.get (nth x.1.1 (Int.toNat (IntKind.i64.wrap (x.1.2.1 - (1 : Int))))) fun y2 =>
 .ite (decide (0 ≤ x.1.2.1))
 (.get (nth x.1.1 (Int.toNat x.1.2.1)) fun y3 =>
 .ite ((decide (y2.1 ≥ y3.1)) == false)
 (.ite (decide (0 ≤ x.1.2.1))
 (.get (nth x.1.1 (Int.toNat x.1.2.1)) fun y4 =>
 .ite ((decide (((List.length y4.2.1 : Nat) : Int) > (8 : Int))) == false)
 (.ite (decide (0 ≤ x.1.2.1))
 (.get (nth x.1.1 (Int.toNat x.1.2.1)) fun y5 =>
 .ite (!(wordsOkV y5.2.1))
 (.ret (.ret ((false, ()), ())))
 (.ret (.again ((x.1.1, (IntKind.i64.wrap (x.1.2.1 + (1 : Int))), ()), ()))))
 .fail)
 (.ret (.ret ((false, ()), ()))))
 .fail)
 (.ret (.ret ((false, ()), ()))))
 .fail)
 .fail)
 (.ite (decide (0 ≤ x.1.2.1))
 (.get (nth x.1.1 (Int.toNat x.1.2.1)) fun y6 =>
 .ite ((decide (((List.length y6.2.1 : Nat) : Int) > (8 : Int))) == false)
 (.ite (decide (0 ≤ x.1.2.1))
 (.get (nth x.1.1 (Int.toNat x.1.2.1)) fun y7 =>
 .ite (!(wordsOkV y7.2.1))
 (.ret (.ret ((false, ()), ())))
 (.ret (.again ((x.1.1, (IntKind.i64.wrap (x.1.2.1 + (1 : Int))), ()), ()))))
 .fail)
 (.ret (.ret ((false, ()), ()))))
 .fail))
 (.ret (.ret ((false, ()), ()))))
 .fail)
 (.ret (.out ((), ())))
def f33_tree (a0 : List (Int × List Int × Unit)) : Out (((Bool × Unit) × Unit) × (Unit × Unit)) :=
 .ite (decide (((List.length a0 : Nat) : Int) > (6 : Int)))
 (.ret (((false, ()), ()), ((), ())))
 (.get (iter f33_L0 FUEL ((a0, (0 : Int), ()), ())) fun y1 => .alt y1 (fun y2 =>
 .ret (((true, ()), ()), ((), ()))) (fun y3 =>
 .ret (((y3.1.1, ()), ()), ((), ()))))
def f33_A : Nat → Option LoopAnn := fun n => annOf [(0, { head := { t := [.ro (.st (.cons (.int .i64) (.cons (.sl (.int .i64)) .nil))) (some 0), .dead, .dead, .i .i64, .dead, .dead, .dead, .dead, .dead, .dead, .dead, .dead, .dead, .dead, .dead, .dead, .dead, .dead, .dead, .dead, .dead, .dead, .dead, .dead, .dead, .dead, .dead, .dead, .dead, .dead, .dead, .dead, .dead, .dead, .dead, .dead, .dead, .dead, .dead, .dead, .dead, .dead, .dead, .dead, .dead, .dead, .dead, .dead, .dead, .dead, .dead, .dead, .dead, .dead, .dead, .dead], v := [] }, out := { t := [.dead, .dead, .dead, .dead, .dead, .dead, .dead, .dead, .dead, .dead, .dead, .dead, .dead, .dead, .dead, .dead, .dead, .dead, .dead, .dead, .dead, .dead, .dead, .dead, .dead, .dead, .dead, .dead, .dead, .dead, .dead, .dead, .dead, .dead, .dead, .dead, .dead, .dead, .dead, .dead, .dead, .dead, .dead, .dead, .dead, .dead, .dead, .dead, .dead, .dead, .dead, .dead, .dead, .dead, .dead, .dead], v := [] }, ret := some { t := [.dead, .dead, .b, .dead, .dead, .dead, .dead, .dead, .dead, .dead, .dead, .dead, .dead, .dead, .dead, .dead, .dead, .dead, .dead, .dead, .dead, .dead, .dead, .dead, .dead, .dead, .dead, .dead, .dead, .dead, .dead, .dead, .dead, .dead, .dead, .dead, .dead, .dead, .dead, .dead, .dead, .dead, .dead, .dead, .dead, .dead, .dead, .dead, .dead, .dead, .dead, .dead, .dead, .dead, .dead, .dead], v := [] } })] n
def k33 : Con := { f := 33, lend := true, its := [⟨false, false, [.ro (.st (.cons (.int .i64) (.cons (.sl (.int .i64)) .nil)))]⟩], lay := [none], rs := [⟨false, false, [.b]⟩], F := fun x => .ret ((((filesOkV x.1.1), ()), ()), ((), ())) }
theorem f33_eq (x : itemsD k33.its) : bodyOut (cxOf [k34, k65]) (f33_A) (codeOf Tryz.f33) k33.its k33.lay Tryz.f33.ntmps k33.rs [.tmp 2] x = f33_tree x.1.1 := by kernel_rfl
theorem f33_ok (hr : ∀ x : (List (Int × List Int × Unit) × Unit) × Unit, itemsWF k33.its x → (f33_tree x.1.1).eval = (k33.F x).eval) : k33.Ok Tryz.prog :=
  con_fn [k34, k65] ⟨k34_ok, k65_ok, trivial⟩ (by kernel_rfl) (codeOf_eq (by kernel_rfl)) (by kernel_rfl) (by kernel_rfl) (by kernel_rfl) f33_eq fun x hw _ hy => (hr x hw).trans hy
theorem k33_ok : k33.Ok Tryz.prog := by
  refine f33_ok fun x hw => ?_
  obtain ⟨⟨a, _⟩, _⟩ := x
  have ha : a.length ≤ BIG := hw.1.1.1
  show (f33_tree a).eval = some (((filesOkV a, ()), ()), ((), ()))
  unfold f33_tree filesOkV
  have e2 : decide (((a.length : Nat) : Int) > (6 : Int)) = !decide (a.length ≤ 6) := gt_cast (m := 6)
  rw [e2]
  by_cases h1 : a.length ≤ 6
  · rw [eval_ite_f (by simp [h1]), decide_eq_true h1, Bool.true_and]
    have key : ∀ i (hi : i < a.length), (f33_L0 ((a, (((i : Nat) : Int), ())), ())).eval = some (bif fileRowV a i then .again ((a, (((i + 1 : Nat) : Int), ())), ()) else .ret ((false, ()), ())) := fun i hi => by
      have w1 := wrap_succ (i := i) (by omega)
      have g : decide (((a[i].2.1.length : Nat) : Int) > (8 : Int)) = !decide (a[i].2.1.length ≤ 8) := gt_cast (m := 8)
      cases i with
      | zero =>
        rw [fileRowV_zero hi]
        have w3 : decide (((0 : Nat) : Int) > 0) = false := rfl
        unfold file1V
        simp only [f33_L0, Out.eval, lt_t hi, ge0, nth_get hi, Option.bind_some, cond_true, w3, g, w1]
        cases p1 : inV a[0].1 0 5 <;> cases p2 : decide (a[0].2.1.length ≤ 8) <;> cases p3 : wordsOkV a[0].2.1 <;> rfl
      | succ i =>
        rw [fileRowV_succ hi]
        have w2 := wrap_pred i (by omega)
        have w3 : decide (((i + 1 : Nat) : Int) > 0) = true := decide_eq_true (by omega)
        unfold file1V
        simp only [f33_L0, Out.eval, lt_t hi, ge0, nth_get hi, nth_get (show i < a.length by omega), w1, w2, w3, g, not_ge, Option.bind_some, cond_true]
        cases p1 : inV a[i + 1].1 0 5 <;> cases p2 : decide (a[i].1 < a[i + 1].1) <;> cases p3 : decide (a[i + 1].2.1.length ≤ 8) <;> cases p4 : wordsOkV a[i + 1].2.1 <;> rfl
    have := iter_scan (f := f33_L0) (fun i => ((a, (((i : Nat) : Int), ())), ())) (fileRowV a) a.length (y := ((), ())) (z := ((false, ()), ())) (lt_fuel ha)
      (fun i hi hp => by rw [key i hi, hp]; rfl) (fun i hi hp => by rw [key i hi, hp]; rfl) (by simp [f33_L0, Out.eval])
    refine (eval_get_some this).trans ?_
    cases (List.range a.length).all (fileRowV a) <;> rfl
  · rw [eval_ite_t (by simp [h1]), decide_eq_false h1]; rfl
def f103_tree (a0 : Int) : Out (((Bool × Unit) × Unit) × (Unit × Unit)) :=
 .ret ((((inV a0 (-1000000 : Int) (1000000 : Int)), ()), ()), ((), ()))
def k103 : Con := { f := 103, lend := true, its := [⟨false, false, [.i .i64]⟩], lay := [none], rs := [⟨false, false, [.b]⟩], F := fun x => .ret ((((wordV x.1.1), ()), ()), ((), ())) }
theorem f103_eq (x : itemsD k103.its) : bodyOut (cxOf [k45]) (fun _ => none) (codeOf Tryz.f103) k103.its k103.lay Tryz.f103.ntmps k103.rs [.tmp 2] x = f103_tree x.1.1 := by kernel_rfl
theorem f103_ok (hr : ∀ x : (Int × Unit) × Unit, itemsWF k103.its x → (f103_tree x.1.1).eval = (k103.F x).eval) : k103.Ok Tryz.prog :=
  con_fn [k45] ⟨k45_ok, trivial⟩ (by kernel_rfl) (codeOf_eq (by kernel_rfl)) (by kernel_rfl) (by kernel_rfl) (by kernel_rfl) f103_eq fun x hw _ hy => (hr x hw).trans hy
theorem k103_ok : k103.Ok Tryz.prog := f103_ok fun _ _ => rfl
def f102_tree (a0 : Int) : Out (((Bool × Unit) × Unit) × (Unit × Unit)) :=
 .ret ((((!(wordV a0)), ()), ()), ((), ()))
def notWordV (n : Int) : Bool := !wordV n
def k102 : Con := { f := 102, lend := true, its := [⟨false, false, [.i .i64]⟩], lay := [none], rs := [⟨false, false, [.b]⟩], F := fun x => .ret ((((notWordV x.1.1), ()), ()), ((), ())) }
theorem f102_eq (x : itemsD k102.its) : bodyOut (cxOf [k103]) (fun _ => none) (codeOf Tryz.f102) k102.its k102.lay Tryz.f102.ntmps k102.rs [.tmp 2] x = f102_tree x.1.1 := by kernel_rfl
theorem f102_ok (hr : ∀ x : (Int × Unit) × Unit, itemsWF k102.its x → (f102_tree x.1.1).eval = (k102.F x).eval) : k102.Ok Tryz.prog :=
  con_fn [k103] ⟨k103_ok, trivial⟩ (by kernel_rfl) (codeOf_eq (by kernel_rfl)) (by kernel_rfl) (by kernel_rfl) (by kernel_rfl) f102_eq fun x hw _ hy => (hr x hw).trans hy
theorem k102_ok : k102.Ok Tryz.prog := f102_ok fun _ _ => rfl
abbrev f112_S0 := (List (Int) × Int × Int × Unit) × (Unit)
def f112_L0 (x : f112_S0) : Out (Round f112_S0 ((Unit) × (Unit)) ((Int × Unit) × (Unit))) :=
 .ite (decide (x.1.2.2.1 < x.1.2.1))
 (.ite (decide (0 ≤ x.1.2.2.1))
 (.get (nth x.1.1 (Int.toNat x.1.2.2.1)) fun y1 =>
 .ite (notWordV y1)
 (.ret (.ret ((x.1.2.2.1, ()), ())))
 (.ret (.again ((x.1.1, x.1.2.1, (IntKind.i64.wrap (x.1.2.2.1 + (1 : Int))), ()), ()))))
 .fail)
 (.ret (.out ((), ())))
def f112_tree (a0 : List Int) : Out (((Int × Unit) × Unit) × (Unit × Unit)) :=
 .get (iter f112_L0 FUEL ((a0, ((List.length a0 : Nat) : Int), (0 : Int), ()), ())) fun y1 => .alt y1 (fun y2 =>
 .ret ((((-1 : Int), ()), ()), ((), ()))) (fun y3 =>
 .ret (((y3.1.1, ()), ()), ((), ())))
def f112_A : Nat → Option LoopAnn := fun n => annOf [(0, { head := { t := [.ro (.int .i64) (some 0), .fn 102 [], .dead, .dead, .dead, .dead, .dead, .i .i64, .i .i64, .dead, .dead, .dead, .dead, .dead, .dead, .dead, .dead, .dead, .dead], v := [] }, out := { t := [.dead, .dead, .dead, .dead, .dead, .dead, .dead, .dead, .dead, .dead, .dead, .dead, .dead, .dead, .dead, .dead, .dead, .dead, .dead], v := [] }, ret := some { t := [.dead, .dead, .dead, .dead, .i .i64, .dead, .dead, .dead, .dead, .dead, .dead, .dead, .dead, .dead, .dead, .dead, .dead, .dead, .dead], v := [] } })] n
def indexWordV (a : List Int) : Int := idxV (a.findIdx? notWordV)
def k112 : Con := { f := 112, lend := true, its := [⟨false, false, [.ro (.int .i64)]⟩], lay := [none, some (102, 0)], rs := [⟨false, false, [.i .i64]⟩], F := fun x => .ret ((((indexWordV x.1.1), ()), ()), ((), ())) }
theorem f112_eq (x : itemsD k112.its) : bodyOut (cxOf [k102]) (f112_A) (codeOf Tryz.f112) k112.its k112.lay Tryz.f112.ntmps k112.rs [.tmp 4] x = f112_tree x.1.1 := by kernel_rfl
theorem f112_ok (hr : ∀ x : (List Int × Unit) × Unit, itemsWF k112.its x → (f112_tree x.1.1).eval = (k112.F x).eval) : k112.Ok Tryz.prog :=
  con_fn [k102] ⟨k102_ok, trivial⟩ (by kernel_rfl) (codeOf_eq (by kernel_rfl)) (by kernel_rfl) (by kernel_rfl) (by kernel_rfl) f112_eq fun x hw _ hy => (hr x hw).trans hy
theorem k112_ok : k112.Ok Tryz.prog := by
  refine f112_ok fun x hw => ?_
  obtain ⟨⟨a, _⟩, _⟩ := x
  have ha : a.length ≤ BIG := hw.1.1.1
  show (f112_tree a).eval = some (((indexWordV a, ()), ()), ((), ()))
  unfold f112_tree indexWordV
  have := idx_loop (f := f112_L0) a notWordV (fun i => ((a, (((a.length : Nat) : Int), (((i : Nat) : Int), ()))), ())) (y := ((), ())) (z := fun i => ((((i : Nat) : Int), ()), ()))
    (fun i hi hp => by
      have g1 := wrap_succ (i := i) (by omega)
      simp [f112_L0, Out.eval, hi, g1, hp])
    (fun i hi hp => by simp [f112_L0, Out.eval, hi, hp])
    (by simp [f112_L0, Out.eval]) ha
  refine (eval_get_some this).trans ?_
  cases a.findIdx? notWordV <;> rfl
def f101_tree (a0 : List Int) : Out (((Bool × Unit) × Unit) × (Unit × Unit)) :=
 .ret ((((decide ((indexWordV a0) ≥ (0 : Int))), ()), ()), ((), ()))
def anyWordV (a : List Int) : Bool := a.any notWordV
def k101 : Con := { f := 101, lend := true, its := [⟨false, false, [.ro (.int .i64)]⟩], lay := [none, some (102, 0)], rs := [⟨false, false, [.b]⟩], F := fun x => .ret ((((anyWordV x.1.1), ()), ()), ((), ())) }
theorem f101_eq (x : itemsD k101.its) : bodyOut (cxOf [k112]) (fun _ => none) (codeOf Tryz.f101) k101.its k101.lay Tryz.f101.ntmps k101.rs [.tmp 4] x = f101_tree x.1.1 := by kernel_rfl
theorem f101_ok (hr : ∀ x : (List Int × Unit) × Unit, itemsWF k101.its x → (f101_tree x.1.1).eval = (k101.F x).eval) : k101.Ok Tryz.prog :=
  con_fn [k112] ⟨k112_ok, trivial⟩ (by kernel_rfl) (codeOf_eq (by kernel_rfl)) (by kernel_rfl) (by kernel_rfl) (by kernel_rfl) f101_eq fun x hw _ hy => (hr x hw).trans hy
theorem k101_ok : k101.Ok Tryz.prog := by
  refine f101_ok fun x _ => ?_
  obtain ⟨⟨a, _⟩, _⟩ := x
  show (f101_tree a).eval = some (((anyWordV a, ()), ()), ((), ()))
  unfold f101_tree anyWordV indexWordV
  rw [idxV_ge]
  rfl
def f79_tree (a0 : List Int) : Out (((Bool × Unit) × Unit) × (Unit × Unit)) :=
 .ret ((((!(anyWordV a0)), ()), ()), ((), ()))
def k79 : Con := { f := 79, lend := true, its := [⟨false, false, [.ro (.int .i64)]⟩], lay := [none], rs := [⟨false, false, [.b]⟩], F := fun x => .ret ((((wordsOkV x.1.1), ()), ()), ((), ())) }
theorem f79_eq (x : itemsD k79.its) : bodyOut (cxOf [k101]) (fun _ => none) (codeOf Tryz.f79) k79.its k79.lay Tryz.f79.ntmps k79.rs [.tmp 2] x = f79_tree x.1.1 := by kernel_rfl
theorem f79_ok (hr : ∀ x : (List Int × Unit) × Unit, itemsWF k79.its x → (f79_tree x.1.1).eval = (k79.F x).eval) : k79.Ok Tryz.prog :=
  con_fn [k101] ⟨k101_ok, trivial⟩ (by kernel_rfl) (codeOf_eq (by kernel_rfl)) (by kernel_rfl) (by kernel_rfl) (by kernel_rfl) f79_eq fun x hw _ hy => (hr x hw).trans hy
theorem k79_ok : k79.Ok Tryz.prog := by
  refine f79_ok fun x _ => ?_
  obtain ⟨⟨a, _⟩, _⟩ := x
  show (f79_tree a).eval = some (((wordsOkV a, ()), ()), ((), ()))
  have : (!anyWordV a) = wordsOkV a := not_any a wordV
  rw [← this]; rfl
abbrev f44_S0 := (List ((Int × List Int × Unit)) × List ((Int × List Int × Unit)) × Int × Int × Unit) × (Unit)
def f44_L0 (x : f44_S0) : Out (Round f44_S0 ((List ((Int × List Int × Unit)) × Unit) × (Unit)) ((Bool × Unit) × (Unit))) :=
 .ite (decide (x.1.2.2.2.1 < x.1.2.2.1))
 (.ite (decide (0 ≤ x.1.2.2.2.1))
 (.get (nth x.1.2.1 (Int.toNat x.1.2.2.2.1)) fun y1 =>
 .ite ((!(inV y1.1 (0 : Int) (5 : Int))) == false)
 (.ite ((decide (x.1.2.2.2.1 > (0 : Int))) == true)
 (.ite (decide (0 ≤ (IntKind.i64.wrap (x.1.2.2.2.1 - (1 : Int)))))
 (.get (nth x.1.1 (Int.toNat (IntKind.i64.wrap (x.1.2.2.2.1 - (1 : Int))))) fun y2 =>
 .ite ((decide (y2.1 ≥ y1.1)) == false)
 (.ite ((decide (((List.length y1.2.1 : Nat) : Int) > (8 : Int))) == false)
 (.ite (!(wordsOkV y1.2.1))
 (.ret (.ret ((false, ()), ())))
 (.ret (.again ((x.1.1, x.1.2.1, x.1.2.2.1, (IntKind.i64.wrap (x.1.2.2.2.1 + (1 : Int))), ()), ()))))
 (.ret (.ret ((false, ()), ()))))
 (.ret (.ret ((false, ()), ()))))
 .fail)
 (.ite ((decide (((List.length y1.2.1 : Nat) : Int) > (8 : Int))) == false)
 (.ite (!(wordsOkV y1.2.1))
 (.ret (.ret ((false, ()), ())))
 (.ret (.again ((x.1.1, x.1.2.1, x.1.2.2.1, (IntKind.i64.wrap (x.1.2.2.2.1 + (1 : Int))), ()), ()))))
 (.ret (.ret ((false, ()), ())))))
 (.ret (.ret ((false, ()), ()))))
 .fail)
 (.ret (.out ((x.1.1, ()), ())))
def f44_tree (a0 : List (Int × List Int × Unit)) : Out (((Bool × Unit) × Unit) × (Unit × Unit)) :=
 .get (iter f44_L0 FUEL ((a0, a0, ((List.length a0 : Nat) : Int), (0 : Int), ()), ())) fun y1 => .alt y1 (fun y2 =>
 .ret ((((decide (((List.length y2.1.1 : Nat) : Int) ≤ (6 : Int))), ()), ()), ((), ()))) (fun y3 =>
 .ret (((y3.1.1, ()), ()), ((), ())))
def f44_A : Nat → Option LoopAnn := fun n => annOf [(0, { head := { t := [.ro (.st (.cons (.int .i64) (.cons (.sl (.int .i64)) .nil))) (some 0), .dead, .dead, .dead, .dead, .ro (.st (.cons (.int .i64) (.cons (.sl (.int .i64)) .nil))) (some 0), .i .i64, .i .i64, .dead, .dead, .dead, .dead, .dead, .dead, .dead, .dead, .dead, .dead, .dead, .dead, .dead, .dead, .dead, .dead, .dead, .dead, .dead, .dead, .dead, .dead, .dead, .dead, .dead, .dead, .dead, .dead, .dead, .dead, .dead, .dead, .dead, .dead, .dead, .dead, .dead, .dead, .dead], v := [] }, out := { t := [.ro (.st (.cons (.int .i64) (.cons (.sl (.int .i64)) .nil))) (some 0), .dead, .dead, .dead, .dead, .dead, .dead, .dead, .dead, .dead, .dead, .dead, .dead, .dead, .dead, .dead, .dead, .dead, .dead, .dead, .dead, .dead, .dead, .dead, .dead, .dead, .dead, .dead, .dead, .dead, .dead, .dead, .dead, .dead, .dead, .dead, .dead, .dead, .dead, .dead, .dead, .dead, .dead, .dead, .dead, .dead, .dead], v := [] }, ret := some { t := [.dead, .dead, .b, .dead, .dead, .dead, .dead, .dead, .dead, .dead, .dead, .dead, .dead, .dead, .dead, .dead, .dead, .dead, .dead, .dead, .dead, .dead, .dead, .dead, .dead, .dead, .dead, .dead, .dead, .dead, .dead, .dead, .dead, .dead, .dead, .dead, .dead, .dead, .dead, .dead, .dead, .dead, .dead, .dead, .dead, .dead, .dead], v := [] } })] n
def k44 : Con := { f := 44, lend := true, its := [⟨false, false, [.ro (.st (.cons (.int .i64) (.cons (.sl (.int .i64)) .nil)))]⟩], lay := [none], rs := [⟨false, false, [.b]⟩], F := fun x => .ret ((((filesOkV x.1.1), ()), ()), ((), ())) }
theorem f44_eq (x : itemsD k44.its) : bodyOut (cxOf [k45, k79]) (f44_A) (codeOf Tryz.f44) k44.its k44.lay Tryz.f44.ntmps k44.rs [.tmp 2] x = f44_tree x.1.1 := by kernel_rfl
theorem f44_ok (hr : ∀ x : (List (Int × List Int × Unit) × Unit) × Unit, itemsWF k44.its x → (f44_tree x.1.1).eval = (k44.F x).eval) : k44.Ok Tryz.prog :=
  con_fn [k45, k79] ⟨k45_ok, k79_ok, trivial⟩ (by kernel_rfl) (codeOf_eq (by kernel_rfl)) (by kernel_rfl) (by kernel_rfl) (by kernel_rfl) f44_eq fun x hw _ hy => (hr x hw).trans hy
theorem k44_ok : k44.Ok Tryz.prog := by
  refine f44_ok fun x hw => ?_
  obtain ⟨⟨a, _⟩, _⟩ := x
  have ha : a.length ≤ BIG := hw.1.1.1
  show (f44_tree a).eval = some (((filesOkV a, ()), ()), ((), ()))
  unfold f44_tree filesOkV
  have key : ∀ i (hi : i < a.length), (f44_L0 ((a, (a, (((a.length : Nat) : Int), (((i : Nat) : Int), ())))), ())).eval = some (bif fileRowV a i then .again ((a, (a, (((a.length : Nat) : Int), (((i + 1 : Nat) : Int), ())))), ()) else .ret ((false, ()), ())) := fun i hi => by
    have w1 := wrap_succ (i := i) (by omega)
    have g : decide (((a[i].2.1.length : Nat) : Int) > (8 : Int)) = !decide (a[i].2.1.length ≤ 8) := gt_cast (m := 8)
    cases i with
    | zero =>
      rw [fileRowV_zero hi]
      have w3 : decide (((0 : Nat) : Int) > 0) = false := rfl
      unfold file1V
      simp only [f44_L0, Out.eval, lt_t hi, ge0, nth_get hi, Option.bind_some, cond_true, w3, g, w1]
      cases p1 : inV a[0].1 0 5 <;> cases p2 : decide (a[0].2.1.length ≤ 8) <;> cases p3 : wordsOkV a[0].2.1 <;> rfl
    | succ i =>
      rw [fileRowV_succ hi]
      have w2 := wrap_pred i (by omega)
      have w3 : decide (((i + 1 : Nat) : Int) > 0) = true := decide_eq_true (by omega)
      unfold file1V
      simp only [f44_L0, Out.eval, lt_t hi, ge0, nth_get hi, nth_get (show i < a.length by omega), w1, w2, w3, g, not_ge, Option.bind_some, cond_true]
      cases p1 : inV a[i + 1].1 0 5 <;> cases p2 : decide (a[i].1 < a[i + 1].1) <;> cases p3 : decide (a[i + 1].2.1.length ≤ 8) <;> cases p4 : wordsOkV a[i + 1].2.1 <;> rfl
  have := iter_scan (f := f44_L0) (fun i => ((a, (a, (((a.length : Nat) : Int), (((i : Nat) : Int), ())))), ())) (fileRowV a) a.length (y := ((a, ()), ())) (z := ((false, ()), ())) (lt_fuel ha)
    (fun i hi hp => by rw [key i hi, hp]; rfl) (fun i hi hp => by rw [key i hi, hp]; rfl) (by simp [f44_L0, Out.eval])
  refine (eval_get_some this).trans ?_
  have e2 : decide (((a.length : Nat) : Int) ≤ (6 : Int)) = decide (a.length ≤ 6) := le_cast (m := 6)
  cases (List.range a.length).all (fileRowV a)
  · rw [Bool.and_false]; rfl
  · rw [Bool.and_true, ← e2]; rfl
/-! ## Files as texts, told -/
def f111_tree (a0 : Int) : Out (((Int × Unit) × Unit) × (Unit × Unit)) :=
 .ite (decide (a0 < (0 : Int)))
 (.ret ((((IntKind.i64.wrap ((IntKind.i64.wrap ((-2 : Int) * a0)) - (1 : Int))), ()), ()), ((), ())))
 (.ret ((((IntKind.i64.wrap ((2 : Int) * a0)), ()), ()), ((), ())))
def k111 : Con := { f := 111, lend := true, its := [⟨false, false, [.i .i64]⟩], lay := [none], rs := [⟨false, false, [.i .i64]⟩], F := fun x => .ret ((((zigV x.1.1), ()), ()), ((), ())) }
theorem f111_eq (x : itemsD k111.its) : bodyOut (cxOf []) (fun _ => none) (codeOf Tryz.f111) k111.its k111.lay Tryz.f111.ntmps k111.rs [.tmp 2] x = f111_tree x.1.1 := by kernel_rfl
theorem f111_ok (hr : ∀ x : (Int × Unit) × Unit, itemsWF k111.its x → (f111_tree x.1.1).eval = (k111.F x).eval) : k111.Ok Tryz.prog :=
  con_fn [] trivial (by kernel_rfl) (codeOf_eq (by kernel_rfl)) (by kernel_rfl) (by kernel_rfl) (by kernel_rfl) f111_eq fun x hw _ hy => (hr x hw).trans hy
theorem k111_ok : k111.Ok Tryz.prog := by
  refine f111_ok fun x _ => ?_
  obtain ⟨⟨n, _⟩, _⟩ := x
  show (f111_tree n).eval = some (((zigV n, ()), ()), ((), ()))
  unfold f111_tree zigV
  by_cases h : n < 0
  · rw [eval_ite_t (decide_eq_true h), if_pos h]; rfl
  · rw [eval_ite_f (decide_eq_false h), if_neg h]; rfl
abbrev f98_S0 := (List (Int) × List UInt8 × Int × Unit) × (Unit)
def f98_L0 (x : f98_S0) : Out (Round f98_S0 ((List UInt8 × Unit) × (Unit)) Empty) :=
 .ite (decide (x.1.2.2.1 < ((List.length x.1.1 : Nat) : Int)))
 (.ite (decide (0 ≤ x.1.2.2.1))
 (.get (nth x.1.1 (Int.toNat x.1.2.2.1)) fun y1 =>
 .ite (decide (List.length x.1.2.1 + List.length (varV (zigV y1)) ≤ LIM))
 (.ret (.again ((x.1.1, (x.1.2.1 ++ (varV (zigV y1))), (IntKind.i64.wrap (x.1.2.2.1 + (1 : Int))), ()), ())))
 .fail)
 .fail)
 (.ret (.out ((x.1.2.1, ()), ())))
def f98_tree (a0 : List Int) : Out (((List UInt8 × Unit) × Unit) × (Unit × Unit)) :=
 .get (iter1 f98_L0 FUEL ((a0, (varV ((List.length a0 : Nat) : Int)), (0 : Int), ()), ())) fun y1 =>
 .ret (((y1.1.1, ()), ()), ((), ()))
def f98_A : Nat → Option LoopAnn := fun n => annOf [(0, { head := { t := [.ro (.int .i64) (some 0), .dead, .dead, .s, .i .i64, .dead, .dead, .dead, .dead, .dead, .dead, .dead, .dead, .dead, .dead, .dead, .dead, .dead, .dead, .dead, .dead, .dead, .dead], v := [] }, out := { t := [.dead, .dead, .dead, .s, .dead, .dead, .dead, .dead, .dead, .dead, .dead, .dead, .dead, .dead, .dead, .dead, .dead, .dead, .dead, .dead, .dead, .dead, .dead], v := [] }, ret := none })] n
def wordsTV (l : List Int) : Option Str := lim (wordsS l) (wordsS l)
def k98 : Con := { f := 98, lend := true, its := [⟨false, false, [.ro (.int .i64)]⟩], lay := [none], rs := [⟨false, false, [.s]⟩], F := fun x => .get (wordsTV x.1.1) fun y => .ret (((y, ()), ()), ((), ())) }
theorem f98_eq (x : itemsD k98.its) : bodyOut (cxOf [k94, k111]) (f98_A) (codeOf Tryz.f98) k98.its k98.lay Tryz.f98.ntmps k98.rs [.tmp 2] x = f98_tree x.1.1 := by kernel_rfl
theorem f98_okp (hr : ∀ x : (List Int × Unit) × Unit, itemsWF k98.its x → ∀ y, (k98.F x).eval = some y → (f98_tree x.1.1).eval = some y) : k98.Ok Tryz.prog :=
  con_fn [k94, k111] ⟨k94_ok, k111_ok, trivial⟩ (by kernel_rfl) (codeOf_eq (by kernel_rfl)) (by kernel_rfl) (by kernel_rfl) (by kernel_rfl) f98_eq hr
theorem k98_ok : k98.Ok Tryz.prog := by
  refine f98_okp fun x hw y hy => ?_
  obtain ⟨⟨a, _⟩, _⟩ := x
  have ha : a.length ≤ BIG := hw.1.1.1
  change (Out.get (wordsTV a) fun y => Out.ret (((y, ()), ()), ((), ()))).eval = some y at hy
  show (f98_tree a).eval = some y
  unfold f98_tree
  unfold wordsTV at hy
  by_cases hl : (wordsS a).length ≤ LIM
  · rw [lim_some hl] at hy
    refine Eq.trans ?_ hy
    have := flat_loop (f := f98_L0) (fun n => varV (zigV n)) a (fun s i => ((a, (s, (((i : Nat) : Int), ()))), ())) (fun s => ((s, ()), ())) LIM
      (fun i hi s hs => by
        have w1 := wrap_succ (i := i) (by omega)
        simp only [f98_L0, Out.eval, lt_t hi, ge0, nth_get hi, Option.bind_some, cond_true, decide_eq_true hs, w1])
      (fun s => by simp [f98_L0, Out.eval]) ha (varV ((a.length : Nat) : Int)) (by unfold wordsS at hl; rw [List.length_append] at hl; exact hl)
    exact (eval_get_some this).trans rfl
  · rw [lim_not hl] at hy; exact nomatch hy
def wordVarV (n : Int) : Str := varV (zigV n)
theorem filesOkV_parts {a : List FileD} (h : filesOkV a = true) : a.length ≤ 6 ∧ ∀ x ∈ a, (0 ≤ x.1 ∧ x.1 ≤ 5) ∧ x.2.1.length ≤ 8 ∧ wordsOkV x.2.1 = true := by
  obtain ⟨h1, h2⟩ := Bool.and_eq_true_iff.1 h
  refine ⟨of_decide_eq_true h1, fun x hx => ?_⟩
  obtain ⟨i, hi, rfl⟩ := List.getElem_of_mem hx
  have hr := List.all_eq_true.1 h2 i (List.mem_range.2 hi)
  have hf : file1V a[i] = true := by
    cases i with
    | zero => rw [fileRowV_zero hi] at hr; exact hr
    | succ i => rw [fileRowV_succ hi] at hr; exact (Bool.and_eq_true_iff.1 hr).1
  obtain ⟨f1, f2⟩ := Bool.and_eq_true_iff.1 hf
  obtain ⟨f2, f3⟩ := Bool.and_eq_true_iff.1 f2
  exact ⟨by simpa [inV] using f1, of_decide_eq_true f2, f3⟩
theorem wordsS_len {d : List Int} (h : d.length ≤ 8) : (wordsS d).length ≤ 63 := by
  have h1 := flatMap_len (fun n => varV (zigV n)) 7 d fun x _ => varV_len _
  have := varV_len ((d.length : Nat) : Int)
  unfold wordsS
  rw [List.length_append]
  omega
theorem wordsTV_some {d : List Int} (h : d.length ≤ 8) : wordsTV d = some (wordsS d) := lim_some (by have := wordsS_len h; rw [LIM_eq]; omega)
theorem six_ok : decide (0 ≤ (6 : Int) ∧ (6 : Int) ≤ (6 : Int) ∧ (6 : Int) ≤ (LIM : Int)) = true := decide_eq_true (by rw [LIM_eq]; omega)
abbrev f71_S0 := (List ((Int × List Int × Unit)) × Int × Unit) × (List (List UInt8) × Unit)
def f71_L0 (x : f71_S0) : Out (Round f71_S0 ((Unit) × (List (List UInt8) × Unit)) Empty) :=
 .ite (decide (x.1.2.1 < ((List.length x.1.1 : Nat) : Int)))
 (.ite (decide (0 ≤ x.1.2.1))
 (.get (nth x.1.1 (Int.toNat x.1.2.1)) fun y1 =>
 .ite (decide (0 ≤ x.1.2.1))
 (.get (nth x.1.1 (Int.toNat x.1.2.1)) fun y2 =>
 .get (wordsTV y2.2.1) fun y3 =>
 .ite (decide (List.length ([102] : List UInt8) + List.length y3 ≤ LIM))
 (.ite (decide (0 ≤ y1.1 ∧ y1.1 < ((List.length x.2.1 : Nat) : Int)))
 (.get (nth x.2.1 (Int.toNat y1.1)) fun y4 =>
 .ret (.again ((x.1.1, (IntKind.i64.wrap (x.1.2.1 + (1 : Int))), ()), ((List.set x.2.1 (Int.toNat y1.1) (([102] : List UInt8) ++ y3)), ()))))
 .fail)
 .fail)
 .fail)
 .fail)
 (.ret (.out ((), (x.2.1, ()))))
def f71_tree (a0 : List (Int × List Int × Unit)) : Out (((List (List UInt8) × Unit) × Unit) × (Unit × Unit)) :=
 .ite (!(filesOkV a0))
 (.ret (((([] : List (List UInt8)), ()), ()), ((), ())))
 (.ite (decide (0 ≤ (6 : Int) ∧ (6 : Int) ≤ (6 : Int) ∧ (6 : Int) ≤ (LIM : Int)))
 (.get (iter1 f71_L0 FUEL ((a0, (0 : Int), ()), ((List.replicate (Int.toNat (6 : Int)) ([] : List UInt8)), ()))) fun y1 =>
 .ret (((y1.2.1, ()), ()), ((), ())))
 .fail)
def f71_A : Nat → Option LoopAnn := fun n => annOf [(0, { head := { t := [.ro (.st (.cons (.int .i64) (.cons (.sl (.int .i64)) .nil))) (some 0), .dead, .dead, .srf 64000000, .i .i64, .dead, .dead, .dead, .dead, .dead, .dead, .dead, .dead, .dead, .dead, .dead, .dead, .dead, .dead, .dead, .dead, .dead, .dead, .dead, .dead, .dead, .dead, .dead, .dead, .dead, .dead], v := [(64000000, .arr .str)] }, out := { t := [.dead, .dead, .dead, .srf 64000256, .dead, .dead, .dead, .dead, .dead, .dead, .dead, .dead, .dead, .dead, .dead, .dead, .dead, .dead, .dead, .dead, .dead, .dead, .dead, .dead, .dead, .dead, .dead, .dead, .dead, .dead, .dead], v := [(64000256, .arr .str)] }, ret := none })] n
def k71 : Con := { f := 71, lend := true, its := [⟨false, false, [.ro (.st (.cons (.int .i64) (.cons (.sl (.int .i64)) .nil)))]⟩], lay := [none], rs := [⟨false, false, [.own .str]⟩], F := fun x => .ret ((((fileBlocksV x.1.1), ()), ()), ((), ())) }
theorem f71_eq (x : itemsD k71.its) : bodyOut (cxOf [k33, k98]) (f71_A) (codeOf Tryz.f71) k71.its k71.lay Tryz.f71.ntmps k71.rs [.tmp 2] x = f71_tree x.1.1 := by kernel_rfl
theorem f71_ok (hr : ∀ x : (List (Int × List Int × Unit) × Unit) × Unit, itemsWF k71.its x → (f71_tree x.1.1).eval = (k71.F x).eval) : k71.Ok Tryz.prog :=
  con_fn [k33, k98] ⟨k33_ok, k98_ok, trivial⟩ (by kernel_rfl) (codeOf_eq (by kernel_rfl)) (by kernel_rfl) (by kernel_rfl) (by kernel_rfl) f71_eq fun x hw _ hy => (hr x hw).trans hy
theorem k71_ok : k71.Ok Tryz.prog := by
  refine f71_ok fun x hw => ?_
  obtain ⟨⟨a, _⟩, _⟩ := x
  have ha : a.length ≤ BIG := hw.1.1.1
  show (f71_tree a).eval = some (((fileBlocksV a, ()), ()), ((), ()))
  unfold f71_tree fileBlocksV
  by_cases h : filesOkV a = true
  · have hp := filesOkV_parts h
    rw [eval_ite_f (by simp [h]), if_pos h, eval_ite_t six_ok]
    have := foldl_loop (f := f71_L0) (fun (l : List Str) _ => l.length = 6) setB a (fun l i => ((a, (((i : Nat) : Int), ())), (l, ()))) (fun l => ((), (l, ())))
      (fun i hi l hl => by
        have w1 := wrap_succ (i := i) (by omega)
        have hx := hp.2 a[i] (List.getElem_mem hi)
        have w2 := wordsTV_some hx.2.1
        have w3 : decide (List.length ([102] : List UInt8) + List.length (wordsS a[i].2.1) ≤ LIM) = true := decide_eq_true (by have := wordsS_len hx.2.1; rw [LIM_eq]; simp; omega)
        have w4 : decide (0 ≤ a[i].1 ∧ a[i].1 < ((l.length : Nat) : Int)) = true := decide_eq_true (by rw [hl]; omega)
        have w5 : nth l (Int.toNat a[i].1) = some (l[Int.toNat a[i].1]'(by omega)) := List.getElem?_eq_getElem _
        simp only [f71_L0, Out.eval, lt_t hi, ge0, nth_get hi, Option.bind_some, cond_true, w1, w2, w3, w4, w5]
        rfl)
      (fun l _ => by simp [f71_L0, Out.eval]) (fun i hi l hl => by unfold setB; rw [List.length_set]; exact hl) ha (List.replicate 6 []) (by simp)
    exact (eval_get_some this).trans rfl
  · rw [eval_ite_t (by simp [h]), if_neg h]; rfl
end Go.Proofs.YtjcinikojcfebaaGreat.Dm
