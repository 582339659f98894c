/- Functions of the program, and what they compute. -/
import Derived.Test.YtjcinikojcfebaaA9
namespace Go.Proofs.Ytjcinikojcfebaa.Dm
open Go Go.ChangeShapes Go.WideShapes Go.ChangeAt Go.RowKit

/-! ## Right files, told -/
def f225_tree (a0 : Int) : Out (((Bool × Unit) × Unit) × (Unit × Unit)) :=
 .ret ((((inV a0 (-1000000 : Int) (1000000 : Int)), ()), ()), ((), ()))
def k225 : Con := { f := 225, lend := true, its := [⟨false, false, [.i .i64]⟩], lay := [none], rs := [⟨false, false, [.b]⟩], F := fun x => .ret ((((wordV x.1.1), ()), ()), ((), ())) }
theorem f225_eq (x : itemsD k225.its) : bodyOut (cxOf [k165]) (fun _ => none) (codeOf Try.f225) k225.its k225.lay Try.f225.ntmps k225.rs [.tmp 2] x = f225_tree x.1.1 := by kernel_rfl
theorem f225_ok (hr : ∀ x : (Int × Unit) × Unit, itemsWF k225.its x → (f225_tree x.1.1).eval = (k225.F x).eval) : k225.Ok Try.prog :=
  con_fn [k165] ⟨k165_ok, trivial⟩ (by kernel_rfl) (codeOf_eq (by kernel_rfl)) (by kernel_rfl) (by kernel_rfl) (by kernel_rfl) f225_eq fun x hw _ hy => (hr x hw).trans hy
theorem k225_ok : k225.Ok Try.prog := f225_ok fun _ _ => rfl
abbrev f203_S0 := (List (Int) × Int × Unit) × (Unit)
def f203_L0 (x : f203_S0) : Out (Round f203_S0 ((Unit) × (Unit)) ((Bool × Unit) × (Unit))) :=
 .ite (decide (x.1.2.1 < ((List.length x.1.1 : Nat) : Int)))
 (.ite (decide (0 ≤ x.1.2.1))
 (.get (nth x.1.1 (Int.toNat x.1.2.1)) fun y1 =>
 .ite (!(wordV y1))
 (.ret (.ret ((false, ()), ())))
 (.ret (.again ((x.1.1, (IntKind.i64.wrap (x.1.2.1 + (1 : Int))), ()), ()))))
 .fail)
 (.ret (.out ((), ())))
def f203_tree (a0 : List Int) : Out (((Bool × Unit) × Unit) × (Unit × Unit)) :=
 .get (iter f203_L0 FUEL ((a0, (0 : Int), ()), ())) fun y1 => .alt y1 (fun y2 =>
 .ret (((true, ()), ()), ((), ()))) (fun y3 =>
 .ret (((y3.1.1, ()), ()), ((), ())))
def f203_A : Nat → Option LoopAnn := fun n => annOf [(0, { head := { t := [.ro (.int .i64) (some 0), .dead, .dead, .i .i64, .dead, .dead, .dead, .dead, .dead, .dead, .dead, .dead, .dead, .dead, .dead, .dead], v := [] }, out := { t := [.dead, .dead, .dead, .dead, .dead, .dead, .dead, .dead, .dead, .dead, .dead, .dead, .dead, .dead, .dead, .dead], v := [] }, ret := some { t := [.dead, .dead, .b, .dead, .dead, .dead, .dead, .dead, .dead, .dead, .dead, .dead, .dead, .dead, .dead, .dead], v := [] } })] n
def k203 : Con := { f := 203, lend := true, its := [⟨false, false, [.ro (.int .i64)]⟩], lay := [none], rs := [⟨false, false, [.b]⟩], F := fun x => .ret ((((wordsOkV x.1.1), ()), ()), ((), ())) }
theorem f203_eq (x : itemsD k203.its) : bodyOut (cxOf [k225]) (f203_A) (codeOf Try.f203) k203.its k203.lay Try.f203.ntmps k203.rs [.tmp 2] x = f203_tree x.1.1 := by kernel_rfl
theorem f203_ok (hr : ∀ x : (List Int × Unit) × Unit, itemsWF k203.its x → (f203_tree x.1.1).eval = (k203.F x).eval) : k203.Ok Try.prog :=
  con_fn [k225] ⟨k225_ok, trivial⟩ (by kernel_rfl) (codeOf_eq (by kernel_rfl)) (by kernel_rfl) (by kernel_rfl) (by kernel_rfl) f203_eq fun x hw _ hy => (hr x hw).trans hy
theorem k203_ok : k203.Ok Try.prog := by
  refine f203_ok fun x hw => ?_
  obtain ⟨⟨a, _⟩, _⟩ := x
  have ha : a.length ≤ BIG := hw.1.1.1
  show (f203_tree a).eval = some (((wordsOkV a, ()), ()), ((), ()))
  unfold f203_tree wordsOkV
  have := all_loop (f := f203_L0) a wordV (fun i => ((a, (((i : Nat) : Int), ())), ())) (y := ((), ())) (z := ((false, ()), ()))
    (fun i hi hp => by
      have g1 := wrap_succ (i := i) (by omega)
      simp [f203_L0, Out.eval, hi, g1, hp])
    (fun i hi hp => by simp [f203_L0, Out.eval, hi, hp])
    (by simp [f203_L0, Out.eval]) ha
  refine (eval_get_some this).trans ?_
  cases a.all wordV <;> rfl
theorem rowOk_cases {α : Type} (b : Bool) (x y : α) (h : b = true ∨ b = false) : (if b = true then x else y) = bif b then x else y := by rcases h with h | h <;> subst h <;> rfl
abbrev f148_S0 := (List ((Int × List Int × Unit)) × Int × Unit) × (Unit)
def f148_L0 (x : f148_S0) : Out (Round f148_S0 ((Unit) × (Unit)) ((Bool × Unit) × (Unit))) :=
 .ite (decide (x.1.2.1 < ((List.length x.1.1 : Nat) : Int)))
 (.ite (decide (0 ≤ x.1.2.1))
 (.get (nth x.1.1 (Int.toNat x.1.2.1)) fun y1 =>
 .ite ((!(inV y1.1 (0 : Int) (5 : Int))) == false)
 (.ite ((decide (x.1.2.1 > (0 : Int))) == true)
 (.ite (decide (0 ≤ (IntKind.i64.wrap (x.1.2.1 - (1 : Int)))))
 (.get (nth x.1.1 (Int.toNat (IntKind.i64.wrap (x.1.2.1 - (1 : Int))))) fun y2 =>
 .ite (decide (0 ≤ x.1.2.1))
 (.get (nth x.1.1 (Int.toNat x.1.2.1)) fun y3 =>
 .ite ((decide (y2.1 ≥ y3.1)) == false)
 (.ite (decide (0 ≤ x.1.2.1))
 (.get (nth x.1.1 (Int.toNat x.1.2.1)) fun y4 =>
 .ite ((decide (((List.length y4.2.1 : Nat) : Int) > (8 : Int))) == false)
 (.ite (decide (0 ≤ x.1.2.1))
 (.get (nth x.1.1 (Int.toNat x.1.2.1)) fun y5 =>
 .ite (!(wordsOkV y5.2.1))
 (.ret (.ret ((false, ()), ())))
 (.ret (.again ((x.1.1, (IntKind.i64.wrap (x.1.2.1 + (1 : Int))), ()), ()))))
 .fail)
 (.ret (.ret ((false, ()), ()))))
 .fail)
 (.ret (.ret ((false, ()), ()))))
 .fail)
 .fail)
 (.ite (decide (0 ≤ x.1.2.1))
 (.get (nth x.1.1 (Int.toNat x.1.2.1)) fun y6 =>
 .ite ((decide (((List.length y6.2.1 : Nat) : Int) > (8 : Int))) == false)
 (.ite (decide (0 ≤ x.1.2.1))
 (.get (nth x.1.1 (Int.toNat x.1.2.1)) fun y7 =>
 .ite (!(wordsOkV y7.2.1))
 (.ret (.ret ((false, ()), ())))
 (.ret (.again ((x.1.1, (IntKind.i64.wrap (x.1.2.1 + (1 : Int))), ()), ()))))
 .fail)
 (.ret (.ret ((false, ()), ()))))
 .fail))
 (.ret (.ret ((false, ()), ()))))
 .fail)
 (.ret (.out ((), ())))
def f148_tree (a0 : List (Int × List Int × Unit)) : Out (((Bool × Unit) × Unit) × (Unit × Unit)) :=
 .ite (decide (((List.length a0 : Nat) : Int) > (6 : Int)))
 (.ret (((false, ()), ()), ((), ())))
 (.get (iter f148_L0 FUEL ((a0, (0 : Int), ()), ())) fun y1 => .alt y1 (fun y2 =>
 .ret (((true, ()), ()), ((), ()))) (fun y3 =>
 .ret (((y3.1.1, ()), ()), ((), ()))))
def f148_A : Nat → Option LoopAnn := fun n => annOf [(0, { head := { t := [.ro (.st (.cons (.int .i64) (.cons (.sl (.int .i64)) .nil))) (some 0), .dead, .dead, .i .i64, .dead, .dead, .dead, .dead, .dead, .dead, .dead, .dead, .dead, .dead, .dead, .dead, .dead, .dead, .dead, .dead, .dead, .dead, .dead, .dead, .dead, .dead, .dead, .dead, .dead, .dead, .dead, .dead, .dead, .dead, .dead, .dead, .dead, .dead, .dead, .dead, .dead, .dead, .dead, .dead, .dead, .dead, .dead, .dead, .dead, .dead, .dead, .dead, .dead, .dead, .dead, .dead], v := [] }, out := { t := [.dead, .dead, .dead, .dead, .dead, .dead, .dead, .dead, .dead, .dead, .dead, .dead, .dead, .dead, .dead, .dead, .dead, .dead, .dead, .dead, .dead, .dead, .dead, .dead, .dead, .dead, .dead, .dead, .dead, .dead, .dead, .dead, .dead, .dead, .dead, .dead, .dead, .dead, .dead, .dead, .dead, .dead, .dead, .dead, .dead, .dead, .dead, .dead, .dead, .dead, .dead, .dead, .dead, .dead, .dead, .dead], v := [] }, ret := some { t := [.dead, .dead, .b, .dead, .dead, .dead, .dead, .dead, .dead, .dead, .dead, .dead, .dead, .dead, .dead, .dead, .dead, .dead, .dead, .dead, .dead, .dead, .dead, .dead, .dead, .dead, .dead, .dead, .dead, .dead, .dead, .dead, .dead, .dead, .dead, .dead, .dead, .dead, .dead, .dead, .dead, .dead, .dead, .dead, .dead, .dead, .dead, .dead, .dead, .dead, .dead, .dead, .dead, .dead, .dead, .dead], v := [] } })] n
def k148 : Con := { f := 148, lend := true, its := [⟨false, false, [.ro (.st (.cons (.int .i64) (.cons (.sl (.int .i64)) .nil)))]⟩], lay := [none], rs := [⟨false, false, [.b]⟩], F := fun x => .ret ((((filesOkV x.1.1), ()), ()), ((), ())) }
theorem f148_eq (x : itemsD k148.its) : bodyOut (cxOf [k165, k203]) (f148_A) (codeOf Try.f148) k148.its k148.lay Try.f148.ntmps k148.rs [.tmp 2] x = f148_tree x.1.1 := by kernel_rfl
theorem f148_ok (hr : ∀ x : (List (Int × List Int × Unit) × Unit) × Unit, itemsWF k148.its x → (f148_tree x.1.1).eval = (k148.F x).eval) : k148.Ok Try.prog :=
  con_fn [k165, k203] ⟨k165_ok, k203_ok, trivial⟩ (by kernel_rfl) (codeOf_eq (by kernel_rfl)) (by kernel_rfl) (by kernel_rfl) (by kernel_rfl) f148_eq fun x hw _ hy => (hr x hw).trans hy
theorem k148_ok : k148.Ok Try.prog := by
  refine f148_ok fun x hw => ?_
  obtain ⟨⟨a, _⟩, _⟩ := x
  have ha : a.length ≤ BIG := hw.1.1.1
  show (f148_tree a).eval = some (((filesOkV a, ()), ()), ((), ()))
  unfold f148_tree filesOkV
  have e2 : decide (((a.length : Nat) : Int) > (6 : Int)) = !decide (a.length ≤ 6) := gt_cast (m := 6)
  rw [e2]
  by_cases h1 : a.length ≤ 6
  · rw [eval_ite_f (by simp [h1]), decide_eq_true h1, Bool.true_and]
    have key : ∀ i (hi : i < a.length), (f148_L0 ((a, (((i : Nat) : Int), ())), ())).eval = some (bif fileRowV a i then .again ((a, (((i + 1 : Nat) : Int), ())), ()) else .ret ((false, ()), ())) := fun i hi => by
      have w1 := wrap_succ (i := i) (by omega)
      have g : decide (((a[i].2.1.length : Nat) : Int) > (8 : Int)) = !decide (a[i].2.1.length ≤ 8) := gt_cast (m := 8)
      cases i with
      | zero =>
        rw [fileRowV_zero hi]
        have w3 : decide (((0 : Nat) : Int) > 0) = false := rfl
        unfold file1V
        simp only [f148_L0, Out.eval, lt_t hi, ge0, nth_get hi, Option.bind_some, cond_true, w3, g, w1]
        cases p1 : inV a[0].1 0 5 <;> cases p2 : decide (a[0].2.1.length ≤ 8) <;> cases p3 : wordsOkV a[0].2.1 <;> rfl
      | succ i =>
        rw [fileRowV_succ hi]
        have w2 := wrap_pred i (by omega)
        have w3 : decide (((i + 1 : Nat) : Int) > 0) = true := decide_eq_true (by omega)
        unfold file1V
        simp only [f148_L0, Out.eval, lt_t hi, ge0, nth_get hi, nth_get (show i < a.length by omega), w1, w2, w3, g, not_ge, Option.bind_some, cond_true]
        cases p1 : inV a[i + 1].1 0 5 <;> cases p2 : decide (a[i].1 < a[i + 1].1) <;> cases p3 : decide (a[i + 1].2.1.length ≤ 8) <;> cases p4 : wordsOkV a[i + 1].2.1 <;> rfl
    have := iter_scan (f := f148_L0) (fun i => ((a, (((i : Nat) : Int), ())), ())) (fileRowV a) a.length (y := ((), ())) (z := ((false, ()), ())) (lt_fuel ha)
      (fun i hi hp => by rw [key i hi, hp]; rfl) (fun i hi hp => by rw [key i hi, hp]; rfl) (by simp [f148_L0, Out.eval])
    refine (eval_get_some this).trans ?_
    cases (List.range a.length).all (fileRowV a) <;> rfl
  · rw [eval_ite_t (by simp [h1]), decide_eq_false h1]; rfl
def f216_tree (a0 : Int) : Out (((Bool × Unit) × Unit) × (Unit × Unit)) :=
 .ret ((((inV a0 (-1000000 : Int) (1000000 : Int)), ()), ()), ((), ()))
def k216 : Con := { f := 216, lend := true, its := [⟨false, false, [.i .i64]⟩], lay := [none], rs := [⟨false, false, [.b]⟩], F := fun x => .ret ((((wordV x.1.1), ()), ()), ((), ())) }
theorem f216_eq (x : itemsD k216.its) : bodyOut (cxOf [k166]) (fun _ => none) (codeOf Try.f216) k216.its k216.lay Try.f216.ntmps k216.rs [.tmp 2] x = f216_tree x.1.1 := by kernel_rfl
theorem f216_ok (hr : ∀ x : (Int × Unit) × Unit, itemsWF k216.its x → (f216_tree x.1.1).eval = (k216.F x).eval) : k216.Ok Try.prog :=
  con_fn [k166] ⟨k166_ok, trivial⟩ (by kernel_rfl) (codeOf_eq (by kernel_rfl)) (by kernel_rfl) (by kernel_rfl) (by kernel_rfl) f216_eq fun x hw _ hy => (hr x hw).trans hy
theorem k216_ok : k216.Ok Try.prog := f216_ok fun _ _ => rfl
def f215_tree (a0 : Int) : Out (((Bool × Unit) × Unit) × (Unit × Unit)) :=
 .ret ((((!(wordV a0)), ()), ()), ((), ()))
def notWordV (n : Int) : Bool := !wordV n
def k215 : Con := { f := 215, lend := true, its := [⟨false, false, [.i .i64]⟩], lay := [none], rs := [⟨false, false, [.b]⟩], F := fun x => .ret ((((notWordV x.1.1), ()), ()), ((), ())) }
theorem f215_eq (x : itemsD k215.its) : bodyOut (cxOf [k216]) (fun _ => none) (codeOf Try.f215) k215.its k215.lay Try.f215.ntmps k215.rs [.tmp 2] x = f215_tree x.1.1 := by kernel_rfl
theorem f215_ok (hr : ∀ x : (Int × Unit) × Unit, itemsWF k215.its x → (f215_tree x.1.1).eval = (k215.F x).eval) : k215.Ok Try.prog :=
  con_fn [k216] ⟨k216_ok, trivial⟩ (by kernel_rfl) (codeOf_eq (by kernel_rfl)) (by kernel_rfl) (by kernel_rfl) (by kernel_rfl) f215_eq fun x hw _ hy => (hr x hw).trans hy
theorem k215_ok : k215.Ok Try.prog := f215_ok fun _ _ => rfl
abbrev f231_S0 := (List (Int) × Int × Int × Unit) × (Unit)
def f231_L0 (x : f231_S0) : Out (Round f231_S0 ((Unit) × (Unit)) ((Int × Unit) × (Unit))) :=
 .ite (decide (x.1.2.2.1 < x.1.2.1))
 (.ite (decide (0 ≤ x.1.2.2.1))
 (.get (nth x.1.1 (Int.toNat x.1.2.2.1)) fun y1 =>
 .ite (notWordV y1)
 (.ret (.ret ((x.1.2.2.1, ()), ())))
 (.ret (.again ((x.1.1, x.1.2.1, (IntKind.i64.wrap (x.1.2.2.1 + (1 : Int))), ()), ()))))
 .fail)
 (.ret (.out ((), ())))
def f231_tree (a0 : List Int) : Out (((Int × Unit) × Unit) × (Unit × Unit)) :=
 .get (iter f231_L0 FUEL ((a0, ((List.length a0 : Nat) : Int), (0 : Int), ()), ())) fun y1 => .alt y1 (fun y2 =>
 .ret ((((-1 : Int), ()), ()), ((), ()))) (fun y3 =>
 .ret (((y3.1.1, ()), ()), ((), ())))
def f231_A : Nat → Option LoopAnn := fun n => annOf [(0, { head := { t := [.ro (.int .i64) (some 0), .fn 215 [], .dead, .dead, .dead, .dead, .dead, .i .i64, .i .i64, .dead, .dead, .dead, .dead, .dead, .dead, .dead, .dead, .dead, .dead], v := [] }, out := { t := [.dead, .dead, .dead, .dead, .dead, .dead, .dead, .dead, .dead, .dead, .dead, .dead, .dead, .dead, .dead, .dead, .dead, .dead, .dead], v := [] }, ret := some { t := [.dead, .dead, .dead, .dead, .i .i64, .dead, .dead, .dead, .dead, .dead, .dead, .dead, .dead, .dead, .dead, .dead, .dead, .dead, .dead], v := [] } })] n
def indexWordV (a : List Int) : Int := idxV (a.findIdx? notWordV)
def k231 : Con := { f := 231, lend := true, its := [⟨false, false, [.ro (.int .i64)]⟩], lay := [none, some (215, 0)], rs := [⟨false, false, [.i .i64]⟩], F := fun x => .ret ((((indexWordV x.1.1), ()), ()), ((), ())) }
theorem f231_eq (x : itemsD k231.its) : bodyOut (cxOf [k215]) (f231_A) (codeOf Try.f231) k231.its k231.lay Try.f231.ntmps k231.rs [.tmp 4] x = f231_tree x.1.1 := by kernel_rfl
theorem f231_ok (hr : ∀ x : (List Int × Unit) × Unit, itemsWF k231.its x → (f231_tree x.1.1).eval = (k231.F x).eval) : k231.Ok Try.prog :=
  con_fn [k215] ⟨k215_ok, trivial⟩ (by kernel_rfl) (codeOf_eq (by kernel_rfl)) (by kernel_rfl) (by kernel_rfl) (by kernel_rfl) f231_eq fun x hw _ hy => (hr x hw).trans hy
theorem k231_ok : k231.Ok Try.prog := by
  refine f231_ok fun x hw => ?_
  obtain ⟨⟨a, _⟩, _⟩ := x
  have ha : a.length ≤ BIG := hw.1.1.1
  show (f231_tree a).eval = some (((indexWordV a, ()), ()), ((), ()))
  unfold f231_tree indexWordV
  have := idx_loop (f := f231_L0) a notWordV (fun i => ((a, (((a.length : Nat) : Int), (((i : Nat) : Int), ()))), ())) (y := ((), ())) (z := fun i => ((((i : Nat) : Int), ()), ()))
    (fun i hi hp => by
      have g1 := wrap_succ (i := i) (by omega)
      simp [f231_L0, Out.eval, hi, g1, hp])
    (fun i hi hp => by simp [f231_L0, Out.eval, hi, hp])
    (by simp [f231_L0, Out.eval]) ha
  refine (eval_get_some this).trans ?_
  cases a.findIdx? notWordV <;> rfl
def f214_tree (a0 : List Int) : Out (((Bool × Unit) × Unit) × (Unit × Unit)) :=
 .ret ((((decide ((indexWordV a0) ≥ (0 : Int))), ()), ()), ((), ()))
def anyWordV (a : List Int) : Bool := a.any notWordV
def k214 : Con := { f := 214, lend := true, its := [⟨false, false, [.ro (.int .i64)]⟩], lay := [none, some (215, 0)], rs := [⟨false, false, [.b]⟩], F := fun x => .ret ((((anyWordV x.1.1), ()), ()), ((), ())) }
theorem f214_eq (x : itemsD k214.its) : bodyOut (cxOf [k231]) (fun _ => none) (codeOf Try.f214) k214.its k214.lay Try.f214.ntmps k214.rs [.tmp 4] x = f214_tree x.1.1 := by kernel_rfl
theorem f214_ok (hr : ∀ x : (List Int × Unit) × Unit, itemsWF k214.its x → (f214_tree x.1.1).eval = (k214.F x).eval) : k214.Ok Try.prog :=
  con_fn [k231] ⟨k231_ok, trivial⟩ (by kernel_rfl) (codeOf_eq (by kernel_rfl)) (by kernel_rfl) (by kernel_rfl) (by kernel_rfl) f214_eq fun x hw _ hy => (hr x hw).trans hy
theorem k214_ok : k214.Ok Try.prog := by
  refine f214_ok fun x _ => ?_
  obtain ⟨⟨a, _⟩, _⟩ := x
  show (f214_tree a).eval = some (((anyWordV a, ()), ()), ((), ()))
  unfold f214_tree anyWordV indexWordV
  rw [idxV_ge]
  rfl
def f176_tree (a0 : List Int) : Out (((Bool × Unit) × Unit) × (Unit × Unit)) :=
 .ret ((((!(anyWordV a0)), ()), ()), ((), ()))
def k176 : Con := { f := 176, lend := true, its := [⟨false, false, [.ro (.int .i64)]⟩], lay := [none], rs := [⟨false, false, [.b]⟩], F := fun x => .ret ((((wordsOkV x.1.1), ()), ()), ((), ())) }
theorem f176_eq (x : itemsD k176.its) : bodyOut (cxOf [k214]) (fun _ => none) (codeOf Try.f176) k176.its k176.lay Try.f176.ntmps k176.rs [.tmp 2] x = f176_tree x.1.1 := by kernel_rfl
theorem f176_ok (hr : ∀ x : (List Int × Unit) × Unit, itemsWF k176.its x → (f176_tree x.1.1).eval = (k176.F x).eval) : k176.Ok Try.prog :=
  con_fn [k214] ⟨k214_ok, trivial⟩ (by kernel_rfl) (codeOf_eq (by kernel_rfl)) (by kernel_rfl) (by kernel_rfl) (by kernel_rfl) f176_eq fun x hw _ hy => (hr x hw).trans hy
theorem k176_ok : k176.Ok Try.prog := by
  refine f176_ok fun x _ => ?_
  obtain ⟨⟨a, _⟩, _⟩ := x
  show (f176_tree a).eval = some (((wordsOkV a, ()), ()), ((), ()))
  have : (!anyWordV a) = wordsOkV a := not_any a wordV
  rw [← this]; rfl
abbrev f151_S0 := (List ((Int × List Int × Unit)) × List ((Int × List Int × Unit)) × Int × Int × Unit) × (Unit)
def f151_L0 (x : f151_S0) : Out (Round f151_S0 ((List ((Int × List Int × Unit)) × Unit) × (Unit)) ((Bool × Unit) × (Unit))) :=
 .ite (decide (x.1.2.2.2.1 < x.1.2.2.1))
 (.ite (decide (0 ≤ x.1.2.2.2.1))
 (.get (nth x.1.2.1 (Int.toNat x.1.2.2.2.1)) fun y1 =>
 .ite ((!(inV y1.1 (0 : Int) (5 : Int))) == false)
 (.ite ((decide (x.1.2.2.2.1 > (0 : Int))) == true)
 (.ite (decide (0 ≤ (IntKind.i64.wrap (x.1.2.2.2.1 - (1 : Int)))))
 (.get (nth x.1.1 (Int.toNat (IntKind.i64.wrap (x.1.2.2.2.1 - (1 : Int))))) fun y2 =>
 .ite ((decide (y2.1 ≥ y1.1)) == false)
 (.ite ((decide (((List.length y1.2.1 : Nat) : Int) > (8 : Int))) == false)
 (.ite (!(wordsOkV y1.2.1))
 (.ret (.ret ((false, ()), ())))
 (.ret (.again ((x.1.1, x.1.2.1, x.1.2.2.1, (IntKind.i64.wrap (x.1.2.2.2.1 + (1 : Int))), ()), ()))))
 (.ret (.ret ((false, ()), ()))))
 (.ret (.ret ((false, ()), ()))))
 .fail)
 (.ite ((decide (((List.length y1.2.1 : Nat) : Int) > (8 : Int))) == false)
 (.ite (!(wordsOkV y1.2.1))
 (.ret (.ret ((false, ()), ())))
 (.ret (.again ((x.1.1, x.1.2.1, x.1.2.2.1, (IntKind.i64.wrap (x.1.2.2.2.1 + (1 : Int))), ()), ()))))
 (.ret (.ret ((false, ()), ())))))
 (.ret (.ret ((false, ()), ()))))
 .fail)
 (.ret (.out ((x.1.1, ()), ())))
def f151_tree (a0 : List (Int × List Int × Unit)) : Out (((Bool × Unit) × Unit) × (Unit × Unit)) :=
 .get (iter f151_L0 FUEL ((a0, a0, ((List.length a0 : Nat) : Int), (0 : Int), ()), ())) fun y1 => .alt y1 (fun y2 =>
 .ret ((((decide (((List.length y2.1.1 : Nat) : Int) ≤ (6 : Int))), ()), ()), ((), ()))) (fun y3 =>
 .ret (((y3.1.1, ()), ()), ((), ())))
def f151_A : Nat → Option LoopAnn := fun n => annOf [(0, { head := { t := [.ro (.st (.cons (.int .i64) (.cons (.sl (.int .i64)) .nil))) (some 0), .dead, .dead, .dead, .dead, .ro (.st (.cons (.int .i64) (.cons (.sl (.int .i64)) .nil))) (some 0), .i .i64, .i .i64, .dead, .dead, .dead, .dead, .dead, .dead, .dead, .dead, .dead, .dead, .dead, .dead, .dead, .dead, .dead, .dead, .dead, .dead, .dead, .dead, .dead, .dead, .dead, .dead, .dead, .dead, .dead, .dead, .dead, .dead, .dead, .dead, .dead, .dead, .dead, .dead, .dead, .dead, .dead], v := [] }, out := { t := [.ro (.st (.cons (.int .i64) (.cons (.sl (.int .i64)) .nil))) (some 0), .dead, .dead, .dead, .dead, .dead, .dead, .dead, .dead, .dead, .dead, .dead, .dead, .dead, .dead, .dead, .dead, .dead, .dead, .dead, .dead, .dead, .dead, .dead, .dead, .dead, .dead, .dead, .dead, .dead, .dead, .dead, .dead, .dead, .dead, .dead, .dead, .dead, .dead, .dead, .dead, .dead, .dead, .dead, .dead, .dead, .dead], v := [] }, ret := some { t := [.dead, .dead, .b, .dead, .dead, .dead, .dead, .dead, .dead, .dead, .dead, .dead, .dead, .dead, .dead, .dead, .dead, .dead, .dead, .dead, .dead, .dead, .dead, .dead, .dead, .dead, .dead, .dead, .dead, .dead, .dead, .dead, .dead, .dead, .dead, .dead, .dead, .dead, .dead, .dead, .dead, .dead, .dead, .dead, .dead, .dead, .dead], v := [] } })] n
def k151 : Con := { f := 151, lend := true, its := [⟨false, false, [.ro (.st (.cons (.int .i64) (.cons (.sl (.int .i64)) .nil)))]⟩], lay := [none], rs := [⟨false, false, [.b]⟩], F := fun x => .ret ((((filesOkV x.1.1), ()), ()), ((), ())) }
theorem f151_eq (x : itemsD k151.its) : bodyOut (cxOf [k166, k176]) (f151_A) (codeOf Try.f151) k151.its k151.lay Try.f151.ntmps k151.rs [.tmp 2] x = f151_tree x.1.1 := by kernel_rfl
theorem f151_ok (hr : ∀ x : (List (Int × List Int × Unit) × Unit) × Unit, itemsWF k151.its x → (f151_tree x.1.1).eval = (k151.F x).eval) : k151.Ok Try.prog :=
  con_fn [k166, k176] ⟨k166_ok, k176_ok, trivial⟩ (by kernel_rfl) (codeOf_eq (by kernel_rfl)) (by kernel_rfl) (by kernel_rfl) (by kernel_rfl) f151_eq fun x hw _ hy => (hr x hw).trans hy
theorem k151_ok : k151.Ok Try.prog := by
  refine f151_ok fun x hw => ?_
  obtain ⟨⟨a, _⟩, _⟩ := x
  have ha : a.length ≤ BIG := hw.1.1.1
  show (f151_tree a).eval = some (((filesOkV a, ()), ()), ((), ()))
  unfold f151_tree filesOkV
  have key : ∀ i (hi : i < a.length), (f151_L0 ((a, (a, (((a.length : Nat) : Int), (((i : Nat) : Int), ())))), ())).eval = some (bif fileRowV a i then .again ((a, (a, (((a.length : Nat) : Int), (((i + 1 : Nat) : Int), ())))), ()) else .ret ((false, ()), ())) := fun i hi => by
    have w1 := wrap_succ (i := i) (by omega)
    have g : decide (((a[i].2.1.length : Nat) : Int) > (8 : Int)) = !decide (a[i].2.1.length ≤ 8) := gt_cast (m := 8)
    cases i with
    | zero =>
      rw [fileRowV_zero hi]
      have w3 : decide (((0 : Nat) : Int) > 0) = false := rfl
      unfold file1V
      simp only [f151_L0, Out.eval, lt_t hi, ge0, nth_get hi, Option.bind_some, cond_true, w3, g, w1]
      cases p1 : inV a[0].1 0 5 <;> cases p2 : decide (a[0].2.1.length ≤ 8) <;> cases p3 : wordsOkV a[0].2.1 <;> rfl
    | succ i =>
      rw [fileRowV_succ hi]
      have w2 := wrap_pred i (by omega)
      have w3 : decide (((i + 1 : Nat) : Int) > 0) = true := decide_eq_true (by omega)
      unfold file1V
      simp only [f151_L0, Out.eval, lt_t hi, ge0, nth_get hi, nth_get (show i < a.length by omega), w1, w2, w3, g, not_ge, Option.bind_some, cond_true]
      cases p1 : inV a[i + 1].1 0 5 <;> cases p2 : decide (a[i].1 < a[i + 1].1) <;> cases p3 : decide (a[i + 1].2.1.length ≤ 8) <;> cases p4 : wordsOkV a[i + 1].2.1 <;> rfl
  have := iter_scan (f := f151_L0) (fun i => ((a, (a, (((a.length : Nat) : Int), (((i : Nat) : Int), ())))), ())) (fileRowV a) a.length (y := ((a, ()), ())) (z := ((false, ()), ())) (lt_fuel ha)
    (fun i hi hp => by rw [key i hi, hp]; rfl) (fun i hi hp => by rw [key i hi, hp]; rfl) (by simp [f151_L0, Out.eval])
  refine (eval_get_some this).trans ?_
  have e2 : decide (((a.length : Nat) : Int) ≤ (6 : Int)) = decide (a.length ≤ 6) := le_cast (m := 6)
  cases (List.range a.length).all (fileRowV a)
  · rw [Bool.and_false]; rfl
  · rw [Bool.and_true, ← e2]; rfl
/-! ## Files as texts, told -/
def f204_tree (a0 : Int) : Out (((Int × Unit) × Unit) × (Unit × Unit)) :=
 .ite (decide (a0 < (0 : Int)))
 (.ret ((((IntKind.i64.wrap ((IntKind.i64.wrap ((-2 : Int) * a0)) - (1 : Int))), ()), ()), ((), ())))
 (.ret ((((IntKind.i64.wrap ((2 : Int) * a0)), ()), ()), ((), ())))
def k204 : Con := { f := 204, lend := true, its := [⟨false, false, [.i .i64]⟩], lay := [none], rs := [⟨false, false, [.i .i64]⟩], F := fun x => .ret ((((zigV x.1.1), ()), ()), ((), ())) }
theorem f204_eq (x : itemsD k204.its) : bodyOut (cxOf []) (fun _ => none) (codeOf Try.f204) k204.its k204.lay Try.f204.ntmps k204.rs [.tmp 2] x = f204_tree x.1.1 := by kernel_rfl
theorem f204_ok (hr : ∀ x : (Int × Unit) × Unit, itemsWF k204.its x → (f204_tree x.1.1).eval = (k204.F x).eval) : k204.Ok Try.prog :=
  con_fn [] trivial (by kernel_rfl) (codeOf_eq (by kernel_rfl)) (by kernel_rfl) (by kernel_rfl) (by kernel_rfl) f204_eq fun x hw _ hy => (hr x hw).trans hy
theorem k204_ok : k204.Ok Try.prog := by
  refine f204_ok fun x _ => ?_
  obtain ⟨⟨n, _⟩, _⟩ := x
  show (f204_tree n).eval = some (((zigV n, ()), ()), ((), ()))
  unfold f204_tree zigV
  by_cases h : n < 0
  · rw [eval_ite_t (decide_eq_true h), if_pos h]; rfl
  · rw [eval_ite_f (decide_eq_false h), if_neg h]; rfl
abbrev f149_S0 := (List (Int) × List UInt8 × Int × Unit) × (Unit)
def f149_L0 (x : f149_S0) : Out (Round f149_S0 ((List UInt8 × Unit) × (Unit)) Empty) :=
 .ite (decide (x.1.2.2.1 < ((List.length x.1.1 : Nat) : Int)))
 (.ite (decide (0 ≤ x.1.2.2.1))
 (.get (nth x.1.1 (Int.toNat x.1.2.2.1)) fun y1 =>
 .ite (decide (List.length x.1.2.1 + List.length (varV (zigV y1)) ≤ LIM))
 (.ret (.again ((x.1.1, (x.1.2.1 ++ (varV (zigV y1))), (IntKind.i64.wrap (x.1.2.2.1 + (1 : Int))), ()), ())))
 .fail)
 .fail)
 (.ret (.out ((x.1.2.1, ()), ())))
def f149_tree (a0 : List Int) : Out (((List UInt8 × Unit) × Unit) × (Unit × Unit)) :=
 .get (iter1 f149_L0 FUEL ((a0, (varV ((List.length a0 : Nat) : Int)), (0 : Int), ()), ())) fun y1 =>
 .ret (((y1.1.1, ()), ()), ((), ()))
def f149_A : Nat → Option LoopAnn := fun n => annOf [(0, { head := { t := [.ro (.int .i64) (some 0), .dead, .dead, .s, .i .i64, .dead, .dead, .dead, .dead, .dead, .dead, .dead, .dead, .dead, .dead, .dead, .dead, .dead, .dead, .dead, .dead, .dead, .dead], v := [] }, out := { t := [.dead, .dead, .dead, .s, .dead, .dead, .dead, .dead, .dead, .dead, .dead, .dead, .dead, .dead, .dead, .dead, .dead, .dead, .dead, .dead, .dead, .dead, .dead], v := [] }, ret := none })] n
def wordsTV (l : List Int) : Option Str := lim (wordsS l) (wordsS l)
def k149 : Con := { f := 149, lend := true, its := [⟨false, false, [.ro (.int .i64)]⟩], lay := [none], rs := [⟨false, false, [.s]⟩], F := fun x => .get (wordsTV x.1.1) fun y => .ret (((y, ()), ()), ((), ())) }
theorem f149_eq (x : itemsD k149.its) : bodyOut (cxOf [k131, k204]) (f149_A) (codeOf Try.f149) k149.its k149.lay Try.f149.ntmps k149.rs [.tmp 2] x = f149_tree x.1.1 := by kernel_rfl
theorem f149_okp (hr : ∀ x : (List Int × Unit) × Unit, itemsWF k149.its x → ∀ y, (k149.F x).eval = some y → (f149_tree x.1.1).eval = some y) : k149.Ok Try.prog :=
  con_fn [k131, k204] ⟨k131_ok, k204_ok, trivial⟩ (by kernel_rfl) (codeOf_eq (by kernel_rfl)) (by kernel_rfl) (by kernel_rfl) (by kernel_rfl) f149_eq hr
theorem k149_ok : k149.Ok Try.prog := by
  refine f149_okp fun x hw y hy => ?_
  obtain ⟨⟨a, _⟩, _⟩ := x
  have ha : a.length ≤ BIG := hw.1.1.1
  change (Out.get (wordsTV a) fun y => Out.ret (((y, ()), ()), ((), ()))).eval = some y at hy
  show (f149_tree a).eval = some y
  unfold f149_tree
  unfold wordsTV at hy
  by_cases hl : (wordsS a).length ≤ LIM
  · rw [lim_some hl] at hy
    refine Eq.trans ?_ hy
    have := flat_loop (f := f149_L0) (fun n => varV (zigV n)) a (fun s i => ((a, (s, (((i : Nat) : Int), ()))), ())) (fun s => ((s, ()), ())) LIM
      (fun i hi s hs => by
        have w1 := wrap_succ (i := i) (by omega)
        simp only [f149_L0, Out.eval, lt_t hi, ge0, nth_get hi, Option.bind_some, cond_true, decide_eq_true hs, w1])
      (fun s => by simp [f149_L0, Out.eval]) ha (varV ((a.length : Nat) : Int)) (by unfold wordsS at hl; rw [List.length_append] at hl; exact hl)
    exact (eval_get_some this).trans rfl
  · rw [lim_not hl] at hy; exact nomatch hy
def f205_tree (a0 : Int) : Out (((List UInt8 × Unit) × Unit) × (Unit × Unit)) :=
 .ite (decide (a0 < (0 : Int)))
 (.ret ((((varV (IntKind.i64.wrap ((IntKind.i64.wrap ((-2 : Int) * a0)) - (1 : Int)))), ()), ()), ((), ())))
 (.ret ((((varV (IntKind.i64.wrap ((2 : Int) * a0))), ()), ()), ((), ())))
def wordVarV (n : Int) : Str := varV (zigV n)
def k205 : Con := { f := 205, lend := true, its := [⟨false, false, [.i .i64]⟩], lay := [none], rs := [⟨false, false, [.s]⟩], F := fun x => .ret ((((wordVarV x.1.1), ()), ()), ((), ())) }
theorem f205_eq (x : itemsD k205.its) : bodyOut (cxOf [k200]) (fun _ => none) (codeOf Try.f205) k205.its k205.lay Try.f205.ntmps k205.rs [.tmp 2] x = f205_tree x.1.1 := by kernel_rfl
theorem f205_ok (hr : ∀ x : (Int × Unit) × Unit, itemsWF k205.its x → (f205_tree x.1.1).eval = (k205.F x).eval) : k205.Ok Try.prog :=
  con_fn [k200] ⟨k200_ok, trivial⟩ (by kernel_rfl) (codeOf_eq (by kernel_rfl)) (by kernel_rfl) (by kernel_rfl) (by kernel_rfl) f205_eq fun x hw _ hy => (hr x hw).trans hy
theorem k205_ok : k205.Ok Try.prog := by
  refine f205_ok fun x _ => ?_
  obtain ⟨⟨n, _⟩, _⟩ := x
  show (f205_tree n).eval = some (((wordVarV n, ()), ()), ((), ()))
  unfold f205_tree wordVarV zigV
  by_cases h : n < 0
  · rw [eval_ite_t (decide_eq_true h), if_pos h]; rfl
  · rw [eval_ite_f (decide_eq_false h), if_neg h]; rfl
abbrev f152_S0 := (List UInt8 × List (Int) × Int × Int × Unit) × (Unit)
def f152_L0 (x : f152_S0) : Out (Round f152_S0 ((List UInt8 × Unit) × (Unit)) Empty) :=
 .ite (decide (x.1.2.2.2.1 < x.1.2.2.1))
 (.ite (decide (0 ≤ x.1.2.2.2.1))
 (.get (nth x.1.2.1 (Int.toNat x.1.2.2.2.1)) fun y1 =>
 .ite (decide (List.length x.1.1 + List.length (wordVarV y1) ≤ LIM))
 (.ret (.again (((x.1.1 ++ (wordVarV y1)), x.1.2.1, x.1.2.2.1, (IntKind.i64.wrap (x.1.2.2.2.1 + (1 : Int))), ()), ())))
 .fail)
 .fail)
 (.ret (.out ((x.1.1, ()), ())))
def f152_tree (a0 : List Int) : Out (((List UInt8 × Unit) × Unit) × (Unit × Unit)) :=
 .get (iter1 f152_L0 FUEL (((varV ((List.length a0 : Nat) : Int)), a0, ((List.length a0 : Nat) : Int), (0 : Int), ()), ())) fun y1 =>
 .ret (((y1.1.1, ()), ()), ((), ()))
def f152_A : Nat → Option LoopAnn := fun n => annOf [(0, { head := { t := [.dead, .dead, .dead, .s, .dead, .dead, .dead, .dead, .dead, .ro (.int .i64) (some 0), .i .i64, .i .i64, .dead, .dead, .dead, .dead, .dead, .dead, .dead, .dead, .dead], v := [] }, out := { t := [.dead, .dead, .dead, .s, .dead, .dead, .dead, .dead, .dead, .dead, .dead, .dead, .dead, .dead, .dead, .dead, .dead, .dead, .dead, .dead, .dead], v := [] }, ret := none })] n
def k152 : Con := { f := 152, lend := true, its := [⟨false, false, [.ro (.int .i64)]⟩], lay := [none], rs := [⟨false, false, [.s]⟩], F := fun x => .get (wordsTV x.1.1) fun y => .ret (((y, ()), ()), ((), ())) }
theorem f152_eq (x : itemsD k152.its) : bodyOut (cxOf [k200, k205]) (f152_A) (codeOf Try.f152) k152.its k152.lay Try.f152.ntmps k152.rs [.tmp 2] x = f152_tree x.1.1 := by kernel_rfl
theorem f152_okp (hr : ∀ x : (List Int × Unit) × Unit, itemsWF k152.its x → ∀ y, (k152.F x).eval = some y → (f152_tree x.1.1).eval = some y) : k152.Ok Try.prog :=
  con_fn [k200, k205] ⟨k200_ok, k205_ok, trivial⟩ (by kernel_rfl) (codeOf_eq (by kernel_rfl)) (by kernel_rfl) (by kernel_rfl) (by kernel_rfl) f152_eq hr
theorem k152_ok : k152.Ok Try.prog := by
  refine f152_okp fun x hw y hy => ?_
  obtain ⟨⟨a, _⟩, _⟩ := x
  have ha : a.length ≤ BIG := hw.1.1.1
  change (Out.get (wordsTV a) fun y => Out.ret (((y, ()), ()), ((), ()))).eval = some y at hy
  show (f152_tree a).eval = some y
  unfold f152_tree
  unfold wordsTV at hy
  by_cases hl : (wordsS a).length ≤ LIM
  · rw [lim_some hl] at hy
    refine Eq.trans ?_ hy
    have := flat_loop (f := f152_L0) wordVarV a (fun s i => ((s, (a, (((a.length : Nat) : Int), (((i : Nat) : Int), ())))), ())) (fun s => ((s, ()), ())) LIM
      (fun i hi s hs => by
        have w1 := wrap_succ (i := i) (by omega)
        simp only [f152_L0, Out.eval, lt_t hi, ge0, nth_get hi, Option.bind_some, cond_true, decide_eq_true hs, w1])
      (fun s => by simp [f152_L0, Out.eval]) ha (varV ((a.length : Nat) : Int)) (by unfold wordsS at hl; rw [List.length_append] at hl; exact hl)
    exact (eval_get_some this).trans rfl
  · rw [lim_not hl] at hy; exact nomatch hy
theorem filesOkV_parts {a : List FileD} (h : filesOkV a = true) : a.length ≤ 6 ∧ ∀ x ∈ a, (0 ≤ x.1 ∧ x.1 ≤ 5) ∧ x.2.1.length ≤ 8 ∧ wordsOkV x.2.1 = true := by
  obtain ⟨h1, h2⟩ := Bool.and_eq_true_iff.1 h
  refine ⟨of_decide_eq_true h1, fun x hx => ?_⟩
  obtain ⟨i, hi, rfl⟩ := List.getElem_of_mem hx
  have hr := List.all_eq_true.1 h2 i (List.mem_range.2 hi)
  have hf : file1V a[i] = true := by
    cases i with
    | zero => rw [fileRowV_zero hi] at hr; exact hr
    | succ i => rw [fileRowV_succ hi] at hr; exact (Bool.and_eq_true_iff.1 hr).1
  obtain ⟨f1, f2⟩ := Bool.and_eq_true_iff.1 hf
  obtain ⟨f2, f3⟩ := Bool.and_eq_true_iff.1 f2
  exact ⟨by simpa [inV] using f1, of_decide_eq_true f2, f3⟩
theorem wordsS_len {d : List Int} (h : d.length ≤ 8) : (wordsS d).length ≤ 63 := by
  have h1 := flatMap_len (fun n => varV (zigV n)) 7 d fun x _ => varV_len _
  have := varV_len ((d.length : Nat) : Int)
  unfold wordsS
  rw [List.length_append]
  omega
theorem wordsTV_some {d : List Int} (h : d.length ≤ 8) : wordsTV d = some (wordsS d) := lim_some (by have := wordsS_len h; rw [LIM_eq]; omega)
theorem six_ok : decide (0 ≤ (6 : Int) ∧ (6 : Int) ≤ (6 : Int) ∧ (6 : Int) ≤ (LIM : Int)) = true := decide_eq_true (by rw [LIM_eq]; omega)
abbrev f56_S0 := (List ((Int × List Int × Unit)) × Int × Unit) × (List (List UInt8) × Unit)
def f56_L0 (x : f56_S0) : Out (Round f56_S0 ((Unit) × (List (List UInt8) × Unit)) Empty) :=
 .ite (decide (x.1.2.1 < ((List.length x.1.1 : Nat) : Int)))
 (.ite (decide (0 ≤ x.1.2.1))
 (.get (nth x.1.1 (Int.toNat x.1.2.1)) fun y1 =>
 .ite (decide (0 ≤ x.1.2.1))
 (.get (nth x.1.1 (Int.toNat x.1.2.1)) fun y2 =>
 .get (wordsTV y2.2.1) fun y3 =>
 .ite (decide (List.length ([102] : List UInt8) + List.length y3 ≤ LIM))
 (.ite (decide (0 ≤ y1.1 ∧ y1.1 < ((List.length x.2.1 : Nat) : Int)))
 (.get (nth x.2.1 (Int.toNat y1.1)) fun y4 =>
 .ret (.again ((x.1.1, (IntKind.i64.wrap (x.1.2.1 + (1 : Int))), ()), ((List.set x.2.1 (Int.toNat y1.1) (([102] : List UInt8) ++ y3)), ()))))
 .fail)
 .fail)
 .fail)
 .fail)
 (.ret (.out ((), (x.2.1, ()))))
def f56_tree (a0 : List (Int × List Int × Unit)) : Out (((List (List UInt8) × Unit) × Unit) × (Unit × Unit)) :=
 .ite (!(filesOkV a0))
 (.ret (((([] : List (List UInt8)), ()), ()), ((), ())))
 (.ite (decide (0 ≤ (6 : Int) ∧ (6 : Int) ≤ (6 : Int) ∧ (6 : Int) ≤ (LIM : Int)))
 (.get (iter1 f56_L0 FUEL ((a0, (0 : Int), ()), ((List.replicate (Int.toNat (6 : Int)) ([] : List UInt8)), ()))) fun y1 =>
 .ret (((y1.2.1, ()), ()), ((), ())))
 .fail)
def f56_A : Nat → Option LoopAnn := fun n => annOf [(0, { head := { t := [.ro (.st (.cons (.int .i64) (.cons (.sl (.int .i64)) .nil))) (some 0), .dead, .dead, .srf 64000000, .i .i64, .dead, .dead, .dead, .dead, .dead, .dead, .dead, .dead, .dead, .dead, .dead, .dead, .dead, .dead, .dead, .dead, .dead, .dead, .dead, .dead, .dead, .dead, .dead, .dead, .dead, .dead], v := [(64000000, .arr .str)] }, out := { t := [.dead, .dead, .dead, .srf 64000256, .dead, .dead, .dead, .dead, .dead, .dead, .dead, .dead, .dead, .dead, .dead, .dead, .dead, .dead, .dead, .dead, .dead, .dead, .dead, .dead, .dead, .dead, .dead, .dead, .dead, .dead, .dead], v := [(64000256, .arr .str)] }, ret := none })] n
def k56 : Con := { f := 56, lend := true, its := [⟨false, false, [.ro (.st (.cons (.int .i64) (.cons (.sl (.int .i64)) .nil)))]⟩], lay := [none], rs := [⟨false, false, [.own .str]⟩], F := fun x => .ret ((((fileBlocksV x.1.1), ()), ()), ((), ())) }
theorem f56_eq (x : itemsD k56.its) : bodyOut (cxOf [k148, k149]) (f56_A) (codeOf Try.f56) k56.its k56.lay Try.f56.ntmps k56.rs [.tmp 2] x = f56_tree x.1.1 := by kernel_rfl
theorem f56_ok (hr : ∀ x : (List (Int × List Int × Unit) × Unit) × Unit, itemsWF k56.its x → (f56_tree x.1.1).eval = (k56.F x).eval) : k56.Ok Try.prog :=
  con_fn [k148, k149] ⟨k148_ok, k149_ok, trivial⟩ (by kernel_rfl) (codeOf_eq (by kernel_rfl)) (by kernel_rfl) (by kernel_rfl) (by kernel_rfl) f56_eq fun x hw _ hy => (hr x hw).trans hy
theorem k56_ok : k56.Ok Try.prog := by
  refine f56_ok fun x hw => ?_
  obtain ⟨⟨a, _⟩, _⟩ := x
  have ha : a.length ≤ BIG := hw.1.1.1
  show (f56_tree a).eval = some (((fileBlocksV a, ()), ()), ((), ()))
  unfold f56_tree fileBlocksV
  by_cases h : filesOkV a = true
  · have hp := filesOkV_parts h
    rw [eval_ite_f (by simp [h]), if_pos h, eval_ite_t six_ok]
    have := foldl_loop (f := f56_L0) (fun (l : List Str) _ => l.length = 6) setB a (fun l i => ((a, (((i : Nat) : Int), ())), (l, ()))) (fun l => ((), (l, ())))
      (fun i hi l hl => by
        have w1 := wrap_succ (i := i) (by omega)
        have hx := hp.2 a[i] (List.getElem_mem hi)
        have w2 := wordsTV_some hx.2.1
        have w3 : decide (List.length ([102] : List UInt8) + List.length (wordsS a[i].2.1) ≤ LIM) = true := decide_eq_true (by have := wordsS_len hx.2.1; rw [LIM_eq]; simp; omega)
        have w4 : decide (0 ≤ a[i].1 ∧ a[i].1 < ((l.length : Nat) : Int)) = true := decide_eq_true (by rw [hl]; omega)
        have w5 : nth l (Int.toNat a[i].1) = some (l[Int.toNat a[i].1]'(by omega)) := List.getElem?_eq_getElem _
        simp only [f56_L0, Out.eval, lt_t hi, ge0, nth_get hi, Option.bind_some, cond_true, w1, w2, w3, w4, w5]
        rfl)
      (fun l _ => by simp [f56_L0, Out.eval]) (fun i hi l hl => by unfold setB; rw [List.length_set]; exact hl) ha (List.replicate 6 []) (by simp)
    exact (eval_get_some this).trans rfl
  · rw [eval_ite_t (by simp [h]), if_neg h]; rfl
abbrev f58_S0 := (List ((Int × List Int × Unit)) × Int × Int × Unit) × (List (List UInt8) × Unit)
def f58_L0 (x : f58_S0) : Out (Round f58_S0 ((Unit) × (List (List UInt8) × Unit)) Empty) :=
 .ite (decide (x.1.2.2.1 < x.1.2.1))
 (.ite (decide (0 ≤ x.1.2.2.1))
 (.get (nth x.1.1 (Int.toNat x.1.2.2.1)) fun y1 =>
 .get (wordsTV y1.2.1) fun y2 =>
 .ite (decide (List.length ([102] : List UInt8) + List.length y2 ≤ LIM))
 (.ite (decide (0 ≤ y1.1 ∧ y1.1 < ((List.length x.2.1 : Nat) : Int)))
 (.get (nth x.2.1 (Int.toNat y1.1)) fun y3 =>
 .ret (.again ((x.1.1, x.1.2.1, (IntKind.i64.wrap (x.1.2.2.1 + (1 : Int))), ()), ((List.set x.2.1 (Int.toNat y1.1) (([102] : List UInt8) ++ y2)), ()))))
 .fail)
 .fail)
 .fail)
 (.ret (.out ((), (x.2.1, ()))))
def f58_tree (a0 : List (Int × List Int × Unit)) : Out (((List (List UInt8) × Unit) × Unit) × (Unit × Unit)) :=
 .ite (!(filesOkV a0))
 (.ret (((([] : List (List UInt8)), ()), ()), ((), ())))
 (.ite (decide (0 ≤ (6 : Int) ∧ (6 : Int) ≤ (6 : Int) ∧ (6 : Int) ≤ (LIM : Int)))
 (.get (iter1 f58_L0 FUEL ((a0, ((List.length a0 : Nat) : Int), (0 : Int), ()), ((List.replicate (Int.toNat (6 : Int)) ([] : List UInt8)), ()))) fun y1 =>
 .ret (((y1.2.1, ()), ()), ((), ())))
 .fail)
def f58_A : Nat → Option LoopAnn := fun n => annOf [(0, { head := { t := [.dead, .dead, .dead, .srf 64000000, .dead, .dead, .dead, .dead, .dead, .dead, .ro (.st (.cons (.int .i64) (.cons (.sl (.int .i64)) .nil))) (some 0), .i .i64, .i .i64, .dead, .dead, .dead, .dead, .dead, .dead, .dead, .dead, .dead, .dead, .dead, .dead, .dead], v := [(64000000, .arr .str)] }, out := { t := [.dead, .dead, .dead, .srf 64000256, .dead, .dead, .dead, .dead, .dead, .dead, .dead, .dead, .dead, .dead, .dead, .dead, .dead, .dead, .dead, .dead, .dead, .dead, .dead, .dead, .dead, .dead], v := [(64000256, .arr .str)] }, ret := none })] n
def k58 : Con := { f := 58, lend := true, its := [⟨false, false, [.ro (.st (.cons (.int .i64) (.cons (.sl (.int .i64)) .nil)))]⟩], lay := [none], rs := [⟨false, false, [.own .str]⟩], F := fun x => .ret ((((fileBlocksV x.1.1), ()), ()), ((), ())) }
theorem f58_eq (x : itemsD k58.its) : bodyOut (cxOf [k151, k152]) (f58_A) (codeOf Try.f58) k58.its k58.lay Try.f58.ntmps k58.rs [.tmp 2] x = f58_tree x.1.1 := by kernel_rfl
theorem f58_ok (hr : ∀ x : (List (Int × List Int × Unit) × Unit) × Unit, itemsWF k58.its x → (f58_tree x.1.1).eval = (k58.F x).eval) : k58.Ok Try.prog :=
  con_fn [k151, k152] ⟨k151_ok, k152_ok, trivial⟩ (by kernel_rfl) (codeOf_eq (by kernel_rfl)) (by kernel_rfl) (by kernel_rfl) (by kernel_rfl) f58_eq fun x hw _ hy => (hr x hw).trans hy
theorem k58_ok : k58.Ok Try.prog := by
  refine f58_ok fun x hw => ?_
  obtain ⟨⟨a, _⟩, _⟩ := x
  have ha : a.length ≤ BIG := hw.1.1.1
  show (f58_tree a).eval = some (((fileBlocksV a, ()), ()), ((), ()))
  unfold f58_tree fileBlocksV
  by_cases h : filesOkV a = true
  · have hp := filesOkV_parts h
    rw [eval_ite_f (by simp [h]), if_pos h, eval_ite_t six_ok]
    have := foldl_loop (f := f58_L0) (fun (l : List Str) _ => l.length = 6) setB a (fun l i => ((a, (((a.length : Nat) : Int), (((i : Nat) : Int), ()))), (l, ()))) (fun l => ((), (l, ())))
      (fun i hi l hl => by
        have w1 := wrap_succ (i := i) (by omega)
        have hx := hp.2 a[i] (List.getElem_mem hi)
        have w2 := wordsTV_some hx.2.1
        have w3 : decide (List.length ([102] : List UInt8) + List.length (wordsS a[i].2.1) ≤ LIM) = true := decide_eq_true (by have := wordsS_len hx.2.1; rw [LIM_eq]; simp; omega)
        have w4 : decide (0 ≤ a[i].1 ∧ a[i].1 < ((l.length : Nat) : Int)) = true := decide_eq_true (by rw [hl]; omega)
        have w5 : nth l (Int.toNat a[i].1) = some (l[Int.toNat a[i].1]'(by omega)) := List.getElem?_eq_getElem _
        simp only [f58_L0, Out.eval, lt_t hi, ge0, nth_get hi, Option.bind_some, cond_true, w1, w2, w3, w4, w5]
        rfl)
      (fun l _ => by simp [f58_L0, Out.eval]) (fun i hi l hl => by unfold setB; rw [List.length_set]; exact hl) ha (List.replicate 6 []) (by simp)
    exact (eval_get_some this).trans rfl
  · rw [eval_ite_t (by simp [h]), if_neg h]; rfl

end Go.Proofs.Ytjcinikojcfebaa.Dm
