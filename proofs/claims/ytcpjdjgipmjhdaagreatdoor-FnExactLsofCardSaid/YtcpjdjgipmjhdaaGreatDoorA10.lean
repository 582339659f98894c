/- Functions of the program, and what they compute. -/
import Derived.Test.YtcpjdjgipmjhdaaGreatDoorA9
namespace Go.Proofs.YtcpjdjgipmjhdaaGreatDoor.Dm
open Go Go.ChangeShapes Go.WideShapes Go.ChangeAt Go.RowKit
def f69_tree (a0 : Int) : Out (((Bool × Unit) × Unit) × (Unit × Unit)) :=
 .ret ((((inV a0 (-1000000 : Int) (1000000 : Int)), ()), ()), ((), ()))
def k69 : Con := { f := 69, lend := true, its := [⟨false, false, [.i .i64]⟩], lay := [none], rs := [⟨false, false, [.b]⟩], F := fun x => .ret ((((wordV x.1.1), ()), ()), ((), ())) }
theorem f69_eq (x : itemsD k69.its) : bo [k38] (fun _ => none) Tryz.f69 k69 [.tmp 2] x = f69_tree x.1.1 := by kernel_rfl
theorem f69_ok (hr : ∀ x : (Int × Unit) × Unit, itemsWF k69.its x → (f69_tree x.1.1).eval = (k69.F x).eval) : k69.Ok Tryz.prog := con_fn [k38] ⟨k38_ok, trivial⟩ f69_eq fun x hw _ hy => (hr x hw).trans hy
theorem k69_ok : k69.Ok Tryz.prog := f69_ok fun _ _ => rfl
abbrev f40_S0 := (List (Int) × Int × Unit) × (Unit)
def f40_L0 : f40_S0 → Out (Round f40_S0 ((Unit) × (Unit)) ((Bool × Unit) × (Unit)))
| ((p0, p1, _), _) =>
 .ite (decide (p1 < ((List.length p0 : Nat) : Int)))
 (.ite (decide (0 ≤ p1))
 (.get (nth p0 (Int.toNat p1)) fun y1 =>
 .ite (!(wordV y1))
 (.ret (.ret ((false, ()), ())))
 (.ret (.again ((p0, (IntKind.i64.wrap (p1 + (1 : Int))), ()), ()))))
 .fail)
 (.ret (.out ((), ())))
def f40_tree (a0 : List Int) : Out (((Bool × Unit) × Unit) × (Unit × Unit)) :=
 .get (iter f40_L0 FUEL ((a0, (0 : Int), ()), ())) fun y1 => .alt y1 (fun y2 =>
 .ret (((true, ()), ()), ((), ()))) (fun y3 =>
 .ret (((y3.1.1, ()), ()), ((), ())))
def f40_A : Nat → Option LoopAnn := fun n => annOf [(0, { head := { t := [.ro (.int .i64) (some 0), .dead, .dead, .i .i64] ++ dd 12, v := [] }, out := { t := dd 16, v := [] }, ret := some { t := [.dead, .dead, .b] ++ dd 13, v := [] } })] n
def k40 : Con := { f := 40, lend := true, its := [⟨false, false, [.ro (.int .i64)]⟩], lay := [none], rs := [⟨false, false, [.b]⟩], F := fun x => .ret ((((wordsOkV x.1.1), ()), ()), ((), ())) }
theorem f40_eq (x : itemsD k40.its) : bo [k69] f40_A Tryz.f40 k40 [.tmp 2] x = f40_tree x.1.1 := by kernel_rfl
theorem f40_ok (hr : ∀ x : (List Int × Unit) × Unit, itemsWF k40.its x → (f40_tree x.1.1).eval = (k40.F x).eval) : k40.Ok Tryz.prog := con_fn [k69] ⟨k69_ok, trivial⟩ f40_eq fun x hw _ hy => (hr x hw).trans hy
theorem k40_ok : k40.Ok Tryz.prog := by
  refine f40_ok fun x hw => ?_
  obtain ⟨⟨a, _⟩, _⟩ := x
  have ha : a.length ≤ BIG := hw.1.1.1
  show (f40_tree a).eval = some (((wordsOkV a, ()), ()), ((), ()))
  unfold f40_tree wordsOkV
  have := all_loop (f := f40_L0) a wordV (fun i => ((a, (((i : Nat) : Int), ())), ())) (y := ((), ())) (z := ((false, ()), ()))
    (fun i hi hp => by
      have g1 := wrap_succ (i := i) (by omega)
      simp [f40_L0, Out.eval, hi, g1, hp])
    (fun i hi hp => by simp [f40_L0, Out.eval, hi, hp])
    (by simp [f40_L0, Out.eval]) ha
  refine (eval_get_some this).trans ?_
  cases a.all wordV <;> rfl
def f80_tree (a0 : Int) : Out (((Bool × Unit) × Unit) × (Unit × Unit)) :=
 .ret ((((inV a0 (-1000000 : Int) (1000000 : Int)), ()), ()), ((), ()))
def k80 : Con := { f := 80, lend := true, its := [⟨false, false, [.i .i64]⟩], lay := [none], rs := [⟨false, false, [.b]⟩], F := fun x => .ret ((((wordV x.1.1), ()), ()), ((), ())) }
theorem f80_eq (x : itemsD k80.its) : bo [k50] (fun _ => none) Tryz.f80 k80 [.tmp 2] x = f80_tree x.1.1 := by kernel_rfl
theorem f80_ok (hr : ∀ x : (Int × Unit) × Unit, itemsWF k80.its x → (f80_tree x.1.1).eval = (k80.F x).eval) : k80.Ok Tryz.prog := con_fn [k50] ⟨k50_ok, trivial⟩ f80_eq fun x hw _ hy => (hr x hw).trans hy
theorem k80_ok : k80.Ok Tryz.prog := f80_ok fun _ _ => rfl
def f79_tree (a0 : Int) : Out (((Bool × Unit) × Unit) × (Unit × Unit)) :=
 .ret ((((!(wordV a0)), ()), ()), ((), ()))
def notWordV (n : Int) : Bool := !wordV n
def k79 : Con := { f := 79, lend := true, its := [⟨false, false, [.i .i64]⟩], lay := [none], rs := [⟨false, false, [.b]⟩], F := fun x => .ret ((((notWordV x.1.1), ()), ()), ((), ())) }
theorem f79_eq (x : itemsD k79.its) : bo [k80] (fun _ => none) Tryz.f79 k79 [.tmp 2] x = f79_tree x.1.1 := by kernel_rfl
theorem f79_ok (hr : ∀ x : (Int × Unit) × Unit, itemsWF k79.its x → (f79_tree x.1.1).eval = (k79.F x).eval) : k79.Ok Tryz.prog := con_fn [k80] ⟨k80_ok, trivial⟩ f79_eq fun x hw _ hy => (hr x hw).trans hy
theorem k79_ok : k79.Ok Tryz.prog := f79_ok fun _ _ => rfl
abbrev f106_S0 := (List (Int) × Int × Int × Unit) × (Unit)
def f106_L0 : f106_S0 → Out (Round f106_S0 ((Unit) × (Unit)) ((Int × Unit) × (Unit)))
| ((p0, p1, p2, _), _) =>
 .ite (decide (p2 < p1))
 (.ite (decide (0 ≤ p2))
 (.get (nth p0 (Int.toNat p2)) fun y1 =>
 .ite (notWordV y1)
 (.ret (.ret ((p2, ()), ())))
 (.ret (.again ((p0, p1, (IntKind.i64.wrap (p2 + (1 : Int))), ()), ()))))
 .fail)
 (.ret (.out ((), ())))
def f106_tree (a0 : List Int) : Out (((Int × Unit) × Unit) × (Unit × Unit)) :=
 .get (iter f106_L0 FUEL ((a0, ((List.length a0 : Nat) : Int), (0 : Int), ()), ())) fun y1 => .alt y1 (fun y2 =>
 .ret ((((-1 : Int), ()), ()), ((), ()))) (fun y3 =>
 .ret (((y3.1.1, ()), ()), ((), ())))
def f106_A : Nat → Option LoopAnn := fun n => annOf [(0, { head := { t := [.ro (.int .i64) (some 0), .fn 79 []] ++ dd 5 ++ [.i .i64, .i .i64] ++ dd 10, v := [] }, out := { t := dd 19, v := [] }, ret := some { t := dd 4 ++ [.i .i64] ++ dd 14, v := [] } })] n
def indexWordV (a : List Int) : Int := idxV (a.findIdx? notWordV)
def k106 : Con := { f := 106, lend := true, its := [⟨false, false, [.ro (.int .i64)]⟩], lay := [none, some (79, 0)], rs := [⟨false, false, [.i .i64]⟩], F := fun x => .ret ((((indexWordV x.1.1), ()), ()), ((), ())) }
theorem f106_eq (x : itemsD k106.its) : bo [k79] f106_A Tryz.f106 k106 [.tmp 4] x = f106_tree x.1.1 := by kernel_rfl
theorem f106_ok (hr : ∀ x : (List Int × Unit) × Unit, itemsWF k106.its x → (f106_tree x.1.1).eval = (k106.F x).eval) : k106.Ok Tryz.prog := con_fn [k79] ⟨k79_ok, trivial⟩ f106_eq fun x hw _ hy => (hr x hw).trans hy
theorem k106_ok : k106.Ok Tryz.prog := by
  refine f106_ok fun x hw => ?_
  obtain ⟨⟨a, _⟩, _⟩ := x
  have ha : a.length ≤ BIG := hw.1.1.1
  show (f106_tree a).eval = some (((indexWordV a, ()), ()), ((), ()))
  unfold f106_tree indexWordV
  have := idx_loop (f := f106_L0) a notWordV (fun i => ((a, (((a.length : Nat) : Int), (((i : Nat) : Int), ()))), ())) (y := ((), ())) (z := fun i => ((((i : Nat) : Int), ()), ()))
    (fun i hi hp => by
      have g1 := wrap_succ (i := i) (by omega)
      simp [f106_L0, Out.eval, hi, g1, hp])
    (fun i hi hp => by simp [f106_L0, Out.eval, hi, hp])
    (by simp [f106_L0, Out.eval]) ha
  refine (eval_get_some this).trans ?_
  cases a.findIdx? notWordV <;> rfl
def f78_tree (a0 : List Int) : Out (((Bool × Unit) × Unit) × (Unit × Unit)) :=
 .ret ((((decide ((indexWordV a0) ≥ (0 : Int))), ()), ()), ((), ()))
def anyWordV (a : List Int) : Bool := a.any notWordV
def k78 : Con := { f := 78, lend := true, its := [⟨false, false, [.ro (.int .i64)]⟩], lay := [none, some (79, 0)], rs := [⟨false, false, [.b]⟩], F := fun x => .ret ((((anyWordV x.1.1), ()), ()), ((), ())) }
theorem f78_eq (x : itemsD k78.its) : bo [k106] (fun _ => none) Tryz.f78 k78 [.tmp 4] x = f78_tree x.1.1 := by kernel_rfl
theorem f78_ok (hr : ∀ x : (List Int × Unit) × Unit, itemsWF k78.its x → (f78_tree x.1.1).eval = (k78.F x).eval) : k78.Ok Tryz.prog := con_fn [k106] ⟨k106_ok, trivial⟩ f78_eq fun x hw _ hy => (hr x hw).trans hy
theorem k78_ok : k78.Ok Tryz.prog := by
  refine f78_ok fun x _ => ?_
  obtain ⟨⟨a, _⟩, _⟩ := x
  show (f78_tree a).eval = some (((anyWordV a, ()), ()), ((), ()))
  unfold f78_tree anyWordV indexWordV
  rw [idxV_ge]
  rfl
def f51_tree (a0 : List Int) : Out (((Bool × Unit) × Unit) × (Unit × Unit)) :=
 .ret ((((!(anyWordV a0)), ()), ()), ((), ()))
def k51 : Con := { f := 51, lend := true, its := [⟨false, false, [.ro (.int .i64)]⟩], lay := [none], rs := [⟨false, false, [.b]⟩], F := fun x => .ret ((((wordsOkV x.1.1), ()), ()), ((), ())) }
theorem f51_eq (x : itemsD k51.its) : bo [k78] (fun _ => none) Tryz.f51 k51 [.tmp 2] x = f51_tree x.1.1 := by kernel_rfl
theorem f51_ok (hr : ∀ x : (List Int × Unit) × Unit, itemsWF k51.its x → (f51_tree x.1.1).eval = (k51.F x).eval) : k51.Ok Tryz.prog := con_fn [k78] ⟨k78_ok, trivial⟩ f51_eq fun x hw _ hy => (hr x hw).trans hy
theorem k51_ok : k51.Ok Tryz.prog := by
  refine f51_ok fun x _ => ?_
  obtain ⟨⟨a, _⟩, _⟩ := x
  show (f51_tree a).eval = some (((wordsOkV a, ()), ()), ((), ()))
  have : (!anyWordV a) = wordsOkV a := not_any a wordV
  rw [← this]; rfl
abbrev f59_S0 := (List ((Int × List Int × Unit)) × List ((Int × List Int × Unit)) × Int × Int × Unit) × (Unit)
def f59_L0 : f59_S0 → Out (Round f59_S0 ((List ((Int × List Int × Unit)) × Unit) × (Unit)) ((Bool × Unit) × (Unit)))
| ((p0, p1, p2, p3, _), _) =>
 .ite (decide (p3 < p2))
 (.ite (decide (0 ≤ p3))
 (.get (nth p1 (Int.toNat p3)) fun y1 =>
 .ite ((!(inV y1.1 (0 : Int) (5 : Int))) == false)
 (.ite ((decide (p3 > (0 : Int))) == true)
 (.ite (decide (0 ≤ (IntKind.i64.wrap (p3 - (1 : Int)))))
 (.get (nth p0 (Int.toNat (IntKind.i64.wrap (p3 - (1 : Int))))) fun y2 =>
 .ite ((decide (y2.1 ≥ y1.1)) == false)
 (.ite ((decide (((List.length y1.2.1 : Nat) : Int) > (8 : Int))) == false)
 (.ite (!(wordsOkV y1.2.1))
 (.ret (.ret ((false, ()), ())))
 (.ret (.again ((p0, p1, p2, (IntKind.i64.wrap (p3 + (1 : Int))), ()), ()))))
 (.ret (.ret ((false, ()), ()))))
 (.ret (.ret ((false, ()), ()))))
 .fail)
 (.ite ((decide (((List.length y1.2.1 : Nat) : Int) > (8 : Int))) == false)
 (.ite (!(wordsOkV y1.2.1))
 (.ret (.ret ((false, ()), ())))
 (.ret (.again ((p0, p1, p2, (IntKind.i64.wrap (p3 + (1 : Int))), ()), ()))))
 (.ret (.ret ((false, ()), ())))))
 (.ret (.ret ((false, ()), ()))))
 .fail)
 (.ret (.out ((p0, ()), ())))
def f59_tree (a0 : List (Int × List Int × Unit)) : Out (((Bool × Unit) × Unit) × (Unit × Unit)) :=
 .get (iter f59_L0 FUEL ((a0, a0, ((List.length a0 : Nat) : Int), (0 : Int), ()), ())) fun y1 => .alt y1 (fun y2 =>
 .ret ((((decide (((List.length y2.1.1 : Nat) : Int) ≤ (6 : Int))), ()), ()), ((), ()))) (fun y3 =>
 .ret (((y3.1.1, ()), ()), ((), ())))
def f59_A : Nat → Option LoopAnn := fun n => annOf [(0, { head := { t := [.ro tyF (some 0)] ++ dd 4 ++ [.ro tyF (some 0), .i .i64, .i .i64] ++ dd 39, v := [] }, out := { t := [.ro tyF (some 0)] ++ dd 46, v := [] }, ret := some { t := [.dead, .dead, .b] ++ dd 44, v := [] } })] n
def k59 : Con := { f := 59, lend := true, its := [⟨false, false, [.ro tyF]⟩], lay := [none], rs := [⟨false, false, [.b]⟩], F := fun x => .ret ((((filesOkV x.1.1), ()), ()), ((), ())) }
theorem f59_eq (x : itemsD k59.its) : bo [k50, k51] f59_A Tryz.f59 k59 [.tmp 2] x = f59_tree x.1.1 := by kernel_rfl
theorem f59_ok (hr : ∀ x : (List (Int × List Int × Unit) × Unit) × Unit, itemsWF k59.its x → (f59_tree x.1.1).eval = (k59.F x).eval) : k59.Ok Tryz.prog := con_fn [k50, k51] ⟨k50_ok, k51_ok, trivial⟩ f59_eq fun x hw _ hy => (hr x hw).trans hy
theorem k59_ok : k59.Ok Tryz.prog := by
  refine f59_ok fun x hw => ?_
  obtain ⟨⟨a, _⟩, _⟩ := x
  have ha : a.length ≤ BIG := hw.1.1.1
  show (f59_tree a).eval = some (((filesOkV a, ()), ()), ((), ()))
  unfold f59_tree filesOkV
  have key : ∀ i (hi : i < a.length), (f59_L0 ((a, (a, (((a.length : Nat) : Int), (((i : Nat) : Int), ())))), ())).eval = some (bif fileRowV a i then .again ((a, (a, (((a.length : Nat) : Int), (((i + 1 : Nat) : Int), ())))), ()) else .ret ((false, ()), ())) := fun i hi => by
    have w1 := wrap_succ (i := i) (by omega)
    have g : decide (((a[i].2.1.length : Nat) : Int) > (8 : Int)) = !decide (a[i].2.1.length ≤ 8) := gt_cast (m := 8)
    cases i with
    | zero =>
      rw [fileRowV_zero hi]
      have w3 : decide (((0 : Nat) : Int) > 0) = false := rfl
      unfold file1V
      simp only [f59_L0, Out.eval, lt_t hi, ge0, nth_get hi, Option.bind_some, cond_true, w3, g, w1]
      cases p1 : inV a[0].1 0 5 <;> cases p2 : decide (a[0].2.1.length ≤ 8) <;> cases p3 : wordsOkV a[0].2.1 <;> rfl
    | succ i =>
      rw [fileRowV_succ hi]
      have w2 := wrap_pred i (by omega)
      have w3 : decide (((i + 1 : Nat) : Int) > 0) = true := decide_eq_true (by omega)
      unfold file1V
      simp only [f59_L0, Out.eval, lt_t hi, ge0, nth_get hi, nth_get (show i < a.length by omega), w1, w2, w3, g, not_ge, Option.bind_some, cond_true]
      cases p1 : inV a[i + 1].1 0 5 <;> cases p2 : decide (a[i].1 < a[i + 1].1) <;> cases p3 : decide (a[i + 1].2.1.length ≤ 8) <;> cases p4 : wordsOkV a[i + 1].2.1 <;> rfl
  have := iter_scan (f := f59_L0) (fun i => ((a, (a, (((a.length : Nat) : Int), (((i : Nat) : Int), ())))), ())) (fileRowV a) a.length (y := ((a, ()), ())) (z := ((false, ()), ())) (lt_fuel ha)
    (fun i hi hp => by rw [key i hi, hp]; rfl) (fun i hi hp => by rw [key i hi, hp]; rfl) (by simp [f59_L0, Out.eval])
  refine (eval_get_some this).trans ?_
  have e2 : decide (((a.length : Nat) : Int) ≤ (6 : Int)) = decide (a.length ≤ 6) := le_cast (m := 6)
  cases (List.range a.length).all (fileRowV a)
  · rw [Bool.and_false]; rfl
  · rw [Bool.and_true, ← e2]; rfl
end Go.Proofs.YtcpjdjgipmjhdaaGreatDoor.Dm
