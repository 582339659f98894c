/- Functions of the program, and what they compute. -/
import Derived.Test.YtnglkhjpdpgahaaGreatDoorA11
namespace Go.Proofs.YtnglkhjpdpgahaaGreatDoor.Dm
open Go Go.ChangeShapes Go.WideShapes Go.ChangeAt Go.RowKit
abbrev InsD := Int × (Int × (Int × (Int × Unit)))
def eqInssV (a b : List InsD) : Bool := decide (a = b)
def regV (n : Int) : Bool := decide (0 ≤ n) && decide (n < 4)
def placeV (n : Int) : Bool := inV n 0 40
def f48_tree (a0 : Int) : Out (((Bool × Unit) × Unit) × (Unit × Unit)) :=
 .ite ((decide (a0 ≥ (0 : Int))) == true)
 (.ret ((((decide (a0 < (4 : Int))), ()), ()), ((), ())))
 (.ret (((false, ()), ()), ((), ())))
def k48 : Con := { f := 48, lend := true, its := [⟨false, false, [.i .i64]⟩], lay := [none], rs := [⟨false, false, [.b]⟩], F := fun x => .ret ((((regV x.1.1), ()), ()), ((), ())) }
theorem f48_eq (x : itemsD k48.its) : bo [] (fun _ => none) Tryz.f48 k48 [.tmp 2] x = f48_tree x.1.1 := by kernel_rfl
theorem f48_ok (hr : ∀ x : (Int × Unit) × Unit, itemsWF k48.its x → (f48_tree x.1.1).eval = (k48.F x).eval) : k48.Ok Tryz.prog := con_fn [] trivial f48_eq fun x hw _ hy => (hr x hw).trans hy
theorem k48_ok : k48.Ok Tryz.prog := by
  refine f48_ok fun x _ => ?_
  obtain ⟨⟨n, _⟩, _⟩ := x
  show (f48_tree n).eval = some (((regV n, ()), ()), ((), ()))
  unfold f48_tree regV
  by_cases h1 : 0 ≤ n <;> simp [Out.eval, h1]
def f60_tree (a0 : Int) : Out (((Bool × Unit) × Unit) × (Unit × Unit)) :=
 .ret ((((inV a0 (0 : Int) (3 : Int)), ()), ()), ((), ()))
def k60 : Con := { f := 60, lend := true, its := [⟨false, false, [.i .i64]⟩], lay := [none], rs := [⟨false, false, [.b]⟩], F := fun x => .ret ((((regV x.1.1), ()), ()), ((), ())) }
theorem f60_eq (x : itemsD k60.its) : bo [k42] (fun _ => none) Tryz.f60 k60 [.tmp 2] x = f60_tree x.1.1 := by kernel_rfl
theorem f60_ok (hr : ∀ x : (Int × Unit) × Unit, itemsWF k60.its x → (f60_tree x.1.1).eval = (k60.F x).eval) : k60.Ok Tryz.prog := con_fn [k42] ⟨k42_ok, trivial⟩ f60_eq fun x hw _ hy => (hr x hw).trans hy
theorem k60_ok : k60.Ok Tryz.prog := by
  refine f60_ok fun x _ => ?_
  obtain ⟨⟨n, _⟩, _⟩ := x
  show (f60_tree n).eval = some (((regV n, ()), ()), ((), ()))
  have h4 : decide (n ≤ 3) = decide (n < 4) := by rw [Bool.eq_iff_iff]; simp; omega
  unfold f60_tree regV inV
  rw [h4]; rfl
def f62_tree (a0 : Int) : Out (((Bool × Unit) × Unit) × (Unit × Unit)) :=
 .ret ((((inV a0 (0 : Int) (40 : Int)), ()), ()), ((), ()))
def k62 : Con := { f := 62, lend := true, its := [⟨false, false, [.i .i64]⟩], lay := [none], rs := [⟨false, false, [.b]⟩], F := fun x => .ret ((((placeV x.1.1), ()), ()), ((), ())) }
theorem f62_eq (x : itemsD k62.its) : bo [k42] (fun _ => none) Tryz.f62 k62 [.tmp 2] x = f62_tree x.1.1 := by kernel_rfl
theorem f62_ok (hr : ∀ x : (Int × Unit) × Unit, itemsWF k62.its x → (f62_tree x.1.1).eval = (k62.F x).eval) : k62.Ok Tryz.prog := con_fn [k42] ⟨k42_ok, trivial⟩ f62_eq fun x hw _ hy => (hr x hw).trans hy
theorem k62_ok : k62.Ok Tryz.prog := f62_ok fun _ _ => rfl
def insOkV (o a b c : Int) : Bool :=
  bif o == 1 then regV a && (inV b (-1000000) 1000000 && (c == 0)) else
  bif o == 2 then regV a && (regV b && regV c) else
  bif o == 3 then regV a && (regV b && regV c) else
  bif o == 4 then regV a && (regV b && (c == 0)) else
  bif o == 5 then regV a && (regV b && (c == 0)) else
  bif o == 6 then inV a 0 40 && ((b == 0) && (c == 0)) else
  bif o == 7 then regV a && (inV b 0 40 && (c == 0)) else
  bif o == 8 then inV a 1 20 && ((b == 0) && (c == 0)) else false
theorem zero_eq (n : Int) : ((0 : Int) == n) = (n == 0) := by
  rw [Bool.eq_iff_iff]; simp only [beq_iff_eq]; omega
def f24_tree (a0 : Int) (a1 : Int) (a2 : Int) (a3 : Int) : Out (((Bool × Unit) × Unit) × (Unit × Unit)) :=
 .ite ((a0 == (1 : Int)))
 (.ite ((regV a1) == true)
 (.ite ((inV a2 (-1000000 : Int) (1000000 : Int)) == true)
 (.ret (((((a0 == a0) && ((a1 == a1) && ((a2 == a2) && (((0 : Int) == a3) && true)))), ()), ()), ((), ())))
 (.ret (((false, ()), ()), ((), ()))))
 (.ret (((false, ()), ()), ((), ()))))
 (.ite ((a0 == (2 : Int)))
 (.ite ((regV a1) == true)
 (.ite ((regV a2) == true)
 (.ite ((regV a3) == true)
 (.ret (((((a0 == a0) && ((a1 == a1) && ((a2 == a2) && ((a3 == a3) && true)))), ()), ()), ((), ())))
 (.ret (((false, ()), ()), ((), ()))))
 (.ret (((false, ()), ()), ((), ()))))
 (.ret (((false, ()), ()), ((), ()))))
 (.ite ((a0 == (3 : Int)))
 (.ite ((regV a1) == true)
 (.ite ((regV a2) == true)
 (.ite ((regV a3) == true)
 (.ret (((((a0 == a0) && ((a1 == a1) && ((a2 == a2) && ((a3 == a3) && true)))), ()), ()), ((), ())))
 (.ret (((false, ()), ()), ((), ()))))
 (.ret (((false, ()), ()), ((), ()))))
 (.ret (((false, ()), ()), ((), ()))))
 (.ite ((a0 == (4 : Int)))
 (.ite ((regV a1) == true)
 (.ite ((regV a2) == true)
 (.ret (((((a0 == a0) && ((a1 == a1) && ((a2 == a2) && (((0 : Int) == a3) && true)))), ()), ()), ((), ())))
 (.ret (((false, ()), ()), ((), ()))))
 (.ret (((false, ()), ()), ((), ()))))
 (.ite ((a0 == (5 : Int)))
 (.ite ((regV a1) == true)
 (.ite ((regV a2) == true)
 (.ret (((((a0 == a0) && ((a1 == a1) && ((a2 == a2) && (((0 : Int) == a3) && true)))), ()), ()), ((), ())))
 (.ret (((false, ()), ()), ((), ()))))
 (.ret (((false, ()), ()), ((), ()))))
 (.ite ((a0 == (6 : Int)))
 (.ite ((inV a1 (0 : Int) (40 : Int)) == true)
 (.ret (((((a0 == a0) && ((a1 == a1) && (((0 : Int) == a2) && (((0 : Int) == a3) && true)))), ()), ()), ((), ())))
 (.ret (((false, ()), ()), ((), ()))))
 (.ite ((a0 == (7 : Int)))
 (.ite ((regV a1) == true)
 (.ite ((inV a2 (0 : Int) (40 : Int)) == true)
 (.ret (((((a0 == a0) && ((a1 == a1) && ((a2 == a2) && (((0 : Int) == a3) && true)))), ()), ()), ((), ())))
 (.ret (((false, ()), ()), ((), ()))))
 (.ret (((false, ()), ()), ((), ()))))
 (.ite ((a0 == (8 : Int)))
 (.ite ((inV a1 (1 : Int) (20 : Int)) == true)
 (.ret (((((a0 == a0) && ((a1 == a1) && (((0 : Int) == a2) && (((0 : Int) == a3) && true)))), ()), ()), ((), ())))
 (.ret (((false, ()), ()), ((), ()))))
 (.ret (((false, ()), ()), ((), ()))))))))))
def k24 : Con := { f := 24, lend := true, its := [⟨false, true, [.i .i64, .i .i64, .i .i64, .i .i64]⟩], lay := [none], rs := [⟨false, false, [.b]⟩], F := fun x => .ret ((((insOkV x.1.1 x.1.2.1 x.1.2.2.1 x.1.2.2.2.1), ()), ()), ((), ())) }
theorem f24_eq (x : itemsD k24.its) : bo [k48, k49] (fun _ => none) Tryz.f24 k24 [.tmp 2] x = f24_tree x.1.1 x.1.2.1 x.1.2.2.1 x.1.2.2.2.1 := by kernel_rfl
theorem f24_ok (hr : ∀ x : (Int × Int × Int × Int × Unit) × Unit, itemsWF k24.its x → (f24_tree x.1.1 x.1.2.1 x.1.2.2.1 x.1.2.2.2.1).eval = (k24.F x).eval) : k24.Ok Tryz.prog := con_fn [k48, k49] ⟨k48_ok, k49_ok, trivial⟩ f24_eq fun x hw _ hy => (hr x hw).trans hy
theorem k24_ok : k24.Ok Tryz.prog := by
  refine f24_ok fun x _ => ?_
  obtain ⟨⟨o, a, b, c, _⟩, _⟩ := x
  show (f24_tree o a b c).eval = some (((insOkV o a b c, ()), ()), ((), ()))
  unfold f24_tree insOkV
  simp only [Out.eval, zero_eq, beq_self_eq_true, Bool.true_and, Bool.and_true]
  cases (o == (1 : Int))
  rotate_left
  · cases regV a <;> cases inV b (-1000000) 1000000 <;> rfl
  cases (o == (2 : Int))
  rotate_left
  · cases regV a <;> cases regV b <;> cases regV c <;> rfl
  cases (o == (3 : Int))
  rotate_left
  · cases regV a <;> cases regV b <;> cases regV c <;> rfl
  cases (o == (4 : Int))
  rotate_left
  · cases regV a <;> cases regV b <;> rfl
  cases (o == (5 : Int))
  rotate_left
  · cases regV a <;> cases regV b <;> rfl
  cases (o == (6 : Int))
  rotate_left
  · cases inV a 0 40 <;> rfl
  cases (o == (7 : Int))
  rotate_left
  · cases regV a <;> cases inV b 0 40 <;> rfl
  cases (o == (8 : Int))
  · rfl
  · cases inV a 1 20 <;> rfl
def f41_tree (a0 : Int) (a1 : Int) (a2 : Int) (a3 : Int) : Out (((Bool × Unit) × Unit) × (Unit × Unit)) :=
 .ite ((a0 == (1 : Int)))
 (.ite ((regV a1) == true)
 (.ite ((wordV a2) == true)
 (.ret (((((a3 == (0 : Int))), ()), ()), ((), ())))
 (.ret (((false, ()), ()), ((), ()))))
 (.ret (((false, ()), ()), ((), ()))))
 (.ite ((a0 == (2 : Int)))
 (.ite ((regV a1) == true)
 (.ite ((regV a2) == true)
 (.ret ((((regV a3), ()), ()), ((), ())))
 (.ret (((false, ()), ()), ((), ()))))
 (.ret (((false, ()), ()), ((), ()))))
 (.ite ((a0 == (3 : Int)))
 (.ite ((regV a1) == true)
 (.ite ((regV a2) == true)
 (.ret ((((regV a3), ()), ()), ((), ())))
 (.ret (((false, ()), ()), ((), ()))))
 (.ret (((false, ()), ()), ((), ()))))
 (.ite ((a0 == (4 : Int)))
 (.ite ((regV a1) == true)
 (.ite ((regV a2) == true)
 (.ret (((((a3 == (0 : Int))), ()), ()), ((), ())))
 (.ret (((false, ()), ()), ((), ()))))
 (.ret (((false, ()), ()), ((), ()))))
 (.ite ((a0 == (5 : Int)))
 (.ite ((regV a1) == true)
 (.ite ((regV a2) == true)
 (.ret (((((a3 == (0 : Int))), ()), ()), ((), ())))
 (.ret (((false, ()), ()), ((), ()))))
 (.ret (((false, ()), ()), ((), ()))))
 (.ite ((a0 == (6 : Int)))
 (.ite ((placeV a1) == true)
 (.ite (((a2 == (0 : Int))) == true)
 (.ret (((((a3 == (0 : Int))), ()), ()), ((), ())))
 (.ret (((false, ()), ()), ((), ()))))
 (.ret (((false, ()), ()), ((), ()))))
 (.ite ((a0 == (7 : Int)))
 (.ite ((regV a1) == true)
 (.ite ((placeV a2) == true)
 (.ret (((((a3 == (0 : Int))), ()), ()), ((), ())))
 (.ret (((false, ()), ()), ((), ()))))
 (.ret (((false, ()), ()), ((), ()))))
 (.ite ((a0 == (8 : Int)))
 (.ite ((inV a1 (1 : Int) (20 : Int)) == true)
 (.ite (((a2 == (0 : Int))) == true)
 (.ret (((((a3 == (0 : Int))), ()), ()), ((), ())))
 (.ret (((false, ()), ()), ((), ()))))
 (.ret (((false, ()), ()), ((), ()))))
 (.ret (((false, ()), ()), ((), ()))))))))))
def k41 : Con := { f := 41, lend := true, its := [⟨false, true, [.i .i64, .i .i64, .i .i64, .i .i64]⟩], lay := [none], rs := [⟨false, false, [.b]⟩], F := fun x => .ret ((((insOkV x.1.1 x.1.2.1 x.1.2.2.1 x.1.2.2.2.1), ()), ()), ((), ())) }
theorem f41_eq (x : itemsD k41.its) : bo [k60, k61, k62, k42] (fun _ => none) Tryz.f41 k41 [.tmp 2] x = f41_tree x.1.1 x.1.2.1 x.1.2.2.1 x.1.2.2.2.1 := by kernel_rfl
theorem f41_ok (hr : ∀ x : (Int × Int × Int × Int × Unit) × Unit, itemsWF k41.its x → (f41_tree x.1.1 x.1.2.1 x.1.2.2.1 x.1.2.2.2.1).eval = (k41.F x).eval) : k41.Ok Tryz.prog := con_fn [k60, k61, k62, k42] ⟨k60_ok, k61_ok, k62_ok, k42_ok, trivial⟩ f41_eq fun x hw _ hy => (hr x hw).trans hy
theorem k41_ok : k41.Ok Tryz.prog := by
  refine f41_ok fun x _ => ?_
  obtain ⟨⟨o, a, b, c, _⟩, _⟩ := x
  show (f41_tree o a b c).eval = some (((insOkV o a b c, ()), ()), ((), ()))
  unfold f41_tree insOkV placeV wordV
  simp only [Out.eval]
  cases (o == (1 : Int))
  rotate_left
  · cases regV a <;> cases inV b (-1000000) 1000000 <;> rfl
  cases (o == (2 : Int))
  rotate_left
  · cases regV a <;> cases regV b <;> cases regV c <;> rfl
  cases (o == (3 : Int))
  rotate_left
  · cases regV a <;> cases regV b <;> cases regV c <;> rfl
  cases (o == (4 : Int))
  rotate_left
  · cases regV a <;> cases regV b <;> rfl
  cases (o == (5 : Int))
  rotate_left
  · cases regV a <;> cases regV b <;> rfl
  cases (o == (6 : Int))
  rotate_left
  · cases inV a 0 40 <;> cases (b == (0 : Int)) <;> rfl
  cases (o == (7 : Int))
  rotate_left
  · cases regV a <;> cases inV b 0 40 <;> rfl
  cases (o == (8 : Int))
  · rfl
  · cases inV a 1 20 <;> cases (b == (0 : Int)) <;> rfl
def f40_tree (a0 : Int) (a1 : Int) (a2 : Int) (a3 : Int) : Out (((Bool × Unit) × Unit) × (Unit × Unit)) :=
 .ret ((((!(insOkV a0 a1 a2 a3)), ()), ()), ((), ()))
def insNotV (o a b c : Int) : Bool := !insOkV o a b c
def k40 : Con := { f := 40, lend := true, its := [⟨false, true, [.i .i64, .i .i64, .i .i64, .i .i64]⟩], lay := [none], rs := [⟨false, false, [.b]⟩], F := fun x => .ret ((((insNotV x.1.1 x.1.2.1 x.1.2.2.1 x.1.2.2.2.1), ()), ()), ((), ())) }
theorem f40_eq (x : itemsD k40.its) : bo [k41] (fun _ => none) Tryz.f40 k40 [.tmp 2] x = f40_tree x.1.1 x.1.2.1 x.1.2.2.1 x.1.2.2.2.1 := by kernel_rfl
theorem f40_ok (hr : ∀ x : (Int × Int × Int × Int × Unit) × Unit, itemsWF k40.its x → (f40_tree x.1.1 x.1.2.1 x.1.2.2.1 x.1.2.2.2.1).eval = (k40.F x).eval) : k40.Ok Tryz.prog := con_fn [k41] ⟨k41_ok, trivial⟩ f40_eq fun x hw _ hy => (hr x hw).trans hy
theorem k40_ok : k40.Ok Tryz.prog := f40_ok fun _ _ => rfl
def insOk1 (x : InsD) : Bool := insOkV x.1 x.2.1 x.2.2.1 x.2.2.2.1
def progOkV (l : List InsD) : Bool := decide (l.length ≤ 40) && l.all insOk1
abbrev f10_S0 := (List ((Int × Int × Int × Int × Unit)) × Int × Unit) × (Unit)
def f10_L0 : f10_S0 → Out (Round f10_S0 ((Unit) × (Unit)) ((Bool × Unit) × (Unit)))
| ((p0, p1, _), _) =>
 .ite (decide (p1 < ((List.length p0 : Nat) : Int)))
 (.ite (decide (0 ≤ p1))
 (.get (nth p0 (Int.toNat p1)) fun y1 =>
 .ite (!(insOkV y1.1 y1.2.1 y1.2.2.1 y1.2.2.2.1))
 (.ret (.ret ((false, ()), ())))
 (.ret (.again ((p0, (IntKind.i64.wrap (p1 + (1 : Int))), ()), ()))))
 .fail)
 (.ret (.out ((), ())))
def f10_tree (a0 : List (Int × Int × Int × Int × Unit)) : Out (((Bool × Unit) × Unit) × (Unit × Unit)) :=
 .ite (decide (((List.length a0 : Nat) : Int) > (40 : Int)))
 (.ret (((false, ()), ()), ((), ())))
 (.get (iter f10_L0 FUEL ((a0, (0 : Int), ()), ())) fun y1 => .alt y1 (fun y2 =>
 .ret (((true, ()), ()), ((), ()))) (fun y3 =>
 .ret (((y3.1.1, ()), ()), ((), ()))))
def f10_A : Nat → Option LoopAnn := fun n => annOf [(0, { head := { t := [.ro tyN (some 0), .dead, .dead, .i .i64] ++ dd 15, v := [] }, out := { t := dd 19, v := [] }, ret := some { t := [.dead, .dead, .b] ++ dd 16, v := [] } })] n
def k10 : Con := { f := 10, lend := true, its := [⟨false, false, [.ro tyN]⟩], lay := [none], rs := [⟨false, false, [.b]⟩], F := fun x => .ret ((((progOkV x.1.1), ()), ()), ((), ())) }
theorem f10_eq (x : itemsD k10.its) : bo [k24] f10_A Tryz.f10 k10 [.tmp 2] x = f10_tree x.1.1 := by kernel_rfl
theorem f10_ok (hr : ∀ x : (List (Int × Int × Int × Int × Unit) × Unit) × Unit, itemsWF k10.its x → (f10_tree x.1.1).eval = (k10.F x).eval) : k10.Ok Tryz.prog := con_fn [k24] ⟨k24_ok, trivial⟩ f10_eq fun x hw _ hy => (hr x hw).trans hy
theorem k10_ok : k10.Ok Tryz.prog := by
  refine f10_ok fun x hw => ?_
  obtain ⟨⟨a, _⟩, _⟩ := x
  have ha : a.length ≤ BIG := hw.1.1.1
  show (f10_tree a).eval = some (((progOkV a, ()), ()), ((), ()))
  unfold f10_tree progOkV
  have e2 : decide (((a.length : Nat) : Int) > (40 : Int)) = !decide (a.length ≤ 40) := gt_cast (m := 40)
  rw [e2]
  by_cases h1 : a.length ≤ 40
  · rw [eval_ite_f (by simp [h1]), decide_eq_true h1, Bool.true_and]
    have := all_loop (f := f10_L0) a insOk1 (fun i => ((a, (((i : Nat) : Int), ())), ())) (y := ((), ())) (z := ((false, ()), ()))
      (fun i hi hp => by
        have g1 := wrap_succ (i := i) (by omega)
        have hp : insOkV a[i].1 a[i].2.1 a[i].2.2.1 a[i].2.2.2.1 = true := hp
        simp [f10_L0, Out.eval, hi, g1, hp])
      (fun i hi hp => by
        have hp : insOkV a[i].1 a[i].2.1 a[i].2.2.1 a[i].2.2.2.1 = false := hp
        simp [f10_L0, Out.eval, hi, hp])
      (by simp [f10_L0, Out.eval]) ha
    refine (eval_get_some this).trans ?_
    cases a.all insOk1 <;> rfl
  · rw [eval_ite_t (by simp [h1]), decide_eq_false h1]; rfl
abbrev f59_S0 := (List ((Int × Int × Int × Int × Unit)) × Int × Int × Unit) × (Unit)
def f59_L0 : f59_S0 → Out (Round f59_S0 ((Unit) × (Unit)) ((Int × Unit) × (Unit)))
| ((p0, p1, p2, _), _) =>
 .ite (decide (p2 < p1))
 (.ite (decide (0 ≤ p2))
 (.get (nth p0 (Int.toNat p2)) fun y1 =>
 .ite (insNotV y1.1 y1.2.1 y1.2.2.1 y1.2.2.2.1)
 (.ret (.ret ((p2, ()), ())))
 (.ret (.again ((p0, p1, (IntKind.i64.wrap (p2 + (1 : Int))), ()), ()))))
 .fail)
 (.ret (.out ((), ())))
def f59_tree (a0 : List (Int × Int × Int × Int × Unit)) : Out (((Int × Unit) × Unit) × (Unit × Unit)) :=
 .get (iter f59_L0 FUEL ((a0, ((List.length a0 : Nat) : Int), (0 : Int), ()), ())) fun y1 => .alt y1 (fun y2 =>
 .ret ((((-1 : Int), ()), ()), ((), ()))) (fun y3 =>
 .ret (((y3.1.1, ()), ()), ((), ())))
def f59_A : Nat → Option LoopAnn := fun n => annOf [(0, { head := { t := [.ro tyN (some 0), .fn 40 []] ++ dd 5 ++ [.i .i64, .i .i64] ++ dd 10, v := [] }, out := { t := dd 19, v := [] }, ret := some { t := dd 4 ++ [.i .i64] ++ dd 14, v := [] } })] n
def indexInsV (a : List InsD) : Int := idxV (a.findIdx? fun x => !insOk1 x)
def k59 : Con := { f := 59, lend := true, its := [⟨false, false, [.ro tyN]⟩], lay := [none, some (40, 0)], rs := [⟨false, false, [.i .i64]⟩], F := fun x => .ret ((((indexInsV x.1.1), ()), ()), ((), ())) }
theorem f59_eq (x : itemsD k59.its) : bo [k40] f59_A Tryz.f59 k59 [.tmp 4] x = f59_tree x.1.1 := by kernel_rfl
theorem f59_ok (hr : ∀ x : (List (Int × Int × Int × Int × Unit) × Unit) × Unit, itemsWF k59.its x → (f59_tree x.1.1).eval = (k59.F x).eval) : k59.Ok Tryz.prog := con_fn [k40] ⟨k40_ok, trivial⟩ f59_eq fun x hw _ hy => (hr x hw).trans hy
theorem k59_ok : k59.Ok Tryz.prog := by
  refine f59_ok fun x hw => ?_
  obtain ⟨⟨a, _⟩, _⟩ := x
  have ha : a.length ≤ BIG := hw.1.1.1
  show (f59_tree a).eval = some (((indexInsV a, ()), ()), ((), ()))
  unfold f59_tree indexInsV
  have := idx_loop (f := f59_L0) a (fun x : InsD => !insOk1 x) (fun i => ((a, (((a.length : Nat) : Int), (((i : Nat) : Int), ()))), ())) (y := ((), ())) (z := fun i => ((((i : Nat) : Int), ()), ()))
    (fun i hi hp => by
      have g1 := wrap_succ (i := i) (by omega)
      have hp : insNotV a[i].1 a[i].2.1 a[i].2.2.1 a[i].2.2.2.1 = false := hp
      simp [f59_L0, Out.eval, hi, g1, hp])
    (fun i hi hp => by
      have hp : insNotV a[i].1 a[i].2.1 a[i].2.2.1 a[i].2.2.2.1 = true := hp
      simp [f59_L0, Out.eval, hi, hp])
    (by simp [f59_L0, Out.eval]) ha
  refine (eval_get_some this).trans ?_
  cases a.findIdx? (fun x : InsD => !insOk1 x) <;> rfl
def f39_tree (a0 : List (Int × Int × Int × Int × Unit)) : Out (((Bool × Unit) × Unit) × (Unit × Unit)) :=
 .ret ((((decide ((indexInsV a0) ≥ (0 : Int))), ()), ()), ((), ()))
def anyInsV (a : List InsD) : Bool := a.any fun x => !insOk1 x
def k39 : Con := { f := 39, lend := true, its := [⟨false, false, [.ro tyN]⟩], lay := [none, some (40, 0)], rs := [⟨false, false, [.b]⟩], F := fun x => .ret ((((anyInsV x.1.1), ()), ()), ((), ())) }
theorem f39_eq (x : itemsD k39.its) : bo [k59] (fun _ => none) Tryz.f39 k39 [.tmp 4] x = f39_tree x.1.1 := by kernel_rfl
theorem f39_ok (hr : ∀ x : (List (Int × Int × Int × Int × Unit) × Unit) × Unit, itemsWF k39.its x → (f39_tree x.1.1).eval = (k39.F x).eval) : k39.Ok Tryz.prog := con_fn [k59] ⟨k59_ok, trivial⟩ f39_eq fun x hw _ hy => (hr x hw).trans hy
theorem k39_ok : k39.Ok Tryz.prog := by
  refine f39_ok fun x _ => ?_
  obtain ⟨⟨a, _⟩, _⟩ := x
  show (f39_tree a).eval = some (((anyInsV a, ()), ()), ((), ()))
  unfold f39_tree anyInsV indexInsV
  rw [idxV_ge]
  rfl
def f16_tree (a0 : List (Int × Int × Int × Int × Unit)) : Out (((Bool × Unit) × Unit) × (Unit × Unit)) :=
 .ite ((decide (((List.length a0 : Nat) : Int) ≤ (40 : Int))) == true)
 (.ret ((((!(anyInsV a0)), ()), ()), ((), ())))
 (.ret (((false, ()), ()), ((), ())))
def k16 : Con := { f := 16, lend := true, its := [⟨false, false, [.ro tyN]⟩], lay := [none], rs := [⟨false, false, [.b]⟩], F := fun x => .ret ((((progOkV x.1.1), ()), ()), ((), ())) }
theorem f16_eq (x : itemsD k16.its) : bo [k39] (fun _ => none) Tryz.f16 k16 [.tmp 2] x = f16_tree x.1.1 := by kernel_rfl
theorem f16_ok (hr : ∀ x : (List (Int × Int × Int × Int × Unit) × Unit) × Unit, itemsWF k16.its x → (f16_tree x.1.1).eval = (k16.F x).eval) : k16.Ok Tryz.prog := con_fn [k39] ⟨k39_ok, trivial⟩ f16_eq fun x hw _ hy => (hr x hw).trans hy
theorem k16_ok : k16.Ok Tryz.prog := by
  refine f16_ok fun x _ => ?_
  obtain ⟨⟨a, _⟩, _⟩ := x
  show (f16_tree a).eval = some (((progOkV a, ()), ()), ((), ()))
  unfold f16_tree progOkV
  have e2 : decide (((a.length : Nat) : Int) ≤ (40 : Int)) = decide (a.length ≤ 40) := le_cast (m := 40)
  have e4 : a.all insOk1 = !anyInsV a := (not_any a _).symm
  rw [e2, e4]
  by_cases h1 : a.length ≤ 40 <;> simp [Out.eval, h1]
def insD (a b c d : Int) : InsD := (a, (b, ((bif a == 1 then zagV c else c), (d, ()))))
def insL : List Int → InsD
  | [a, b, c, d] => insD a b c d
  | _ => (0, (0, (0, (0, ()))))
def insP : Nat → Str → Option (List InsD × Nat)
  | 0, _ => some ([], 0)
  | n + 1, s => match numsP 4 s with
    | none => none
    | some (v, k) => match insP n (s.drop k) with
      | none => none
      | some (l, k') => some (insL v :: l, k + k')
def progP (s : Str) : Option (List InsD × Nat) := match rvI s with
  | none => none
  | some i => if 40 < decB (s.take (i + 1)) then none else match insP (decB (s.take (i + 1))) (s.drop (i + 1)) with
    | none => none
    | some (l, k) => if progOkV l = true then some (l, i + 1 + k) else none
def readProgV (s : Str) : List InsD × Bool := match progP s with
  | none => ([], false)
  | some (l, k) => if k = s.length then (l, true) else ([], false)
theorem insP_le : ∀ {n : Nat} {s : Str} {l : List InsD} {k : Nat}, insP n s = some (l, k) → k ≤ s.length ∧ l.length = n
  | 0, s, l, k, h => by simp only [insP, Option.some.injEq, Prod.mk.injEq] at h; obtain ⟨rfl, rfl⟩ := h; simp
  | n + 1, s, l, k, h => by
    simp only [insP] at h
    split at h
    · exact nomatch h
    · rename_i v k1 hv
      split at h
      · exact nomatch h
      · rename_i l' k' hr
        simp only [Option.some.injEq, Prod.mk.injEq] at h
        obtain ⟨rfl, rfl⟩ := h
        have h1 := insP_le hr
        have h2 := (numsP_le hv).1
        rw [List.length_drop] at h1
        exact ⟨by omega, by rw [List.length_cons, h1.2]⟩
def progL : Nat → Str → Bool → List InsD → List InsD × Str × Bool
  | 0, s, b, p => (p, s, b)
  | n + 1, s, b, p => progL n (numsV 4 s b).2.1 (numsV 4 s b).2.2 (p ++ [insL (numsV 4 s b).1])
theorem progL_bad : ∀ (n : Nat) (s : Str) (p : List InsD), (progL n s true p).2.2 = true
  | 0, _, _ => rfl
  | n + 1, s, p => by
    have h := numsV_bad 4 s
    unfold progL
    rw [h]
    exact progL_bad n _ _
theorem progL_eq : ∀ (n : Nat) (s : Str) (p : List InsD), match insP n s with
    | some (l, k) => progL n s false p = (p ++ l, s.drop k, false)
    | none => (progL n s false p).2.2 = true
  | 0, s, p => by simp [insP, progL]
  | n + 1, s, p => by
    have h := numsV_eq 4 s
    simp only [insP, progL]
    cases hv : numsP 4 s with
    | none =>
      rw [hv] at h
      simp only at h ⊢
      rw [h]
      exact progL_bad n _ _
    | some x =>
      obtain ⟨v, k⟩ := x
      rw [hv] at h
      simp only at h ⊢
      rw [h]
      have ih := progL_eq n (s.drop k) (p ++ [insL v])
      cases hr : insP n (s.drop k) with
      | none => rw [hr] at ih; exact ih
      | some x =>
        obtain ⟨l, k'⟩ := x
        rw [hr] at ih
        simp only at ih ⊢
        rw [ih]
        simp
abbrev f15_S0 := (Int × Int × Unit) × ((List UInt8 × Bool × Unit) × List ((Int × Int × Int × Int × Unit)) × Unit)
def f15_L0 : f15_S0 → Out (Round f15_S0 ((Unit) × ((List UInt8 × Bool × Unit) × List ((Int × Int × Int × Int × Unit)) × Unit)) Empty)
| ((p0, p1, _), (p2, p3, _), p4, _) =>
 .ite (decide (p1 < p0))
 (.ite (((numV p2 p3).1 == (1 : Int)))
 (.ite (decide (List.length p4 + List.length ([((numV p2 p3).1, (numV (numV p2 p3).2.1 (numV p2 p3).2.2).1, (zagV (numV (numV (numV p2 p3).2.1 (numV p2 p3).2.2).2.1 (numV (numV p2 p3).2.1 (numV p2 p3).2.2).2.2).1), (numV (numV (numV (numV p2 p3).2.1 (numV p2 p3).2.2).2.1 (numV (numV p2 p3).2.1 (numV p2 p3).2.2).2.2).2.1 (numV (numV (numV p2 p3).2.1 (numV p2 p3).2.2).2.1 (numV (numV p2 p3).2.1 (numV p2 p3).2.2).2.2).2.2).1, ())] : List ((Int × Int × Int × Int × Unit))) ≤ LIM))
 (.ret (.again ((p0, (IntKind.i64.wrap (p1 + (1 : Int))), ()), (((numV (numV (numV (numV p2 p3).2.1 (numV p2 p3).2.2).2.1 (numV (numV p2 p3).2.1 (numV p2 p3).2.2).2.2).2.1 (numV (numV (numV p2 p3).2.1 (numV p2 p3).2.2).2.1 (numV (numV p2 p3).2.1 (numV p2 p3).2.2).2.2).2.2).2.1, (numV (numV (numV (numV p2 p3).2.1 (numV p2 p3).2.2).2.1 (numV (numV p2 p3).2.1 (numV p2 p3).2.2).2.2).2.1 (numV (numV (numV p2 p3).2.1 (numV p2 p3).2.2).2.1 (numV (numV p2 p3).2.1 (numV p2 p3).2.2).2.2).2.2).2.2, ()), (p4 ++ ([((numV p2 p3).1, (numV (numV p2 p3).2.1 (numV p2 p3).2.2).1, (zagV (numV (numV (numV p2 p3).2.1 (numV p2 p3).2.2).2.1 (numV (numV p2 p3).2.1 (numV p2 p3).2.2).2.2).1), (numV (numV (numV (numV p2 p3).2.1 (numV p2 p3).2.2).2.1 (numV (numV p2 p3).2.1 (numV p2 p3).2.2).2.2).2.1 (numV (numV (numV p2 p3).2.1 (numV p2 p3).2.2).2.1 (numV (numV p2 p3).2.1 (numV p2 p3).2.2).2.2).2.2).1, ())] : List ((Int × Int × Int × Int × Unit)))), ()))))
 .fail)
 (.ite (decide (List.length p4 + List.length ([((numV p2 p3).1, (numV (numV p2 p3).2.1 (numV p2 p3).2.2).1, (numV (numV (numV p2 p3).2.1 (numV p2 p3).2.2).2.1 (numV (numV p2 p3).2.1 (numV p2 p3).2.2).2.2).1, (numV (numV (numV (numV p2 p3).2.1 (numV p2 p3).2.2).2.1 (numV (numV p2 p3).2.1 (numV p2 p3).2.2).2.2).2.1 (numV (numV (numV p2 p3).2.1 (numV p2 p3).2.2).2.1 (numV (numV p2 p3).2.1 (numV p2 p3).2.2).2.2).2.2).1, ())] : List ((Int × Int × Int × Int × Unit))) ≤ LIM))
 (.ret (.again ((p0, (IntKind.i64.wrap (p1 + (1 : Int))), ()), (((numV (numV (numV (numV p2 p3).2.1 (numV p2 p3).2.2).2.1 (numV (numV p2 p3).2.1 (numV p2 p3).2.2).2.2).2.1 (numV (numV (numV p2 p3).2.1 (numV p2 p3).2.2).2.1 (numV (numV p2 p3).2.1 (numV p2 p3).2.2).2.2).2.2).2.1, (numV (numV (numV (numV p2 p3).2.1 (numV p2 p3).2.2).2.1 (numV (numV p2 p3).2.1 (numV p2 p3).2.2).2.2).2.1 (numV (numV (numV p2 p3).2.1 (numV p2 p3).2.2).2.1 (numV (numV p2 p3).2.1 (numV p2 p3).2.2).2.2).2.2).2.2, ()), (p4 ++ ([((numV p2 p3).1, (numV (numV p2 p3).2.1 (numV p2 p3).2.2).1, (numV (numV (numV p2 p3).2.1 (numV p2 p3).2.2).2.1 (numV (numV p2 p3).2.1 (numV p2 p3).2.2).2.2).1, (numV (numV (numV (numV p2 p3).2.1 (numV p2 p3).2.2).2.1 (numV (numV p2 p3).2.1 (numV p2 p3).2.2).2.2).2.1 (numV (numV (numV p2 p3).2.1 (numV p2 p3).2.2).2.1 (numV (numV p2 p3).2.1 (numV p2 p3).2.2).2.2).2.2).1, ())] : List ((Int × Int × Int × Int × Unit)))), ()))))
 .fail))
 (.ret (.out ((), ((p2, p3, ()), p4, ()))))
def f15_tree (a0 : List UInt8) (a1 : Bool) : Out (((List (Int × Int × Int × Int × Unit) × Unit) × Unit) × ((List UInt8 × Bool × Unit) × Unit)) :=
 .get (iter1 f15_L0 FUEL (((manyV a0 a1 (40 : Int)).1, (0 : Int), ()), (((manyV a0 a1 (40 : Int)).2.1, (manyV a0 a1 (40 : Int)).2.2, ()), ([] : List ((Int × Int × Int × Int × Unit))), ()))) fun y1 =>
 .ite (y1.2.1.2.1 == false)
 (.ret (((y1.2.2.1, ()), ()), ((y1.2.1.1, (!(progOkV y1.2.2.1)), ()), ())))
 (.ret (((y1.2.2.1, ()), ()), ((y1.2.1.1, true, ()), ())))
def f15_A : Nat → Option LoopAnn := fun n => annOf [(0, { head := { t := [.vptr 0 0, .dead, .dead, .srf 64000000, .dead, .dead, .i .i64, .i .i64] ++ dd 38, v := [(0, .var [.s, .b]), (64000000, .arr tyN)] }, out := { t := [.vptr 0 0, .dead, .dead, .srf 64000256] ++ dd 42, v := [(0, .var [.s, .b]), (64000256, .arr tyN)] }, ret := none })] n
def progV (s : Str) (bad : Bool) : List InsD × Str × Bool := match progL (manyV s bad 40).1.toNat (manyV s bad 40).2.1 (manyV s bad 40).2.2 [] with
  | (p, r, b) => (p, r, b || !progOkV p)
def k15 : Con := { f := 15, lend := true, its := [⟨true, false, [.s, .b]⟩], lay := [none], rs := [⟨false, false, [.own tyN]⟩], F := fun x => .ret ((((progV x.1.1 x.1.2.1).1, ()), ()), (((progV x.1.1 x.1.2.1).2.1, (progV x.1.1 x.1.2.1).2.2, ()), ())) }
theorem f15_eq (x : itemsD k15.its) : bo [k36, k37, k38, k16] f15_A Tryz.f15 k15 [.tmp 2] x = f15_tree x.1.1 x.1.2.1 := by kernel_rfl
theorem f15_ok (hr : ∀ x : (List UInt8 × Bool × Unit) × Unit, itemsWF k15.its x → (f15_tree x.1.1 x.1.2.1).eval = (k15.F x).eval) : k15.Ok Tryz.prog := con_fn [k36, k37, k38, k16] ⟨k36_ok, k37_ok, k38_ok, k16_ok, trivial⟩ f15_eq fun x hw _ hy => (hr x hw).trans hy
theorem k15_ok : k15.Ok Tryz.prog := by
  refine f15_ok fun x _ => ?_
  obtain ⟨⟨s, b, _⟩, _⟩ := x
  show (f15_tree s b).eval = some ((((progV s b).1, ()), ()), (((progV s b).2.1, ((progV s b).2.2, ())), ()))
  unfold f15_tree progV
  have hb := manyV_le s b 40 (by omega)
  obtain ⟨n, hn⟩ := Int.eq_ofNat_of_zero_le hb.1
  rw [hn] at hb ⊢
  rw [Int.toNat_natCast]
  have key : ∀ (m j N : Nat) (s : Str) (b : Bool) (p : List InsD), j + m = n → m < N → p.length = j → iter1 f15_L0 N ((((n : Nat) : Int), (((j : Nat) : Int), ())), ((s, (b, ())), (p, ()))) =
      some ((), (((progL m s b p).2.1, ((progL m s b p).2.2, ())), ((progL m s b p).1, ()))) := by
    intro m
    induction m with
    | zero =>
      intro j N s b p hj hN hp
      have w3 : decide (((j : Nat) : Int) < ((n : Nat) : Int)) = false := decide_eq_false (by omega)
      refine iter1_out' ?_ hN
      exact (eval_ite_f w3).trans rfl
    | succ m ih =>
      intro j N s b p hj hN hp
      have w3 : decide (((j : Nat) : Int) < ((n : Nat) : Int)) = true := decide_eq_true (by omega)
      have g6 := wrap_succ (i := j) (by unfold BIG; omega)
      have g8 : ∀ z : InsD, decide (p.length + ([z] : List InsD).length ≤ LIM) = true := fun z => decide_eq_true (by rw [LIM_eq]; simp; omega)
      obtain ⟨N, rfl⟩ : ∃ N', N = N' + 1 := ⟨N - 1, by omega⟩
      rw [iter1_again (x' := ((((n : Nat) : Int), (((j + 1 : Nat) : Int), ())), (((numsV 4 s b).2.1, ((numsV 4 s b).2.2, ())), (p ++ [insL (numsV 4 s b).1], ()))))]
      · exact ih (j + 1) N _ _ _ (by omega) (by omega) (by simp; omega)
      · refine (eval_ite_t w3).trans ?_
        have e : insL (numsV 4 s b).1 = ((numV s b).1, ((numV (numV s b).2.1 (numV s b).2.2).1, ((bif (numV s b).1 == 1 then zagV (numV (numV (numV s b).2.1 (numV s b).2.2).2.1 (numV (numV s b).2.1 (numV s b).2.2).2.2).1 else (numV (numV (numV s b).2.1 (numV s b).2.2).2.1 (numV (numV s b).2.1 (numV s b).2.2).2.2).1), ((numV (numV (numV (numV s b).2.1 (numV s b).2.2).2.1 (numV (numV s b).2.1 (numV s b).2.2).2.2).2.1 (numV (numV (numV s b).2.1 (numV s b).2.2).2.1 (numV (numV s b).2.1 (numV s b).2.2).2.2).2.2).1, ())))) := rfl
        rw [e]
        cases h1 : ((numV s b).1 == (1 : Int))
        · rw [← g6]; exact (eval_ite_f rfl).trans ((eval_ite_t (g8 _)).trans rfl)
        · rw [← g6]; exact (eval_ite_t rfl).trans ((eval_ite_t (g8 _)).trans rfl)
  have hk := key n 0 FUEL (manyV s b 40).2.1 (manyV s b 40).2.2 [] (by omega) (Nat.lt_of_le_of_lt (show n ≤ 40 by omega) (by decide)) rfl
  refine (eval_get_some hk).trans ?_
  generalize progL n (manyV s b 40).2.1 (manyV s b 40).2.2 [] = r
  obtain ⟨p, r, c⟩ := r
  cases c <;> rfl
def f6_tree (a0 : List UInt8) : Out (((List (Int × Int × Int × Int × Unit) × Unit) × (Bool × Unit) × Unit) × (Unit × Unit)) :=
 .ite ((progV a0 false).2.2 == false)
 (.ite ((progV a0 false).2.1 != ([] : List UInt8))
 (.ret (((([] : List ((Int × Int × Int × Int × Unit))), ()), (false, ()), ()), ((), ())))
 (.ret ((((progV a0 false).1, ()), (true, ()), ()), ((), ()))))
 (.ret (((([] : List ((Int × Int × Int × Int × Unit))), ()), (false, ()), ()), ((), ())))
def k6 : Con := { f := 6, lend := true, its := [⟨false, false, [.s]⟩], lay := [none], rs := [⟨false, false, [.own tyN]⟩, ⟨false, false, [.b]⟩], F := fun x => .ret ((((readProgV x.1.1).1, ()), ((readProgV x.1.1).2, ()), ()), ((), ())) }
theorem f6_eq (x : itemsD k6.its) : bo [k15] (fun _ => none) Tryz.f6 k6 [.tmp 2, .tmp 3] x = f6_tree x.1.1 := by kernel_rfl
theorem f6_ok (hr : ∀ x : (List UInt8 × Unit) × Unit, itemsWF k6.its x → (f6_tree x.1.1).eval = (k6.F x).eval) : k6.Ok Tryz.prog := con_fn [k15] ⟨k15_ok, trivial⟩ f6_eq fun x hw _ hy => (hr x hw).trans hy
theorem progV_false (s : Str) : match progP s with
    | some (l, k) => progV s false = (l, s.drop k, false)
    | none => (progV s false).2.2 = true := by
  unfold progP progV manyV
  cases hi : rvI s with
  | none =>
    simp only [numV_none hi]
    rw [if_neg (by omega)]
    simp [progL]
  | some i =>
    simp only [numV_some hi]
    by_cases h40 : 40 < decB (s.take (i + 1))
    · rw [if_pos h40, if_pos (show ((decB (s.take (i + 1)) : Nat) : Int) > 40 by omega)]
      simp [progL]
    · rw [if_neg h40, if_neg (show ¬ ((decB (s.take (i + 1)) : Nat) : Int) > 40 by omega)]
      simp only [Int.toNat_natCast]
      have h := progL_eq (decB (s.take (i + 1))) (s.drop (i + 1)) []
      cases hr : insP (decB (s.take (i + 1))) (s.drop (i + 1)) with
      | none =>
        rw [hr] at h
        simp only at h ⊢
        rw [h]; rfl
      | some x =>
        obtain ⟨l, k⟩ := x
        rw [hr] at h
        simp only at h ⊢
        rw [h]
        by_cases hok : progOkV l = true
        · rw [if_pos hok]; simp [hok]
        · rw [if_neg hok]; simp [hok]
theorem progP_le {s : Str} {l : List InsD} {k : Nat} (h : progP s = some (l, k)) : k ≤ s.length ∧ l.length ≤ 40 := by
  unfold progP at h
  split at h
  · exact nomatch h
  · rename_i i hi
    split at h
    · exact nomatch h
    · split at h
      · exact nomatch h
      · rename_i l' k' hr
        split at h
        · simp only [Option.some.injEq, Prod.mk.injEq] at h
          obtain ⟨rfl, rfl⟩ := h
          have h1 := insP_le hr
          have h2 := rvI_lt hi
          rw [List.length_drop] at h1
          exact ⟨by omega, by omega⟩
        · exact nomatch h
theorem k6_ok : k6.Ok Tryz.prog := by
  refine f6_ok fun x _ => ?_
  obtain ⟨⟨s, _⟩, _⟩ := x
  show (f6_tree s).eval = some ((((readProgV s).1, ()), (((readProgV s).2, ()), ())), ((), ()))
  unfold f6_tree readProgV
  have h := progV_false s
  cases hp : progP s with
  | none =>
    rw [hp] at h
    simp only at h
    rw [h]; rfl
  | some x =>
    obtain ⟨l, k⟩ := x
    rw [hp] at h
    have hle := (progP_le hp).1
    simp only at h ⊢
    rw [h]
    refine (eval_ite_t rfl).trans ?_
    by_cases hk : k = s.length
    · rw [if_pos hk, hk, List.drop_length]; rfl
    · rw [if_neg hk]
      refine (eval_ite_t ?_).trans rfl
      rw [bne_iff_ne, ne_eq, List.drop_eq_nil_iff]
      omega
end Go.Proofs.YtnglkhjpdpgahaaGreatDoor.Dm
