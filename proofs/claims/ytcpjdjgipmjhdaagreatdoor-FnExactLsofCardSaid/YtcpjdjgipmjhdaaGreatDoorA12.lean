/- Functions of the program, and what they compute. -/
import Derived.Test.YtcpjdjgipmjhdaaGreatDoorA11
namespace Go.Proofs.YtcpjdjgipmjhdaaGreatDoor.Dm
open Go Go.ChangeShapes Go.WideShapes Go.ChangeAt Go.RowKit
abbrev InsD := Int × (Int × (Int × (Int × Unit)))
def regV (n : Int) : Bool := decide (0 ≤ n) && decide (n < 4)
def placeV (n : Int) : Bool := inV n 0 40
def f122_tree (a0 : Int) : Out (((Bool × Unit) × Unit) × (Unit × Unit)) :=
 .ite ((decide (a0 ≥ (0 : Int))) == true)
 (.ret ((((decide (a0 < (4 : Int))), ()), ()), ((), ())))
 (.ret (((false, ()), ()), ((), ())))
def k122 : Con := { f := 122, lend := true, its := [⟨false, false, [.i .i64]⟩], lay := [none], rs := [⟨false, false, [.b]⟩], F := fun x => .ret ((((regV x.1.1), ()), ()), ((), ())) }
theorem f122_eq (x : itemsD k122.its) : bo [] (fun _ => none) Tryz.f122 k122 [.tmp 2] x = f122_tree x.1.1 := by kernel_rfl
theorem f122_ok (hr : ∀ x : (Int × Unit) × Unit, itemsWF k122.its x → (f122_tree x.1.1).eval = (k122.F x).eval) : k122.Ok Tryz.prog := con_fn [] trivial f122_eq fun x hw _ hy => (hr x hw).trans hy
theorem k122_ok : k122.Ok Tryz.prog := by
  refine f122_ok fun x _ => ?_
  obtain ⟨⟨n, _⟩, _⟩ := x
  show (f122_tree n).eval = some (((regV n, ()), ()), ((), ()))
  unfold f122_tree regV
  by_cases h1 : 0 ≤ n <;> simp [Out.eval, h1]
def f108_tree (a0 : Int) : Out (((Bool × Unit) × Unit) × (Unit × Unit)) :=
 .ret ((((inV a0 (0 : Int) (3 : Int)), ()), ()), ((), ()))
def k108 : Con := { f := 108, lend := true, its := [⟨false, false, [.i .i64]⟩], lay := [none], rs := [⟨false, false, [.b]⟩], F := fun x => .ret ((((regV x.1.1), ()), ()), ((), ())) }
theorem f108_eq (x : itemsD k108.its) : bo [k50] (fun _ => none) Tryz.f108 k108 [.tmp 2] x = f108_tree x.1.1 := by kernel_rfl
theorem f108_ok (hr : ∀ x : (Int × Unit) × Unit, itemsWF k108.its x → (f108_tree x.1.1).eval = (k108.F x).eval) : k108.Ok Tryz.prog := con_fn [k50] ⟨k50_ok, trivial⟩ f108_eq fun x hw _ hy => (hr x hw).trans hy
theorem k108_ok : k108.Ok Tryz.prog := by
  refine f108_ok fun x _ => ?_
  obtain ⟨⟨n, _⟩, _⟩ := x
  show (f108_tree n).eval = some (((regV n, ()), ()), ((), ()))
  have h4 : decide (n ≤ 3) = decide (n < 4) := by rw [Bool.eq_iff_iff]; simp; omega
  unfold f108_tree regV inV
  rw [h4]; rfl
def f109_tree (a0 : Int) : Out (((Bool × Unit) × Unit) × (Unit × Unit)) :=
 .ret ((((inV a0 (0 : Int) (40 : Int)), ()), ()), ((), ()))
def k109 : Con := { f := 109, lend := true, its := [⟨false, false, [.i .i64]⟩], lay := [none], rs := [⟨false, false, [.b]⟩], F := fun x => .ret ((((placeV x.1.1), ()), ()), ((), ())) }
theorem f109_eq (x : itemsD k109.its) : bo [k50] (fun _ => none) Tryz.f109 k109 [.tmp 2] x = f109_tree x.1.1 := by kernel_rfl
theorem f109_ok (hr : ∀ x : (Int × Unit) × Unit, itemsWF k109.its x → (f109_tree x.1.1).eval = (k109.F x).eval) : k109.Ok Tryz.prog := con_fn [k50] ⟨k50_ok, trivial⟩ f109_eq fun x hw _ hy => (hr x hw).trans hy
theorem k109_ok : k109.Ok Tryz.prog := f109_ok fun _ _ => rfl
def insOkV (o a b c : Int) : Bool :=
  bif o == 1 then regV a && (inV b (-1000000) 1000000 && (c == 0)) else
  bif o == 2 then regV a && (regV b && regV c) else
  bif o == 3 then regV a && (regV b && regV c) else
  bif o == 4 then regV a && (regV b && (c == 0)) else
  bif o == 5 then regV a && (regV b && (c == 0)) else
  bif o == 6 then inV a 0 40 && ((b == 0) && (c == 0)) else
  bif o == 7 then regV a && (inV b 0 40 && (c == 0)) else
  bif o == 8 then inV a 1 20 && ((b == 0) && (c == 0)) else false
theorem zero_eq (n : Int) : ((0 : Int) == n) = (n == 0) := by
  rw [Bool.eq_iff_iff]; simp only [beq_iff_eq]; omega
def f103_tree (a0 : Int) (a1 : Int) (a2 : Int) (a3 : Int) : Out (((Bool × Unit) × Unit) × (Unit × Unit)) :=
 .ite ((a0 == (1 : Int)))
 (.ite ((regV a1) == true)
 (.ite ((inV a2 (-1000000 : Int) (1000000 : Int)) == true)
 (.ret (((((a0 == a0) && ((a1 == a1) && ((a2 == a2) && (((0 : Int) == a3) && true)))), ()), ()), ((), ())))
 (.ret (((false, ()), ()), ((), ()))))
 (.ret (((false, ()), ()), ((), ()))))
 (.ite ((a0 == (2 : Int)))
 (.ite ((regV a1) == true)
 (.ite ((regV a2) == true)
 (.ite ((regV a3) == true)
 (.ret (((((a0 == a0) && ((a1 == a1) && ((a2 == a2) && ((a3 == a3) && true)))), ()), ()), ((), ())))
 (.ret (((false, ()), ()), ((), ()))))
 (.ret (((false, ()), ()), ((), ()))))
 (.ret (((false, ()), ()), ((), ()))))
 (.ite ((a0 == (3 : Int)))
 (.ite ((regV a1) == true)
 (.ite ((regV a2) == true)
 (.ite ((regV a3) == true)
 (.ret (((((a0 == a0) && ((a1 == a1) && ((a2 == a2) && ((a3 == a3) && true)))), ()), ()), ((), ())))
 (.ret (((false, ()), ()), ((), ()))))
 (.ret (((false, ()), ()), ((), ()))))
 (.ret (((false, ()), ()), ((), ()))))
 (.ite ((a0 == (4 : Int)))
 (.ite ((regV a1) == true)
 (.ite ((regV a2) == true)
 (.ret (((((a0 == a0) && ((a1 == a1) && ((a2 == a2) && (((0 : Int) == a3) && true)))), ()), ()), ((), ())))
 (.ret (((false, ()), ()), ((), ()))))
 (.ret (((false, ()), ()), ((), ()))))
 (.ite ((a0 == (5 : Int)))
 (.ite ((regV a1) == true)
 (.ite ((regV a2) == true)
 (.ret (((((a0 == a0) && ((a1 == a1) && ((a2 == a2) && (((0 : Int) == a3) && true)))), ()), ()), ((), ())))
 (.ret (((false, ()), ()), ((), ()))))
 (.ret (((false, ()), ()), ((), ()))))
 (.ite ((a0 == (6 : Int)))
 (.ite ((inV a1 (0 : Int) (40 : Int)) == true)
 (.ret (((((a0 == a0) && ((a1 == a1) && (((0 : Int) == a2) && (((0 : Int) == a3) && true)))), ()), ()), ((), ())))
 (.ret (((false, ()), ()), ((), ()))))
 (.ite ((a0 == (7 : Int)))
 (.ite ((regV a1) == true)
 (.ite ((inV a2 (0 : Int) (40 : Int)) == true)
 (.ret (((((a0 == a0) && ((a1 == a1) && ((a2 == a2) && (((0 : Int) == a3) && true)))), ()), ()), ((), ())))
 (.ret (((false, ()), ()), ((), ()))))
 (.ret (((false, ()), ()), ((), ()))))
 (.ite ((a0 == (8 : Int)))
 (.ite ((inV a1 (1 : Int) (20 : Int)) == true)
 (.ret (((((a0 == a0) && ((a1 == a1) && (((0 : Int) == a2) && (((0 : Int) == a3) && true)))), ()), ()), ((), ())))
 (.ret (((false, ()), ()), ((), ()))))
 (.ret (((false, ()), ()), ((), ()))))))))))
def k103 : Con := { f := 103, lend := true, its := [⟨false, true, [.i .i64, .i .i64, .i .i64, .i .i64]⟩], lay := [none], rs := [⟨false, false, [.b]⟩], F := fun x => .ret ((((insOkV x.1.1 x.1.2.1 x.1.2.2.1 x.1.2.2.2.1), ()), ()), ((), ())) }
theorem f103_eq (x : itemsD k103.its) : bo [k122, k38] (fun _ => none) Tryz.f103 k103 [.tmp 2] x = f103_tree x.1.1 x.1.2.1 x.1.2.2.1 x.1.2.2.2.1 := by kernel_rfl
theorem f103_ok (hr : ∀ x : (Int × Int × Int × Int × Unit) × Unit, itemsWF k103.its x → (f103_tree x.1.1 x.1.2.1 x.1.2.2.1 x.1.2.2.2.1).eval = (k103.F x).eval) : k103.Ok Tryz.prog := con_fn [k122, k38] ⟨k122_ok, k38_ok, trivial⟩ f103_eq fun x hw _ hy => (hr x hw).trans hy
theorem k103_ok : k103.Ok Tryz.prog := by
  refine f103_ok fun x _ => ?_
  obtain ⟨⟨o, a, b, c, _⟩, _⟩ := x
  show (f103_tree o a b c).eval = some (((insOkV o a b c, ()), ()), ((), ()))
  unfold f103_tree insOkV
  simp only [Out.eval, zero_eq, beq_self_eq_true, Bool.true_and, Bool.and_true]
  cases (o == (1 : Int))
  rotate_left
  · cases regV a <;> cases inV b (-1000000) 1000000 <;> rfl
  cases (o == (2 : Int))
  rotate_left
  · cases regV a <;> cases regV b <;> cases regV c <;> rfl
  cases (o == (3 : Int))
  rotate_left
  · cases regV a <;> cases regV b <;> cases regV c <;> rfl
  cases (o == (4 : Int))
  rotate_left
  · cases regV a <;> cases regV b <;> rfl
  cases (o == (5 : Int))
  rotate_left
  · cases regV a <;> cases regV b <;> rfl
  cases (o == (6 : Int))
  rotate_left
  · cases inV a 0 40 <;> rfl
  cases (o == (7 : Int))
  rotate_left
  · cases regV a <;> cases inV b 0 40 <;> rfl
  cases (o == (8 : Int))
  · rfl
  · cases inV a 1 20 <;> rfl
def f84_tree (a0 : Int) (a1 : Int) (a2 : Int) (a3 : Int) : Out (((Bool × Unit) × Unit) × (Unit × Unit)) :=
 .ite ((a0 == (1 : Int)))
 (.ite ((regV a1) == true)
 (.ite ((wordV a2) == true)
 (.ret (((((a3 == (0 : Int))), ()), ()), ((), ())))
 (.ret (((false, ()), ()), ((), ()))))
 (.ret (((false, ()), ()), ((), ()))))
 (.ite ((a0 == (2 : Int)))
 (.ite ((regV a1) == true)
 (.ite ((regV a2) == true)
 (.ret ((((regV a3), ()), ()), ((), ())))
 (.ret (((false, ()), ()), ((), ()))))
 (.ret (((false, ()), ()), ((), ()))))
 (.ite ((a0 == (3 : Int)))
 (.ite ((regV a1) == true)
 (.ite ((regV a2) == true)
 (.ret ((((regV a3), ()), ()), ((), ())))
 (.ret (((false, ()), ()), ((), ()))))
 (.ret (((false, ()), ()), ((), ()))))
 (.ite ((a0 == (4 : Int)))
 (.ite ((regV a1) == true)
 (.ite ((regV a2) == true)
 (.ret (((((a3 == (0 : Int))), ()), ()), ((), ())))
 (.ret (((false, ()), ()), ((), ()))))
 (.ret (((false, ()), ()), ((), ()))))
 (.ite ((a0 == (5 : Int)))
 (.ite ((regV a1) == true)
 (.ite ((regV a2) == true)
 (.ret (((((a3 == (0 : Int))), ()), ()), ((), ())))
 (.ret (((false, ()), ()), ((), ()))))
 (.ret (((false, ()), ()), ((), ()))))
 (.ite ((a0 == (6 : Int)))
 (.ite ((placeV a1) == true)
 (.ite (((a2 == (0 : Int))) == true)
 (.ret (((((a3 == (0 : Int))), ()), ()), ((), ())))
 (.ret (((false, ()), ()), ((), ()))))
 (.ret (((false, ()), ()), ((), ()))))
 (.ite ((a0 == (7 : Int)))
 (.ite ((regV a1) == true)
 (.ite ((placeV a2) == true)
 (.ret (((((a3 == (0 : Int))), ()), ()), ((), ())))
 (.ret (((false, ()), ()), ((), ()))))
 (.ret (((false, ()), ()), ((), ()))))
 (.ite ((a0 == (8 : Int)))
 (.ite ((inV a1 (1 : Int) (20 : Int)) == true)
 (.ite (((a2 == (0 : Int))) == true)
 (.ret (((((a3 == (0 : Int))), ()), ()), ((), ())))
 (.ret (((false, ()), ()), ((), ()))))
 (.ret (((false, ()), ()), ((), ()))))
 (.ret (((false, ()), ()), ((), ()))))))))))
def k84 : Con := { f := 84, lend := true, its := [⟨false, true, [.i .i64, .i .i64, .i .i64, .i .i64]⟩], lay := [none], rs := [⟨false, false, [.b]⟩], F := fun x => .ret ((((insOkV x.1.1 x.1.2.1 x.1.2.2.1 x.1.2.2.2.1), ()), ()), ((), ())) }
theorem f84_eq (x : itemsD k84.its) : bo [k108, k80, k109, k50] (fun _ => none) Tryz.f84 k84 [.tmp 2] x = f84_tree x.1.1 x.1.2.1 x.1.2.2.1 x.1.2.2.2.1 := by kernel_rfl
theorem f84_ok (hr : ∀ x : (Int × Int × Int × Int × Unit) × Unit, itemsWF k84.its x → (f84_tree x.1.1 x.1.2.1 x.1.2.2.1 x.1.2.2.2.1).eval = (k84.F x).eval) : k84.Ok Tryz.prog := con_fn [k108, k80, k109, k50] ⟨k108_ok, k80_ok, k109_ok, k50_ok, trivial⟩ f84_eq fun x hw _ hy => (hr x hw).trans hy
theorem k84_ok : k84.Ok Tryz.prog := by
  refine f84_ok fun x _ => ?_
  obtain ⟨⟨o, a, b, c, _⟩, _⟩ := x
  show (f84_tree o a b c).eval = some (((insOkV o a b c, ()), ()), ((), ()))
  unfold f84_tree insOkV placeV wordV
  simp only [Out.eval]
  cases (o == (1 : Int))
  rotate_left
  · cases regV a <;> cases inV b (-1000000) 1000000 <;> rfl
  cases (o == (2 : Int))
  rotate_left
  · cases regV a <;> cases regV b <;> cases regV c <;> rfl
  cases (o == (3 : Int))
  rotate_left
  · cases regV a <;> cases regV b <;> cases regV c <;> rfl
  cases (o == (4 : Int))
  rotate_left
  · cases regV a <;> cases regV b <;> rfl
  cases (o == (5 : Int))
  rotate_left
  · cases regV a <;> cases regV b <;> rfl
  cases (o == (6 : Int))
  rotate_left
  · cases inV a 0 40 <;> cases (b == (0 : Int)) <;> rfl
  cases (o == (7 : Int))
  rotate_left
  · cases regV a <;> cases inV b 0 40 <;> rfl
  cases (o == (8 : Int))
  · rfl
  · cases inV a 1 20 <;> cases (b == (0 : Int)) <;> rfl
def f83_tree (a0 : Int) (a1 : Int) (a2 : Int) (a3 : Int) : Out (((Bool × Unit) × Unit) × (Unit × Unit)) :=
 .ret ((((!(insOkV a0 a1 a2 a3)), ()), ()), ((), ()))
def insNotV (o a b c : Int) : Bool := !insOkV o a b c
def k83 : Con := { f := 83, lend := true, its := [⟨false, true, [.i .i64, .i .i64, .i .i64, .i .i64]⟩], lay := [none], rs := [⟨false, false, [.b]⟩], F := fun x => .ret ((((insNotV x.1.1 x.1.2.1 x.1.2.2.1 x.1.2.2.2.1), ()), ()), ((), ())) }
theorem f83_eq (x : itemsD k83.its) : bo [k84] (fun _ => none) Tryz.f83 k83 [.tmp 2] x = f83_tree x.1.1 x.1.2.1 x.1.2.2.1 x.1.2.2.2.1 := by kernel_rfl
theorem f83_ok (hr : ∀ x : (Int × Int × Int × Int × Unit) × Unit, itemsWF k83.its x → (f83_tree x.1.1 x.1.2.1 x.1.2.2.1 x.1.2.2.2.1).eval = (k83.F x).eval) : k83.Ok Tryz.prog := con_fn [k84] ⟨k84_ok, trivial⟩ f83_eq fun x hw _ hy => (hr x hw).trans hy
theorem k83_ok : k83.Ok Tryz.prog := f83_ok fun _ _ => rfl
def insOk1 (x : InsD) : Bool := insOkV x.1 x.2.1 x.2.2.1 x.2.2.2.1
def progOkV (l : List InsD) : Bool := decide (l.length ≤ 40) && l.all insOk1
abbrev f68_S0 := (List ((Int × Int × Int × Int × Unit)) × Int × Unit) × (Unit)
def f68_L0 : f68_S0 → Out (Round f68_S0 ((Unit) × (Unit)) ((Bool × Unit) × (Unit)))
| ((p0, p1, _), _) =>
 .ite (decide (p1 < ((List.length p0 : Nat) : Int)))
 (.ite (decide (0 ≤ p1))
 (.get (nth p0 (Int.toNat p1)) fun y1 =>
 .ite (!(insOkV y1.1 y1.2.1 y1.2.2.1 y1.2.2.2.1))
 (.ret (.ret ((false, ()), ())))
 (.ret (.again ((p0, (IntKind.i64.wrap (p1 + (1 : Int))), ()), ()))))
 .fail)
 (.ret (.out ((), ())))
def f68_tree (a0 : List (Int × Int × Int × Int × Unit)) : Out (((Bool × Unit) × Unit) × (Unit × Unit)) :=
 .ite (decide (((List.length a0 : Nat) : Int) > (40 : Int)))
 (.ret (((false, ()), ()), ((), ())))
 (.get (iter f68_L0 FUEL ((a0, (0 : Int), ()), ())) fun y1 => .alt y1 (fun y2 =>
 .ret (((true, ()), ()), ((), ()))) (fun y3 =>
 .ret (((y3.1.1, ()), ()), ((), ()))))
def f68_A : Nat → Option LoopAnn := fun n => annOf [(0, { head := { t := [.ro tyN (some 0), .dead, .dead, .i .i64] ++ dd 15, v := [] }, out := { t := dd 19, v := [] }, ret := some { t := [.dead, .dead, .b] ++ dd 16, v := [] } })] n
def k68 : Con := { f := 68, lend := true, its := [⟨false, false, [.ro tyN]⟩], lay := [none], rs := [⟨false, false, [.b]⟩], F := fun x => .ret ((((progOkV x.1.1), ()), ()), ((), ())) }
theorem f68_eq (x : itemsD k68.its) : bo [k103] f68_A Tryz.f68 k68 [.tmp 2] x = f68_tree x.1.1 := by kernel_rfl
theorem f68_ok (hr : ∀ x : (List (Int × Int × Int × Int × Unit) × Unit) × Unit, itemsWF k68.its x → (f68_tree x.1.1).eval = (k68.F x).eval) : k68.Ok Tryz.prog := con_fn [k103] ⟨k103_ok, trivial⟩ f68_eq fun x hw _ hy => (hr x hw).trans hy
theorem k68_ok : k68.Ok Tryz.prog := by
  refine f68_ok fun x hw => ?_
  obtain ⟨⟨a, _⟩, _⟩ := x
  have ha : a.length ≤ BIG := hw.1.1.1
  show (f68_tree a).eval = some (((progOkV a, ()), ()), ((), ()))
  unfold f68_tree progOkV
  have e2 : decide (((a.length : Nat) : Int) > (40 : Int)) = !decide (a.length ≤ 40) := gt_cast (m := 40)
  rw [e2]
  by_cases h1 : a.length ≤ 40
  · rw [eval_ite_f (by simp [h1]), decide_eq_true h1, Bool.true_and]
    have := all_loop (f := f68_L0) a insOk1 (fun i => ((a, (((i : Nat) : Int), ())), ())) (y := ((), ())) (z := ((false, ()), ()))
      (fun i hi hp => by
        have g1 := wrap_succ (i := i) (by omega)
        have hp : insOkV a[i].1 a[i].2.1 a[i].2.2.1 a[i].2.2.2.1 = true := hp
        simp [f68_L0, Out.eval, hi, g1, hp])
      (fun i hi hp => by
        have hp : insOkV a[i].1 a[i].2.1 a[i].2.2.1 a[i].2.2.2.1 = false := hp
        simp [f68_L0, Out.eval, hi, hp])
      (by simp [f68_L0, Out.eval]) ha
    refine (eval_get_some this).trans ?_
    cases a.all insOk1 <;> rfl
  · rw [eval_ite_t (by simp [h1]), decide_eq_false h1]; rfl
abbrev f107_S0 := (List ((Int × Int × Int × Int × Unit)) × Int × Int × Unit) × (Unit)
def f107_L0 : f107_S0 → Out (Round f107_S0 ((Unit) × (Unit)) ((Int × Unit) × (Unit)))
| ((p0, p1, p2, _), _) =>
 .ite (decide (p2 < p1))
 (.ite (decide (0 ≤ p2))
 (.get (nth p0 (Int.toNat p2)) fun y1 =>
 .ite (insNotV y1.1 y1.2.1 y1.2.2.1 y1.2.2.2.1)
 (.ret (.ret ((p2, ()), ())))
 (.ret (.again ((p0, p1, (IntKind.i64.wrap (p2 + (1 : Int))), ()), ()))))
 .fail)
 (.ret (.out ((), ())))
def f107_tree (a0 : List (Int × Int × Int × Int × Unit)) : Out (((Int × Unit) × Unit) × (Unit × Unit)) :=
 .get (iter f107_L0 FUEL ((a0, ((List.length a0 : Nat) : Int), (0 : Int), ()), ())) fun y1 => .alt y1 (fun y2 =>
 .ret ((((-1 : Int), ()), ()), ((), ()))) (fun y3 =>
 .ret (((y3.1.1, ()), ()), ((), ())))
def f107_A : Nat → Option LoopAnn := fun n => annOf [(0, { head := { t := [.ro tyN (some 0), .fn 83 []] ++ dd 5 ++ [.i .i64, .i .i64] ++ dd 10, v := [] }, out := { t := dd 19, v := [] }, ret := some { t := dd 4 ++ [.i .i64] ++ dd 14, v := [] } })] n
def indexInsV (a : List InsD) : Int := idxV (a.findIdx? fun x => !insOk1 x)
def k107 : Con := { f := 107, lend := true, its := [⟨false, false, [.ro tyN]⟩], lay := [none, some (83, 0)], rs := [⟨false, false, [.i .i64]⟩], F := fun x => .ret ((((indexInsV x.1.1), ()), ()), ((), ())) }
theorem f107_eq (x : itemsD k107.its) : bo [k83] f107_A Tryz.f107 k107 [.tmp 4] x = f107_tree x.1.1 := by kernel_rfl
theorem f107_ok (hr : ∀ x : (List (Int × Int × Int × Int × Unit) × Unit) × Unit, itemsWF k107.its x → (f107_tree x.1.1).eval = (k107.F x).eval) : k107.Ok Tryz.prog := con_fn [k83] ⟨k83_ok, trivial⟩ f107_eq fun x hw _ hy => (hr x hw).trans hy
theorem k107_ok : k107.Ok Tryz.prog := by
  refine f107_ok fun x hw => ?_
  obtain ⟨⟨a, _⟩, _⟩ := x
  have ha : a.length ≤ BIG := hw.1.1.1
  show (f107_tree a).eval = some (((indexInsV a, ()), ()), ((), ()))
  unfold f107_tree indexInsV
  have := idx_loop (f := f107_L0) a (fun x : InsD => !insOk1 x) (fun i => ((a, (((a.length : Nat) : Int), (((i : Nat) : Int), ()))), ())) (y := ((), ())) (z := fun i => ((((i : Nat) : Int), ()), ()))
    (fun i hi hp => by
      have g1 := wrap_succ (i := i) (by omega)
      have hp : insNotV a[i].1 a[i].2.1 a[i].2.2.1 a[i].2.2.2.1 = false := hp
      simp [f107_L0, Out.eval, hi, g1, hp])
    (fun i hi hp => by
      have hp : insNotV a[i].1 a[i].2.1 a[i].2.2.1 a[i].2.2.2.1 = true := hp
      simp [f107_L0, Out.eval, hi, hp])
    (by simp [f107_L0, Out.eval]) ha
  refine (eval_get_some this).trans ?_
  cases a.findIdx? (fun x : InsD => !insOk1 x) <;> rfl
def f82_tree (a0 : List (Int × Int × Int × Int × Unit)) : Out (((Bool × Unit) × Unit) × (Unit × Unit)) :=
 .ret ((((decide ((indexInsV a0) ≥ (0 : Int))), ()), ()), ((), ()))
def anyInsV (a : List InsD) : Bool := a.any fun x => !insOk1 x
def k82 : Con := { f := 82, lend := true, its := [⟨false, false, [.ro tyN]⟩], lay := [none, some (83, 0)], rs := [⟨false, false, [.b]⟩], F := fun x => .ret ((((anyInsV x.1.1), ()), ()), ((), ())) }
theorem f82_eq (x : itemsD k82.its) : bo [k107] (fun _ => none) Tryz.f82 k82 [.tmp 4] x = f82_tree x.1.1 := by kernel_rfl
theorem f82_ok (hr : ∀ x : (List (Int × Int × Int × Int × Unit) × Unit) × Unit, itemsWF k82.its x → (f82_tree x.1.1).eval = (k82.F x).eval) : k82.Ok Tryz.prog := con_fn [k107] ⟨k107_ok, trivial⟩ f82_eq fun x hw _ hy => (hr x hw).trans hy
theorem k82_ok : k82.Ok Tryz.prog := by
  refine f82_ok fun x _ => ?_
  obtain ⟨⟨a, _⟩, _⟩ := x
  show (f82_tree a).eval = some (((anyInsV a, ()), ()), ((), ()))
  unfold f82_tree anyInsV indexInsV
  rw [idxV_ge]
  rfl
def f54_tree (a0 : List (Int × Int × Int × Int × Unit)) : Out (((Bool × Unit) × Unit) × (Unit × Unit)) :=
 .ite ((decide (((List.length a0 : Nat) : Int) ≤ (40 : Int))) == true)
 (.ret ((((!(anyInsV a0)), ()), ()), ((), ())))
 (.ret (((false, ()), ()), ((), ())))
def k54 : Con := { f := 54, lend := true, its := [⟨false, false, [.ro tyN]⟩], lay := [none], rs := [⟨false, false, [.b]⟩], F := fun x => .ret ((((progOkV x.1.1), ()), ()), ((), ())) }
theorem f54_eq (x : itemsD k54.its) : bo [k82] (fun _ => none) Tryz.f54 k54 [.tmp 2] x = f54_tree x.1.1 := by kernel_rfl
theorem f54_ok (hr : ∀ x : (List (Int × Int × Int × Int × Unit) × Unit) × Unit, itemsWF k54.its x → (f54_tree x.1.1).eval = (k54.F x).eval) : k54.Ok Tryz.prog := con_fn [k82] ⟨k82_ok, trivial⟩ f54_eq fun x hw _ hy => (hr x hw).trans hy
theorem k54_ok : k54.Ok Tryz.prog := by
  refine f54_ok fun x _ => ?_
  obtain ⟨⟨a, _⟩, _⟩ := x
  show (f54_tree a).eval = some (((progOkV a, ()), ()), ((), ()))
  unfold f54_tree progOkV
  have e2 : decide (((a.length : Nat) : Int) ≤ (40 : Int)) = decide (a.length ≤ 40) := le_cast (m := 40)
  have e4 : a.all insOk1 = !anyInsV a := (not_any a _).symm
  rw [e2, e4]
  by_cases h1 : a.length ≤ 40 <;> simp [Out.eval, h1]
end Go.Proofs.YtcpjdjgipmjhdaaGreatDoor.Dm
