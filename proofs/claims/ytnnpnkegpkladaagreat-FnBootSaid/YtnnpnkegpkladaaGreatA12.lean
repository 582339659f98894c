/- Functions of the program, and what they compute. -/
import Derived.Test.YtnnpnkegpkladaaGreatA11
namespace Go.Proofs.YtnnpnkegpkladaaGreat.Dm
open Go Go.ChangeShapes Go.WideShapes Go.ChangeAt Go.RowKit
abbrev InsD := Int × (Int × (Int × (Int × Unit)))
def regV (n : Int) : Bool := decide (0 ≤ n) && decide (n < 4)
def placeV (n : Int) : Bool := inV n 0 40
def f222_tree (a0 : Int) : Out (((Bool × Unit) × Unit) × (Unit × Unit)) :=
 .ite ((decide (a0 ≥ (0 : Int))) == true)
 (.ret ((((decide (a0 < (4 : Int))), ()), ()), ((), ())))
 (.ret (((false, ()), ()), ((), ())))
def k222 : Con := { f := 222, lend := true, its := [⟨false, false, [.i .i64]⟩], lay := [none], rs := [⟨false, false, [.b]⟩], F := fun x => .ret ((((regV x.1.1), ()), ()), ((), ())) }
theorem f222_eq (x : itemsD k222.its) : bo [] (fun _ => none) Tryz.f222 k222 [.tmp 2] x = f222_tree x.1.1 := by kernel_rfl
theorem f222_ok (hr : ∀ x : (Int × Unit) × Unit, itemsWF k222.its x → (f222_tree x.1.1).eval = (k222.F x).eval) : k222.Ok Tryz.prog := con_fn [] trivial f222_eq fun x hw _ hy => (hr x hw).trans hy
theorem k222_ok : k222.Ok Tryz.prog := by
  refine f222_ok fun x _ => ?_
  obtain ⟨⟨n, _⟩, _⟩ := x
  show (f222_tree n).eval = some (((regV n, ()), ()), ((), ()))
  unfold f222_tree regV
  by_cases h1 : 0 ≤ n <;> simp [Out.eval, h1]
def f144_tree (a0 : Int) : Out (((Bool × Unit) × Unit) × (Unit × Unit)) :=
 .ret ((((inV a0 (0 : Int) (3 : Int)), ()), ()), ((), ()))
def k144 : Con := { f := 144, lend := true, its := [⟨false, false, [.i .i64]⟩], lay := [none], rs := [⟨false, false, [.b]⟩], F := fun x => .ret ((((regV x.1.1), ()), ()), ((), ())) }
theorem f144_eq (x : itemsD k144.its) : bo [k25] (fun _ => none) Tryz.f144 k144 [.tmp 2] x = f144_tree x.1.1 := by kernel_rfl
theorem f144_ok (hr : ∀ x : (Int × Unit) × Unit, itemsWF k144.its x → (f144_tree x.1.1).eval = (k144.F x).eval) : k144.Ok Tryz.prog := con_fn [k25] ⟨k25_ok, trivial⟩ f144_eq fun x hw _ hy => (hr x hw).trans hy
theorem k144_ok : k144.Ok Tryz.prog := by
  refine f144_ok fun x _ => ?_
  obtain ⟨⟨n, _⟩, _⟩ := x
  show (f144_tree n).eval = some (((regV n, ()), ()), ((), ()))
  have h4 : decide (n ≤ 3) = decide (n < 4) := by rw [Bool.eq_iff_iff]; simp; omega
  unfold f144_tree regV inV
  rw [h4]; rfl
def f146_tree (a0 : Int) : Out (((Bool × Unit) × Unit) × (Unit × Unit)) :=
 .ret ((((inV a0 (0 : Int) (40 : Int)), ()), ()), ((), ()))
def k146 : Con := { f := 146, lend := true, its := [⟨false, false, [.i .i64]⟩], lay := [none], rs := [⟨false, false, [.b]⟩], F := fun x => .ret ((((placeV x.1.1), ()), ()), ((), ())) }
theorem f146_eq (x : itemsD k146.its) : bo [k25] (fun _ => none) Tryz.f146 k146 [.tmp 2] x = f146_tree x.1.1 := by kernel_rfl
theorem f146_ok (hr : ∀ x : (Int × Unit) × Unit, itemsWF k146.its x → (f146_tree x.1.1).eval = (k146.F x).eval) : k146.Ok Tryz.prog := con_fn [k25] ⟨k25_ok, trivial⟩ f146_eq fun x hw _ hy => (hr x hw).trans hy
theorem k146_ok : k146.Ok Tryz.prog := f146_ok fun _ _ => rfl
def insOkV (o a b c : Int) : Bool :=
  bif o == 1 then regV a && (inV b (-1000000) 1000000 && (c == 0)) else
  bif o == 2 then regV a && (regV b && regV c) else
  bif o == 3 then regV a && (regV b && regV c) else
  bif o == 4 then regV a && (regV b && (c == 0)) else
  bif o == 5 then regV a && (regV b && (c == 0)) else
  bif o == 6 then inV a 0 40 && ((b == 0) && (c == 0)) else
  bif o == 7 then regV a && (inV b 0 40 && (c == 0)) else
  bif o == 8 then inV a 1 20 && ((b == 0) && (c == 0)) else false
theorem zero_eq (n : Int) : ((0 : Int) == n) = (n == 0) := by
  rw [Bool.eq_iff_iff]; simp only [beq_iff_eq]; omega
def f148_tree (a0 : Int) (a1 : Int) (a2 : Int) (a3 : Int) : Out (((Bool × Unit) × Unit) × (Unit × Unit)) :=
 .ite ((a0 == (1 : Int)))
 (.ite ((regV a1) == true)
 (.ite ((inV a2 (-1000000 : Int) (1000000 : Int)) == true)
 (.ret (((((a0 == a0) && ((a1 == a1) && ((a2 == a2) && (((0 : Int) == a3) && true)))), ()), ()), ((), ())))
 (.ret (((false, ()), ()), ((), ()))))
 (.ret (((false, ()), ()), ((), ()))))
 (.ite ((a0 == (2 : Int)))
 (.ite ((regV a1) == true)
 (.ite ((regV a2) == true)
 (.ite ((regV a3) == true)
 (.ret (((((a0 == a0) && ((a1 == a1) && ((a2 == a2) && ((a3 == a3) && true)))), ()), ()), ((), ())))
 (.ret (((false, ()), ()), ((), ()))))
 (.ret (((false, ()), ()), ((), ()))))
 (.ret (((false, ()), ()), ((), ()))))
 (.ite ((a0 == (3 : Int)))
 (.ite ((regV a1) == true)
 (.ite ((regV a2) == true)
 (.ite ((regV a3) == true)
 (.ret (((((a0 == a0) && ((a1 == a1) && ((a2 == a2) && ((a3 == a3) && true)))), ()), ()), ((), ())))
 (.ret (((false, ()), ()), ((), ()))))
 (.ret (((false, ()), ()), ((), ()))))
 (.ret (((false, ()), ()), ((), ()))))
 (.ite ((a0 == (4 : Int)))
 (.ite ((regV a1) == true)
 (.ite ((regV a2) == true)
 (.ret (((((a0 == a0) && ((a1 == a1) && ((a2 == a2) && (((0 : Int) == a3) && true)))), ()), ()), ((), ())))
 (.ret (((false, ()), ()), ((), ()))))
 (.ret (((false, ()), ()), ((), ()))))
 (.ite ((a0 == (5 : Int)))
 (.ite ((regV a1) == true)
 (.ite ((regV a2) == true)
 (.ret (((((a0 == a0) && ((a1 == a1) && ((a2 == a2) && (((0 : Int) == a3) && true)))), ()), ()), ((), ())))
 (.ret (((false, ()), ()), ((), ()))))
 (.ret (((false, ()), ()), ((), ()))))
 (.ite ((a0 == (6 : Int)))
 (.ite ((inV a1 (0 : Int) (40 : Int)) == true)
 (.ret (((((a0 == a0) && ((a1 == a1) && (((0 : Int) == a2) && (((0 : Int) == a3) && true)))), ()), ()), ((), ())))
 (.ret (((false, ()), ()), ((), ()))))
 (.ite ((a0 == (7 : Int)))
 (.ite ((regV a1) == true)
 (.ite ((inV a2 (0 : Int) (40 : Int)) == true)
 (.ret (((((a0 == a0) && ((a1 == a1) && ((a2 == a2) && (((0 : Int) == a3) && true)))), ()), ()), ((), ())))
 (.ret (((false, ()), ()), ((), ()))))
 (.ret (((false, ()), ()), ((), ()))))
 (.ite ((a0 == (8 : Int)))
 (.ite ((inV a1 (1 : Int) (20 : Int)) == true)
 (.ret (((((a0 == a0) && ((a1 == a1) && (((0 : Int) == a2) && (((0 : Int) == a3) && true)))), ()), ()), ((), ())))
 (.ret (((false, ()), ()), ((), ()))))
 (.ret (((false, ()), ()), ((), ()))))))))))
def k148 : Con := { f := 148, lend := true, its := [⟨false, true, [.i .i64, .i .i64, .i .i64, .i .i64]⟩], lay := [none], rs := [⟨false, false, [.b]⟩], F := fun x => .ret ((((insOkV x.1.1 x.1.2.1 x.1.2.2.1 x.1.2.2.2.1), ()), ()), ((), ())) }
theorem f148_eq (x : itemsD k148.its) : bo [k222, k65] (fun _ => none) Tryz.f148 k148 [.tmp 2] x = f148_tree x.1.1 x.1.2.1 x.1.2.2.1 x.1.2.2.2.1 := by kernel_rfl
theorem f148_ok (hr : ∀ x : (Int × Int × Int × Int × Unit) × Unit, itemsWF k148.its x → (f148_tree x.1.1 x.1.2.1 x.1.2.2.1 x.1.2.2.2.1).eval = (k148.F x).eval) : k148.Ok Tryz.prog := con_fn [k222, k65] ⟨k222_ok, k65_ok, trivial⟩ f148_eq fun x hw _ hy => (hr x hw).trans hy
theorem k148_ok : k148.Ok Tryz.prog := by
  refine f148_ok fun x _ => ?_
  obtain ⟨⟨o, a, b, c, _⟩, _⟩ := x
  show (f148_tree o a b c).eval = some (((insOkV o a b c, ()), ()), ((), ()))
  unfold f148_tree insOkV
  simp only [Out.eval, zero_eq, beq_self_eq_true, Bool.true_and, Bool.and_true]
  cases (o == (1 : Int))
  rotate_left
  · cases regV a <;> cases inV b (-1000000) 1000000 <;> rfl
  cases (o == (2 : Int))
  rotate_left
  · cases regV a <;> cases regV b <;> cases regV c <;> rfl
  cases (o == (3 : Int))
  rotate_left
  · cases regV a <;> cases regV b <;> cases regV c <;> rfl
  cases (o == (4 : Int))
  rotate_left
  · cases regV a <;> cases regV b <;> rfl
  cases (o == (5 : Int))
  rotate_left
  · cases regV a <;> cases regV b <;> rfl
  cases (o == (6 : Int))
  rotate_left
  · cases inV a 0 40 <;> rfl
  cases (o == (7 : Int))
  rotate_left
  · cases regV a <;> cases inV b 0 40 <;> rfl
  cases (o == (8 : Int))
  · rfl
  · cases inV a 1 20 <;> rfl
def f62_tree (a0 : Int) (a1 : Int) (a2 : Int) (a3 : Int) : Out (((Bool × Unit) × Unit) × (Unit × Unit)) :=
 .ite ((a0 == (1 : Int)))
 (.ite ((regV a1) == true)
 (.ite ((wordV a2) == true)
 (.ret (((((a3 == (0 : Int))), ()), ()), ((), ())))
 (.ret (((false, ()), ()), ((), ()))))
 (.ret (((false, ()), ()), ((), ()))))
 (.ite ((a0 == (2 : Int)))
 (.ite ((regV a1) == true)
 (.ite ((regV a2) == true)
 (.ret ((((regV a3), ()), ()), ((), ())))
 (.ret (((false, ()), ()), ((), ()))))
 (.ret (((false, ()), ()), ((), ()))))
 (.ite ((a0 == (3 : Int)))
 (.ite ((regV a1) == true)
 (.ite ((regV a2) == true)
 (.ret ((((regV a3), ()), ()), ((), ())))
 (.ret (((false, ()), ()), ((), ()))))
 (.ret (((false, ()), ()), ((), ()))))
 (.ite ((a0 == (4 : Int)))
 (.ite ((regV a1) == true)
 (.ite ((regV a2) == true)
 (.ret (((((a3 == (0 : Int))), ()), ()), ((), ())))
 (.ret (((false, ()), ()), ((), ()))))
 (.ret (((false, ()), ()), ((), ()))))
 (.ite ((a0 == (5 : Int)))
 (.ite ((regV a1) == true)
 (.ite ((regV a2) == true)
 (.ret (((((a3 == (0 : Int))), ()), ()), ((), ())))
 (.ret (((false, ()), ()), ((), ()))))
 (.ret (((false, ()), ()), ((), ()))))
 (.ite ((a0 == (6 : Int)))
 (.ite ((placeV a1) == true)
 (.ite (((a2 == (0 : Int))) == true)
 (.ret (((((a3 == (0 : Int))), ()), ()), ((), ())))
 (.ret (((false, ()), ()), ((), ()))))
 (.ret (((false, ()), ()), ((), ()))))
 (.ite ((a0 == (7 : Int)))
 (.ite ((regV a1) == true)
 (.ite ((placeV a2) == true)
 (.ret (((((a3 == (0 : Int))), ()), ()), ((), ())))
 (.ret (((false, ()), ()), ((), ()))))
 (.ret (((false, ()), ()), ((), ()))))
 (.ite ((a0 == (8 : Int)))
 (.ite ((inV a1 (1 : Int) (20 : Int)) == true)
 (.ite (((a2 == (0 : Int))) == true)
 (.ret (((((a3 == (0 : Int))), ()), ()), ((), ())))
 (.ret (((false, ()), ()), ((), ()))))
 (.ret (((false, ()), ()), ((), ()))))
 (.ret (((false, ()), ()), ((), ()))))))))))
def k62 : Con := { f := 62, lend := true, its := [⟨false, true, [.i .i64, .i .i64, .i .i64, .i .i64]⟩], lay := [none], rs := [⟨false, false, [.b]⟩], F := fun x => .ret ((((insOkV x.1.1 x.1.2.1 x.1.2.2.1 x.1.2.2.2.1), ()), ()), ((), ())) }
theorem f62_eq (x : itemsD k62.its) : bo [k144, k145, k146, k25] (fun _ => none) Tryz.f62 k62 [.tmp 2] x = f62_tree x.1.1 x.1.2.1 x.1.2.2.1 x.1.2.2.2.1 := by kernel_rfl
theorem f62_ok (hr : ∀ x : (Int × Int × Int × Int × Unit) × Unit, itemsWF k62.its x → (f62_tree x.1.1 x.1.2.1 x.1.2.2.1 x.1.2.2.2.1).eval = (k62.F x).eval) : k62.Ok Tryz.prog := con_fn [k144, k145, k146, k25] ⟨k144_ok, k145_ok, k146_ok, k25_ok, trivial⟩ f62_eq fun x hw _ hy => (hr x hw).trans hy
theorem k62_ok : k62.Ok Tryz.prog := by
  refine f62_ok fun x _ => ?_
  obtain ⟨⟨o, a, b, c, _⟩, _⟩ := x
  show (f62_tree o a b c).eval = some (((insOkV o a b c, ()), ()), ((), ()))
  unfold f62_tree insOkV placeV wordV
  simp only [Out.eval]
  cases (o == (1 : Int))
  rotate_left
  · cases regV a <;> cases inV b (-1000000) 1000000 <;> rfl
  cases (o == (2 : Int))
  rotate_left
  · cases regV a <;> cases regV b <;> cases regV c <;> rfl
  cases (o == (3 : Int))
  rotate_left
  · cases regV a <;> cases regV b <;> cases regV c <;> rfl
  cases (o == (4 : Int))
  rotate_left
  · cases regV a <;> cases regV b <;> rfl
  cases (o == (5 : Int))
  rotate_left
  · cases regV a <;> cases regV b <;> rfl
  cases (o == (6 : Int))
  rotate_left
  · cases inV a 0 40 <;> cases (b == (0 : Int)) <;> rfl
  cases (o == (7 : Int))
  rotate_left
  · cases regV a <;> cases inV b 0 40 <;> rfl
  cases (o == (8 : Int))
  · rfl
  · cases inV a 1 20 <;> cases (b == (0 : Int)) <;> rfl
def f61_tree (a0 : Int) (a1 : Int) (a2 : Int) (a3 : Int) : Out (((Bool × Unit) × Unit) × (Unit × Unit)) :=
 .ret ((((!(insOkV a0 a1 a2 a3)), ()), ()), ((), ()))
def insNotV (o a b c : Int) : Bool := !insOkV o a b c
def k61 : Con := { f := 61, lend := true, its := [⟨false, true, [.i .i64, .i .i64, .i .i64, .i .i64]⟩], lay := [none], rs := [⟨false, false, [.b]⟩], F := fun x => .ret ((((insNotV x.1.1 x.1.2.1 x.1.2.2.1 x.1.2.2.2.1), ()), ()), ((), ())) }
theorem f61_eq (x : itemsD k61.its) : bo [k62] (fun _ => none) Tryz.f61 k61 [.tmp 2] x = f61_tree x.1.1 x.1.2.1 x.1.2.2.1 x.1.2.2.2.1 := by kernel_rfl
theorem f61_ok (hr : ∀ x : (Int × Int × Int × Int × Unit) × Unit, itemsWF k61.its x → (f61_tree x.1.1 x.1.2.1 x.1.2.2.1 x.1.2.2.2.1).eval = (k61.F x).eval) : k61.Ok Tryz.prog := con_fn [k62] ⟨k62_ok, trivial⟩ f61_eq fun x hw _ hy => (hr x hw).trans hy
theorem k61_ok : k61.Ok Tryz.prog := f61_ok fun _ _ => rfl
def insOk1 (x : InsD) : Bool := insOkV x.1 x.2.1 x.2.2.1 x.2.2.2.1
def progOkV (l : List InsD) : Bool := decide (l.length ≤ 40) && l.all insOk1
abbrev f66_S0 := (List ((Int × Int × Int × Int × Unit)) × Int × Unit) × (Unit)
def f66_L0 : f66_S0 → Out (Round f66_S0 ((Unit) × (Unit)) ((Bool × Unit) × (Unit)))
| ((p0, p1, _), _) =>
 .ite (decide (p1 < ((List.length p0 : Nat) : Int)))
 (.ite (decide (0 ≤ p1))
 (.get (nth p0 (Int.toNat p1)) fun y1 =>
 .ite (!(insOkV y1.1 y1.2.1 y1.2.2.1 y1.2.2.2.1))
 (.ret (.ret ((false, ()), ())))
 (.ret (.again ((p0, (IntKind.i64.wrap (p1 + (1 : Int))), ()), ()))))
 .fail)
 (.ret (.out ((), ())))
def f66_tree (a0 : List (Int × Int × Int × Int × Unit)) : Out (((Bool × Unit) × Unit) × (Unit × Unit)) :=
 .ite (decide (((List.length a0 : Nat) : Int) > (40 : Int)))
 (.ret (((false, ()), ()), ((), ())))
 (.get (iter f66_L0 FUEL ((a0, (0 : Int), ()), ())) fun y1 => .alt y1 (fun y2 =>
 .ret (((true, ()), ()), ((), ()))) (fun y3 =>
 .ret (((y3.1.1, ()), ()), ((), ()))))
def f66_A : Nat → Option LoopAnn := fun n => annOf [(0, ⟨⟨[.ro tyN (some 0), .dead, .dead, .i .i64] ++ dd 15, []⟩, ⟨dd 19, []⟩, some ⟨[.dead, .dead, .b] ++ dd 16, []⟩, false⟩)] n
def k66 : Con := { f := 66, lend := true, its := [⟨false, false, [.ro tyN]⟩], lay := [none], rs := [⟨false, false, [.b]⟩], F := fun x => .ret ((((progOkV x.1.1), ()), ()), ((), ())) }
theorem f66_eq (x : itemsD k66.its) : bo [k148] f66_A Tryz.f66 k66 [.tmp 2] x = f66_tree x.1.1 := by kernel_rfl
theorem f66_ok (hr : ∀ x : (List (Int × Int × Int × Int × Unit) × Unit) × Unit, itemsWF k66.its x → (f66_tree x.1.1).eval = (k66.F x).eval) : k66.Ok Tryz.prog := con_fn [k148] ⟨k148_ok, trivial⟩ f66_eq fun x hw _ hy => (hr x hw).trans hy
theorem k66_ok : k66.Ok Tryz.prog := by
  refine f66_ok fun x hw => ?_
  obtain ⟨⟨a, _⟩, _⟩ := x
  have ha : a.length ≤ BIG := hw.1.1.1
  show (f66_tree a).eval = some (((progOkV a, ()), ()), ((), ()))
  unfold f66_tree progOkV
  have e2 : decide (((a.length : Nat) : Int) > (40 : Int)) = !decide (a.length ≤ 40) := gt_cast (m := 40)
  rw [e2]
  by_cases h1 : a.length ≤ 40
  · rw [eval_ite_f (by simp [h1]), decide_eq_true h1, Bool.true_and]
    have := all_loop (f := f66_L0) a insOk1 (fun i => ((a, (((i : Nat) : Int), ())), ())) (y := ((), ())) (z := ((false, ()), ()))
      (fun i hi hp => by
        have g1 := wrap_succ (i := i) (by omega)
        have hp : insOkV a[i].1 a[i].2.1 a[i].2.2.1 a[i].2.2.2.1 = true := hp
        simp [f66_L0, Out.eval, hi, g1, hp])
      (fun i hi hp => by
        have hp : insOkV a[i].1 a[i].2.1 a[i].2.2.1 a[i].2.2.2.1 = false := hp
        simp [f66_L0, Out.eval, hi, hp])
      (by simp [f66_L0, Out.eval]) ha
    refine (eval_get_some this).trans ?_
    cases a.all insOk1 <;> rfl
  · rw [eval_ite_t (by simp [h1]), decide_eq_false h1]; rfl
abbrev f143_S0 := (List ((Int × Int × Int × Int × Unit)) × Int × Int × Unit) × (Unit)
def f143_L0 : f143_S0 → Out (Round f143_S0 ((Unit) × (Unit)) ((Int × Unit) × (Unit)))
| ((p0, p1, p2, _), _) =>
 .ite (decide (p2 < p1))
 (.ite (decide (0 ≤ p2))
 (.get (nth p0 (Int.toNat p2)) fun y1 =>
 .ite (insNotV y1.1 y1.2.1 y1.2.2.1 y1.2.2.2.1)
 (.ret (.ret ((p2, ()), ())))
 (.ret (.again ((p0, p1, (IntKind.i64.wrap (p2 + (1 : Int))), ()), ()))))
 .fail)
 (.ret (.out ((), ())))
def f143_tree (a0 : List (Int × Int × Int × Int × Unit)) : Out (((Int × Unit) × Unit) × (Unit × Unit)) :=
 .get (iter f143_L0 FUEL ((a0, ((List.length a0 : Nat) : Int), (0 : Int), ()), ())) fun y1 => .alt y1 (fun y2 =>
 .ret ((((-1 : Int), ()), ()), ((), ()))) (fun y3 =>
 .ret (((y3.1.1, ()), ()), ((), ())))
def f143_A : Nat → Option LoopAnn := fun n => annOf [(0, ⟨⟨[.ro tyN (some 0), .fn 61 []] ++ dd 5 ++ [.i .i64, .i .i64] ++ dd 10, []⟩, ⟨dd 19, []⟩, some ⟨dd 4 ++ [.i .i64] ++ dd 14, []⟩, false⟩)] n
def indexInsV (a : List InsD) : Int := idxV (a.findIdx? fun x => !insOk1 x)
def k143 : Con := { f := 143, lend := true, its := [⟨false, false, [.ro tyN]⟩], lay := [none, some (61, 0)], rs := [⟨false, false, [.i .i64]⟩], F := fun x => .ret ((((indexInsV x.1.1), ()), ()), ((), ())) }
theorem f143_eq (x : itemsD k143.its) : bo [k61] f143_A Tryz.f143 k143 [.tmp 4] x = f143_tree x.1.1 := by kernel_rfl
theorem f143_ok (hr : ∀ x : (List (Int × Int × Int × Int × Unit) × Unit) × Unit, itemsWF k143.its x → (f143_tree x.1.1).eval = (k143.F x).eval) : k143.Ok Tryz.prog := con_fn [k61] ⟨k61_ok, trivial⟩ f143_eq fun x hw _ hy => (hr x hw).trans hy
theorem k143_ok : k143.Ok Tryz.prog := by
  refine f143_ok fun x hw => ?_
  obtain ⟨⟨a, _⟩, _⟩ := x
  have ha : a.length ≤ BIG := hw.1.1.1
  show (f143_tree a).eval = some (((indexInsV a, ()), ()), ((), ()))
  unfold f143_tree indexInsV
  have := idx_loop (f := f143_L0) a (fun x : InsD => !insOk1 x) (fun i => ((a, (((a.length : Nat) : Int), (((i : Nat) : Int), ()))), ())) (y := ((), ())) (z := fun i => ((((i : Nat) : Int), ()), ()))
    (fun i hi hp => by
      have g1 := wrap_succ (i := i) (by omega)
      have hp : insNotV a[i].1 a[i].2.1 a[i].2.2.1 a[i].2.2.2.1 = false := hp
      simp [f143_L0, Out.eval, hi, g1, hp])
    (fun i hi hp => by
      have hp : insNotV a[i].1 a[i].2.1 a[i].2.2.1 a[i].2.2.2.1 = true := hp
      simp [f143_L0, Out.eval, hi, hp])
    (by simp [f143_L0, Out.eval]) ha
  refine (eval_get_some this).trans ?_
  cases a.findIdx? (fun x : InsD => !insOk1 x) <;> rfl
def f60_tree (a0 : List (Int × Int × Int × Int × Unit)) : Out (((Bool × Unit) × Unit) × (Unit × Unit)) :=
 .ret ((((decide ((indexInsV a0) ≥ (0 : Int))), ()), ()), ((), ()))
def anyInsV (a : List InsD) : Bool := a.any fun x => !insOk1 x
def k60 : Con := { f := 60, lend := true, its := [⟨false, false, [.ro tyN]⟩], lay := [none, some (61, 0)], rs := [⟨false, false, [.b]⟩], F := fun x => .ret ((((anyInsV x.1.1), ()), ()), ((), ())) }
theorem f60_eq (x : itemsD k60.its) : bo [k143] (fun _ => none) Tryz.f60 k60 [.tmp 4] x = f60_tree x.1.1 := by kernel_rfl
theorem f60_ok (hr : ∀ x : (List (Int × Int × Int × Int × Unit) × Unit) × Unit, itemsWF k60.its x → (f60_tree x.1.1).eval = (k60.F x).eval) : k60.Ok Tryz.prog := con_fn [k143] ⟨k143_ok, trivial⟩ f60_eq fun x hw _ hy => (hr x hw).trans hy
theorem k60_ok : k60.Ok Tryz.prog := by
  refine f60_ok fun x _ => ?_
  obtain ⟨⟨a, _⟩, _⟩ := x
  show (f60_tree a).eval = some (((anyInsV a, ()), ()), ((), ()))
  unfold f60_tree anyInsV indexInsV
  rw [idxV_ge]
  rfl
def f28_tree (a0 : List (Int × Int × Int × Int × Unit)) : Out (((Bool × Unit) × Unit) × (Unit × Unit)) :=
 .ite ((decide (((List.length a0 : Nat) : Int) ≤ (40 : Int))) == true)
 (.ret ((((!(anyInsV a0)), ()), ()), ((), ())))
 (.ret (((false, ()), ()), ((), ())))
def k28 : Con := { f := 28, lend := true, its := [⟨false, false, [.ro tyN]⟩], lay := [none], rs := [⟨false, false, [.b]⟩], F := fun x => .ret ((((progOkV x.1.1), ()), ()), ((), ())) }
theorem f28_eq (x : itemsD k28.its) : bo [k60] (fun _ => none) Tryz.f28 k28 [.tmp 2] x = f28_tree x.1.1 := by kernel_rfl
theorem f28_ok (hr : ∀ x : (List (Int × Int × Int × Int × Unit) × Unit) × Unit, itemsWF k28.its x → (f28_tree x.1.1).eval = (k28.F x).eval) : k28.Ok Tryz.prog := con_fn [k60] ⟨k60_ok, trivial⟩ f28_eq fun x hw _ hy => (hr x hw).trans hy
theorem k28_ok : k28.Ok Tryz.prog := by
  refine f28_ok fun x _ => ?_
  obtain ⟨⟨a, _⟩, _⟩ := x
  show (f28_tree a).eval = some (((progOkV a, ()), ()), ((), ()))
  unfold f28_tree progOkV
  have e2 : decide (((a.length : Nat) : Int) ≤ (40 : Int)) = decide (a.length ≤ 40) := le_cast (m := 40)
  have e4 : a.all insOk1 = !anyInsV a := (not_any a _).symm
  rw [e2, e4]
  by_cases h1 : a.length ≤ 40 <;> simp [Out.eval, h1]
end Go.Proofs.YtnnpnkegpkladaaGreat.Dm
