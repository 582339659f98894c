/- Functions of the program, and what they compute. -/
import Derived.Test.YtcpjdjgipmjhdaaGreatA11
namespace Go.Proofs.YtcpjdjgipmjhdaaGreat.Dm
open Go Go.ChangeShapes Go.WideShapes Go.ChangeAt Go.RowKit
abbrev InsD := Int × (Int × (Int × (Int × Unit)))
def regV (n : Int) : Bool := decide (0 ≤ n) && decide (n < 4)
def placeV (n : Int) : Bool := inV n 0 40
def f104_tree (a0 : Int) : Out (((Bool × Unit) × Unit) × (Unit × Unit)) :=
 .ite ((decide (a0 ≥ (0 : Int))) == true)
 (.ret ((((decide (a0 < (4 : Int))), ()), ()), ((), ())))
 (.ret (((false, ()), ()), ((), ())))
def k104 : Con := { f := 104, lend := true, its := [⟨false, false, [.i .i64]⟩], lay := [none], rs := [⟨false, false, [.b]⟩], F := fun x => .ret ((((regV x.1.1), ()), ()), ((), ())) }
theorem f104_eq (x : itemsD k104.its) : bo [] (fun _ => none) Tryz.f104 k104 [.tmp 2] x = f104_tree x.1.1 := by kernel_rfl
theorem f104_ok (hr : ∀ x : (Int × Unit) × Unit, itemsWF k104.its x → (f104_tree x.1.1).eval = (k104.F x).eval) : k104.Ok Tryz.prog := con_fn [] trivial f104_eq fun x hw _ hy => (hr x hw).trans hy
theorem k104_ok : k104.Ok Tryz.prog := by
  refine f104_ok fun x _ => ?_
  obtain ⟨⟨n, _⟩, _⟩ := x
  show (f104_tree n).eval = some (((regV n, ()), ()), ((), ()))
  unfold f104_tree regV
  by_cases h1 : 0 ≤ n <;> simp [Out.eval, h1]
def f141_tree (a0 : Int) : Out (((Bool × Unit) × Unit) × (Unit × Unit)) :=
 .ret ((((inV a0 (0 : Int) (3 : Int)), ()), ()), ((), ()))
def k141 : Con := { f := 141, lend := true, its := [⟨false, false, [.i .i64]⟩], lay := [none], rs := [⟨false, false, [.b]⟩], F := fun x => .ret ((((regV x.1.1), ()), ()), ((), ())) }
theorem f141_eq (x : itemsD k141.its) : bo [k88] (fun _ => none) Tryz.f141 k141 [.tmp 2] x = f141_tree x.1.1 := by kernel_rfl
theorem f141_ok (hr : ∀ x : (Int × Unit) × Unit, itemsWF k141.its x → (f141_tree x.1.1).eval = (k141.F x).eval) : k141.Ok Tryz.prog := con_fn [k88] ⟨k88_ok, trivial⟩ f141_eq fun x hw _ hy => (hr x hw).trans hy
theorem k141_ok : k141.Ok Tryz.prog := by
  refine f141_ok fun x _ => ?_
  obtain ⟨⟨n, _⟩, _⟩ := x
  show (f141_tree n).eval = some (((regV n, ()), ()), ((), ()))
  have h4 : decide (n ≤ 3) = decide (n < 4) := by rw [Bool.eq_iff_iff]; simp; omega
  unfold f141_tree regV inV
  rw [h4]; rfl
def f142_tree (a0 : Int) : Out (((Bool × Unit) × Unit) × (Unit × Unit)) :=
 .ret ((((inV a0 (0 : Int) (40 : Int)), ()), ()), ((), ()))
def k142 : Con := { f := 142, lend := true, its := [⟨false, false, [.i .i64]⟩], lay := [none], rs := [⟨false, false, [.b]⟩], F := fun x => .ret ((((placeV x.1.1), ()), ()), ((), ())) }
theorem f142_eq (x : itemsD k142.its) : bo [k88] (fun _ => none) Tryz.f142 k142 [.tmp 2] x = f142_tree x.1.1 := by kernel_rfl
theorem f142_ok (hr : ∀ x : (Int × Unit) × Unit, itemsWF k142.its x → (f142_tree x.1.1).eval = (k142.F x).eval) : k142.Ok Tryz.prog := con_fn [k88] ⟨k88_ok, trivial⟩ f142_eq fun x hw _ hy => (hr x hw).trans hy
theorem k142_ok : k142.Ok Tryz.prog := f142_ok fun _ _ => rfl
def insOkV (o a b c : Int) : Bool :=
  bif o == 1 then regV a && (inV b (-1000000) 1000000 && (c == 0)) else
  bif o == 2 then regV a && (regV b && regV c) else
  bif o == 3 then regV a && (regV b && regV c) else
  bif o == 4 then regV a && (regV b && (c == 0)) else
  bif o == 5 then regV a && (regV b && (c == 0)) else
  bif o == 6 then inV a 0 40 && ((b == 0) && (c == 0)) else
  bif o == 7 then regV a && (inV b 0 40 && (c == 0)) else
  bif o == 8 then inV a 1 20 && ((b == 0) && (c == 0)) else false
theorem zero_eq (n : Int) : ((0 : Int) == n) = (n == 0) := by
  rw [Bool.eq_iff_iff]; simp only [beq_iff_eq]; omega
def f74_tree (a0 : Int) (a1 : Int) (a2 : Int) (a3 : Int) : Out (((Bool × Unit) × Unit) × (Unit × Unit)) :=
 .ite ((a0 == (1 : Int)))
 (.ite ((regV a1) == true)
 (.ite ((inV a2 (-1000000 : Int) (1000000 : Int)) == true)
 (.ret (((((a0 == a0) && ((a1 == a1) && ((a2 == a2) && (((0 : Int) == a3) && true)))), ()), ()), ((), ())))
 (.ret (((false, ()), ()), ((), ()))))
 (.ret (((false, ()), ()), ((), ()))))
 (.ite ((a0 == (2 : Int)))
 (.ite ((regV a1) == true)
 (.ite ((regV a2) == true)
 (.ite ((regV a3) == true)
 (.ret (((((a0 == a0) && ((a1 == a1) && ((a2 == a2) && ((a3 == a3) && true)))), ()), ()), ((), ())))
 (.ret (((false, ()), ()), ((), ()))))
 (.ret (((false, ()), ()), ((), ()))))
 (.ret (((false, ()), ()), ((), ()))))
 (.ite ((a0 == (3 : Int)))
 (.ite ((regV a1) == true)
 (.ite ((regV a2) == true)
 (.ite ((regV a3) == true)
 (.ret (((((a0 == a0) && ((a1 == a1) && ((a2 == a2) && ((a3 == a3) && true)))), ()), ()), ((), ())))
 (.ret (((false, ()), ()), ((), ()))))
 (.ret (((false, ()), ()), ((), ()))))
 (.ret (((false, ()), ()), ((), ()))))
 (.ite ((a0 == (4 : Int)))
 (.ite ((regV a1) == true)
 (.ite ((regV a2) == true)
 (.ret (((((a0 == a0) && ((a1 == a1) && ((a2 == a2) && (((0 : Int) == a3) && true)))), ()), ()), ((), ())))
 (.ret (((false, ()), ()), ((), ()))))
 (.ret (((false, ()), ()), ((), ()))))
 (.ite ((a0 == (5 : Int)))
 (.ite ((regV a1) == true)
 (.ite ((regV a2) == true)
 (.ret (((((a0 == a0) && ((a1 == a1) && ((a2 == a2) && (((0 : Int) == a3) && true)))), ()), ()), ((), ())))
 (.ret (((false, ()), ()), ((), ()))))
 (.ret (((false, ()), ()), ((), ()))))
 (.ite ((a0 == (6 : Int)))
 (.ite ((inV a1 (0 : Int) (40 : Int)) == true)
 (.ret (((((a0 == a0) && ((a1 == a1) && (((0 : Int) == a2) && (((0 : Int) == a3) && true)))), ()), ()), ((), ())))
 (.ret (((false, ()), ()), ((), ()))))
 (.ite ((a0 == (7 : Int)))
 (.ite ((regV a1) == true)
 (.ite ((inV a2 (0 : Int) (40 : Int)) == true)
 (.ret (((((a0 == a0) && ((a1 == a1) && ((a2 == a2) && (((0 : Int) == a3) && true)))), ()), ()), ((), ())))
 (.ret (((false, ()), ()), ((), ()))))
 (.ret (((false, ()), ()), ((), ()))))
 (.ite ((a0 == (8 : Int)))
 (.ite ((inV a1 (1 : Int) (20 : Int)) == true)
 (.ret (((((a0 == a0) && ((a1 == a1) && (((0 : Int) == a2) && (((0 : Int) == a3) && true)))), ()), ()), ((), ())))
 (.ret (((false, ()), ()), ((), ()))))
 (.ret (((false, ()), ()), ((), ()))))))))))
def k74 : Con := { f := 74, lend := true, its := [⟨false, true, [.i .i64, .i .i64, .i .i64, .i .i64]⟩], lay := [none], rs := [⟨false, false, [.b]⟩], F := fun x => .ret ((((insOkV x.1.1 x.1.2.1 x.1.2.2.1 x.1.2.2.2.1), ()), ()), ((), ())) }
theorem f74_eq (x : itemsD k74.its) : bo [k104, k70] (fun _ => none) Tryz.f74 k74 [.tmp 2] x = f74_tree x.1.1 x.1.2.1 x.1.2.2.1 x.1.2.2.2.1 := by kernel_rfl
theorem f74_ok (hr : ∀ x : (Int × Int × Int × Int × Unit) × Unit, itemsWF k74.its x → (f74_tree x.1.1 x.1.2.1 x.1.2.2.1 x.1.2.2.2.1).eval = (k74.F x).eval) : k74.Ok Tryz.prog := con_fn [k104, k70] ⟨k104_ok, k70_ok, trivial⟩ f74_eq fun x hw _ hy => (hr x hw).trans hy
theorem k74_ok : k74.Ok Tryz.prog := by
  refine f74_ok fun x _ => ?_
  obtain ⟨⟨o, a, b, c, _⟩, _⟩ := x
  show (f74_tree o a b c).eval = some (((insOkV o a b c, ()), ()), ((), ()))
  unfold f74_tree insOkV
  simp only [Out.eval, zero_eq, beq_self_eq_true, Bool.true_and, Bool.and_true]
  cases (o == (1 : Int))
  rotate_left
  · cases regV a <;> cases inV b (-1000000) 1000000 <;> rfl
  cases (o == (2 : Int))
  rotate_left
  · cases regV a <;> cases regV b <;> cases regV c <;> rfl
  cases (o == (3 : Int))
  rotate_left
  · cases regV a <;> cases regV b <;> cases regV c <;> rfl
  cases (o == (4 : Int))
  rotate_left
  · cases regV a <;> cases regV b <;> rfl
  cases (o == (5 : Int))
  rotate_left
  · cases regV a <;> cases regV b <;> rfl
  cases (o == (6 : Int))
  rotate_left
  · cases inV a 0 40 <;> rfl
  cases (o == (7 : Int))
  rotate_left
  · cases regV a <;> cases inV b 0 40 <;> rfl
  cases (o == (8 : Int))
  · rfl
  · cases inV a 1 20 <;> rfl
def f116_tree (a0 : Int) (a1 : Int) (a2 : Int) (a3 : Int) : Out (((Bool × Unit) × Unit) × (Unit × Unit)) :=
 .ite ((a0 == (1 : Int)))
 (.ite ((regV a1) == true)
 (.ite ((wordV a2) == true)
 (.ret (((((a3 == (0 : Int))), ()), ()), ((), ())))
 (.ret (((false, ()), ()), ((), ()))))
 (.ret (((false, ()), ()), ((), ()))))
 (.ite ((a0 == (2 : Int)))
 (.ite ((regV a1) == true)
 (.ite ((regV a2) == true)
 (.ret ((((regV a3), ()), ()), ((), ())))
 (.ret (((false, ()), ()), ((), ()))))
 (.ret (((false, ()), ()), ((), ()))))
 (.ite ((a0 == (3 : Int)))
 (.ite ((regV a1) == true)
 (.ite ((regV a2) == true)
 (.ret ((((regV a3), ()), ()), ((), ())))
 (.ret (((false, ()), ()), ((), ()))))
 (.ret (((false, ()), ()), ((), ()))))
 (.ite ((a0 == (4 : Int)))
 (.ite ((regV a1) == true)
 (.ite ((regV a2) == true)
 (.ret (((((a3 == (0 : Int))), ()), ()), ((), ())))
 (.ret (((false, ()), ()), ((), ()))))
 (.ret (((false, ()), ()), ((), ()))))
 (.ite ((a0 == (5 : Int)))
 (.ite ((regV a1) == true)
 (.ite ((regV a2) == true)
 (.ret (((((a3 == (0 : Int))), ()), ()), ((), ())))
 (.ret (((false, ()), ()), ((), ()))))
 (.ret (((false, ()), ()), ((), ()))))
 (.ite ((a0 == (6 : Int)))
 (.ite ((placeV a1) == true)
 (.ite (((a2 == (0 : Int))) == true)
 (.ret (((((a3 == (0 : Int))), ()), ()), ((), ())))
 (.ret (((false, ()), ()), ((), ()))))
 (.ret (((false, ()), ()), ((), ()))))
 (.ite ((a0 == (7 : Int)))
 (.ite ((regV a1) == true)
 (.ite ((placeV a2) == true)
 (.ret (((((a3 == (0 : Int))), ()), ()), ((), ())))
 (.ret (((false, ()), ()), ((), ()))))
 (.ret (((false, ()), ()), ((), ()))))
 (.ite ((a0 == (8 : Int)))
 (.ite ((inV a1 (1 : Int) (20 : Int)) == true)
 (.ite (((a2 == (0 : Int))) == true)
 (.ret (((((a3 == (0 : Int))), ()), ()), ((), ())))
 (.ret (((false, ()), ()), ((), ()))))
 (.ret (((false, ()), ()), ((), ()))))
 (.ret (((false, ()), ()), ((), ()))))))))))
def k116 : Con := { f := 116, lend := true, its := [⟨false, true, [.i .i64, .i .i64, .i .i64, .i .i64]⟩], lay := [none], rs := [⟨false, false, [.b]⟩], F := fun x => .ret ((((insOkV x.1.1 x.1.2.1 x.1.2.2.1 x.1.2.2.2.1), ()), ()), ((), ())) }
theorem f116_eq (x : itemsD k116.its) : bo [k141, k119, k142, k88] (fun _ => none) Tryz.f116 k116 [.tmp 2] x = f116_tree x.1.1 x.1.2.1 x.1.2.2.1 x.1.2.2.2.1 := by kernel_rfl
theorem f116_ok (hr : ∀ x : (Int × Int × Int × Int × Unit) × Unit, itemsWF k116.its x → (f116_tree x.1.1 x.1.2.1 x.1.2.2.1 x.1.2.2.2.1).eval = (k116.F x).eval) : k116.Ok Tryz.prog := con_fn [k141, k119, k142, k88] ⟨k141_ok, k119_ok, k142_ok, k88_ok, trivial⟩ f116_eq fun x hw _ hy => (hr x hw).trans hy
theorem k116_ok : k116.Ok Tryz.prog := by
  refine f116_ok fun x _ => ?_
  obtain ⟨⟨o, a, b, c, _⟩, _⟩ := x
  show (f116_tree o a b c).eval = some (((insOkV o a b c, ()), ()), ((), ()))
  unfold f116_tree insOkV placeV wordV
  simp only [Out.eval]
  cases (o == (1 : Int))
  rotate_left
  · cases regV a <;> cases inV b (-1000000) 1000000 <;> rfl
  cases (o == (2 : Int))
  rotate_left
  · cases regV a <;> cases regV b <;> cases regV c <;> rfl
  cases (o == (3 : Int))
  rotate_left
  · cases regV a <;> cases regV b <;> cases regV c <;> rfl
  cases (o == (4 : Int))
  rotate_left
  · cases regV a <;> cases regV b <;> rfl
  cases (o == (5 : Int))
  rotate_left
  · cases regV a <;> cases regV b <;> rfl
  cases (o == (6 : Int))
  rotate_left
  · cases inV a 0 40 <;> cases (b == (0 : Int)) <;> rfl
  cases (o == (7 : Int))
  rotate_left
  · cases regV a <;> cases inV b 0 40 <;> rfl
  cases (o == (8 : Int))
  · rfl
  · cases inV a 1 20 <;> cases (b == (0 : Int)) <;> rfl
def f115_tree (a0 : Int) (a1 : Int) (a2 : Int) (a3 : Int) : Out (((Bool × Unit) × Unit) × (Unit × Unit)) :=
 .ret ((((!(insOkV a0 a1 a2 a3)), ()), ()), ((), ()))
def insNotV (o a b c : Int) : Bool := !insOkV o a b c
def k115 : Con := { f := 115, lend := true, its := [⟨false, true, [.i .i64, .i .i64, .i .i64, .i .i64]⟩], lay := [none], rs := [⟨false, false, [.b]⟩], F := fun x => .ret ((((insNotV x.1.1 x.1.2.1 x.1.2.2.1 x.1.2.2.2.1), ()), ()), ((), ())) }
theorem f115_eq (x : itemsD k115.its) : bo [k116] (fun _ => none) Tryz.f115 k115 [.tmp 2] x = f115_tree x.1.1 x.1.2.1 x.1.2.2.1 x.1.2.2.2.1 := by kernel_rfl
theorem f115_ok (hr : ∀ x : (Int × Int × Int × Int × Unit) × Unit, itemsWF k115.its x → (f115_tree x.1.1 x.1.2.1 x.1.2.2.1 x.1.2.2.2.1).eval = (k115.F x).eval) : k115.Ok Tryz.prog := con_fn [k116] ⟨k116_ok, trivial⟩ f115_eq fun x hw _ hy => (hr x hw).trans hy
theorem k115_ok : k115.Ok Tryz.prog := f115_ok fun _ _ => rfl
def insOk1 (x : InsD) : Bool := insOkV x.1 x.2.1 x.2.2.1 x.2.2.2.1
def progOkV (l : List InsD) : Bool := decide (l.length ≤ 40) && l.all insOk1
abbrev f46_S0 := (List ((Int × Int × Int × Int × Unit)) × Int × Unit) × (Unit)
def f46_L0 : f46_S0 → Out (Round f46_S0 ((Unit) × (Unit)) ((Bool × Unit) × (Unit)))
| ((p0, p1, _), _) =>
 .ite (decide (p1 < ((List.length p0 : Nat) : Int)))
 (.ite (decide (0 ≤ p1))
 (.get (nth p0 (Int.toNat p1)) fun y1 =>
 .ite (!(insOkV y1.1 y1.2.1 y1.2.2.1 y1.2.2.2.1))
 (.ret (.ret ((false, ()), ())))
 (.ret (.again ((p0, (IntKind.i64.wrap (p1 + (1 : Int))), ()), ()))))
 .fail)
 (.ret (.out ((), ())))
def f46_tree (a0 : List (Int × Int × Int × Int × Unit)) : Out (((Bool × Unit) × Unit) × (Unit × Unit)) :=
 .ite (decide (((List.length a0 : Nat) : Int) > (40 : Int)))
 (.ret (((false, ()), ()), ((), ())))
 (.get (iter f46_L0 FUEL ((a0, (0 : Int), ()), ())) fun y1 => .alt y1 (fun y2 =>
 .ret (((true, ()), ()), ((), ()))) (fun y3 =>
 .ret (((y3.1.1, ()), ()), ((), ()))))
def f46_A : Nat → Option LoopAnn := fun n => annOf [(0, { head := { t := [.ro tyN (some 0), .dead, .dead, .i .i64] ++ dd 15, v := [] }, out := { t := dd 19, v := [] }, ret := some { t := [.dead, .dead, .b] ++ dd 16, v := [] } })] n
def k46 : Con := { f := 46, lend := true, its := [⟨false, false, [.ro tyN]⟩], lay := [none], rs := [⟨false, false, [.b]⟩], F := fun x => .ret ((((progOkV x.1.1), ()), ()), ((), ())) }
theorem f46_eq (x : itemsD k46.its) : bo [k74] f46_A Tryz.f46 k46 [.tmp 2] x = f46_tree x.1.1 := by kernel_rfl
theorem f46_ok (hr : ∀ x : (List (Int × Int × Int × Int × Unit) × Unit) × Unit, itemsWF k46.its x → (f46_tree x.1.1).eval = (k46.F x).eval) : k46.Ok Tryz.prog := con_fn [k74] ⟨k74_ok, trivial⟩ f46_eq fun x hw _ hy => (hr x hw).trans hy
theorem k46_ok : k46.Ok Tryz.prog := by
  refine f46_ok fun x hw => ?_
  obtain ⟨⟨a, _⟩, _⟩ := x
  have ha : a.length ≤ BIG := hw.1.1.1
  show (f46_tree a).eval = some (((progOkV a, ()), ()), ((), ()))
  unfold f46_tree progOkV
  have e2 : decide (((a.length : Nat) : Int) > (40 : Int)) = !decide (a.length ≤ 40) := gt_cast (m := 40)
  rw [e2]
  by_cases h1 : a.length ≤ 40
  · rw [eval_ite_f (by simp [h1]), decide_eq_true h1, Bool.true_and]
    have := all_loop (f := f46_L0) a insOk1 (fun i => ((a, (((i : Nat) : Int), ())), ())) (y := ((), ())) (z := ((false, ()), ()))
      (fun i hi hp => by
        have g1 := wrap_succ (i := i) (by omega)
        have hp : insOkV a[i].1 a[i].2.1 a[i].2.2.1 a[i].2.2.2.1 = true := hp
        simp [f46_L0, Out.eval, hi, g1, hp])
      (fun i hi hp => by
        have hp : insOkV a[i].1 a[i].2.1 a[i].2.2.1 a[i].2.2.2.1 = false := hp
        simp [f46_L0, Out.eval, hi, hp])
      (by simp [f46_L0, Out.eval]) ha
    refine (eval_get_some this).trans ?_
    cases a.all insOk1 <;> rfl
  · rw [eval_ite_t (by simp [h1]), decide_eq_false h1]; rfl
abbrev f140_S0 := (List ((Int × Int × Int × Int × Unit)) × Int × Int × Unit) × (Unit)
def f140_L0 : f140_S0 → Out (Round f140_S0 ((Unit) × (Unit)) ((Int × Unit) × (Unit)))
| ((p0, p1, p2, _), _) =>
 .ite (decide (p2 < p1))
 (.ite (decide (0 ≤ p2))
 (.get (nth p0 (Int.toNat p2)) fun y1 =>
 .ite (insNotV y1.1 y1.2.1 y1.2.2.1 y1.2.2.2.1)
 (.ret (.ret ((p2, ()), ())))
 (.ret (.again ((p0, p1, (IntKind.i64.wrap (p2 + (1 : Int))), ()), ()))))
 .fail)
 (.ret (.out ((), ())))
def f140_tree (a0 : List (Int × Int × Int × Int × Unit)) : Out (((Int × Unit) × Unit) × (Unit × Unit)) :=
 .get (iter f140_L0 FUEL ((a0, ((List.length a0 : Nat) : Int), (0 : Int), ()), ())) fun y1 => .alt y1 (fun y2 =>
 .ret ((((-1 : Int), ()), ()), ((), ()))) (fun y3 =>
 .ret (((y3.1.1, ()), ()), ((), ())))
def f140_A : Nat → Option LoopAnn := fun n => annOf [(0, { head := { t := [.ro tyN (some 0), .fn 115 []] ++ dd 5 ++ [.i .i64, .i .i64] ++ dd 10, v := [] }, out := { t := dd 19, v := [] }, ret := some { t := dd 4 ++ [.i .i64] ++ dd 14, v := [] } })] n
def indexInsV (a : List InsD) : Int := idxV (a.findIdx? fun x => !insOk1 x)
def k140 : Con := { f := 140, lend := true, its := [⟨false, false, [.ro tyN]⟩], lay := [none, some (115, 0)], rs := [⟨false, false, [.i .i64]⟩], F := fun x => .ret ((((indexInsV x.1.1), ()), ()), ((), ())) }
theorem f140_eq (x : itemsD k140.its) : bo [k115] f140_A Tryz.f140 k140 [.tmp 4] x = f140_tree x.1.1 := by kernel_rfl
theorem f140_ok (hr : ∀ x : (List (Int × Int × Int × Int × Unit) × Unit) × Unit, itemsWF k140.its x → (f140_tree x.1.1).eval = (k140.F x).eval) : k140.Ok Tryz.prog := con_fn [k115] ⟨k115_ok, trivial⟩ f140_eq fun x hw _ hy => (hr x hw).trans hy
theorem k140_ok : k140.Ok Tryz.prog := by
  refine f140_ok fun x hw => ?_
  obtain ⟨⟨a, _⟩, _⟩ := x
  have ha : a.length ≤ BIG := hw.1.1.1
  show (f140_tree a).eval = some (((indexInsV a, ()), ()), ((), ()))
  unfold f140_tree indexInsV
  have := idx_loop (f := f140_L0) a (fun x : InsD => !insOk1 x) (fun i => ((a, (((a.length : Nat) : Int), (((i : Nat) : Int), ()))), ())) (y := ((), ())) (z := fun i => ((((i : Nat) : Int), ()), ()))
    (fun i hi hp => by
      have g1 := wrap_succ (i := i) (by omega)
      have hp : insNotV a[i].1 a[i].2.1 a[i].2.2.1 a[i].2.2.2.1 = false := hp
      simp [f140_L0, Out.eval, hi, g1, hp])
    (fun i hi hp => by
      have hp : insNotV a[i].1 a[i].2.1 a[i].2.2.1 a[i].2.2.2.1 = true := hp
      simp [f140_L0, Out.eval, hi, hp])
    (by simp [f140_L0, Out.eval]) ha
  refine (eval_get_some this).trans ?_
  cases a.findIdx? (fun x : InsD => !insOk1 x) <;> rfl
def f114_tree (a0 : List (Int × Int × Int × Int × Unit)) : Out (((Bool × Unit) × Unit) × (Unit × Unit)) :=
 .ret ((((decide ((indexInsV a0) ≥ (0 : Int))), ()), ()), ((), ()))
def anyInsV (a : List InsD) : Bool := a.any fun x => !insOk1 x
def k114 : Con := { f := 114, lend := true, its := [⟨false, false, [.ro tyN]⟩], lay := [none, some (115, 0)], rs := [⟨false, false, [.b]⟩], F := fun x => .ret ((((anyInsV x.1.1), ()), ()), ((), ())) }
theorem f114_eq (x : itemsD k114.its) : bo [k140] (fun _ => none) Tryz.f114 k114 [.tmp 4] x = f114_tree x.1.1 := by kernel_rfl
theorem f114_ok (hr : ∀ x : (List (Int × Int × Int × Int × Unit) × Unit) × Unit, itemsWF k114.its x → (f114_tree x.1.1).eval = (k114.F x).eval) : k114.Ok Tryz.prog := con_fn [k140] ⟨k140_ok, trivial⟩ f114_eq fun x hw _ hy => (hr x hw).trans hy
theorem k114_ok : k114.Ok Tryz.prog := by
  refine f114_ok fun x _ => ?_
  obtain ⟨⟨a, _⟩, _⟩ := x
  show (f114_tree a).eval = some (((anyInsV a, ()), ()), ((), ()))
  unfold f114_tree anyInsV indexInsV
  rw [idxV_ge]
  rfl
def f87_tree (a0 : List (Int × Int × Int × Int × Unit)) : Out (((Bool × Unit) × Unit) × (Unit × Unit)) :=
 .ite ((decide (((List.length a0 : Nat) : Int) ≤ (40 : Int))) == true)
 (.ret ((((!(anyInsV a0)), ()), ()), ((), ())))
 (.ret (((false, ()), ()), ((), ())))
def k87 : Con := { f := 87, lend := true, its := [⟨false, false, [.ro tyN]⟩], lay := [none], rs := [⟨false, false, [.b]⟩], F := fun x => .ret ((((progOkV x.1.1), ()), ()), ((), ())) }
theorem f87_eq (x : itemsD k87.its) : bo [k114] (fun _ => none) Tryz.f87 k87 [.tmp 2] x = f87_tree x.1.1 := by kernel_rfl
theorem f87_ok (hr : ∀ x : (List (Int × Int × Int × Int × Unit) × Unit) × Unit, itemsWF k87.its x → (f87_tree x.1.1).eval = (k87.F x).eval) : k87.Ok Tryz.prog := con_fn [k114] ⟨k114_ok, trivial⟩ f87_eq fun x hw _ hy => (hr x hw).trans hy
theorem k87_ok : k87.Ok Tryz.prog := by
  refine f87_ok fun x _ => ?_
  obtain ⟨⟨a, _⟩, _⟩ := x
  show (f87_tree a).eval = some (((progOkV a, ()), ()), ((), ()))
  unfold f87_tree progOkV
  have e2 : decide (((a.length : Nat) : Int) ≤ (40 : Int)) = decide (a.length ≤ 40) := le_cast (m := 40)
  have e4 : a.all insOk1 = !anyInsV a := (not_any a _).symm
  rw [e2, e4]
  by_cases h1 : a.length ≤ 40 <;> simp [Out.eval, h1]
def insD (a b c d : Int) : InsD := (a, (b, ((bif a == 1 then zagV c else c), (d, ()))))
def insL : List Int → InsD
  | [a, b, c, d] => insD a b c d
  | _ => (0, (0, (0, (0, ()))))
theorem four_of {l : List Int} (h : l.length = 4) : ∃ a b c d, l = [a, b, c, d] := by
  rcases l with _ | ⟨a, _ | ⟨b, _ | ⟨c, _ | ⟨d, _ | ⟨e, r⟩⟩⟩⟩⟩
  · exact nomatch h
  · exact nomatch h
  · exact nomatch h
  · exact nomatch h
  · exact ⟨a, b, c, d, rfl⟩
  · simp at h
def progL : Nat → Str → Bool → List InsD → List InsD × Str × Bool
  | 0, s, b, p => (p, s, b)
  | n + 1, s, b, p => progL n (numsV 4 s b).2.1 (numsV 4 s b).2.2 (p ++ [insL (numsV 4 s b).1])
abbrev f52_S0 := (Int × Int × Unit) × ((List UInt8 × Bool × Unit) × List ((Int × Int × Int × Int × Unit)) × Unit)
def f52_L0 : f52_S0 → Out (Round f52_S0 ((Unit) × ((List UInt8 × Bool × Unit) × List ((Int × Int × Int × Int × Unit)) × Unit)) Empty)
| ((p0, p1, _), (p2, p3, _), p4, _) =>
 .ite (decide (p1 < p0))
 (.ite (((numV p2 p3).1 == (1 : Int)))
 (.ite (decide (List.length p4 + List.length ([((numV p2 p3).1, (numV (numV p2 p3).2.1 (numV p2 p3).2.2).1, (zagV (numV (numV (numV p2 p3).2.1 (numV p2 p3).2.2).2.1 (numV (numV p2 p3).2.1 (numV p2 p3).2.2).2.2).1), (numV (numV (numV (numV p2 p3).2.1 (numV p2 p3).2.2).2.1 (numV (numV p2 p3).2.1 (numV p2 p3).2.2).2.2).2.1 (numV (numV (numV p2 p3).2.1 (numV p2 p3).2.2).2.1 (numV (numV p2 p3).2.1 (numV p2 p3).2.2).2.2).2.2).1, ())] : List ((Int × Int × Int × Int × Unit))) ≤ LIM))
 (.ret (.again ((p0, (IntKind.i64.wrap (p1 + (1 : Int))), ()), (((numV (numV (numV (numV p2 p3).2.1 (numV p2 p3).2.2).2.1 (numV (numV p2 p3).2.1 (numV p2 p3).2.2).2.2).2.1 (numV (numV (numV p2 p3).2.1 (numV p2 p3).2.2).2.1 (numV (numV p2 p3).2.1 (numV p2 p3).2.2).2.2).2.2).2.1, (numV (numV (numV (numV p2 p3).2.1 (numV p2 p3).2.2).2.1 (numV (numV p2 p3).2.1 (numV p2 p3).2.2).2.2).2.1 (numV (numV (numV p2 p3).2.1 (numV p2 p3).2.2).2.1 (numV (numV p2 p3).2.1 (numV p2 p3).2.2).2.2).2.2).2.2, ()), (p4 ++ ([((numV p2 p3).1, (numV (numV p2 p3).2.1 (numV p2 p3).2.2).1, (zagV (numV (numV (numV p2 p3).2.1 (numV p2 p3).2.2).2.1 (numV (numV p2 p3).2.1 (numV p2 p3).2.2).2.2).1), (numV (numV (numV (numV p2 p3).2.1 (numV p2 p3).2.2).2.1 (numV (numV p2 p3).2.1 (numV p2 p3).2.2).2.2).2.1 (numV (numV (numV p2 p3).2.1 (numV p2 p3).2.2).2.1 (numV (numV p2 p3).2.1 (numV p2 p3).2.2).2.2).2.2).1, ())] : List ((Int × Int × Int × Int × Unit)))), ()))))
 .fail)
 (.ite (decide (List.length p4 + List.length ([((numV p2 p3).1, (numV (numV p2 p3).2.1 (numV p2 p3).2.2).1, (numV (numV (numV p2 p3).2.1 (numV p2 p3).2.2).2.1 (numV (numV p2 p3).2.1 (numV p2 p3).2.2).2.2).1, (numV (numV (numV (numV p2 p3).2.1 (numV p2 p3).2.2).2.1 (numV (numV p2 p3).2.1 (numV p2 p3).2.2).2.2).2.1 (numV (numV (numV p2 p3).2.1 (numV p2 p3).2.2).2.1 (numV (numV p2 p3).2.1 (numV p2 p3).2.2).2.2).2.2).1, ())] : List ((Int × Int × Int × Int × Unit))) ≤ LIM))
 (.ret (.again ((p0, (IntKind.i64.wrap (p1 + (1 : Int))), ()), (((numV (numV (numV (numV p2 p3).2.1 (numV p2 p3).2.2).2.1 (numV (numV p2 p3).2.1 (numV p2 p3).2.2).2.2).2.1 (numV (numV (numV p2 p3).2.1 (numV p2 p3).2.2).2.1 (numV (numV p2 p3).2.1 (numV p2 p3).2.2).2.2).2.2).2.1, (numV (numV (numV (numV p2 p3).2.1 (numV p2 p3).2.2).2.1 (numV (numV p2 p3).2.1 (numV p2 p3).2.2).2.2).2.1 (numV (numV (numV p2 p3).2.1 (numV p2 p3).2.2).2.1 (numV (numV p2 p3).2.1 (numV p2 p3).2.2).2.2).2.2).2.2, ()), (p4 ++ ([((numV p2 p3).1, (numV (numV p2 p3).2.1 (numV p2 p3).2.2).1, (numV (numV (numV p2 p3).2.1 (numV p2 p3).2.2).2.1 (numV (numV p2 p3).2.1 (numV p2 p3).2.2).2.2).1, (numV (numV (numV (numV p2 p3).2.1 (numV p2 p3).2.2).2.1 (numV (numV p2 p3).2.1 (numV p2 p3).2.2).2.2).2.1 (numV (numV (numV p2 p3).2.1 (numV p2 p3).2.2).2.1 (numV (numV p2 p3).2.1 (numV p2 p3).2.2).2.2).2.2).1, ())] : List ((Int × Int × Int × Int × Unit)))), ()))))
 .fail))
 (.ret (.out ((), ((p2, p3, ()), p4, ()))))
def f52_tree (a0 : List UInt8) (a1 : Bool) : Out (((List (Int × Int × Int × Int × Unit) × Unit) × Unit) × ((List UInt8 × Bool × Unit) × Unit)) :=
 .get (iter1 f52_L0 FUEL (((manyV a0 a1 (40 : Int)).1, (0 : Int), ()), (((manyV a0 a1 (40 : Int)).2.1, (manyV a0 a1 (40 : Int)).2.2, ()), ([] : List ((Int × Int × Int × Int × Unit))), ()))) fun y1 =>
 .ite (y1.2.1.2.1 == false)
 (.ret (((y1.2.2.1, ()), ()), ((y1.2.1.1, (!(progOkV y1.2.2.1)), ()), ())))
 (.ret (((y1.2.2.1, ()), ()), ((y1.2.1.1, true, ()), ())))
def f52_A : Nat → Option LoopAnn := fun n => annOf [(0, { head := { t := [.vptr 0 0, .dead, .dead, .srf 64000000, .dead, .dead, .i .i64, .i .i64] ++ dd 38, v := [(0, .var [.s, .b]), (64000000, .arr tyN)] }, out := { t := [.vptr 0 0, .dead, .dead, .srf 64000256] ++ dd 42, v := [(0, .var [.s, .b]), (64000256, .arr tyN)] }, ret := none })] n
def progV (s : Str) (bad : Bool) : List InsD × Str × Bool := match progL (manyV s bad 40).1.toNat (manyV s bad 40).2.1 (manyV s bad 40).2.2 [] with
  | (p, r, b) => (p, r, b || !progOkV p)
def k52 : Con := { f := 52, lend := true, its := [⟨true, false, [.s, .b]⟩], lay := [none], rs := [⟨false, false, [.own tyN]⟩], F := fun x => .ret ((((progV x.1.1 x.1.2.1).1, ()), ()), (((progV x.1.1 x.1.2.1).2.1, (progV x.1.1 x.1.2.1).2.2, ()), ())) }
theorem f52_eq (x : itemsD k52.its) : bo [k51, k50, k86, k87] f52_A Tryz.f52 k52 [.tmp 2] x = f52_tree x.1.1 x.1.2.1 := by kernel_rfl
theorem f52_ok (hr : ∀ x : (List UInt8 × Bool × Unit) × Unit, itemsWF k52.its x → (f52_tree x.1.1 x.1.2.1).eval = (k52.F x).eval) : k52.Ok Tryz.prog := con_fn [k51, k50, k86, k87] ⟨k51_ok, k50_ok, k86_ok, k87_ok, trivial⟩ f52_eq fun x hw _ hy => (hr x hw).trans hy
theorem k52_ok : k52.Ok Tryz.prog := by
  refine f52_ok fun x _ => ?_
  obtain ⟨⟨s, b, _⟩, _⟩ := x
  show (f52_tree s b).eval = some ((((progV s b).1, ()), ()), (((progV s b).2.1, ((progV s b).2.2, ())), ()))
  unfold f52_tree progV
  have hb := manyV_le s b 40 (by omega)
  obtain ⟨n, hn⟩ := Int.eq_ofNat_of_zero_le hb.1
  rw [hn] at hb ⊢
  rw [Int.toNat_natCast]
  have key : ∀ (m j N : Nat) (s : Str) (b : Bool) (p : List InsD), j + m = n → m < N → p.length = j → iter1 f52_L0 N ((((n : Nat) : Int), (((j : Nat) : Int), ())), ((s, (b, ())), (p, ()))) =
      some ((), (((progL m s b p).2.1, ((progL m s b p).2.2, ())), ((progL m s b p).1, ()))) := by
    intro m
    induction m with
    | zero =>
      intro j N s b p hj hN hp
      have w3 : decide (((j : Nat) : Int) < ((n : Nat) : Int)) = false := decide_eq_false (by omega)
      refine iter1_out' ?_ hN
      exact (eval_ite_f w3).trans rfl
    | succ m ih =>
      intro j N s b p hj hN hp
      have w3 : decide (((j : Nat) : Int) < ((n : Nat) : Int)) = true := decide_eq_true (by omega)
      have g6 := wrap_succ (i := j) (by unfold BIG; omega)
      have g8 : ∀ z : InsD, decide (p.length + ([z] : List InsD).length ≤ LIM) = true := fun z => decide_eq_true (by rw [LIM_eq]; simp; omega)
      obtain ⟨N, rfl⟩ : ∃ N', N = N' + 1 := ⟨N - 1, by omega⟩
      rw [iter1_again (x' := ((((n : Nat) : Int), (((j + 1 : Nat) : Int), ())), (((numsV 4 s b).2.1, ((numsV 4 s b).2.2, ())), (p ++ [insL (numsV 4 s b).1], ()))))]
      · exact ih (j + 1) N _ _ _ (by omega) (by omega) (by simp; omega)
      · refine (eval_ite_t w3).trans ?_
        have e : insL (numsV 4 s b).1 = ((numV s b).1, ((numV (numV s b).2.1 (numV s b).2.2).1, ((bif (numV s b).1 == 1 then zagV (numV (numV (numV s b).2.1 (numV s b).2.2).2.1 (numV (numV s b).2.1 (numV s b).2.2).2.2).1 else (numV (numV (numV s b).2.1 (numV s b).2.2).2.1 (numV (numV s b).2.1 (numV s b).2.2).2.2).1), ((numV (numV (numV (numV s b).2.1 (numV s b).2.2).2.1 (numV (numV s b).2.1 (numV s b).2.2).2.2).2.1 (numV (numV (numV s b).2.1 (numV s b).2.2).2.1 (numV (numV s b).2.1 (numV s b).2.2).2.2).2.2).1, ())))) := rfl
        rw [e]
        cases h1 : ((numV s b).1 == (1 : Int))
        · rw [← g6]; exact (eval_ite_f rfl).trans ((eval_ite_t (g8 _)).trans rfl)
        · rw [← g6]; exact (eval_ite_t rfl).trans ((eval_ite_t (g8 _)).trans rfl)
  have hk := key n 0 FUEL (manyV s b 40).2.1 (manyV s b 40).2.2 [] (by omega) (Nat.lt_of_le_of_lt (show n ≤ 40 by omega) (by decide)) rfl
  refine (eval_get_some hk).trans ?_
  generalize progL n (manyV s b 40).2.1 (manyV s b 40).2.2 [] = r
  obtain ⟨p, r, c⟩ := r
  cases c <;> rfl
end Go.Proofs.YtcpjdjgipmjhdaaGreat.Dm
