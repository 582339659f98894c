/- f -/
import Derived.Test.YtnnpnkegpkladaaGreatL2
namespace Go.Proofs.YtnnpnkegpkladaaGreat.Dm
set_option linter.all false
open Go Go.ChangeShapes Go.WideShapes Go.ChangeAt Go.RowKit
theorem beq3 (k : Int) : (k.tmod 3 == 0) = decide (k.tmod 3 = 0) := by rw [Bool.eq_iff_iff]; simp
abbrev f120_S0 := (Int × Int × Unit) × (List (Bool) × Unit)
def f120_L0 : f120_S0 → Out (Round f120_S0 ((Int × Unit) × (List (Bool) × Unit)) Empty)
| ((p0, p1, _), p2, _) =>
 .ite (decide (p1 < ((List.length p2 : Nat) : Int)))
 (.ite ((3 : Int) == 0)
 .fail
 (.ite (decide (0 ≤ p1 ∧ p1 < ((List.length p2 : Nat) : Int)))
 (.get (nth p2 (Int.toNat p1)) fun y1 =>
 .ret (.again (((IntKind.i64.wrap (p0 + (1 : Int))), (IntKind.i64.wrap (p1 + (1 : Int))), ()), ((List.set p2 (Int.toNat p1) (((Int.tmod p0 (3 : Int)) == (0 : Int)))), ()))))
 .fail))
 (.ret (.out ((p0, ()), (p2, ()))))
def f120_tree (a0 : List Bool) (a1 : Int) : Out (((Int × Unit) × Unit) × ((List Bool × Unit) × Unit × Unit)) :=
 .get (iter1 f120_L0 FUEL ((a1, (0 : Int), ()), (a0, ()))) fun y1 =>
 .ret (((y1.1.1, ()), ()), ((y1.2.1, ()), (), ()))
def f120_A : Nat → Option LoopAnn := fun n => annOf [(0, ⟨⟨[.srf 0, .i .i64, .dead, .dead, .dead, .i .i64] ++ dd 15, [(0, .arr .bool)]⟩, ⟨[.srf 0, .i .i64] ++ dd 19, [(0, .arr .bool)]⟩, none, false⟩)] n
def markBoolSV (a0 : List Bool) (k : Int) : Option (Int × (List Bool)) := mkP (mkcBoolS a0) k (mkdBoolS (k) a0)
def k120 : Con := { f := 120, lend := true, its := [⟨false, false, [.mut .bool]⟩, ⟨false, false, [.i .i64]⟩], lay := [none, none], rs := [⟨false, false, [.i .i64]⟩], F := fun x => .get (markBoolSV x.1.1 x.2.1.1) fun y => .ret (((y.1, ()), ()), ((y.2, ()), (), ())) }
theorem f120_eq (x : itemsD k120.its) : bo [] f120_A Tryz.f120 k120 [.tmp 4] x = f120_tree x.1.1 x.2.1.1 := by kernel_rfl
theorem f120_okp (hr : ∀ x : (List Bool × Unit) × (Int × Unit) × Unit, itemsWF k120.its x → ∀ y, (k120.F x).eval = some y → (f120_tree x.1.1 x.2.1.1).eval = some y) : k120.Ok Tryz.prog := con_fn [] trivial f120_eq hr
theorem k120_ok : k120.Ok Tryz.prog := by
 refine f120_okp fun x hw y hy => ?_
 obtain ⟨⟨a0, _⟩, ⟨k, _⟩, _⟩ := x
 change (Out.get (markBoolSV a0 k) fun y => Out.ret (((y.1, ()), ()), ((y.2, ()), (), ()))).eval = some y at hy
 obtain ⟨h0, h1, hy⟩ := mkP_get hy
 refine Eq.trans ?_ hy
 show (f120_tree a0 k).eval = _
 unfold f120_tree
 have ha : a0.length ≤ BIG := hw.1.1.1
 have := mk_loop (f := f120_L0) a0 mkcBool mkdBool (fun k l i => ((k, (((i : Nat) : Int), ())), (l, ()))) (fun k l => ((k, ()), (l, ())))
  (fun i hi k l hl h3 h0 hk => by
   have h1 := wrap_succ (i := i) (by omega)
   have h2 : i < l.length := by omega
   have h4 : l[i] = a0[i] := by rw [List.getElem?_eq_getElem h2] at h3; exact Option.some.inj h3
   have w1 : IntKind.i64.wrap (k + 1) = k + 1 := wrap1 (by omega) (by omega)
   simp [f120_L0, Out.eval, h1, h2, h3, h4, hl, hi, mkcBool, mkdBool, mkdBool, beq3, w1] <;> omega)
  (fun k l hl => by simp [f120_L0, Out.eval, hl]) ha h0 h1
 refine (eval_get_some this).trans ?_
 rfl
abbrev f217_S0 := (Int × Int × Unit) × (List (List Int) × Unit)
def f217_L0 : f217_S0 → Out (Round f217_S0 ((Int × Unit) × (List (List Int) × Unit)) Empty)
| ((p0, p1, _), p2, _) =>
 .ite (decide (p1 < ((List.length p2 : Nat) : Int)))
 (.ite (decide (0 ≤ p1 ∧ p1 < ((List.length p2 : Nat) : Int)))
 (.get (nth p2 (Int.toNat p1)) fun y1 =>
 .get (markIntSV y1 p0) fun y2 =>
 .ret (.again ((y2.1, (IntKind.i64.wrap (p1 + (1 : Int))), ()), ((List.set p2 (Int.toNat p1) y2.2), ()))))
 .fail)
 (.ret (.out ((p0, ()), (p2, ()))))
def f217_tree (a0 : List (List Int)) (a1 : Int) : Out (((Int × Unit) × Unit) × ((List (List Int) × Unit) × Unit × Unit)) :=
 .get (iter1 f217_L0 FUEL ((a1, (0 : Int), ()), (a0, ()))) fun y1 =>
 .ret (((y1.1.1, ()), ()), ((y1.2.1, ()), (), ()))
abbrev f217_s0 : List (Nat × VSlot) := [(0, .arr (.sl (.int .i64)))]
def f217_A : Nat → Option LoopAnn := fun n => annOf [(0, ⟨⟨[.srf 0, .i .i64, .dead, .dead, .dead, .i .i64] ++ dd 13, f217_s0⟩, ⟨[.srf 0, .i .i64] ++ dd 17, f217_s0⟩, none, false⟩)] n
def markIntSSV (a0 : List (List Int)) (k : Int) : Option (Int × (List (List Int))) := mkP (mkcIntSS a0) k (mkdIntSS (k) a0)
def k217 : Con := { f := 217, lend := true, its := [⟨false, false, [.mut (.sl (.int .i64))]⟩, ⟨false, false, [.i .i64]⟩], lay := [none, none], rs := [⟨false, false, [.i .i64]⟩], F := fun x => .get (markIntSSV x.1.1 x.2.1.1) fun y => .ret (((y.1, ()), ()), ((y.2, ()), (), ())) }
theorem f217_eq (x : itemsD k217.its) : bo [k119] f217_A Tryz.f217 k217 [.tmp 4] x = f217_tree x.1.1 x.2.1.1 := by kernel_rfl
theorem f217_okp (hr : ∀ x : (List (List Int) × Unit) × (Int × Unit) × Unit, itemsWF k217.its x → ∀ y, (k217.F x).eval = some y → (f217_tree x.1.1 x.2.1.1).eval = some y) : k217.Ok Tryz.prog := con_fn [k119] ⟨k119_ok, trivial⟩ f217_eq hr
theorem k217_ok : k217.Ok Tryz.prog := by
 refine f217_okp fun x hw y hy => ?_
 obtain ⟨⟨a0, _⟩, ⟨k, _⟩, _⟩ := x
 change (Out.get (markIntSSV a0 k) fun y => Out.ret (((y.1, ()), ()), ((y.2, ()), (), ()))).eval = some y at hy
 obtain ⟨h0, h1, hy⟩ := mkP_get hy
 refine Eq.trans ?_ hy
 show (f217_tree a0 k).eval = _
 unfold f217_tree
 have ha : a0.length ≤ BIG := hw.1.1.1
 have := mk_loop (f := f217_L0) a0 mkcIntS mkdIntS (fun k l i => ((k, (((i : Nat) : Int), ())), (l, ()))) (fun k l => ((k, ()), (l, ())))
  (fun i hi k l hl h3 h0 hk => by
   have h1 := wrap_succ (i := i) (by omega)
   have h2 : i < l.length := by omega
   have h4 : l[i] = a0[i] := by rw [List.getElem?_eq_getElem h2] at h3; exact Option.some.inj h3
   have w1 : markIntSV a0[i] (k) = some (k + (mkcIntS a0[i] : Nat), mkdIntS (k) a0[i]) := mkP_in (by omega) (by omega)
   simp [f217_L0, Out.eval, h1, h2, h3, h4, hl, hi, w1] <;> omega)
  (fun k l hl => by simp [f217_L0, Out.eval, hl]) ha h0 h1
 refine (eval_get_some this).trans ?_
 rfl
abbrev f118_S0 := (Int × Int × Unit) × (List (XB) × Unit)
def f118_L0 : f118_S0 → Out (Round f118_S0 ((Int × Unit) × (List (XB) × Unit)) Empty)
| ((p0, p1, _), p2, _) =>
 .ite (decide (p1 < ((List.length p2 : Nat) : Int)))
 (.ite ((3 : Int) == 0)
 .fail
 (.ite (decide (0 ≤ p1 ∧ p1 < ((List.length p2 : Nat) : Int)))
 (.get (nth p2 (Int.toNat p1)) fun y1 =>
 .ite (decide (0 ≤ p1 ∧ p1 < ((List.length (List.set p2 (Int.toNat p1) ((((Int.tmod p0 (3 : Int)) == (0 : Int))), y1.2)) : Nat) : Int)))
 (.get (nth (List.set p2 (Int.toNat p1) ((((Int.tmod p0 (3 : Int)) == (0 : Int))), y1.2)) (Int.toNat p1)) fun y2 =>
 .ite (decide (0 ≤ p1 ∧ p1 < ((List.length (List.set (List.set p2 (Int.toNat p1) ((((Int.tmod p0 (3 : Int)) == (0 : Int))), y1.2)) (Int.toNat p1) (y2.1, ((IntKind.i64.wrap (p0 + (1 : Int))), y2.2.2))) : Nat) : Int)))
 (.get (nth (List.set (List.set p2 (Int.toNat p1) ((((Int.tmod p0 (3 : Int)) == (0 : Int))), y1.2)) (Int.toNat p1) (y2.1, ((IntKind.i64.wrap (p0 + (1 : Int))), y2.2.2))) (Int.toNat p1)) fun y3 =>
 .ite (decide (0 ≤ p1 ∧ p1 < ((List.length (List.set (List.set (List.set p2 (Int.toNat p1) ((((Int.tmod p0 (3 : Int)) == (0 : Int))), y1.2)) (Int.toNat p1) (y2.1, ((IntKind.i64.wrap (p0 + (1 : Int))), y2.2.2))) (Int.toNat p1) (y3.1, (y3.2.1, ((IntKind.i64.wrap ((IntKind.i64.wrap (p0 + (1 : Int))) + (1 : Int))), y3.2.2.2)))) : Nat) : Int)))
 (.get (nth (List.set (List.set (List.set p2 (Int.toNat p1) ((((Int.tmod p0 (3 : Int)) == (0 : Int))), y1.2)) (Int.toNat p1) (y2.1, ((IntKind.i64.wrap (p0 + (1 : Int))), y2.2.2))) (Int.toNat p1) (y3.1, (y3.2.1, ((IntKind.i64.wrap ((IntKind.i64.wrap (p0 + (1 : Int))) + (1 : Int))), y3.2.2.2)))) (Int.toNat p1)) fun y4 =>
 .ite (decide (0 ≤ p1 ∧ p1 < ((List.length (List.set (List.set (List.set (List.set p2 (Int.toNat p1) ((((Int.tmod p0 (3 : Int)) == (0 : Int))), y1.2)) (Int.toNat p1) (y2.1, ((IntKind.i64.wrap (p0 + (1 : Int))), y2.2.2))) (Int.toNat p1) (y3.1, (y3.2.1, ((IntKind.i64.wrap ((IntKind.i64.wrap (p0 + (1 : Int))) + (1 : Int))), y3.2.2.2)))) (Int.toNat p1) (y4.1, (y4.2.1, (y4.2.2.1, ((IntKind.i64.wrap ((IntKind.i64.wrap ((IntKind.i64.wrap (p0 + (1 : Int))) + (1 : Int))) + (1 : Int))), y4.2.2.2.2))))) : Nat) : Int)))
 (.get (nth (List.set (List.set (List.set (List.set p2 (Int.toNat p1) ((((Int.tmod p0 (3 : Int)) == (0 : Int))), y1.2)) (Int.toNat p1) (y2.1, ((IntKind.i64.wrap (p0 + (1 : Int))), y2.2.2))) (Int.toNat p1) (y3.1, (y3.2.1, ((IntKind.i64.wrap ((IntKind.i64.wrap (p0 + (1 : Int))) + (1 : Int))), y3.2.2.2)))) (Int.toNat p1) (y4.1, (y4.2.1, (y4.2.2.1, ((IntKind.i64.wrap ((IntKind.i64.wrap ((IntKind.i64.wrap (p0 + (1 : Int))) + (1 : Int))) + (1 : Int))), y4.2.2.2.2))))) (Int.toNat p1)) fun y5 =>
 .ite (decide (0 ≤ p1 ∧ p1 < ((List.length (List.set (List.set (List.set (List.set (List.set p2 (Int.toNat p1) ((((Int.tmod p0 (3 : Int)) == (0 : Int))), y1.2)) (Int.toNat p1) (y2.1, ((IntKind.i64.wrap (p0 + (1 : Int))), y2.2.2))) (Int.toNat p1) (y3.1, (y3.2.1, ((IntKind.i64.wrap ((IntKind.i64.wrap (p0 + (1 : Int))) + (1 : Int))), y3.2.2.2)))) (Int.toNat p1) (y4.1, (y4.2.1, (y4.2.2.1, ((IntKind.i64.wrap ((IntKind.i64.wrap ((IntKind.i64.wrap (p0 + (1 : Int))) + (1 : Int))) + (1 : Int))), y4.2.2.2.2))))) (Int.toNat p1) (y5.1, (y5.2.1, (y5.2.2.1, (y5.2.2.2.1, ((IntKind.i64.wrap ((IntKind.i64.wrap ((IntKind.i64.wrap ((IntKind.i64.wrap (p0 + (1 : Int))) + (1 : Int))) + (1 : Int))) + (1 : Int))), y5.2.2.2.2.2)))))) : Nat) : Int)))
 (.get (nth (List.set (List.set (List.set (List.set (List.set p2 (Int.toNat p1) ((((Int.tmod p0 (3 : Int)) == (0 : Int))), y1.2)) (Int.toNat p1) (y2.1, ((IntKind.i64.wrap (p0 + (1 : Int))), y2.2.2))) (Int.toNat p1) (y3.1, (y3.2.1, ((IntKind.i64.wrap ((IntKind.i64.wrap (p0 + (1 : Int))) + (1 : Int))), y3.2.2.2)))) (Int.toNat p1) (y4.1, (y4.2.1, (y4.2.2.1, ((IntKind.i64.wrap ((IntKind.i64.wrap ((IntKind.i64.wrap (p0 + (1 : Int))) + (1 : Int))) + (1 : Int))), y4.2.2.2.2))))) (Int.toNat p1) (y5.1, (y5.2.1, (y5.2.2.1, (y5.2.2.2.1, ((IntKind.i64.wrap ((IntKind.i64.wrap ((IntKind.i64.wrap ((IntKind.i64.wrap (p0 + (1 : Int))) + (1 : Int))) + (1 : Int))) + (1 : Int))), y5.2.2.2.2.2)))))) (Int.toNat p1)) fun y6 =>
 .ite (decide (0 ≤ p1 ∧ p1 < ((List.length (List.set (List.set (List.set (List.set (List.set (List.set p2 (Int.toNat p1) ((((Int.tmod p0 (3 : Int)) == (0 : Int))), y1.2)) (Int.toNat p1) (y2.1, ((IntKind.i64.wrap (p0 + (1 : Int))), y2.2.2))) (Int.toNat p1) (y3.1, (y3.2.1, ((IntKind.i64.wrap ((IntKind.i64.wrap (p0 + (1 : Int))) + (1 : Int))), y3.2.2.2)))) (Int.toNat p1) (y4.1, (y4.2.1, (y4.2.2.1, ((IntKind.i64.wrap ((IntKind.i64.wrap ((IntKind.i64.wrap (p0 + (1 : Int))) + (1 : Int))) + (1 : Int))), y4.2.2.2.2))))) (Int.toNat p1) (y5.1, (y5.2.1, (y5.2.2.1, (y5.2.2.2.1, ((IntKind.i64.wrap ((IntKind.i64.wrap ((IntKind.i64.wrap ((IntKind.i64.wrap (p0 + (1 : Int))) + (1 : Int))) + (1 : Int))) + (1 : Int))), y5.2.2.2.2.2)))))) (Int.toNat p1) (y6.1, (y6.2.1, (y6.2.2.1, (y6.2.2.2.1, (y6.2.2.2.2.1, ((IntKind.i64.wrap ((IntKind.i64.wrap ((IntKind.i64.wrap ((IntKind.i64.wrap ((IntKind.i64.wrap (p0 + (1 : Int))) + (1 : Int))) + (1 : Int))) + (1 : Int))) + (1 : Int))), y6.2.2.2.2.2.2))))))) : Nat) : Int)))
 (.get (nth (List.set (List.set (List.set (List.set (List.set (List.set p2 (Int.toNat p1) ((((Int.tmod p0 (3 : Int)) == (0 : Int))), y1.2)) (Int.toNat p1) (y2.1, ((IntKind.i64.wrap (p0 + (1 : Int))), y2.2.2))) (Int.toNat p1) (y3.1, (y3.2.1, ((IntKind.i64.wrap ((IntKind.i64.wrap (p0 + (1 : Int))) + (1 : Int))), y3.2.2.2)))) (Int.toNat p1) (y4.1, (y4.2.1, (y4.2.2.1, ((IntKind.i64.wrap ((IntKind.i64.wrap ((IntKind.i64.wrap (p0 + (1 : Int))) + (1 : Int))) + (1 : Int))), y4.2.2.2.2))))) (Int.toNat p1) (y5.1, (y5.2.1, (y5.2.2.1, (y5.2.2.2.1, ((IntKind.i64.wrap ((IntKind.i64.wrap ((IntKind.i64.wrap ((IntKind.i64.wrap (p0 + (1 : Int))) + (1 : Int))) + (1 : Int))) + (1 : Int))), y5.2.2.2.2.2)))))) (Int.toNat p1) (y6.1, (y6.2.1, (y6.2.2.1, (y6.2.2.2.1, (y6.2.2.2.2.1, ((IntKind.i64.wrap ((IntKind.i64.wrap ((IntKind.i64.wrap ((IntKind.i64.wrap ((IntKind.i64.wrap (p0 + (1 : Int))) + (1 : Int))) + (1 : Int))) + (1 : Int))) + (1 : Int))), y6.2.2.2.2.2.2))))))) (Int.toNat p1)) fun y7 =>
 .ite (decide (0 ≤ p1 ∧ p1 < ((List.length (List.set (List.set (List.set (List.set (List.set (List.set (List.set p2 (Int.toNat p1) ((((Int.tmod p0 (3 : Int)) == (0 : Int))), y1.2)) (Int.toNat p1) (y2.1, ((IntKind.i64.wrap (p0 + (1 : Int))), y2.2.2))) (Int.toNat p1) (y3.1, (y3.2.1, ((IntKind.i64.wrap ((IntKind.i64.wrap (p0 + (1 : Int))) + (1 : Int))), y3.2.2.2)))) (Int.toNat p1) (y4.1, (y4.2.1, (y4.2.2.1, ((IntKind.i64.wrap ((IntKind.i64.wrap ((IntKind.i64.wrap (p0 + (1 : Int))) + (1 : Int))) + (1 : Int))), y4.2.2.2.2))))) (Int.toNat p1) (y5.1, (y5.2.1, (y5.2.2.1, (y5.2.2.2.1, ((IntKind.i64.wrap ((IntKind.i64.wrap ((IntKind.i64.wrap ((IntKind.i64.wrap (p0 + (1 : Int))) + (1 : Int))) + (1 : Int))) + (1 : Int))), y5.2.2.2.2.2)))))) (Int.toNat p1) (y6.1, (y6.2.1, (y6.2.2.1, (y6.2.2.2.1, (y6.2.2.2.2.1, ((IntKind.i64.wrap ((IntKind.i64.wrap ((IntKind.i64.wrap ((IntKind.i64.wrap ((IntKind.i64.wrap (p0 + (1 : Int))) + (1 : Int))) + (1 : Int))) + (1 : Int))) + (1 : Int))), y6.2.2.2.2.2.2))))))) (Int.toNat p1) (y7.1, (y7.2.1, (y7.2.2.1, (y7.2.2.2.1, (y7.2.2.2.2.1, (y7.2.2.2.2.2.1, ((IntKind.i64.wrap ((IntKind.i64.wrap ((IntKind.i64.wrap ((IntKind.i64.wrap ((IntKind.i64.wrap ((IntKind.i64.wrap (p0 + (1 : Int))) + (1 : Int))) + (1 : Int))) + (1 : Int))) + (1 : Int))) + (1 : Int))), y7.2.2.2.2.2.2.2)))))))) : Nat) : Int)))
 (.get (nth (List.set (List.set (List.set (List.set (List.set (List.set (List.set p2 (Int.toNat p1) ((((Int.tmod p0 (3 : Int)) == (0 : Int))), y1.2)) (Int.toNat p1) (y2.1, ((IntKind.i64.wrap (p0 + (1 : Int))), y2.2.2))) (Int.toNat p1) (y3.1, (y3.2.1, ((IntKind.i64.wrap ((IntKind.i64.wrap (p0 + (1 : Int))) + (1 : Int))), y3.2.2.2)))) (Int.toNat p1) (y4.1, (y4.2.1, (y4.2.2.1, ((IntKind.i64.wrap ((IntKind.i64.wrap ((IntKind.i64.wrap (p0 + (1 : Int))) + (1 : Int))) + (1 : Int))), y4.2.2.2.2))))) (Int.toNat p1) (y5.1, (y5.2.1, (y5.2.2.1, (y5.2.2.2.1, ((IntKind.i64.wrap ((IntKind.i64.wrap ((IntKind.i64.wrap ((IntKind.i64.wrap (p0 + (1 : Int))) + (1 : Int))) + (1 : Int))) + (1 : Int))), y5.2.2.2.2.2)))))) (Int.toNat p1) (y6.1, (y6.2.1, (y6.2.2.1, (y6.2.2.2.1, (y6.2.2.2.2.1, ((IntKind.i64.wrap ((IntKind.i64.wrap ((IntKind.i64.wrap ((IntKind.i64.wrap ((IntKind.i64.wrap (p0 + (1 : Int))) + (1 : Int))) + (1 : Int))) + (1 : Int))) + (1 : Int))), y6.2.2.2.2.2.2))))))) (Int.toNat p1) (y7.1, (y7.2.1, (y7.2.2.1, (y7.2.2.2.1, (y7.2.2.2.2.1, (y7.2.2.2.2.2.1, ((IntKind.i64.wrap ((IntKind.i64.wrap ((IntKind.i64.wrap ((IntKind.i64.wrap ((IntKind.i64.wrap ((IntKind.i64.wrap (p0 + (1 : Int))) + (1 : Int))) + (1 : Int))) + (1 : Int))) + (1 : Int))) + (1 : Int))), y7.2.2.2.2.2.2.2)))))))) (Int.toNat p1)) fun y8 =>
 .ite (decide (0 ≤ p1 ∧ p1 < ((List.length (List.set (List.set (List.set (List.set (List.set (List.set (List.set (List.set p2 (Int.toNat p1) ((((Int.tmod p0 (3 : Int)) == (0 : Int))), y1.2)) (Int.toNat p1) (y2.1, ((IntKind.i64.wrap (p0 + (1 : Int))), y2.2.2))) (Int.toNat p1) (y3.1, (y3.2.1, ((IntKind.i64.wrap ((IntKind.i64.wrap (p0 + (1 : Int))) + (1 : Int))), y3.2.2.2)))) (Int.toNat p1) (y4.1, (y4.2.1, (y4.2.2.1, ((IntKind.i64.wrap ((IntKind.i64.wrap ((IntKind.i64.wrap (p0 + (1 : Int))) + (1 : Int))) + (1 : Int))), y4.2.2.2.2))))) (Int.toNat p1) (y5.1, (y5.2.1, (y5.2.2.1, (y5.2.2.2.1, ((IntKind.i64.wrap ((IntKind.i64.wrap ((IntKind.i64.wrap ((IntKind.i64.wrap (p0 + (1 : Int))) + (1 : Int))) + (1 : Int))) + (1 : Int))), y5.2.2.2.2.2)))))) (Int.toNat p1) (y6.1, (y6.2.1, (y6.2.2.1, (y6.2.2.2.1, (y6.2.2.2.2.1, ((IntKind.i64.wrap ((IntKind.i64.wrap ((IntKind.i64.wrap ((IntKind.i64.wrap ((IntKind.i64.wrap (p0 + (1 : Int))) + (1 : Int))) + (1 : Int))) + (1 : Int))) + (1 : Int))), y6.2.2.2.2.2.2))))))) (Int.toNat p1) (y7.1, (y7.2.1, (y7.2.2.1, (y7.2.2.2.1, (y7.2.2.2.2.1, (y7.2.2.2.2.2.1, ((IntKind.i64.wrap ((IntKind.i64.wrap ((IntKind.i64.wrap ((IntKind.i64.wrap ((IntKind.i64.wrap ((IntKind.i64.wrap (p0 + (1 : Int))) + (1 : Int))) + (1 : Int))) + (1 : Int))) + (1 : Int))) + (1 : Int))), y7.2.2.2.2.2.2.2)))))))) (Int.toNat p1) (y8.1, (y8.2.1, (y8.2.2.1, (y8.2.2.2.1, (y8.2.2.2.2.1, (y8.2.2.2.2.2.1, (y8.2.2.2.2.2.2.1, ((IntKind.i64.wrap ((IntKind.i64.wrap ((IntKind.i64.wrap ((IntKind.i64.wrap ((IntKind.i64.wrap ((IntKind.i64.wrap ((IntKind.i64.wrap (p0 + (1 : Int))) + (1 : Int))) + (1 : Int))) + (1 : Int))) + (1 : Int))) + (1 : Int))) + (1 : Int))), y8.2.2.2.2.2.2.2.2))))))))) : Nat) : Int)))
 (.get (nth (List.set (List.set (List.set (List.set (List.set (List.set (List.set (List.set p2 (Int.toNat p1) ((((Int.tmod p0 (3 : Int)) == (0 : Int))), y1.2)) (Int.toNat p1) (y2.1, ((IntKind.i64.wrap (p0 + (1 : Int))), y2.2.2))) (Int.toNat p1) (y3.1, (y3.2.1, ((IntKind.i64.wrap ((IntKind.i64.wrap (p0 + (1 : Int))) + (1 : Int))), y3.2.2.2)))) (Int.toNat p1) (y4.1, (y4.2.1, (y4.2.2.1, ((IntKind.i64.wrap ((IntKind.i64.wrap ((IntKind.i64.wrap (p0 + (1 : Int))) + (1 : Int))) + (1 : Int))), y4.2.2.2.2))))) (Int.toNat p1) (y5.1, (y5.2.1, (y5.2.2.1, (y5.2.2.2.1, ((IntKind.i64.wrap ((IntKind.i64.wrap ((IntKind.i64.wrap ((IntKind.i64.wrap (p0 + (1 : Int))) + (1 : Int))) + (1 : Int))) + (1 : Int))), y5.2.2.2.2.2)))))) (Int.toNat p1) (y6.1, (y6.2.1, (y6.2.2.1, (y6.2.2.2.1, (y6.2.2.2.2.1, ((IntKind.i64.wrap ((IntKind.i64.wrap ((IntKind.i64.wrap ((IntKind.i64.wrap ((IntKind.i64.wrap (p0 + (1 : Int))) + (1 : Int))) + (1 : Int))) + (1 : Int))) + (1 : Int))), y6.2.2.2.2.2.2))))))) (Int.toNat p1) (y7.1, (y7.2.1, (y7.2.2.1, (y7.2.2.2.1, (y7.2.2.2.2.1, (y7.2.2.2.2.2.1, ((IntKind.i64.wrap ((IntKind.i64.wrap ((IntKind.i64.wrap ((IntKind.i64.wrap ((IntKind.i64.wrap ((IntKind.i64.wrap (p0 + (1 : Int))) + (1 : Int))) + (1 : Int))) + (1 : Int))) + (1 : Int))) + (1 : Int))), y7.2.2.2.2.2.2.2)))))))) (Int.toNat p1) (y8.1, (y8.2.1, (y8.2.2.1, (y8.2.2.2.1, (y8.2.2.2.2.1, (y8.2.2.2.2.2.1, (y8.2.2.2.2.2.2.1, ((IntKind.i64.wrap ((IntKind.i64.wrap ((IntKind.i64.wrap ((IntKind.i64.wrap ((IntKind.i64.wrap ((IntKind.i64.wrap ((IntKind.i64.wrap (p0 + (1 : Int))) + (1 : Int))) + (1 : Int))) + (1 : Int))) + (1 : Int))) + (1 : Int))) + (1 : Int))), y8.2.2.2.2.2.2.2.2))))))))) (Int.toNat p1)) fun y9 =>
 .get (markIntSV y9.2.2.2.2.2.2.2.2.1 (IntKind.i64.wrap ((IntKind.i64.wrap ((IntKind.i64.wrap ((IntKind.i64.wrap ((IntKind.i64.wrap ((IntKind.i64.wrap ((IntKind.i64.wrap ((IntKind.i64.wrap (p0 + (1 : Int))) + (1 : Int))) + (1 : Int))) + (1 : Int))) + (1 : Int))) + (1 : Int))) + (1 : Int))) + (1 : Int)))) fun y10 =>
 .ite (decide (0 ≤ p1 ∧ p1 < ((List.length (List.set (List.set (List.set (List.set (List.set (List.set (List.set (List.set p2 (Int.toNat p1) ((((Int.tmod p0 (3 : Int)) == (0 : Int))), y1.2)) (Int.toNat p1) (y2.1, ((IntKind.i64.wrap (p0 + (1 : Int))), y2.2.2))) (Int.toNat p1) (y3.1, (y3.2.1, ((IntKind.i64.wrap ((IntKind.i64.wrap (p0 + (1 : Int))) + (1 : Int))), y3.2.2.2)))) (Int.toNat p1) (y4.1, (y4.2.1, (y4.2.2.1, ((IntKind.i64.wrap ((IntKind.i64.wrap ((IntKind.i64.wrap (p0 + (1 : Int))) + (1 : Int))) + (1 : Int))), y4.2.2.2.2))))) (Int.toNat p1) (y5.1, (y5.2.1, (y5.2.2.1, (y5.2.2.2.1, ((IntKind.i64.wrap ((IntKind.i64.wrap ((IntKind.i64.wrap ((IntKind.i64.wrap (p0 + (1 : Int))) + (1 : Int))) + (1 : Int))) + (1 : Int))), y5.2.2.2.2.2)))))) (Int.toNat p1) (y6.1, (y6.2.1, (y6.2.2.1, (y6.2.2.2.1, (y6.2.2.2.2.1, ((IntKind.i64.wrap ((IntKind.i64.wrap ((IntKind.i64.wrap ((IntKind.i64.wrap ((IntKind.i64.wrap (p0 + (1 : Int))) + (1 : Int))) + (1 : Int))) + (1 : Int))) + (1 : Int))), y6.2.2.2.2.2.2))))))) (Int.toNat p1) (y7.1, (y7.2.1, (y7.2.2.1, (y7.2.2.2.1, (y7.2.2.2.2.1, (y7.2.2.2.2.2.1, ((IntKind.i64.wrap ((IntKind.i64.wrap ((IntKind.i64.wrap ((IntKind.i64.wrap ((IntKind.i64.wrap ((IntKind.i64.wrap (p0 + (1 : Int))) + (1 : Int))) + (1 : Int))) + (1 : Int))) + (1 : Int))) + (1 : Int))), y7.2.2.2.2.2.2.2)))))))) (Int.toNat p1) (y8.1, (y8.2.1, (y8.2.2.1, (y8.2.2.2.1, (y8.2.2.2.2.1, (y8.2.2.2.2.2.1, (y8.2.2.2.2.2.2.1, ((IntKind.i64.wrap ((IntKind.i64.wrap ((IntKind.i64.wrap ((IntKind.i64.wrap ((IntKind.i64.wrap ((IntKind.i64.wrap ((IntKind.i64.wrap (p0 + (1 : Int))) + (1 : Int))) + (1 : Int))) + (1 : Int))) + (1 : Int))) + (1 : Int))) + (1 : Int))), y8.2.2.2.2.2.2.2.2))))))))) : Nat) : Int)))
 (.get (nth (List.set (List.set (List.set (List.set (List.set (List.set (List.set (List.set (List.set p2 (Int.toNat p1) ((((Int.tmod p0 (3 : Int)) == (0 : Int))), y1.2)) (Int.toNat p1) (y2.1, ((IntKind.i64.wrap (p0 + (1 : Int))), y2.2.2))) (Int.toNat p1) (y3.1, (y3.2.1, ((IntKind.i64.wrap ((IntKind.i64.wrap (p0 + (1 : Int))) + (1 : Int))), y3.2.2.2)))) (Int.toNat p1) (y4.1, (y4.2.1, (y4.2.2.1, ((IntKind.i64.wrap ((IntKind.i64.wrap ((IntKind.i64.wrap (p0 + (1 : Int))) + (1 : Int))) + (1 : Int))), y4.2.2.2.2))))) (Int.toNat p1) (y5.1, (y5.2.1, (y5.2.2.1, (y5.2.2.2.1, ((IntKind.i64.wrap ((IntKind.i64.wrap ((IntKind.i64.wrap ((IntKind.i64.wrap (p0 + (1 : Int))) + (1 : Int))) + (1 : Int))) + (1 : Int))), y5.2.2.2.2.2)))))) (Int.toNat p1) (y6.1, (y6.2.1, (y6.2.2.1, (y6.2.2.2.1, (y6.2.2.2.2.1, ((IntKind.i64.wrap ((IntKind.i64.wrap ((IntKind.i64.wrap ((IntKind.i64.wrap ((IntKind.i64.wrap (p0 + (1 : Int))) + (1 : Int))) + (1 : Int))) + (1 : Int))) + (1 : Int))), y6.2.2.2.2.2.2))))))) (Int.toNat p1) (y7.1, (y7.2.1, (y7.2.2.1, (y7.2.2.2.1, (y7.2.2.2.2.1, (y7.2.2.2.2.2.1, ((IntKind.i64.wrap ((IntKind.i64.wrap ((IntKind.i64.wrap ((IntKind.i64.wrap ((IntKind.i64.wrap ((IntKind.i64.wrap (p0 + (1 : Int))) + (1 : Int))) + (1 : Int))) + (1 : Int))) + (1 : Int))) + (1 : Int))), y7.2.2.2.2.2.2.2)))))))) (Int.toNat p1) (y8.1, (y8.2.1, (y8.2.2.1, (y8.2.2.2.1, (y8.2.2.2.2.1, (y8.2.2.2.2.2.1, (y8.2.2.2.2.2.2.1, ((IntKind.i64.wrap ((IntKind.i64.wrap ((IntKind.i64.wrap ((IntKind.i64.wrap ((IntKind.i64.wrap ((IntKind.i64.wrap ((IntKind.i64.wrap (p0 + (1 : Int))) + (1 : Int))) + (1 : Int))) + (1 : Int))) + (1 : Int))) + (1 : Int))) + (1 : Int))), y8.2.2.2.2.2.2.2.2))))))))) (Int.toNat p1) (y9.1, (y9.2.1, (y9.2.2.1, (y9.2.2.2.1, (y9.2.2.2.2.1, (y9.2.2.2.2.2.1, (y9.2.2.2.2.2.2.1, (y9.2.2.2.2.2.2.2.1, (y10.2, y9.2.2.2.2.2.2.2.2.2)))))))))) (Int.toNat p1)) fun y11 =>
 .get (markIntSV y11.2.2.2.2.2.2.2.2.2.1 y10.1) fun y12 =>
 .ite (decide (0 ≤ p1 ∧ p1 < ((List.length (List.set (List.set (List.set (List.set (List.set (List.set (List.set (List.set (List.set p2 (Int.toNat p1) ((((Int.tmod p0 (3 : Int)) == (0 : Int))), y1.2)) (Int.toNat p1) (y2.1, ((IntKind.i64.wrap (p0 + (1 : Int))), y2.2.2))) (Int.toNat p1) (y3.1, (y3.2.1, ((IntKind.i64.wrap ((IntKind.i64.wrap (p0 + (1 : Int))) + (1 : Int))), y3.2.2.2)))) (Int.toNat p1) (y4.1, (y4.2.1, (y4.2.2.1, ((IntKind.i64.wrap ((IntKind.i64.wrap ((IntKind.i64.wrap (p0 + (1 : Int))) + (1 : Int))) + (1 : Int))), y4.2.2.2.2))))) (Int.toNat p1) (y5.1, (y5.2.1, (y5.2.2.1, (y5.2.2.2.1, ((IntKind.i64.wrap ((IntKind.i64.wrap ((IntKind.i64.wrap ((IntKind.i64.wrap (p0 + (1 : Int))) + (1 : Int))) + (1 : Int))) + (1 : Int))), y5.2.2.2.2.2)))))) (Int.toNat p1) (y6.1, (y6.2.1, (y6.2.2.1, (y6.2.2.2.1, (y6.2.2.2.2.1, ((IntKind.i64.wrap ((IntKind.i64.wrap ((IntKind.i64.wrap ((IntKind.i64.wrap ((IntKind.i64.wrap (p0 + (1 : Int))) + (1 : Int))) + (1 : Int))) + (1 : Int))) + (1 : Int))), y6.2.2.2.2.2.2))))))) (Int.toNat p1) (y7.1, (y7.2.1, (y7.2.2.1, (y7.2.2.2.1, (y7.2.2.2.2.1, (y7.2.2.2.2.2.1, ((IntKind.i64.wrap ((IntKind.i64.wrap ((IntKind.i64.wrap ((IntKind.i64.wrap ((IntKind.i64.wrap ((IntKind.i64.wrap (p0 + (1 : Int))) + (1 : Int))) + (1 : Int))) + (1 : Int))) + (1 : Int))) + (1 : Int))), y7.2.2.2.2.2.2.2)))))))) (Int.toNat p1) (y8.1, (y8.2.1, (y8.2.2.1, (y8.2.2.2.1, (y8.2.2.2.2.1, (y8.2.2.2.2.2.1, (y8.2.2.2.2.2.2.1, ((IntKind.i64.wrap ((IntKind.i64.wrap ((IntKind.i64.wrap ((IntKind.i64.wrap ((IntKind.i64.wrap ((IntKind.i64.wrap ((IntKind.i64.wrap (p0 + (1 : Int))) + (1 : Int))) + (1 : Int))) + (1 : Int))) + (1 : Int))) + (1 : Int))) + (1 : Int))), y8.2.2.2.2.2.2.2.2))))))))) (Int.toNat p1) (y9.1, (y9.2.1, (y9.2.2.1, (y9.2.2.2.1, (y9.2.2.2.2.1, (y9.2.2.2.2.2.1, (y9.2.2.2.2.2.2.1, (y9.2.2.2.2.2.2.2.1, (y10.2, y9.2.2.2.2.2.2.2.2.2)))))))))) : Nat) : Int)))
 (.get (nth (List.set (List.set (List.set (List.set (List.set (List.set (List.set (List.set (List.set (List.set p2 (Int.toNat p1) ((((Int.tmod p0 (3 : Int)) == (0 : Int))), y1.2)) (Int.toNat p1) (y2.1, ((IntKind.i64.wrap (p0 + (1 : Int))), y2.2.2))) (Int.toNat p1) (y3.1, (y3.2.1, ((IntKind.i64.wrap ((IntKind.i64.wrap (p0 + (1 : Int))) + (1 : Int))), y3.2.2.2)))) (Int.toNat p1) (y4.1, (y4.2.1, (y4.2.2.1, ((IntKind.i64.wrap ((IntKind.i64.wrap ((IntKind.i64.wrap (p0 + (1 : Int))) + (1 : Int))) + (1 : Int))), y4.2.2.2.2))))) (Int.toNat p1) (y5.1, (y5.2.1, (y5.2.2.1, (y5.2.2.2.1, ((IntKind.i64.wrap ((IntKind.i64.wrap ((IntKind.i64.wrap ((IntKind.i64.wrap (p0 + (1 : Int))) + (1 : Int))) + (1 : Int))) + (1 : Int))), y5.2.2.2.2.2)))))) (Int.toNat p1) (y6.1, (y6.2.1, (y6.2.2.1, (y6.2.2.2.1, (y6.2.2.2.2.1, ((IntKind.i64.wrap ((IntKind.i64.wrap ((IntKind.i64.wrap ((IntKind.i64.wrap ((IntKind.i64.wrap (p0 + (1 : Int))) + (1 : Int))) + (1 : Int))) + (1 : Int))) + (1 : Int))), y6.2.2.2.2.2.2))))))) (Int.toNat p1) (y7.1, (y7.2.1, (y7.2.2.1, (y7.2.2.2.1, (y7.2.2.2.2.1, (y7.2.2.2.2.2.1, ((IntKind.i64.wrap ((IntKind.i64.wrap ((IntKind.i64.wrap ((IntKind.i64.wrap ((IntKind.i64.wrap ((IntKind.i64.wrap (p0 + (1 : Int))) + (1 : Int))) + (1 : Int))) + (1 : Int))) + (1 : Int))) + (1 : Int))), y7.2.2.2.2.2.2.2)))))))) (Int.toNat p1) (y8.1, (y8.2.1, (y8.2.2.1, (y8.2.2.2.1, (y8.2.2.2.2.1, (y8.2.2.2.2.2.1, (y8.2.2.2.2.2.2.1, ((IntKind.i64.wrap ((IntKind.i64.wrap ((IntKind.i64.wrap ((IntKind.i64.wrap ((IntKind.i64.wrap ((IntKind.i64.wrap ((IntKind.i64.wrap (p0 + (1 : Int))) + (1 : Int))) + (1 : Int))) + (1 : Int))) + (1 : Int))) + (1 : Int))) + (1 : Int))), y8.2.2.2.2.2.2.2.2))))))))) (Int.toNat p1) (y9.1, (y9.2.1, (y9.2.2.1, (y9.2.2.2.1, (y9.2.2.2.2.1, (y9.2.2.2.2.2.1, (y9.2.2.2.2.2.2.1, (y9.2.2.2.2.2.2.2.1, (y10.2, y9.2.2.2.2.2.2.2.2.2)))))))))) (Int.toNat p1) (y11.1, (y11.2.1, (y11.2.2.1, (y11.2.2.2.1, (y11.2.2.2.2.1, (y11.2.2.2.2.2.1, (y11.2.2.2.2.2.2.1, (y11.2.2.2.2.2.2.2.1, (y11.2.2.2.2.2.2.2.2.1, (y12.2, y11.2.2.2.2.2.2.2.2.2.2))))))))))) (Int.toNat p1)) fun y13 =>
 .get (markIntSV y13.2.2.2.2.2.2.2.2.2.2.1 y12.1) fun y14 =>
 .ret (.again ((y14.1, (IntKind.i64.wrap (p1 + (1 : Int))), ()), ((List.set (List.set (List.set (List.set (List.set (List.set (List.set (List.set (List.set (List.set (List.set p2 (Int.toNat p1) ((((Int.tmod p0 (3 : Int)) == (0 : Int))), y1.2)) (Int.toNat p1) (y2.1, ((IntKind.i64.wrap (p0 + (1 : Int))), y2.2.2))) (Int.toNat p1) (y3.1, (y3.2.1, ((IntKind.i64.wrap ((IntKind.i64.wrap (p0 + (1 : Int))) + (1 : Int))), y3.2.2.2)))) (Int.toNat p1) (y4.1, (y4.2.1, (y4.2.2.1, ((IntKind.i64.wrap ((IntKind.i64.wrap ((IntKind.i64.wrap (p0 + (1 : Int))) + (1 : Int))) + (1 : Int))), y4.2.2.2.2))))) (Int.toNat p1) (y5.1, (y5.2.1, (y5.2.2.1, (y5.2.2.2.1, ((IntKind.i64.wrap ((IntKind.i64.wrap ((IntKind.i64.wrap ((IntKind.i64.wrap (p0 + (1 : Int))) + (1 : Int))) + (1 : Int))) + (1 : Int))), y5.2.2.2.2.2)))))) (Int.toNat p1) (y6.1, (y6.2.1, (y6.2.2.1, (y6.2.2.2.1, (y6.2.2.2.2.1, ((IntKind.i64.wrap ((IntKind.i64.wrap ((IntKind.i64.wrap ((IntKind.i64.wrap ((IntKind.i64.wrap (p0 + (1 : Int))) + (1 : Int))) + (1 : Int))) + (1 : Int))) + (1 : Int))), y6.2.2.2.2.2.2))))))) (Int.toNat p1) (y7.1, (y7.2.1, (y7.2.2.1, (y7.2.2.2.1, (y7.2.2.2.2.1, (y7.2.2.2.2.2.1, ((IntKind.i64.wrap ((IntKind.i64.wrap ((IntKind.i64.wrap ((IntKind.i64.wrap ((IntKind.i64.wrap ((IntKind.i64.wrap (p0 + (1 : Int))) + (1 : Int))) + (1 : Int))) + (1 : Int))) + (1 : Int))) + (1 : Int))), y7.2.2.2.2.2.2.2)))))))) (Int.toNat p1) (y8.1, (y8.2.1, (y8.2.2.1, (y8.2.2.2.1, (y8.2.2.2.2.1, (y8.2.2.2.2.2.1, (y8.2.2.2.2.2.2.1, ((IntKind.i64.wrap ((IntKind.i64.wrap ((IntKind.i64.wrap ((IntKind.i64.wrap ((IntKind.i64.wrap ((IntKind.i64.wrap ((IntKind.i64.wrap (p0 + (1 : Int))) + (1 : Int))) + (1 : Int))) + (1 : Int))) + (1 : Int))) + (1 : Int))) + (1 : Int))), y8.2.2.2.2.2.2.2.2))))))))) (Int.toNat p1) (y9.1, (y9.2.1, (y9.2.2.1, (y9.2.2.2.1, (y9.2.2.2.2.1, (y9.2.2.2.2.2.1, (y9.2.2.2.2.2.2.1, (y9.2.2.2.2.2.2.2.1, (y10.2, y9.2.2.2.2.2.2.2.2.2)))))))))) (Int.toNat p1) (y11.1, (y11.2.1, (y11.2.2.1, (y11.2.2.2.1, (y11.2.2.2.2.1, (y11.2.2.2.2.2.1, (y11.2.2.2.2.2.2.1, (y11.2.2.2.2.2.2.2.1, (y11.2.2.2.2.2.2.2.2.1, (y12.2, y11.2.2.2.2.2.2.2.2.2.2))))))))))) (Int.toNat p1) (y13.1, (y13.2.1, (y13.2.2.1, (y13.2.2.2.1, (y13.2.2.2.2.1, (y13.2.2.2.2.2.1, (y13.2.2.2.2.2.2.1, (y13.2.2.2.2.2.2.2.1, (y13.2.2.2.2.2.2.2.2.1, (y13.2.2.2.2.2.2.2.2.2.1, (y14.2, y13.2.2.2.2.2.2.2.2.2.2.2)))))))))))), ()))))
 .fail)
 .fail)
 .fail)
 .fail)
 .fail)
 .fail)
 .fail)
 .fail)
 .fail)
 .fail)
 .fail))
 (.ret (.out ((p0, ()), (p2, ()))))
def f118_tree (a0 : List XB) (a1 : Int) : Out (((Int × Unit) × Unit) × ((List XB × Unit) × Unit × Unit)) :=
 .get (iter1 f118_L0 FUEL ((a1, (0 : Int), ()), (a0, ()))) fun y1 =>
 .ret (((y1.1.1, ()), ()), ((y1.2.1, ()), (), ()))
def f118_A : Nat → Option LoopAnn := fun n => annOf [(0, ⟨⟨[.srf 0, .i .i64, .dead, .dead, .dead, .i .i64] ++ dd 86, [(0, .arr tyQ)]⟩, ⟨[.srf 0, .i .i64] ++ dd 90, [(0, .arr tyQ)]⟩, none, false⟩)] n
def markASlotSV (a0 : List ASlotD) (k : Int) : Option (Int × (List ASlotD)) := mkP (mkcASlotS a0) k (mkdASlotS (k) a0)
def k118 : Con := { f := 118, lend := true, its := [⟨false, false, [.mut tyQ]⟩, ⟨false, false, [.i .i64]⟩], lay := [none, none], rs := [⟨false, false, [.i .i64]⟩], F := fun x => .get (markASlotSV x.1.1 x.2.1.1) fun y => .ret (((y.1, ()), ()), ((y.2, ()), (), ())) }
theorem f118_eq (x : itemsD k118.its) : bo [k119] f118_A Tryz.f118 k118 [.tmp 4] x = f118_tree x.1.1 x.2.1.1 := by kernel_rfl
theorem f118_okp (hr : ∀ x : (List XB × Unit) × (Int × Unit) × Unit, itemsWF k118.its x → ∀ y, (k118.F x).eval = some y → (f118_tree x.1.1 x.2.1.1).eval = some y) : k118.Ok Tryz.prog := con_fn [k119] ⟨k119_ok, trivial⟩ f118_eq hr
theorem k118_ok : k118.Ok Tryz.prog := by
 refine f118_okp fun x hw y hy => ?_
 obtain ⟨⟨a0, _⟩, ⟨k, _⟩, _⟩ := x
 change (Out.get (markASlotSV a0 k) fun y => Out.ret (((y.1, ()), ()), ((y.2, ()), (), ()))).eval = some y at hy
 obtain ⟨h0, h1, hy⟩ := mkP_get hy
 refine Eq.trans ?_ hy
 show (f118_tree a0 k).eval = _
 unfold f118_tree
 have ha : a0.length ≤ BIG := hw.1.1.1
 have := mk_loop (f := f118_L0) a0 mkcASlot mkdASlot (fun k l i => ((k, (((i : Nat) : Int), ())), (l, ()))) (fun k l => ((k, ()), (l, ())))
  (fun i hi k l hl h3 h0 hk => by
   have h1 := wrap_succ (i := i) (by omega)
   have h2 : i < l.length := by omega
   have h4 : l[i] = a0[i] := by rw [List.getElem?_eq_getElem h2] at h3; exact Option.some.inj h3
   unfold mkcASlot at hk
   have w1 : IntKind.i64.wrap (k + 1) = k + 1 := wrap1 (by omega) (by omega)
   have w2 : IntKind.i64.wrap (k + 1 + 1) = k + 1 + 1 := wrap1 (by omega) (by omega)
   have w3 : IntKind.i64.wrap (k + 1 + 1 + 1) = k + 1 + 1 + 1 := wrap1 (by omega) (by omega)
   have w4 : IntKind.i64.wrap (k + 1 + 1 + 1 + 1) = k + 1 + 1 + 1 + 1 := wrap1 (by omega) (by omega)
   have w5 : IntKind.i64.wrap (k + 1 + 1 + 1 + 1 + 1) = k + 1 + 1 + 1 + 1 + 1 := wrap1 (by omega) (by omega)
   have w6 : IntKind.i64.wrap (k + 1 + 1 + 1 + 1 + 1 + 1) = k + 1 + 1 + 1 + 1 + 1 + 1 := wrap1 (by omega) (by omega)
   have w7 : IntKind.i64.wrap (k + 1 + 1 + 1 + 1 + 1 + 1 + 1) = k + 1 + 1 + 1 + 1 + 1 + 1 + 1 := wrap1 (by omega) (by omega)
   have w8 : IntKind.i64.wrap (k + 1 + 1 + 1 + 1 + 1 + 1 + 1 + 1) = k + 1 + 1 + 1 + 1 + 1 + 1 + 1 + 1 := wrap1 (by omega) (by omega)
   have w9 : markIntSV a0[i].2.2.2.2.2.2.2.2.1 (k + 1 + 1 + 1 + 1 + 1 + 1 + 1 + 1) = some (k + 1 + 1 + 1 + 1 + 1 + 1 + 1 + 1 + (mkcIntS a0[i].2.2.2.2.2.2.2.2.1 : Nat), mkdIntS (k + 1 + 1 + 1 + 1 + 1 + 1 + 1 + 1) a0[i].2.2.2.2.2.2.2.2.1) := mkP_in (by omega) (by omega)
   have w10 : markIntSV a0[i].2.2.2.2.2.2.2.2.2.1 (k + 1 + 1 + 1 + 1 + 1 + 1 + 1 + 1 + (mkcIntS a0[i].2.2.2.2.2.2.2.2.1 : Nat)) = some (k + 1 + 1 + 1 + 1 + 1 + 1 + 1 + 1 + (mkcIntS a0[i].2.2.2.2.2.2.2.2.1 : Nat) + (mkcIntS a0[i].2.2.2.2.2.2.2.2.2.1 : Nat), mkdIntS (k + 1 + 1 + 1 + 1 + 1 + 1 + 1 + 1 + (mkcIntS a0[i].2.2.2.2.2.2.2.2.1 : Nat)) a0[i].2.2.2.2.2.2.2.2.2.1) := mkP_in (by omega) (by omega)
   have w11 : markIntSV a0[i].2.2.2.2.2.2.2.2.2.2.1 (k + 1 + 1 + 1 + 1 + 1 + 1 + 1 + 1 + (mkcIntS a0[i].2.2.2.2.2.2.2.2.1 : Nat) + (mkcIntS a0[i].2.2.2.2.2.2.2.2.2.1 : Nat)) = some (k + 1 + 1 + 1 + 1 + 1 + 1 + 1 + 1 + (mkcIntS a0[i].2.2.2.2.2.2.2.2.1 : Nat) + (mkcIntS a0[i].2.2.2.2.2.2.2.2.2.1 : Nat) + (mkcIntS a0[i].2.2.2.2.2.2.2.2.2.2.1 : Nat), mkdIntS (k + 1 + 1 + 1 + 1 + 1 + 1 + 1 + 1 + (mkcIntS a0[i].2.2.2.2.2.2.2.2.1 : Nat) + (mkcIntS a0[i].2.2.2.2.2.2.2.2.2.1 : Nat)) a0[i].2.2.2.2.2.2.2.2.2.2.1) := mkP_in (by omega) (by omega)
   simp [f118_L0, Out.eval, h1, h2, h3, h4, hl, hi, mkcASlot, mkdASlot, mkdBool, beq3, w1, w2, w3, w4, w5, w6, w7, w8, w9, w10, w11] <;> omega)
  (fun k l hl => by simp [f118_L0, Out.eval, hl]) ha h0 h1
 refine (eval_get_some this).trans ?_
 rfl
abbrev f121_S0 := (Int × Int × Unit) × (List (XF) × Unit)
def f121_L0 : f121_S0 → Out (Round f121_S0 ((Int × Unit) × (List (XF) × Unit)) Empty)
| ((p0, p1, _), p2, _) =>
 .ite (decide (p1 < ((List.length p2 : Nat) : Int)))
 (.ite ((3 : Int) == 0)
 .fail
 (.ite (decide (0 ≤ p1 ∧ p1 < ((List.length p2 : Nat) : Int)))
 (.get (nth p2 (Int.toNat p1)) fun y1 =>
 .ite (decide (0 ≤ p1 ∧ p1 < ((List.length (List.set p2 (Int.toNat p1) ((((Int.tmod p0 (3 : Int)) == (0 : Int))), y1.2)) : Nat) : Int)))
 (.get (nth (List.set p2 (Int.toNat p1) ((((Int.tmod p0 (3 : Int)) == (0 : Int))), y1.2)) (Int.toNat p1)) fun y2 =>
 .ite (decide (0 ≤ p1 ∧ p1 < ((List.length (List.set (List.set p2 (Int.toNat p1) ((((Int.tmod p0 (3 : Int)) == (0 : Int))), y1.2)) (Int.toNat p1) (y2.1, ((IntKind.i64.wrap (p0 + (1 : Int))), y2.2.2))) : Nat) : Int)))
 (.get (nth (List.set (List.set p2 (Int.toNat p1) ((((Int.tmod p0 (3 : Int)) == (0 : Int))), y1.2)) (Int.toNat p1) (y2.1, ((IntKind.i64.wrap (p0 + (1 : Int))), y2.2.2))) (Int.toNat p1)) fun y3 =>
 .ite (decide (0 ≤ p1 ∧ p1 < ((List.length (List.set (List.set (List.set p2 (Int.toNat p1) ((((Int.tmod p0 (3 : Int)) == (0 : Int))), y1.2)) (Int.toNat p1) (y2.1, ((IntKind.i64.wrap (p0 + (1 : Int))), y2.2.2))) (Int.toNat p1) (y3.1, (y3.2.1, ((IntKind.i64.wrap ((IntKind.i64.wrap (p0 + (1 : Int))) + (1 : Int))), y3.2.2.2)))) : Nat) : Int)))
 (.get (nth (List.set (List.set (List.set p2 (Int.toNat p1) ((((Int.tmod p0 (3 : Int)) == (0 : Int))), y1.2)) (Int.toNat p1) (y2.1, ((IntKind.i64.wrap (p0 + (1 : Int))), y2.2.2))) (Int.toNat p1) (y3.1, (y3.2.1, ((IntKind.i64.wrap ((IntKind.i64.wrap (p0 + (1 : Int))) + (1 : Int))), y3.2.2.2)))) (Int.toNat p1)) fun y4 =>
 .ite (decide (0 ≤ p1 ∧ p1 < ((List.length (List.set (List.set (List.set (List.set p2 (Int.toNat p1) ((((Int.tmod p0 (3 : Int)) == (0 : Int))), y1.2)) (Int.toNat p1) (y2.1, ((IntKind.i64.wrap (p0 + (1 : Int))), y2.2.2))) (Int.toNat p1) (y3.1, (y3.2.1, ((IntKind.i64.wrap ((IntKind.i64.wrap (p0 + (1 : Int))) + (1 : Int))), y3.2.2.2)))) (Int.toNat p1) (y4.1, (y4.2.1, (y4.2.2.1, ((IntKind.i64.wrap ((IntKind.i64.wrap ((IntKind.i64.wrap (p0 + (1 : Int))) + (1 : Int))) + (1 : Int))), y4.2.2.2.2))))) : Nat) : Int)))
 (.get (nth (List.set (List.set (List.set (List.set p2 (Int.toNat p1) ((((Int.tmod p0 (3 : Int)) == (0 : Int))), y1.2)) (Int.toNat p1) (y2.1, ((IntKind.i64.wrap (p0 + (1 : Int))), y2.2.2))) (Int.toNat p1) (y3.1, (y3.2.1, ((IntKind.i64.wrap ((IntKind.i64.wrap (p0 + (1 : Int))) + (1 : Int))), y3.2.2.2)))) (Int.toNat p1) (y4.1, (y4.2.1, (y4.2.2.1, ((IntKind.i64.wrap ((IntKind.i64.wrap ((IntKind.i64.wrap (p0 + (1 : Int))) + (1 : Int))) + (1 : Int))), y4.2.2.2.2))))) (Int.toNat p1)) fun y5 =>
 .ret (.again (((IntKind.i64.wrap ((IntKind.i64.wrap ((IntKind.i64.wrap ((IntKind.i64.wrap ((IntKind.i64.wrap (p0 + (1 : Int))) + (1 : Int))) + (1 : Int))) + (1 : Int))) + (1 : Int))), (IntKind.i64.wrap (p1 + (1 : Int))), ()), ((List.set (List.set (List.set (List.set (List.set p2 (Int.toNat p1) ((((Int.tmod p0 (3 : Int)) == (0 : Int))), y1.2)) (Int.toNat p1) (y2.1, ((IntKind.i64.wrap (p0 + (1 : Int))), y2.2.2))) (Int.toNat p1) (y3.1, (y3.2.1, ((IntKind.i64.wrap ((IntKind.i64.wrap (p0 + (1 : Int))) + (1 : Int))), y3.2.2.2)))) (Int.toNat p1) (y4.1, (y4.2.1, (y4.2.2.1, ((IntKind.i64.wrap ((IntKind.i64.wrap ((IntKind.i64.wrap (p0 + (1 : Int))) + (1 : Int))) + (1 : Int))), y4.2.2.2.2))))) (Int.toNat p1) (y5.1, (y5.2.1, (y5.2.2.1, (y5.2.2.2.1, ((IntKind.i64.wrap ((IntKind.i64.wrap ((IntKind.i64.wrap ((IntKind.i64.wrap (p0 + (1 : Int))) + (1 : Int))) + (1 : Int))) + (1 : Int))), y5.2.2.2.2.2)))))), ()))))
 .fail)
 .fail)
 .fail)
 .fail)
 .fail))
 (.ret (.out ((p0, ()), (p2, ()))))
def f121_tree (a0 : List XF) (a1 : Int) : Out (((Int × Unit) × Unit) × ((List XF × Unit) × Unit × Unit)) :=
 .get (iter1 f121_L0 FUEL ((a1, (0 : Int), ()), (a0, ()))) fun y1 =>
 .ret (((y1.1.1, ()), ()), ((y1.2.1, ()), (), ()))
def f121_A : Nat → Option LoopAnn := fun n => annOf [(0, ⟨⟨[.srf 0, .i .i64, .dead, .dead, .dead, .i .i64] ++ dd 44, [(0, .arr tyS)]⟩, ⟨[.srf 0, .i .i64] ++ dd 48, [(0, .arr tyS)]⟩, none, false⟩)] n
def markAOpenSV (a0 : List AOpenD) (k : Int) : Option (Int × (List AOpenD)) := mkP (mkcAOpenS a0) k (mkdAOpenS (k) a0)
def k121 : Con := { f := 121, lend := true, its := [⟨false, false, [.mut tyS]⟩, ⟨false, false, [.i .i64]⟩], lay := [none, none], rs := [⟨false, false, [.i .i64]⟩], F := fun x => .get (markAOpenSV x.1.1 x.2.1.1) fun y => .ret (((y.1, ()), ()), ((y.2, ()), (), ())) }
theorem f121_eq (x : itemsD k121.its) : bo [] f121_A Tryz.f121 k121 [.tmp 4] x = f121_tree x.1.1 x.2.1.1 := by kernel_rfl
theorem f121_okp (hr : ∀ x : (List XF × Unit) × (Int × Unit) × Unit, itemsWF k121.its x → ∀ y, (k121.F x).eval = some y → (f121_tree x.1.1 x.2.1.1).eval = some y) : k121.Ok Tryz.prog := con_fn [] trivial f121_eq hr
theorem k121_ok : k121.Ok Tryz.prog := by
 refine f121_okp fun x hw y hy => ?_
 obtain ⟨⟨a0, _⟩, ⟨k, _⟩, _⟩ := x
 change (Out.get (markAOpenSV a0 k) fun y => Out.ret (((y.1, ()), ()), ((y.2, ()), (), ()))).eval = some y at hy
 obtain ⟨h0, h1, hy⟩ := mkP_get hy
 refine Eq.trans ?_ hy
 show (f121_tree a0 k).eval = _
 unfold f121_tree
 have ha : a0.length ≤ BIG := hw.1.1.1
 have := mk_loop (f := f121_L0) a0 mkcAOpen mkdAOpen (fun k l i => ((k, (((i : Nat) : Int), ())), (l, ()))) (fun k l => ((k, ()), (l, ())))
  (fun i hi k l hl h3 h0 hk => by
   have h1 := wrap_succ (i := i) (by omega)
   have h2 : i < l.length := by omega
   have h4 : l[i] = a0[i] := by rw [List.getElem?_eq_getElem h2] at h3; exact Option.some.inj h3
   unfold mkcAOpen at hk
   have w1 : IntKind.i64.wrap (k + 1) = k + 1 := wrap1 (by omega) (by omega)
   have w2 : IntKind.i64.wrap (k + 1 + 1) = k + 1 + 1 := wrap1 (by omega) (by omega)
   have w3 : IntKind.i64.wrap (k + 1 + 1 + 1) = k + 1 + 1 + 1 := wrap1 (by omega) (by omega)
   have w4 : IntKind.i64.wrap (k + 1 + 1 + 1 + 1) = k + 1 + 1 + 1 + 1 := wrap1 (by omega) (by omega)
   have w5 : IntKind.i64.wrap (k + 1 + 1 + 1 + 1 + 1) = k + 1 + 1 + 1 + 1 + 1 := wrap1 (by omega) (by omega)
   simp [f121_L0, Out.eval, h1, h2, h3, h4, hl, hi, mkcAOpen, mkdAOpen, mkdBool, beq3, w1, w2, w3, w4, w5] <;> omega)
  (fun k l hl => by simp [f121_L0, Out.eval, hl]) ha h0 h1
 refine (eval_get_some this).trans ?_
 rfl
def f124_tree (a0 : Bool) (a1 : List Int) (a2 : Int) (a3 : Int) (a4 : Int) : Out (((Int × Unit) × Unit) × ((List Int × Unit) × Unit × Unit)) :=
 .get (markIntSV a1 a4) fun y1 =>
 .ret (((y1.1, ()), ()), ((y1.2, ()), (), ()))
def markARingV (_a0 : Bool) (a1 : List Int) (_a2 : Int) (_a3 : Int) (k : Int) : Option (Int × (List Int)) := mkP (mkcIntS a1) k (mkdIntS (k) a1)
def k124 : Con := { f := 124, lend := true, its := [⟨false, true, [.b, .mut (.int .i64), .i .i64, .i .i64]⟩, ⟨false, false, [.i .i64]⟩], lay := [none, none], rs := [⟨false, false, [.i .i64]⟩], F := fun x => .get (markARingV x.1.1 x.1.2.1 x.1.2.2.1 x.1.2.2.2.1 x.2.1.1) fun y => .ret (((y.1, ()), ()), ((y.2, ()), (), ())) }
theorem f124_eq (x : itemsD k124.its) : bo [k119] (fun _ => none) Tryz.f124 k124 [.tmp 4] x = f124_tree x.1.1 x.1.2.1 x.1.2.2.1 x.1.2.2.2.1 x.2.1.1 := by kernel_rfl
theorem f124_okp (hr : ∀ x : (Bool × XE) × (Int × Unit) × Unit, itemsWF k124.its x → ∀ y, (k124.F x).eval = some y → (f124_tree x.1.1 x.1.2.1 x.1.2.2.1 x.1.2.2.2.1 x.2.1.1).eval = some y) : k124.Ok Tryz.prog := con_fn [k119] ⟨k119_ok, trivial⟩ f124_eq hr
theorem k124_ok : k124.Ok Tryz.prog := by
 refine f124_okp fun x hw y hy => ?_
 obtain ⟨⟨a0, a1, a2, a3, _⟩, ⟨k, _⟩, _⟩ := x
 change (Out.get (markARingV a0 a1 a2 a3 k) fun y => Out.ret (((y.1, ()), ()), ((y.2, ()), (), ()))).eval = some y at hy
 obtain ⟨h0, h1, hy⟩ := mkP_get hy
 refine Eq.trans ?_ hy
 show (f124_tree a0 a1 a2 a3 k).eval = _
 unfold f124_tree
 have e0 : markIntSV a1 (k) = some (k + (mkcIntS a1 : Nat), mkdIntS (k) a1) := mkP_in (by omega) (by omega)
 rw [eval_get_some e0]
 all_goals (have e : k + ((mkcIntS a1 : Nat) : Int) = k + (mkcIntS a1 : Nat) := (by omega); rw [e]; try rfl)
abbrev f122_S0 := (Int × Int × Unit) × (List ((Bool × XE)) × Unit)
def f122_L0 : f122_S0 → Out (Round f122_S0 ((Int × Unit) × (List ((Bool × XE)) × Unit)) Empty)
| ((p0, p1, _), p2, _) =>
 .ite (decide (p1 < ((List.length p2 : Nat) : Int)))
 (.ite ((3 : Int) == 0)
 .fail
 (.ite (decide (0 ≤ p1 ∧ p1 < ((List.length p2 : Nat) : Int)))
 (.get (nth p2 (Int.toNat p1)) fun y1 =>
 .ite (decide (0 ≤ p1 ∧ p1 < ((List.length (List.set p2 (Int.toNat p1) ((((Int.tmod p0 (3 : Int)) == (0 : Int))), y1.2)) : Nat) : Int)))
 (.get (nth (List.set p2 (Int.toNat p1) ((((Int.tmod p0 (3 : Int)) == (0 : Int))), y1.2)) (Int.toNat p1)) fun y2 =>
 .get (markIntSV y2.2.1 (IntKind.i64.wrap (p0 + (1 : Int)))) fun y3 =>
 .ite (decide (0 ≤ p1 ∧ p1 < ((List.length (List.set p2 (Int.toNat p1) ((((Int.tmod p0 (3 : Int)) == (0 : Int))), y1.2)) : Nat) : Int)))
 (.get (nth (List.set (List.set p2 (Int.toNat p1) ((((Int.tmod p0 (3 : Int)) == (0 : Int))), y1.2)) (Int.toNat p1) (y2.1, (y3.2, y2.2.2))) (Int.toNat p1)) fun y4 =>
 .ite (decide (0 ≤ p1 ∧ p1 < ((List.length (List.set (List.set (List.set p2 (Int.toNat p1) ((((Int.tmod p0 (3 : Int)) == (0 : Int))), y1.2)) (Int.toNat p1) (y2.1, (y3.2, y2.2.2))) (Int.toNat p1) (y4.1, (y4.2.1, (y3.1, y4.2.2.2)))) : Nat) : Int)))
 (.get (nth (List.set (List.set (List.set p2 (Int.toNat p1) ((((Int.tmod p0 (3 : Int)) == (0 : Int))), y1.2)) (Int.toNat p1) (y2.1, (y3.2, y2.2.2))) (Int.toNat p1) (y4.1, (y4.2.1, (y3.1, y4.2.2.2)))) (Int.toNat p1)) fun y5 =>
 .ret (.again (((IntKind.i64.wrap ((IntKind.i64.wrap (y3.1 + (1 : Int))) + (1 : Int))), (IntKind.i64.wrap (p1 + (1 : Int))), ()), ((List.set (List.set (List.set (List.set p2 (Int.toNat p1) ((((Int.tmod p0 (3 : Int)) == (0 : Int))), y1.2)) (Int.toNat p1) (y2.1, (y3.2, y2.2.2))) (Int.toNat p1) (y4.1, (y4.2.1, (y3.1, y4.2.2.2)))) (Int.toNat p1) (y5.1, (y5.2.1, (y5.2.2.1, ((IntKind.i64.wrap (y3.1 + (1 : Int))), y5.2.2.2.2))))), ()))))
 .fail)
 .fail)
 .fail)
 .fail))
 (.ret (.out ((p0, ()), (p2, ()))))
def f122_tree (a0 : List (Bool × XE)) (a1 : Int) : Out (((Int × Unit) × Unit) × ((List (Bool × XE) × Unit) × Unit × Unit)) :=
 .get (iter1 f122_L0 FUEL ((a1, (0 : Int), ()), (a0, ()))) fun y1 =>
 .ret (((y1.1.1, ()), ()), ((y1.2.1, ()), (), ()))
def f122_A : Nat → Option LoopAnn := fun n => annOf [(0, ⟨⟨[.srf 0, .i .i64, .dead, .dead, .dead, .i .i64] ++ dd 37, [(0, .arr tyR)]⟩, ⟨[.srf 0, .i .i64] ++ dd 41, [(0, .arr tyR)]⟩, none, false⟩)] n
def markARingSV (a0 : List ARingD) (k : Int) : Option (Int × (List ARingD)) := mkP (mkcARingS a0) k (mkdARingS (k) a0)
def k122 : Con := { f := 122, lend := true, its := [⟨false, false, [.mut tyR]⟩, ⟨false, false, [.i .i64]⟩], lay := [none, none], rs := [⟨false, false, [.i .i64]⟩], F := fun x => .get (markARingSV x.1.1 x.2.1.1) fun y => .ret (((y.1, ()), ()), ((y.2, ()), (), ())) }
theorem f122_eq (x : itemsD k122.its) : bo [k119] f122_A Tryz.f122 k122 [.tmp 4] x = f122_tree x.1.1 x.2.1.1 := by kernel_rfl
theorem f122_okp (hr : ∀ x : (List (Bool × XE) × Unit) × (Int × Unit) × Unit, itemsWF k122.its x → ∀ y, (k122.F x).eval = some y → (f122_tree x.1.1 x.2.1.1).eval = some y) : k122.Ok Tryz.prog := con_fn [k119] ⟨k119_ok, trivial⟩ f122_eq hr
theorem k122_ok : k122.Ok Tryz.prog := by
 refine f122_okp fun x hw y hy => ?_
 obtain ⟨⟨a0, _⟩, ⟨k, _⟩, _⟩ := x
 change (Out.get (markARingSV a0 k) fun y => Out.ret (((y.1, ()), ()), ((y.2, ()), (), ()))).eval = some y at hy
 obtain ⟨h0, h1, hy⟩ := mkP_get hy
 refine Eq.trans ?_ hy
 show (f122_tree a0 k).eval = _
 unfold f122_tree
 have ha : a0.length ≤ BIG := hw.1.1.1
 have := mk_loop (f := f122_L0) a0 mkcARing mkdARing (fun k l i => ((k, (((i : Nat) : Int), ())), (l, ()))) (fun k l => ((k, ()), (l, ())))
  (fun i hi k l hl h3 h0 hk => by
   have h1 := wrap_succ (i := i) (by omega)
   have h2 : i < l.length := by omega
   have h4 : l[i] = a0[i] := by rw [List.getElem?_eq_getElem h2] at h3; exact Option.some.inj h3
   unfold mkcARing at hk
   have w1 : IntKind.i64.wrap (k + 1) = k + 1 := wrap1 (by omega) (by omega)
   have w2 : markIntSV a0[i].2.1 (k + 1) = some (k + 1 + (mkcIntS a0[i].2.1 : Nat), mkdIntS (k + 1) a0[i].2.1) := mkP_in (by omega) (by omega)
   have w3 : IntKind.i64.wrap (k + 1 + (mkcIntS a0[i].2.1 : Nat) + 1) = k + 1 + (mkcIntS a0[i].2.1 : Nat) + 1 := wrap1 (by omega) (by omega)
   have w4 : IntKind.i64.wrap (k + 1 + (mkcIntS a0[i].2.1 : Nat) + 1 + 1) = k + 1 + (mkcIntS a0[i].2.1 : Nat) + 1 + 1 := wrap1 (by omega) (by omega)
   simp [f122_L0, Out.eval, h1, h2, h3, h4, hl, hi, mkcARing, mkdARing, mkdBool, beq3, w1, w2, w3, w4] <;> omega)
  (fun k l hl => by simp [f122_L0, Out.eval, hl]) ha h0 h1
 refine (eval_get_some this).trans ?_
 rfl
abbrev f123_S0 := (Int × Int × Unit) × (List (XK) × Unit)
def f123_L0 : f123_S0 → Out (Round f123_S0 ((Int × Unit) × (List (XK) × Unit)) Empty)
| ((p0, p1, _), p2, _) =>
 .ite (decide (p1 < ((List.length p2 : Nat) : Int)))
 (.ite ((3 : Int) == 0)
 .fail
 (.ite (decide (0 ≤ p1 ∧ p1 < ((List.length p2 : Nat) : Int)))
 (.get (nth p2 (Int.toNat p1)) fun y1 =>
 .ite (decide (0 ≤ p1 ∧ p1 < ((List.length (List.set p2 (Int.toNat p1) ((((Int.tmod p0 (3 : Int)) == (0 : Int))), y1.2)) : Nat) : Int)))
 (.get (nth (List.set p2 (Int.toNat p1) ((((Int.tmod p0 (3 : Int)) == (0 : Int))), y1.2)) (Int.toNat p1)) fun y2 =>
 .get (markIntSV y2.2.1 (IntKind.i64.wrap (p0 + (1 : Int)))) fun y3 =>
 .ret (.again ((y3.1, (IntKind.i64.wrap (p1 + (1 : Int))), ()), ((List.set (List.set p2 (Int.toNat p1) ((((Int.tmod p0 (3 : Int)) == (0 : Int))), y1.2)) (Int.toNat p1) (y2.1, (y3.2, y2.2.2))), ()))))
 .fail)
 .fail))
 (.ret (.out ((p0, ()), (p2, ()))))
def f123_tree (a0 : List XK) (a1 : Int) : Out (((Int × Unit) × Unit) × ((List XK × Unit) × Unit × Unit)) :=
 .get (iter1 f123_L0 FUEL ((a1, (0 : Int), ()), (a0, ()))) fun y1 =>
 .ret (((y1.1.1, ()), ()), ((y1.2.1, ()), (), ()))
def f123_A : Nat → Option LoopAnn := fun n => annOf [(0, ⟨⟨[.srf 0, .i .i64, .dead, .dead, .dead, .i .i64] ++ dd 23, [(0, .arr tyT)]⟩, ⟨[.srf 0, .i .i64] ++ dd 27, [(0, .arr tyT)]⟩, none, false⟩)] n
def markAFileSV (a0 : List AFileD) (k : Int) : Option (Int × (List AFileD)) := mkP (mkcAFileS a0) k (mkdAFileS (k) a0)
def k123 : Con := { f := 123, lend := true, its := [⟨false, false, [.mut tyT]⟩, ⟨false, false, [.i .i64]⟩], lay := [none, none], rs := [⟨false, false, [.i .i64]⟩], F := fun x => .get (markAFileSV x.1.1 x.2.1.1) fun y => .ret (((y.1, ()), ()), ((y.2, ()), (), ())) }
theorem f123_eq (x : itemsD k123.its) : bo [k119] f123_A Tryz.f123 k123 [.tmp 4] x = f123_tree x.1.1 x.2.1.1 := by kernel_rfl
theorem f123_okp (hr : ∀ x : (List XK × Unit) × (Int × Unit) × Unit, itemsWF k123.its x → ∀ y, (k123.F x).eval = some y → (f123_tree x.1.1 x.2.1.1).eval = some y) : k123.Ok Tryz.prog := con_fn [k119] ⟨k119_ok, trivial⟩ f123_eq hr
theorem k123_ok : k123.Ok Tryz.prog := by
 refine f123_okp fun x hw y hy => ?_
 obtain ⟨⟨a0, _⟩, ⟨k, _⟩, _⟩ := x
 change (Out.get (markAFileSV a0 k) fun y => Out.ret (((y.1, ()), ()), ((y.2, ()), (), ()))).eval = some y at hy
 obtain ⟨h0, h1, hy⟩ := mkP_get hy
 refine Eq.trans ?_ hy
 show (f123_tree a0 k).eval = _
 unfold f123_tree
 have ha : a0.length ≤ BIG := hw.1.1.1
 have := mk_loop (f := f123_L0) a0 mkcAFile mkdAFile (fun k l i => ((k, (((i : Nat) : Int), ())), (l, ()))) (fun k l => ((k, ()), (l, ())))
  (fun i hi k l hl h3 h0 hk => by
   have h1 := wrap_succ (i := i) (by omega)
   have h2 : i < l.length := by omega
   have h4 : l[i] = a0[i] := by rw [List.getElem?_eq_getElem h2] at h3; exact Option.some.inj h3
   unfold mkcAFile at hk
   have w1 : IntKind.i64.wrap (k + 1) = k + 1 := wrap1 (by omega) (by omega)
   have w2 : markIntSV a0[i].2.1 (k + 1) = some (k + 1 + (mkcIntS a0[i].2.1 : Nat), mkdIntS (k + 1) a0[i].2.1) := mkP_in (by omega) (by omega)
   simp [f123_L0, Out.eval, h1, h2, h3, h4, hl, hi, mkcAFile, mkdAFile, mkdBool, beq3, w1, w2] <;> omega)
  (fun k l hl => by simp [f123_L0, Out.eval, hl]) ha h0 h1
 refine (eval_get_some this).trans ?_
 rfl
abbrev f125_S0 := (Int × Int × Unit) × (List ProcD × Unit)
def f125_L0 : f125_S0 → Out (Round f125_S0 ((Int × Unit) × (List ProcD × Unit)) Empty)
| ((p0, p1, _), p2, _) =>
 .ite (decide (p1 < ((List.length p2 : Nat) : Int)))
 (.ite (decide (0 ≤ p1 ∧ p1 < ((List.length p2 : Nat) : Int)))
 (.get (nth p2 (Int.toNat p1)) fun y1 =>
 .ite (decide (0 ≤ p1 ∧ p1 < ((List.length (List.set p2 (Int.toNat p1) (p0, y1.2)) : Nat) : Int)))
 (.get (nth (List.set p2 (Int.toNat p1) (p0, y1.2)) (Int.toNat p1)) fun y2 =>
 .ite (decide (0 ≤ p1 ∧ p1 < ((List.length (List.set (List.set p2 (Int.toNat p1) (p0, y1.2)) (Int.toNat p1) (y2.1, ((IntKind.i64.wrap (p0 + (1 : Int))), y2.2.2))) : Nat) : Int)))
 (.get (nth (List.set (List.set p2 (Int.toNat p1) (p0, y1.2)) (Int.toNat p1) (y2.1, ((IntKind.i64.wrap (p0 + (1 : Int))), y2.2.2))) (Int.toNat p1)) fun y3 =>
 .ite (decide (0 ≤ p1 ∧ p1 < ((List.length (List.set (List.set (List.set p2 (Int.toNat p1) (p0, y1.2)) (Int.toNat p1) (y2.1, ((IntKind.i64.wrap (p0 + (1 : Int))), y2.2.2))) (Int.toNat p1) (y3.1, (y3.2.1, ((IntKind.i64.wrap ((IntKind.i64.wrap (p0 + (1 : Int))) + (1 : Int))), y3.2.2.2)))) : Nat) : Int)))
 (.get (nth (List.set (List.set (List.set p2 (Int.toNat p1) (p0, y1.2)) (Int.toNat p1) (y2.1, ((IntKind.i64.wrap (p0 + (1 : Int))), y2.2.2))) (Int.toNat p1) (y3.1, (y3.2.1, ((IntKind.i64.wrap ((IntKind.i64.wrap (p0 + (1 : Int))) + (1 : Int))), y3.2.2.2)))) (Int.toNat p1)) fun y4 =>
 .ite (decide (0 ≤ p1 ∧ p1 < ((List.length (List.set (List.set (List.set (List.set p2 (Int.toNat p1) (p0, y1.2)) (Int.toNat p1) (y2.1, ((IntKind.i64.wrap (p0 + (1 : Int))), y2.2.2))) (Int.toNat p1) (y3.1, (y3.2.1, ((IntKind.i64.wrap ((IntKind.i64.wrap (p0 + (1 : Int))) + (1 : Int))), y3.2.2.2)))) (Int.toNat p1) (y4.1, (y4.2.1, (y4.2.2.1, ((IntKind.i64.wrap ((IntKind.i64.wrap ((IntKind.i64.wrap (p0 + (1 : Int))) + (1 : Int))) + (1 : Int))), y4.2.2.2.2))))) : Nat) : Int)))
 (.get (nth (List.set (List.set (List.set (List.set p2 (Int.toNat p1) (p0, y1.2)) (Int.toNat p1) (y2.1, ((IntKind.i64.wrap (p0 + (1 : Int))), y2.2.2))) (Int.toNat p1) (y3.1, (y3.2.1, ((IntKind.i64.wrap ((IntKind.i64.wrap (p0 + (1 : Int))) + (1 : Int))), y3.2.2.2)))) (Int.toNat p1) (y4.1, (y4.2.1, (y4.2.2.1, ((IntKind.i64.wrap ((IntKind.i64.wrap ((IntKind.i64.wrap (p0 + (1 : Int))) + (1 : Int))) + (1 : Int))), y4.2.2.2.2))))) (Int.toNat p1)) fun y5 =>
 .ite (decide (0 ≤ p1 ∧ p1 < ((List.length (List.set (List.set (List.set (List.set (List.set p2 (Int.toNat p1) (p0, y1.2)) (Int.toNat p1) (y2.1, ((IntKind.i64.wrap (p0 + (1 : Int))), y2.2.2))) (Int.toNat p1) (y3.1, (y3.2.1, ((IntKind.i64.wrap ((IntKind.i64.wrap (p0 + (1 : Int))) + (1 : Int))), y3.2.2.2)))) (Int.toNat p1) (y4.1, (y4.2.1, (y4.2.2.1, ((IntKind.i64.wrap ((IntKind.i64.wrap ((IntKind.i64.wrap (p0 + (1 : Int))) + (1 : Int))) + (1 : Int))), y4.2.2.2.2))))) (Int.toNat p1) (y5.1, (y5.2.1, (y5.2.2.1, (y5.2.2.2.1, (((IntKind.i64.wrap ((IntKind.i64.wrap ((IntKind.i64.wrap ((IntKind.i64.wrap (p0 + (1 : Int))) + (1 : Int))) + (1 : Int))) + (1 : Int))), y5.2.2.2.2.1.2), y5.2.2.2.2.2)))))) : Nat) : Int)))
 (.get (nth (List.set (List.set (List.set (List.set (List.set p2 (Int.toNat p1) (p0, y1.2)) (Int.toNat p1) (y2.1, ((IntKind.i64.wrap (p0 + (1 : Int))), y2.2.2))) (Int.toNat p1) (y3.1, (y3.2.1, ((IntKind.i64.wrap ((IntKind.i64.wrap (p0 + (1 : Int))) + (1 : Int))), y3.2.2.2)))) (Int.toNat p1) (y4.1, (y4.2.1, (y4.2.2.1, ((IntKind.i64.wrap ((IntKind.i64.wrap ((IntKind.i64.wrap (p0 + (1 : Int))) + (1 : Int))) + (1 : Int))), y4.2.2.2.2))))) (Int.toNat p1) (y5.1, (y5.2.1, (y5.2.2.1, (y5.2.2.2.1, (((IntKind.i64.wrap ((IntKind.i64.wrap ((IntKind.i64.wrap ((IntKind.i64.wrap (p0 + (1 : Int))) + (1 : Int))) + (1 : Int))) + (1 : Int))), y5.2.2.2.2.1.2), y5.2.2.2.2.2)))))) (Int.toNat p1)) fun y6 =>
 .get (markIntSV y6.2.2.2.2.1.2.1 (IntKind.i64.wrap ((IntKind.i64.wrap ((IntKind.i64.wrap ((IntKind.i64.wrap ((IntKind.i64.wrap (p0 + (1 : Int))) + (1 : Int))) + (1 : Int))) + (1 : Int))) + (1 : Int)))) fun y7 =>
 .ite (decide (0 ≤ p1 ∧ p1 < ((List.length (List.set (List.set (List.set (List.set (List.set p2 (Int.toNat p1) (p0, y1.2)) (Int.toNat p1) (y2.1, ((IntKind.i64.wrap (p0 + (1 : Int))), y2.2.2))) (Int.toNat p1) (y3.1, (y3.2.1, ((IntKind.i64.wrap ((IntKind.i64.wrap (p0 + (1 : Int))) + (1 : Int))), y3.2.2.2)))) (Int.toNat p1) (y4.1, (y4.2.1, (y4.2.2.1, ((IntKind.i64.wrap ((IntKind.i64.wrap ((IntKind.i64.wrap (p0 + (1 : Int))) + (1 : Int))) + (1 : Int))), y4.2.2.2.2))))) (Int.toNat p1) (y5.1, (y5.2.1, (y5.2.2.1, (y5.2.2.2.1, (((IntKind.i64.wrap ((IntKind.i64.wrap ((IntKind.i64.wrap ((IntKind.i64.wrap (p0 + (1 : Int))) + (1 : Int))) + (1 : Int))) + (1 : Int))), y5.2.2.2.2.1.2), y5.2.2.2.2.2)))))) : Nat) : Int)))
 (.get (nth (List.set (List.set (List.set (List.set (List.set (List.set p2 (Int.toNat p1) (p0, y1.2)) (Int.toNat p1) (y2.1, ((IntKind.i64.wrap (p0 + (1 : Int))), y2.2.2))) (Int.toNat p1) (y3.1, (y3.2.1, ((IntKind.i64.wrap ((IntKind.i64.wrap (p0 + (1 : Int))) + (1 : Int))), y3.2.2.2)))) (Int.toNat p1) (y4.1, (y4.2.1, (y4.2.2.1, ((IntKind.i64.wrap ((IntKind.i64.wrap ((IntKind.i64.wrap (p0 + (1 : Int))) + (1 : Int))) + (1 : Int))), y4.2.2.2.2))))) (Int.toNat p1) (y5.1, (y5.2.1, (y5.2.2.1, (y5.2.2.2.1, (((IntKind.i64.wrap ((IntKind.i64.wrap ((IntKind.i64.wrap ((IntKind.i64.wrap (p0 + (1 : Int))) + (1 : Int))) + (1 : Int))) + (1 : Int))), y5.2.2.2.2.1.2), y5.2.2.2.2.2)))))) (Int.toNat p1) (y6.1, (y6.2.1, (y6.2.2.1, (y6.2.2.2.1, ((y6.2.2.2.2.1.1, (y7.2, y6.2.2.2.2.1.2.2)), y6.2.2.2.2.2)))))) (Int.toNat p1)) fun y8 =>
 .get (markIntSV y8.2.2.2.2.2.1 y7.1) fun y9 =>
 .ite (decide (0 ≤ p1 ∧ p1 < ((List.length (List.set (List.set (List.set (List.set (List.set (List.set p2 (Int.toNat p1) (p0, y1.2)) (Int.toNat p1) (y2.1, ((IntKind.i64.wrap (p0 + (1 : Int))), y2.2.2))) (Int.toNat p1) (y3.1, (y3.2.1, ((IntKind.i64.wrap ((IntKind.i64.wrap (p0 + (1 : Int))) + (1 : Int))), y3.2.2.2)))) (Int.toNat p1) (y4.1, (y4.2.1, (y4.2.2.1, ((IntKind.i64.wrap ((IntKind.i64.wrap ((IntKind.i64.wrap (p0 + (1 : Int))) + (1 : Int))) + (1 : Int))), y4.2.2.2.2))))) (Int.toNat p1) (y5.1, (y5.2.1, (y5.2.2.1, (y5.2.2.2.1, (((IntKind.i64.wrap ((IntKind.i64.wrap ((IntKind.i64.wrap ((IntKind.i64.wrap (p0 + (1 : Int))) + (1 : Int))) + (1 : Int))) + (1 : Int))), y5.2.2.2.2.1.2), y5.2.2.2.2.2)))))) (Int.toNat p1) (y6.1, (y6.2.1, (y6.2.2.1, (y6.2.2.2.1, ((y6.2.2.2.2.1.1, (y7.2, y6.2.2.2.2.1.2.2)), y6.2.2.2.2.2)))))) : Nat) : Int)))
 (.get (nth (List.set (List.set (List.set (List.set (List.set (List.set (List.set p2 (Int.toNat p1) (p0, y1.2)) (Int.toNat p1) (y2.1, ((IntKind.i64.wrap (p0 + (1 : Int))), y2.2.2))) (Int.toNat p1) (y3.1, (y3.2.1, ((IntKind.i64.wrap ((IntKind.i64.wrap (p0 + (1 : Int))) + (1 : Int))), y3.2.2.2)))) (Int.toNat p1) (y4.1, (y4.2.1, (y4.2.2.1, ((IntKind.i64.wrap ((IntKind.i64.wrap ((IntKind.i64.wrap (p0 + (1 : Int))) + (1 : Int))) + (1 : Int))), y4.2.2.2.2))))) (Int.toNat p1) (y5.1, (y5.2.1, (y5.2.2.1, (y5.2.2.2.1, (((IntKind.i64.wrap ((IntKind.i64.wrap ((IntKind.i64.wrap ((IntKind.i64.wrap (p0 + (1 : Int))) + (1 : Int))) + (1 : Int))) + (1 : Int))), y5.2.2.2.2.1.2), y5.2.2.2.2.2)))))) (Int.toNat p1) (y6.1, (y6.2.1, (y6.2.2.1, (y6.2.2.2.1, ((y6.2.2.2.2.1.1, (y7.2, y6.2.2.2.2.1.2.2)), y6.2.2.2.2.2)))))) (Int.toNat p1) (y8.1, (y8.2.1, (y8.2.2.1, (y8.2.2.2.1, (y8.2.2.2.2.1, (y9.2, y8.2.2.2.2.2.2))))))) (Int.toNat p1)) fun y10 =>
 .get (markIntSV y10.2.2.2.2.2.2.1 y9.1) fun y11 =>
 .ite (decide (0 ≤ p1 ∧ p1 < ((List.length (List.set (List.set (List.set (List.set (List.set (List.set (List.set p2 (Int.toNat p1) (p0, y1.2)) (Int.toNat p1) (y2.1, ((IntKind.i64.wrap (p0 + (1 : Int))), y2.2.2))) (Int.toNat p1) (y3.1, (y3.2.1, ((IntKind.i64.wrap ((IntKind.i64.wrap (p0 + (1 : Int))) + (1 : Int))), y3.2.2.2)))) (Int.toNat p1) (y4.1, (y4.2.1, (y4.2.2.1, ((IntKind.i64.wrap ((IntKind.i64.wrap ((IntKind.i64.wrap (p0 + (1 : Int))) + (1 : Int))) + (1 : Int))), y4.2.2.2.2))))) (Int.toNat p1) (y5.1, (y5.2.1, (y5.2.2.1, (y5.2.2.2.1, (((IntKind.i64.wrap ((IntKind.i64.wrap ((IntKind.i64.wrap ((IntKind.i64.wrap (p0 + (1 : Int))) + (1 : Int))) + (1 : Int))) + (1 : Int))), y5.2.2.2.2.1.2), y5.2.2.2.2.2)))))) (Int.toNat p1) (y6.1, (y6.2.1, (y6.2.2.1, (y6.2.2.2.1, ((y6.2.2.2.2.1.1, (y7.2, y6.2.2.2.2.1.2.2)), y6.2.2.2.2.2)))))) (Int.toNat p1) (y8.1, (y8.2.1, (y8.2.2.1, (y8.2.2.2.1, (y8.2.2.2.2.1, (y9.2, y8.2.2.2.2.2.2))))))) : Nat) : Int)))
 (.get (nth (List.set (List.set (List.set (List.set (List.set (List.set (List.set (List.set p2 (Int.toNat p1) (p0, y1.2)) (Int.toNat p1) (y2.1, ((IntKind.i64.wrap (p0 + (1 : Int))), y2.2.2))) (Int.toNat p1) (y3.1, (y3.2.1, ((IntKind.i64.wrap ((IntKind.i64.wrap (p0 + (1 : Int))) + (1 : Int))), y3.2.2.2)))) (Int.toNat p1) (y4.1, (y4.2.1, (y4.2.2.1, ((IntKind.i64.wrap ((IntKind.i64.wrap ((IntKind.i64.wrap (p0 + (1 : Int))) + (1 : Int))) + (1 : Int))), y4.2.2.2.2))))) (Int.toNat p1) (y5.1, (y5.2.1, (y5.2.2.1, (y5.2.2.2.1, (((IntKind.i64.wrap ((IntKind.i64.wrap ((IntKind.i64.wrap ((IntKind.i64.wrap (p0 + (1 : Int))) + (1 : Int))) + (1 : Int))) + (1 : Int))), y5.2.2.2.2.1.2), y5.2.2.2.2.2)))))) (Int.toNat p1) (y6.1, (y6.2.1, (y6.2.2.1, (y6.2.2.2.1, ((y6.2.2.2.2.1.1, (y7.2, y6.2.2.2.2.1.2.2)), y6.2.2.2.2.2)))))) (Int.toNat p1) (y8.1, (y8.2.1, (y8.2.2.1, (y8.2.2.2.1, (y8.2.2.2.2.1, (y9.2, y8.2.2.2.2.2.2))))))) (Int.toNat p1) (y10.1, (y10.2.1, (y10.2.2.1, (y10.2.2.2.1, (y10.2.2.2.2.1, (y10.2.2.2.2.2.1, (y11.2, y10.2.2.2.2.2.2.2)))))))) (Int.toNat p1)) fun y12 =>
 .ite (decide (0 ≤ p1 ∧ p1 < ((List.length (List.set (List.set (List.set (List.set (List.set (List.set (List.set (List.set (List.set p2 (Int.toNat p1) (p0, y1.2)) (Int.toNat p1) (y2.1, ((IntKind.i64.wrap (p0 + (1 : Int))), y2.2.2))) (Int.toNat p1) (y3.1, (y3.2.1, ((IntKind.i64.wrap ((IntKind.i64.wrap (p0 + (1 : Int))) + (1 : Int))), y3.2.2.2)))) (Int.toNat p1) (y4.1, (y4.2.1, (y4.2.2.1, ((IntKind.i64.wrap ((IntKind.i64.wrap ((IntKind.i64.wrap (p0 + (1 : Int))) + (1 : Int))) + (1 : Int))), y4.2.2.2.2))))) (Int.toNat p1) (y5.1, (y5.2.1, (y5.2.2.1, (y5.2.2.2.1, (((IntKind.i64.wrap ((IntKind.i64.wrap ((IntKind.i64.wrap ((IntKind.i64.wrap (p0 + (1 : Int))) + (1 : Int))) + (1 : Int))) + (1 : Int))), y5.2.2.2.2.1.2), y5.2.2.2.2.2)))))) (Int.toNat p1) (y6.1, (y6.2.1, (y6.2.2.1, (y6.2.2.2.1, ((y6.2.2.2.2.1.1, (y7.2, y6.2.2.2.2.1.2.2)), y6.2.2.2.2.2)))))) (Int.toNat p1) (y8.1, (y8.2.1, (y8.2.2.1, (y8.2.2.2.1, (y8.2.2.2.2.1, (y9.2, y8.2.2.2.2.2.2))))))) (Int.toNat p1) (y10.1, (y10.2.1, (y10.2.2.1, (y10.2.2.2.1, (y10.2.2.2.2.1, (y10.2.2.2.2.2.1, (y11.2, y10.2.2.2.2.2.2.2)))))))) (Int.toNat p1) (y12.1, (y12.2.1, (y12.2.2.1, (y12.2.2.2.1, (y12.2.2.2.2.1, (y12.2.2.2.2.2.1, (y12.2.2.2.2.2.2.1, (y11.1, y12.2.2.2.2.2.2.2.2))))))))) : Nat) : Int)))
 (.get (nth (List.set (List.set (List.set (List.set (List.set (List.set (List.set (List.set (List.set p2 (Int.toNat p1) (p0, y1.2)) (Int.toNat p1) (y2.1, ((IntKind.i64.wrap (p0 + (1 : Int))), y2.2.2))) (Int.toNat p1) (y3.1, (y3.2.1, ((IntKind.i64.wrap ((IntKind.i64.wrap (p0 + (1 : Int))) + (1 : Int))), y3.2.2.2)))) (Int.toNat p1) (y4.1, (y4.2.1, (y4.2.2.1, ((IntKind.i64.wrap ((IntKind.i64.wrap ((IntKind.i64.wrap (p0 + (1 : Int))) + (1 : Int))) + (1 : Int))), y4.2.2.2.2))))) (Int.toNat p1) (y5.1, (y5.2.1, (y5.2.2.1, (y5.2.2.2.1, (((IntKind.i64.wrap ((IntKind.i64.wrap ((IntKind.i64.wrap ((IntKind.i64.wrap (p0 + (1 : Int))) + (1 : Int))) + (1 : Int))) + (1 : Int))), y5.2.2.2.2.1.2), y5.2.2.2.2.2)))))) (Int.toNat p1) (y6.1, (y6.2.1, (y6.2.2.1, (y6.2.2.2.1, ((y6.2.2.2.2.1.1, (y7.2, y6.2.2.2.2.1.2.2)), y6.2.2.2.2.2)))))) (Int.toNat p1) (y8.1, (y8.2.1, (y8.2.2.1, (y8.2.2.2.1, (y8.2.2.2.2.1, (y9.2, y8.2.2.2.2.2.2))))))) (Int.toNat p1) (y10.1, (y10.2.1, (y10.2.2.1, (y10.2.2.2.1, (y10.2.2.2.2.1, (y10.2.2.2.2.2.1, (y11.2, y10.2.2.2.2.2.2.2)))))))) (Int.toNat p1) (y12.1, (y12.2.1, (y12.2.2.1, (y12.2.2.2.1, (y12.2.2.2.2.1, (y12.2.2.2.2.2.1, (y12.2.2.2.2.2.2.1, (y11.1, y12.2.2.2.2.2.2.2.2))))))))) (Int.toNat p1)) fun y13 =>
 .ret (.again (((IntKind.i64.wrap ((IntKind.i64.wrap (y11.1 + (1 : Int))) + (1 : Int))), (IntKind.i64.wrap (p1 + (1 : Int))), ()), ((List.set (List.set (List.set (List.set (List.set (List.set (List.set (List.set (List.set (List.set p2 (Int.toNat p1) (p0, y1.2)) (Int.toNat p1) (y2.1, ((IntKind.i64.wrap (p0 + (1 : Int))), y2.2.2))) (Int.toNat p1) (y3.1, (y3.2.1, ((IntKind.i64.wrap ((IntKind.i64.wrap (p0 + (1 : Int))) + (1 : Int))), y3.2.2.2)))) (Int.toNat p1) (y4.1, (y4.2.1, (y4.2.2.1, ((IntKind.i64.wrap ((IntKind.i64.wrap ((IntKind.i64.wrap (p0 + (1 : Int))) + (1 : Int))) + (1 : Int))), y4.2.2.2.2))))) (Int.toNat p1) (y5.1, (y5.2.1, (y5.2.2.1, (y5.2.2.2.1, (((IntKind.i64.wrap ((IntKind.i64.wrap ((IntKind.i64.wrap ((IntKind.i64.wrap (p0 + (1 : Int))) + (1 : Int))) + (1 : Int))) + (1 : Int))), y5.2.2.2.2.1.2), y5.2.2.2.2.2)))))) (Int.toNat p1) (y6.1, (y6.2.1, (y6.2.2.1, (y6.2.2.2.1, ((y6.2.2.2.2.1.1, (y7.2, y6.2.2.2.2.1.2.2)), y6.2.2.2.2.2)))))) (Int.toNat p1) (y8.1, (y8.2.1, (y8.2.2.1, (y8.2.2.2.1, (y8.2.2.2.2.1, (y9.2, y8.2.2.2.2.2.2))))))) (Int.toNat p1) (y10.1, (y10.2.1, (y10.2.2.1, (y10.2.2.2.1, (y10.2.2.2.2.1, (y10.2.2.2.2.2.1, (y11.2, y10.2.2.2.2.2.2.2)))))))) (Int.toNat p1) (y12.1, (y12.2.1, (y12.2.2.1, (y12.2.2.2.1, (y12.2.2.2.2.1, (y12.2.2.2.2.2.1, (y12.2.2.2.2.2.2.1, (y11.1, y12.2.2.2.2.2.2.2.2))))))))) (Int.toNat p1) (y13.1, (y13.2.1, (y13.2.2.1, (y13.2.2.2.1, (y13.2.2.2.2.1, (y13.2.2.2.2.2.1, (y13.2.2.2.2.2.2.1, (y13.2.2.2.2.2.2.2.1, ((IntKind.i64.wrap (y11.1 + (1 : Int))), y13.2.2.2.2.2.2.2.2.2)))))))))), ()))))
 .fail)
 .fail)
 .fail)
 .fail)
 .fail)
 .fail)
 .fail)
 .fail)
 .fail)
 .fail)
 (.ret (.out ((p0, ()), (p2, ()))))
def f125_tree (a0 : List ProcD) (a1 : Int) : Out (((Int × Unit) × Unit) × ((List ProcD × Unit) × Unit × Unit)) :=
 .get (iter1 f125_L0 FUEL ((a1, (0 : Int), ()), (a0, ()))) fun y1 =>
 .ret (((y1.1.1, ()), ()), ((y1.2.1, ()), (), ()))
def f125_A : Nat → Option LoopAnn := fun n => annOf [(0, ⟨⟨[.srf 0, .i .i64, .dead, .dead, .dead, .i .i64] ++ dd 79, [(0, .arr tyP)]⟩, ⟨[.srf 0, .i .i64] ++ dd 83, [(0, .arr tyP)]⟩, none, false⟩)] n
def markProcSV (a0 : List ProcD) (k : Int) : Option (Int × (List ProcD)) := mkP (mkcProcS a0) k (mkdProcS (k) a0)
def k125 : Con := { f := 125, lend := true, its := [⟨false, false, [.mut tyP]⟩, ⟨false, false, [.i .i64]⟩], lay := [none, none], rs := [⟨false, false, [.i .i64]⟩], F := fun x => .get (markProcSV x.1.1 x.2.1.1) fun y => .ret (((y.1, ()), ()), ((y.2, ()), (), ())) }
theorem f125_eq (x : itemsD k125.its) : bo [k119] f125_A Tryz.f125 k125 [.tmp 4] x = f125_tree x.1.1 x.2.1.1 := by kernel_rfl
theorem f125_okp (hr : ∀ x : (List ProcD × Unit) × (Int × Unit) × Unit, itemsWF k125.its x → ∀ y, (k125.F x).eval = some y → (f125_tree x.1.1 x.2.1.1).eval = some y) : k125.Ok Tryz.prog := con_fn [k119] ⟨k119_ok, trivial⟩ f125_eq hr
theorem k125_ok : k125.Ok Tryz.prog := by
 refine f125_okp fun x hw y hy => ?_
 obtain ⟨⟨a0, _⟩, ⟨k, _⟩, _⟩ := x
 change (Out.get (markProcSV a0 k) fun y => Out.ret (((y.1, ()), ()), ((y.2, ()), (), ()))).eval = some y at hy
 obtain ⟨h0, h1, hy⟩ := mkP_get hy
 refine Eq.trans ?_ hy
 show (f125_tree a0 k).eval = _
 unfold f125_tree
 have ha : a0.length ≤ BIG := hw.1.1.1
 have := mk_loop (f := f125_L0) a0 mkcProc mkdProc (fun k l i => ((k, (((i : Nat) : Int), ())), (l, ()))) (fun k l => ((k, ()), (l, ())))
  (fun i hi k l hl h3 h0 hk => by
   have h1 := wrap_succ (i := i) (by omega)
   have h2 : i < l.length := by omega
   have h4 : l[i] = a0[i] := by rw [List.getElem?_eq_getElem h2] at h3; exact Option.some.inj h3
   unfold mkcProc at hk
   have w1 : IntKind.i64.wrap (k + 1) = k + 1 := wrap1 (by omega) (by omega)
   have w2 : IntKind.i64.wrap (k + 1 + 1) = k + 1 + 1 := wrap1 (by omega) (by omega)
   have w3 : IntKind.i64.wrap (k + 1 + 1 + 1) = k + 1 + 1 + 1 := wrap1 (by omega) (by omega)
   have w4 : IntKind.i64.wrap (k + 1 + 1 + 1 + 1) = k + 1 + 1 + 1 + 1 := wrap1 (by omega) (by omega)
   have w5 : IntKind.i64.wrap (k + 1 + 1 + 1 + 1 + 1) = k + 1 + 1 + 1 + 1 + 1 := wrap1 (by omega) (by omega)
   have w6 : markIntSV a0[i].2.2.2.2.1.2.1 (k + 1 + 1 + 1 + 1 + 1) = some (k + 1 + 1 + 1 + 1 + 1 + (mkcIntS a0[i].2.2.2.2.1.2.1 : Nat), mkdIntS (k + 1 + 1 + 1 + 1 + 1) a0[i].2.2.2.2.1.2.1) := mkP_in (by omega) (by omega)
   have w7 : markIntSV a0[i].2.2.2.2.2.1 (k + 1 + 1 + 1 + 1 + 1 + (mkcIntS a0[i].2.2.2.2.1.2.1 : Nat)) = some (k + 1 + 1 + 1 + 1 + 1 + (mkcIntS a0[i].2.2.2.2.1.2.1 : Nat) + (mkcIntS a0[i].2.2.2.2.2.1 : Nat), mkdIntS (k + 1 + 1 + 1 + 1 + 1 + (mkcIntS a0[i].2.2.2.2.1.2.1 : Nat)) a0[i].2.2.2.2.2.1) := mkP_in (by omega) (by omega)
   have w8 : markIntSV a0[i].2.2.2.2.2.2.1 (k + 1 + 1 + 1 + 1 + 1 + (mkcIntS a0[i].2.2.2.2.1.2.1 : Nat) + (mkcIntS a0[i].2.2.2.2.2.1 : Nat)) = some (k + 1 + 1 + 1 + 1 + 1 + (mkcIntS a0[i].2.2.2.2.1.2.1 : Nat) + (mkcIntS a0[i].2.2.2.2.2.1 : Nat) + (mkcIntS a0[i].2.2.2.2.2.2.1 : Nat), mkdIntS (k + 1 + 1 + 1 + 1 + 1 + (mkcIntS a0[i].2.2.2.2.1.2.1 : Nat) + (mkcIntS a0[i].2.2.2.2.2.1 : Nat)) a0[i].2.2.2.2.2.2.1) := mkP_in (by omega) (by omega)
   have w9 : IntKind.i64.wrap (k + 1 + 1 + 1 + 1 + 1 + (mkcIntS a0[i].2.2.2.2.1.2.1 : Nat) + (mkcIntS a0[i].2.2.2.2.2.1 : Nat) + (mkcIntS a0[i].2.2.2.2.2.2.1 : Nat) + 1) = k + 1 + 1 + 1 + 1 + 1 + (mkcIntS a0[i].2.2.2.2.1.2.1 : Nat) + (mkcIntS a0[i].2.2.2.2.2.1 : Nat) + (mkcIntS a0[i].2.2.2.2.2.2.1 : Nat) + 1 := wrap1 (by omega) (by omega)
   have w10 : IntKind.i64.wrap (k + 1 + 1 + 1 + 1 + 1 + (mkcIntS a0[i].2.2.2.2.1.2.1 : Nat) + (mkcIntS a0[i].2.2.2.2.2.1 : Nat) + (mkcIntS a0[i].2.2.2.2.2.2.1 : Nat) + 1 + 1) = k + 1 + 1 + 1 + 1 + 1 + (mkcIntS a0[i].2.2.2.2.1.2.1 : Nat) + (mkcIntS a0[i].2.2.2.2.2.1 : Nat) + (mkcIntS a0[i].2.2.2.2.2.2.1 : Nat) + 1 + 1 := wrap1 (by omega) (by omega)
   simp [f125_L0, Out.eval, h1, h2, h3, h4, hl, hi, mkcProc, mkdProc, w1, w2, w3, w4, w5, w6, w7, w8, w9, w10] <;> omega)
  (fun k l hl => by simp [f125_L0, Out.eval, hl]) ha h0 h1
 refine (eval_get_some this).trans ?_
 rfl
abbrev f128_S0 := (Int × Int × Unit) × (List (XH) × Unit)
def f128_L0 : f128_S0 → Out (Round f128_S0 ((Int × Unit) × (List (XH) × Unit)) Empty)
| ((p0, p1, _), p2, _) =>
 .ite (decide (p1 < ((List.length p2 : Nat) : Int)))
 (.ite (decide (0 ≤ p1 ∧ p1 < ((List.length p2 : Nat) : Int)))
 (.get (nth p2 (Int.toNat p1)) fun y1 =>
 .ite (decide (0 ≤ p1 ∧ p1 < ((List.length (List.set p2 (Int.toNat p1) (p0, y1.2)) : Nat) : Int)))
 (.get (nth (List.set p2 (Int.toNat p1) (p0, y1.2)) (Int.toNat p1)) fun y2 =>
 .get (markIntSSV y2.2.1 (IntKind.i64.wrap (p0 + (1 : Int)))) fun y3 =>
 .ret (.again ((y3.1, (IntKind.i64.wrap (p1 + (1 : Int))), ()), ((List.set (List.set p2 (Int.toNat p1) (p0, y1.2)) (Int.toNat p1) (y2.1, (y3.2, y2.2.2))), ()))))
 .fail)
 .fail)
 (.ret (.out ((p0, ()), (p2, ()))))
def f128_tree (a0 : List XH) (a1 : Int) : Out (((Int × Unit) × Unit) × ((List XH × Unit) × Unit × Unit)) :=
 .get (iter1 f128_L0 FUEL ((a1, (0 : Int), ()), (a0, ()))) fun y1 =>
 .ret (((y1.1.1, ()), ()), ((y1.2.1, ()), (), ()))
def f128_A : Nat → Option LoopAnn := fun n => annOf [(0, ⟨⟨[.srf 0, .i .i64, .dead, .dead, .dead, .i .i64] ++ dd 21, [(0, .arr tyU)]⟩, ⟨[.srf 0, .i .i64] ++ dd 25, [(0, .arr tyU)]⟩, none, false⟩)] n
def markBPipeSV (a0 : List BPipeD) (k : Int) : Option (Int × (List BPipeD)) := mkP (mkcBPipeS a0) k (mkdBPipeS (k) a0)
def k128 : Con := { f := 128, lend := true, its := [⟨false, false, [.mut tyU]⟩, ⟨false, false, [.i .i64]⟩], lay := [none, none], rs := [⟨false, false, [.i .i64]⟩], F := fun x => .get (markBPipeSV x.1.1 x.2.1.1) fun y => .ret (((y.1, ()), ()), ((y.2, ()), (), ())) }
theorem f128_eq (x : itemsD k128.its) : bo [k217] f128_A Tryz.f128 k128 [.tmp 4] x = f128_tree x.1.1 x.2.1.1 := by kernel_rfl
theorem f128_okp (hr : ∀ x : (List XH × Unit) × (Int × Unit) × Unit, itemsWF k128.its x → ∀ y, (k128.F x).eval = some y → (f128_tree x.1.1 x.2.1.1).eval = some y) : k128.Ok Tryz.prog := con_fn [k217] ⟨k217_ok, trivial⟩ f128_eq hr
theorem k128_ok : k128.Ok Tryz.prog := by
 refine f128_okp fun x hw y hy => ?_
 obtain ⟨⟨a0, _⟩, ⟨k, _⟩, _⟩ := x
 change (Out.get (markBPipeSV a0 k) fun y => Out.ret (((y.1, ()), ()), ((y.2, ()), (), ()))).eval = some y at hy
 obtain ⟨h0, h1, hy⟩ := mkP_get hy
 refine Eq.trans ?_ hy
 show (f128_tree a0 k).eval = _
 unfold f128_tree
 have ha : a0.length ≤ BIG := hw.1.1.1
 have := mk_loop (f := f128_L0) a0 mkcBPipe mkdBPipe (fun k l i => ((k, (((i : Nat) : Int), ())), (l, ()))) (fun k l => ((k, ()), (l, ())))
  (fun i hi k l hl h3 h0 hk => by
   have h1 := wrap_succ (i := i) (by omega)
   have h2 : i < l.length := by omega
   have h4 : l[i] = a0[i] := by rw [List.getElem?_eq_getElem h2] at h3; exact Option.some.inj h3
   unfold mkcBPipe at hk
   have w1 : IntKind.i64.wrap (k + 1) = k + 1 := wrap1 (by omega) (by omega)
   have w2 : markIntSSV a0[i].2.1 (k + 1) = some (k + 1 + (mkcIntSS a0[i].2.1 : Nat), mkdIntSS (k + 1) a0[i].2.1) := mkP_in (by omega) (by omega)
   simp [f128_L0, Out.eval, h1, h2, h3, h4, hl, hi, mkcBPipe, mkdBPipe, w1, w2] <;> omega)
  (fun k l hl => by simp [f128_L0, Out.eval, hl]) ha h0 h1
 refine (eval_get_some this).trans ?_
 rfl
def f126_tree (a0 : List (List Int)) (a1 : Int) : Out (((Int × Unit) × Unit) × ((List (List Int) × Unit) × Unit × Unit)) :=
 .get (markIntSSV a0 a1) fun y1 =>
 .ret (((y1.1, ()), ()), ((y1.2, ()), (), ()))
def markBuddyV (a0 : List (List Int)) (k : Int) : Option (Int × (List (List Int))) := mkP (mkcIntSS a0) k (mkdIntSS (k) a0)
def k126 : Con := { f := 126, lend := true, its := [⟨false, true, [.mut (.sl (.int .i64))]⟩, ⟨false, false, [.i .i64]⟩], lay := [none, none], rs := [⟨false, false, [.i .i64]⟩], F := fun x => .get (markBuddyV x.1.1 x.2.1.1) fun y => .ret (((y.1, ()), ()), ((y.2, ()), (), ())) }
theorem f126_eq (x : itemsD k126.its) : bo [k217] (fun _ => none) Tryz.f126 k126 [.tmp 4] x = f126_tree x.1.1 x.2.1.1 := by kernel_rfl
theorem f126_okp (hr : ∀ x : (List (List Int) × Unit) × (Int × Unit) × Unit, itemsWF k126.its x → ∀ y, (k126.F x).eval = some y → (f126_tree x.1.1 x.2.1.1).eval = some y) : k126.Ok Tryz.prog := con_fn [k217] ⟨k217_ok, trivial⟩ f126_eq hr
theorem k126_ok : k126.Ok Tryz.prog := by
 refine f126_okp fun x hw y hy => ?_
 obtain ⟨⟨a0, _⟩, ⟨k, _⟩, _⟩ := x
 change (Out.get (markBuddyV a0 k) fun y => Out.ret (((y.1, ()), ()), ((y.2, ()), (), ()))).eval = some y at hy
 obtain ⟨h0, h1, hy⟩ := mkP_get hy
 refine Eq.trans ?_ hy
 show (f126_tree a0 k).eval = _
 unfold f126_tree
 have e0 : markIntSSV a0 (k) = some (k + (mkcIntSS a0 : Nat), mkdIntSS (k) a0) := mkP_in (by omega) (by omega)
 rw [eval_get_some e0]
 all_goals (have e : k + ((mkcIntSS a0 : Nat) : Int) = k + (mkcIntSS a0 : Nat) := (by omega); rw [e]; try rfl)
def f50_tree (a0 : Int) (a1 : Int) (a2 : List (List InsD)) (a3 : List XB) (a4 : List Int) (a5 : List Bool) (a6 : List XF) (a7 : List (Bool × XE)) (a8 : List XK) (a9 : Bool) (a10 : List Int) (a11 : Int) (a12 : Int) (a13 : List Int) (a14 : Int) : Out (((Int × Unit) × Unit) × ((List (List InsD) × List XB × List Int × List Bool × List XF × List (Bool × XE) × List XK × List Int × List Int × Unit) × Unit × Unit)) :=
 .get (markInsSSV a2 a14) fun y1 =>
 .get (markASlotSV a3 y1.1) fun y2 =>
 .get (markIntSV a4 y2.1) fun y3 =>
 .get (markBoolSV a5 y3.1) fun y4 =>
 .get (markAOpenSV a6 y4.1) fun y5 =>
 .get (markARingSV a7 y5.1) fun y6 =>
 .get (markAFileSV a8 y6.1) fun y7 =>
 .get (markARingV a9 a10 a11 a12 y7.1) fun y8 =>
 .get (markIntSV a13 y8.1) fun y9 =>
 .ret (((y9.1, ()), ()), ((y1.2, y2.2, y3.2, y4.2, y5.2, y6.2, y7.2, y8.2, y9.2, ()), (), ()))
def markArraysV (_a0 : Int) (_a1 : Int) (a2 : List (List InsD)) (a3 : List ASlotD) (a4 : List Int) (a5 : List Bool) (a6 : List AOpenD) (a7 : List ARingD) (a8 : List AFileD) (_a9 : Bool) (a10 : List Int) (_a11 : Int) (_a12 : Int) (a13 : List Int) (k : Int) : Option (Int × (List (List InsD)) × (List ASlotD) × (List Int) × (List Bool) × (List AOpenD) × (List ARingD) × (List AFileD) × (List Int) × (List Int)) := mkP (mkcInsSS a2 + mkcASlotS a3 + mkcIntS a4 + mkcBoolS a5 + mkcAOpenS a6 + mkcARingS a7 + mkcAFileS a8 + mkcIntS a10 + mkcIntS a13) k (mkdInsSS (k) a2, mkdASlotS (k + (mkcInsSS a2 : Nat)) a3, mkdIntS (k + (mkcInsSS a2 : Nat) + (mkcASlotS a3 : Nat)) a4, mkdBoolS (k + (mkcInsSS a2 : Nat) + (mkcASlotS a3 : Nat) + (mkcIntS a4 : Nat)) a5, mkdAOpenS (k + (mkcInsSS a2 : Nat) + (mkcASlotS a3 : Nat) + (mkcIntS a4 : Nat) + (mkcBoolS a5 : Nat)) a6, mkdARingS (k + (mkcInsSS a2 : Nat) + (mkcASlotS a3 : Nat) + (mkcIntS a4 : Nat) + (mkcBoolS a5 : Nat) + (mkcAOpenS a6 : Nat)) a7, mkdAFileS (k + (mkcInsSS a2 : Nat) + (mkcASlotS a3 : Nat) + (mkcIntS a4 : Nat) + (mkcBoolS a5 : Nat) + (mkcAOpenS a6 : Nat) + (mkcARingS a7 : Nat)) a8, mkdIntS (k + (mkcInsSS a2 : Nat) + (mkcASlotS a3 : Nat) + (mkcIntS a4 : Nat) + (mkcBoolS a5 : Nat) + (mkcAOpenS a6 : Nat) + (mkcARingS a7 : Nat) + (mkcAFileS a8 : Nat)) a10, mkdIntS (k + (mkcInsSS a2 : Nat) + (mkcASlotS a3 : Nat) + (mkcIntS a4 : Nat) + (mkcBoolS a5 : Nat) + (mkcAOpenS a6 : Nat) + (mkcARingS a7 : Nat) + (mkcAFileS a8 : Nat) + (mkcIntS a10 : Nat)) a13)
def k50 : Con := { f := 50, lend := true, its := [⟨false, true, [.i .i64, .i .i64, .mut (.sl tyN), .mut tyQ, .mut (.int .i64), .mut .bool, .mut tyS, .mut tyR, .mut tyT, .b, .mut (.int .i64), .i .i64, .i .i64, .mut (.int .i64)]⟩, ⟨false, false, [.i .i64]⟩], lay := [none, none], rs := [⟨false, false, [.i .i64]⟩], F := fun x => .get (markArraysV x.1.1 x.1.2.1 x.1.2.2.1 x.1.2.2.2.1 x.1.2.2.2.2.1 x.1.2.2.2.2.2.1 x.1.2.2.2.2.2.2.1 x.1.2.2.2.2.2.2.2.1 x.1.2.2.2.2.2.2.2.2.1 x.1.2.2.2.2.2.2.2.2.2.1 x.1.2.2.2.2.2.2.2.2.2.2.1 x.1.2.2.2.2.2.2.2.2.2.2.2.1 x.1.2.2.2.2.2.2.2.2.2.2.2.2.1 x.1.2.2.2.2.2.2.2.2.2.2.2.2.2.1 x.2.1.1) fun y => .ret (((y.1, ()), ()), ((y.2.1, y.2.2.1, y.2.2.2.1, y.2.2.2.2.1, y.2.2.2.2.2.1, y.2.2.2.2.2.2.1, y.2.2.2.2.2.2.2.1, y.2.2.2.2.2.2.2.2.1, y.2.2.2.2.2.2.2.2.2, ()), (), ())) }
theorem f50_eq (x : itemsD k50.its) : bo [k18, k118, k119, k120, k121, k122, k123, k124] (fun _ => none) Tryz.f50 k50 [.tmp 4] x = f50_tree x.1.1 x.1.2.1 x.1.2.2.1 x.1.2.2.2.1 x.1.2.2.2.2.1 x.1.2.2.2.2.2.1 x.1.2.2.2.2.2.2.1 x.1.2.2.2.2.2.2.2.1 x.1.2.2.2.2.2.2.2.2.1 x.1.2.2.2.2.2.2.2.2.2.1 x.1.2.2.2.2.2.2.2.2.2.2.1 x.1.2.2.2.2.2.2.2.2.2.2.2.1 x.1.2.2.2.2.2.2.2.2.2.2.2.2.1 x.1.2.2.2.2.2.2.2.2.2.2.2.2.2.1 x.2.1.1 := by kernel_rfl
theorem f50_okp (hr : ∀ x : XG × (Int × Unit) × Unit, itemsWF k50.its x → ∀ y, (k50.F x).eval = some y → (f50_tree x.1.1 x.1.2.1 x.1.2.2.1 x.1.2.2.2.1 x.1.2.2.2.2.1 x.1.2.2.2.2.2.1 x.1.2.2.2.2.2.2.1 x.1.2.2.2.2.2.2.2.1 x.1.2.2.2.2.2.2.2.2.1 x.1.2.2.2.2.2.2.2.2.2.1 x.1.2.2.2.2.2.2.2.2.2.2.1 x.1.2.2.2.2.2.2.2.2.2.2.2.1 x.1.2.2.2.2.2.2.2.2.2.2.2.2.1 x.1.2.2.2.2.2.2.2.2.2.2.2.2.2.1 x.2.1.1).eval = some y) : k50.Ok Tryz.prog := con_fn [k18, k118, k119, k120, k121, k122, k123, k124] ⟨k18_ok, k118_ok, k119_ok, k120_ok, k121_ok, k122_ok, k123_ok, k124_ok, trivial⟩ f50_eq hr
theorem k50_ok : k50.Ok Tryz.prog := by
 refine f50_okp fun x hw y hy => ?_
 obtain ⟨⟨a0, a1, a2, a3, a4, a5, a6, a7, a8, a9, a10, a11, a12, a13, _⟩, ⟨k, _⟩, _⟩ := x
 change (Out.get (markArraysV a0 a1 a2 a3 a4 a5 a6 a7 a8 a9 a10 a11 a12 a13 k) fun y => Out.ret (((y.1, ()), ()), ((y.2.1, y.2.2.1, y.2.2.2.1, y.2.2.2.2.1, y.2.2.2.2.2.1, y.2.2.2.2.2.2.1, y.2.2.2.2.2.2.2.1, y.2.2.2.2.2.2.2.2.1, y.2.2.2.2.2.2.2.2.2, ()), (), ()))).eval = some y at hy
 obtain ⟨h0, h1, hy⟩ := mkP_get hy
 refine Eq.trans ?_ hy
 show (f50_tree a0 a1 a2 a3 a4 a5 a6 a7 a8 a9 a10 a11 a12 a13 k).eval = _
 unfold f50_tree
 have e0 : markInsSSV a2 (k) = some (k + (mkcInsSS a2 : Nat), mkdInsSS (k) a2) := mkP_in (by omega) (by omega)
 have e1 : markASlotSV a3 (k + (mkcInsSS a2 : Nat)) = some (k + (mkcInsSS a2 : Nat) + (mkcASlotS a3 : Nat), mkdASlotS (k + (mkcInsSS a2 : Nat)) a3) := mkP_in (by omega) (by omega)
 have e2 : markIntSV a4 (k + (mkcInsSS a2 : Nat) + (mkcASlotS a3 : Nat)) = some (k + (mkcInsSS a2 : Nat) + (mkcASlotS a3 : Nat) + (mkcIntS a4 : Nat), mkdIntS (k + (mkcInsSS a2 : Nat) + (mkcASlotS a3 : Nat)) a4) := mkP_in (by omega) (by omega)
 have e3 : markBoolSV a5 (k + (mkcInsSS a2 : Nat) + (mkcASlotS a3 : Nat) + (mkcIntS a4 : Nat)) = some (k + (mkcInsSS a2 : Nat) + (mkcASlotS a3 : Nat) + (mkcIntS a4 : Nat) + (mkcBoolS a5 : Nat), mkdBoolS (k + (mkcInsSS a2 : Nat) + (mkcASlotS a3 : Nat) + (mkcIntS a4 : Nat)) a5) := mkP_in (by omega) (by omega)
 have e4 : markAOpenSV a6 (k + (mkcInsSS a2 : Nat) + (mkcASlotS a3 : Nat) + (mkcIntS a4 : Nat) + (mkcBoolS a5 : Nat)) = some (k + (mkcInsSS a2 : Nat) + (mkcASlotS a3 : Nat) + (mkcIntS a4 : Nat) + (mkcBoolS a5 : Nat) + (mkcAOpenS a6 : Nat), mkdAOpenS (k + (mkcInsSS a2 : Nat) + (mkcASlotS a3 : Nat) + (mkcIntS a4 : Nat) + (mkcBoolS a5 : Nat)) a6) := mkP_in (by omega) (by omega)
 have e5 : markARingSV a7 (k + (mkcInsSS a2 : Nat) + (mkcASlotS a3 : Nat) + (mkcIntS a4 : Nat) + (mkcBoolS a5 : Nat) + (mkcAOpenS a6 : Nat)) = some (k + (mkcInsSS a2 : Nat) + (mkcASlotS a3 : Nat) + (mkcIntS a4 : Nat) + (mkcBoolS a5 : Nat) + (mkcAOpenS a6 : Nat) + (mkcARingS a7 : Nat), mkdARingS (k + (mkcInsSS a2 : Nat) + (mkcASlotS a3 : Nat) + (mkcIntS a4 : Nat) + (mkcBoolS a5 : Nat) + (mkcAOpenS a6 : Nat)) a7) := mkP_in (by omega) (by omega)
 have e6 : markAFileSV a8 (k + (mkcInsSS a2 : Nat) + (mkcASlotS a3 : Nat) + (mkcIntS a4 : Nat) + (mkcBoolS a5 : Nat) + (mkcAOpenS a6 : Nat) + (mkcARingS a7 : Nat)) = some (k + (mkcInsSS a2 : Nat) + (mkcASlotS a3 : Nat) + (mkcIntS a4 : Nat) + (mkcBoolS a5 : Nat) + (mkcAOpenS a6 : Nat) + (mkcARingS a7 : Nat) + (mkcAFileS a8 : Nat), mkdAFileS (k + (mkcInsSS a2 : Nat) + (mkcASlotS a3 : Nat) + (mkcIntS a4 : Nat) + (mkcBoolS a5 : Nat) + (mkcAOpenS a6 : Nat) + (mkcARingS a7 : Nat)) a8) := mkP_in (by omega) (by omega)
 have e7 : markARingV a9 a10 a11 a12 (k + (mkcInsSS a2 : Nat) + (mkcASlotS a3 : Nat) + (mkcIntS a4 : Nat) + (mkcBoolS a5 : Nat) + (mkcAOpenS a6 : Nat) + (mkcARingS a7 : Nat) + (mkcAFileS a8 : Nat)) = some (k + (mkcInsSS a2 : Nat) + (mkcASlotS a3 : Nat) + (mkcIntS a4 : Nat) + (mkcBoolS a5 : Nat) + (mkcAOpenS a6 : Nat) + (mkcARingS a7 : Nat) + (mkcAFileS a8 : Nat) + (mkcIntS a10 : Nat), mkdIntS (k + (mkcInsSS a2 : Nat) + (mkcASlotS a3 : Nat) + (mkcIntS a4 : Nat) + (mkcBoolS a5 : Nat) + (mkcAOpenS a6 : Nat) + (mkcARingS a7 : Nat) + (mkcAFileS a8 : Nat)) a10) := mkP_in (by omega) (by omega)
 have e8 : markIntSV a13 (k + (mkcInsSS a2 : Nat) + (mkcASlotS a3 : Nat) + (mkcIntS a4 : Nat) + (mkcBoolS a5 : Nat) + (mkcAOpenS a6 : Nat) + (mkcARingS a7 : Nat) + (mkcAFileS a8 : Nat) + (mkcIntS a10 : Nat)) = some (k + (mkcInsSS a2 : Nat) + (mkcASlotS a3 : Nat) + (mkcIntS a4 : Nat) + (mkcBoolS a5 : Nat) + (mkcAOpenS a6 : Nat) + (mkcARingS a7 : Nat) + (mkcAFileS a8 : Nat) + (mkcIntS a10 : Nat) + (mkcIntS a13 : Nat), mkdIntS (k + (mkcInsSS a2 : Nat) + (mkcASlotS a3 : Nat) + (mkcIntS a4 : Nat) + (mkcBoolS a5 : Nat) + (mkcAOpenS a6 : Nat) + (mkcARingS a7 : Nat) + (mkcAFileS a8 : Nat) + (mkcIntS a10 : Nat)) a13) := mkP_in (by omega) (by omega)
 rw [eval_get_some e0]
 rw [eval_get_some e1]
 rw [eval_get_some e2]
 rw [eval_get_some e3]
 rw [eval_get_some e4]
 rw [eval_get_some e5]
 rw [eval_get_some e6]
 rw [eval_get_some e7]
 rw [eval_get_some e8]
 all_goals (have e : k + ((mkcInsSS a2 + mkcASlotS a3 + mkcIntS a4 + mkcBoolS a5 + mkcAOpenS a6 + mkcARingS a7 + mkcAFileS a8 + mkcIntS a10 + mkcIntS a13 : Nat) : Int) = k + (mkcInsSS a2 : Nat) + (mkcASlotS a3 : Nat) + (mkcIntS a4 : Nat) + (mkcBoolS a5 : Nat) + (mkcAOpenS a6 : Nat) + (mkcARingS a7 : Nat) + (mkcAFileS a8 : Nat) + (mkcIntS a10 : Nat) + (mkcIntS a13 : Nat) := (by omega); rw [e]; try rfl)
def f51_tree (a0 : Int) (a1 : Int) (a2 : List (List InsD)) (a3 : List ProcD) (a4 : List Int) (a5 : List (List Int)) (a6 : List OpenD) (a7 : List XH) (a8 : List CpuD) (a9 : List Int) (a10 : List Int) (a11 : Int) : Out (((Int × Unit) × Unit) × (XJ × Unit × Unit)) :=
 .get (markInsSSV a2 a11) fun y1 =>
 .get (markProcSV a3 y1.1) fun y2 =>
 .get (markIntSV a4 y2.1) fun y3 =>
 .get (markBuddyV a5 y3.1) fun y4 =>
 .get (markOpenSV a6 y4.1) fun y5 =>
 .get (markBPipeSV a7 y5.1) fun y6 =>
 .get (markCpuSV a8 y6.1) fun y7 =>
 .get (markIntSV a9 y7.1) fun y8 =>
 .get (markIntSV a10 y8.1) fun y9 =>
 .ret (((y9.1, ()), ()), ((y1.2, y2.2, y3.2, y4.2, y5.2, y6.2, y7.2, y8.2, y9.2, ()), (), ()))
def markNodesV (_a0 : Int) (_a1 : Int) (a2 : List (List InsD)) (a3 : List ProcD) (a4 : List Int) (a5 : List (List Int)) (a6 : List OpenD) (a7 : List BPipeD) (a8 : List CpuD) (a9 : List Int) (a10 : List Int) (k : Int) : Option (Int × (List (List InsD)) × (List ProcD) × (List Int) × (List (List Int)) × (List OpenD) × (List BPipeD) × (List CpuD) × (List Int) × (List Int)) := mkP (mkcInsSS a2 + mkcProcS a3 + mkcIntS a4 + mkcIntSS a5 + mkcOpenS a6 + mkcBPipeS a7 + mkcCpuS a8 + mkcIntS a9 + mkcIntS a10) k (mkdInsSS (k) a2, mkdProcS (k + (mkcInsSS a2 : Nat)) a3, mkdIntS (k + (mkcInsSS a2 : Nat) + (mkcProcS a3 : Nat)) a4, mkdIntSS (k + (mkcInsSS a2 : Nat) + (mkcProcS a3 : Nat) + (mkcIntS a4 : Nat)) a5, mkdOpenS (k + (mkcInsSS a2 : Nat) + (mkcProcS a3 : Nat) + (mkcIntS a4 : Nat) + (mkcIntSS a5 : Nat)) a6, mkdBPipeS (k + (mkcInsSS a2 : Nat) + (mkcProcS a3 : Nat) + (mkcIntS a4 : Nat) + (mkcIntSS a5 : Nat) + (mkcOpenS a6 : Nat)) a7, mkdCpuS (k + (mkcInsSS a2 : Nat) + (mkcProcS a3 : Nat) + (mkcIntS a4 : Nat) + (mkcIntSS a5 : Nat) + (mkcOpenS a6 : Nat) + (mkcBPipeS a7 : Nat)) a8, mkdIntS (k + (mkcInsSS a2 : Nat) + (mkcProcS a3 : Nat) + (mkcIntS a4 : Nat) + (mkcIntSS a5 : Nat) + (mkcOpenS a6 : Nat) + (mkcBPipeS a7 : Nat) + (mkcCpuS a8 : Nat)) a9, mkdIntS (k + (mkcInsSS a2 : Nat) + (mkcProcS a3 : Nat) + (mkcIntS a4 : Nat) + (mkcIntSS a5 : Nat) + (mkcOpenS a6 : Nat) + (mkcBPipeS a7 : Nat) + (mkcCpuS a8 : Nat) + (mkcIntS a9 : Nat)) a10)
def k51 : Con := { f := 51, lend := true, its := [⟨false, true, [.i .i64, .i .i64, .mut (.sl tyN), .mut tyP, .mut (.int .i64), .mut (.sl (.int .i64)), .mut tyO, .mut tyU, .mut tyF, .mut (.int .i64), .mut (.int .i64)]⟩, ⟨false, false, [.i .i64]⟩], lay := [none, none], rs := [⟨false, false, [.i .i64]⟩], F := fun x => .get (markNodesV x.1.1 x.1.2.1 x.1.2.2.1 x.1.2.2.2.1 x.1.2.2.2.2.1 x.1.2.2.2.2.2.1 x.1.2.2.2.2.2.2.1 x.1.2.2.2.2.2.2.2.1 x.1.2.2.2.2.2.2.2.2.1 x.1.2.2.2.2.2.2.2.2.2.1 x.1.2.2.2.2.2.2.2.2.2.2.1 x.2.1.1) fun y => .ret (((y.1, ()), ()), ((y.2.1, y.2.2.1, y.2.2.2.1, y.2.2.2.2.1, y.2.2.2.2.2.1, y.2.2.2.2.2.2.1, y.2.2.2.2.2.2.2.1, y.2.2.2.2.2.2.2.2.1, y.2.2.2.2.2.2.2.2.2, ()), (), ())) }
theorem f51_eq (x : itemsD k51.its) : bo [k18, k125, k119, k126, k127, k128, k129] (fun _ => none) Tryz.f51 k51 [.tmp 4] x = f51_tree x.1.1 x.1.2.1 x.1.2.2.1 x.1.2.2.2.1 x.1.2.2.2.2.1 x.1.2.2.2.2.2.1 x.1.2.2.2.2.2.2.1 x.1.2.2.2.2.2.2.2.1 x.1.2.2.2.2.2.2.2.2.1 x.1.2.2.2.2.2.2.2.2.2.1 x.1.2.2.2.2.2.2.2.2.2.2.1 x.2.1.1 := by kernel_rfl
theorem f51_okp (hr : ∀ x : (Int × Int × XJ) × (Int × Unit) × Unit, itemsWF k51.its x → ∀ y, (k51.F x).eval = some y → (f51_tree x.1.1 x.1.2.1 x.1.2.2.1 x.1.2.2.2.1 x.1.2.2.2.2.1 x.1.2.2.2.2.2.1 x.1.2.2.2.2.2.2.1 x.1.2.2.2.2.2.2.2.1 x.1.2.2.2.2.2.2.2.2.1 x.1.2.2.2.2.2.2.2.2.2.1 x.1.2.2.2.2.2.2.2.2.2.2.1 x.2.1.1).eval = some y) : k51.Ok Tryz.prog := con_fn [k18, k125, k119, k126, k127, k128, k129] ⟨k18_ok, k125_ok, k119_ok, k126_ok, k127_ok, k128_ok, k129_ok, trivial⟩ f51_eq hr
theorem k51_ok : k51.Ok Tryz.prog := by
 refine f51_okp fun x hw y hy => ?_
 obtain ⟨⟨a0, a1, a2, a3, a4, a5, a6, a7, a8, a9, a10, _⟩, ⟨k, _⟩, _⟩ := x
 change (Out.get (markNodesV a0 a1 a2 a3 a4 a5 a6 a7 a8 a9 a10 k) fun y => Out.ret (((y.1, ()), ()), ((y.2.1, y.2.2.1, y.2.2.2.1, y.2.2.2.2.1, y.2.2.2.2.2.1, y.2.2.2.2.2.2.1, y.2.2.2.2.2.2.2.1, y.2.2.2.2.2.2.2.2.1, y.2.2.2.2.2.2.2.2.2, ()), (), ()))).eval = some y at hy
 obtain ⟨h0, h1, hy⟩ := mkP_get hy
 refine Eq.trans ?_ hy
 show (f51_tree a0 a1 a2 a3 a4 a5 a6 a7 a8 a9 a10 k).eval = _
 unfold f51_tree
 have e0 : markInsSSV a2 (k) = some (k + (mkcInsSS a2 : Nat), mkdInsSS (k) a2) := mkP_in (by omega) (by omega)
 have e1 : markProcSV a3 (k + (mkcInsSS a2 : Nat)) = some (k + (mkcInsSS a2 : Nat) + (mkcProcS a3 : Nat), mkdProcS (k + (mkcInsSS a2 : Nat)) a3) := mkP_in (by omega) (by omega)
 have e2 : markIntSV a4 (k + (mkcInsSS a2 : Nat) + (mkcProcS a3 : Nat)) = some (k + (mkcInsSS a2 : Nat) + (mkcProcS a3 : Nat) + (mkcIntS a4 : Nat), mkdIntS (k + (mkcInsSS a2 : Nat) + (mkcProcS a3 : Nat)) a4) := mkP_in (by omega) (by omega)
 have e3 : markBuddyV a5 (k + (mkcInsSS a2 : Nat) + (mkcProcS a3 : Nat) + (mkcIntS a4 : Nat)) = some (k + (mkcInsSS a2 : Nat) + (mkcProcS a3 : Nat) + (mkcIntS a4 : Nat) + (mkcIntSS a5 : Nat), mkdIntSS (k + (mkcInsSS a2 : Nat) + (mkcProcS a3 : Nat) + (mkcIntS a4 : Nat)) a5) := mkP_in (by omega) (by omega)
 have e4 : markOpenSV a6 (k + (mkcInsSS a2 : Nat) + (mkcProcS a3 : Nat) + (mkcIntS a4 : Nat) + (mkcIntSS a5 : Nat)) = some (k + (mkcInsSS a2 : Nat) + (mkcProcS a3 : Nat) + (mkcIntS a4 : Nat) + (mkcIntSS a5 : Nat) + (mkcOpenS a6 : Nat), mkdOpenS (k + (mkcInsSS a2 : Nat) + (mkcProcS a3 : Nat) + (mkcIntS a4 : Nat) + (mkcIntSS a5 : Nat)) a6) := mkP_in (by omega) (by omega)
 have e5 : markBPipeSV a7 (k + (mkcInsSS a2 : Nat) + (mkcProcS a3 : Nat) + (mkcIntS a4 : Nat) + (mkcIntSS a5 : Nat) + (mkcOpenS a6 : Nat)) = some (k + (mkcInsSS a2 : Nat) + (mkcProcS a3 : Nat) + (mkcIntS a4 : Nat) + (mkcIntSS a5 : Nat) + (mkcOpenS a6 : Nat) + (mkcBPipeS a7 : Nat), mkdBPipeS (k + (mkcInsSS a2 : Nat) + (mkcProcS a3 : Nat) + (mkcIntS a4 : Nat) + (mkcIntSS a5 : Nat) + (mkcOpenS a6 : Nat)) a7) := mkP_in (by omega) (by omega)
 have e6 : markCpuSV a8 (k + (mkcInsSS a2 : Nat) + (mkcProcS a3 : Nat) + (mkcIntS a4 : Nat) + (mkcIntSS a5 : Nat) + (mkcOpenS a6 : Nat) + (mkcBPipeS a7 : Nat)) = some (k + (mkcInsSS a2 : Nat) + (mkcProcS a3 : Nat) + (mkcIntS a4 : Nat) + (mkcIntSS a5 : Nat) + (mkcOpenS a6 : Nat) + (mkcBPipeS a7 : Nat) + (mkcCpuS a8 : Nat), mkdCpuS (k + (mkcInsSS a2 : Nat) + (mkcProcS a3 : Nat) + (mkcIntS a4 : Nat) + (mkcIntSS a5 : Nat) + (mkcOpenS a6 : Nat) + (mkcBPipeS a7 : Nat)) a8) := mkP_in (by omega) (by omega)
 have e7 : markIntSV a9 (k + (mkcInsSS a2 : Nat) + (mkcProcS a3 : Nat) + (mkcIntS a4 : Nat) + (mkcIntSS a5 : Nat) + (mkcOpenS a6 : Nat) + (mkcBPipeS a7 : Nat) + (mkcCpuS a8 : Nat)) = some (k + (mkcInsSS a2 : Nat) + (mkcProcS a3 : Nat) + (mkcIntS a4 : Nat) + (mkcIntSS a5 : Nat) + (mkcOpenS a6 : Nat) + (mkcBPipeS a7 : Nat) + (mkcCpuS a8 : Nat) + (mkcIntS a9 : Nat), mkdIntS (k + (mkcInsSS a2 : Nat) + (mkcProcS a3 : Nat) + (mkcIntS a4 : Nat) + (mkcIntSS a5 : Nat) + (mkcOpenS a6 : Nat) + (mkcBPipeS a7 : Nat) + (mkcCpuS a8 : Nat)) a9) := mkP_in (by omega) (by omega)
 have e8 : markIntSV a10 (k + (mkcInsSS a2 : Nat) + (mkcProcS a3 : Nat) + (mkcIntS a4 : Nat) + (mkcIntSS a5 : Nat) + (mkcOpenS a6 : Nat) + (mkcBPipeS a7 : Nat) + (mkcCpuS a8 : Nat) + (mkcIntS a9 : Nat)) = some (k + (mkcInsSS a2 : Nat) + (mkcProcS a3 : Nat) + (mkcIntS a4 : Nat) + (mkcIntSS a5 : Nat) + (mkcOpenS a6 : Nat) + (mkcBPipeS a7 : Nat) + (mkcCpuS a8 : Nat) + (mkcIntS a9 : Nat) + (mkcIntS a10 : Nat), mkdIntS (k + (mkcInsSS a2 : Nat) + (mkcProcS a3 : Nat) + (mkcIntS a4 : Nat) + (mkcIntSS a5 : Nat) + (mkcOpenS a6 : Nat) + (mkcBPipeS a7 : Nat) + (mkcCpuS a8 : Nat) + (mkcIntS a9 : Nat)) a10) := mkP_in (by omega) (by omega)
 rw [eval_get_some e0]
 rw [eval_get_some e1]
 rw [eval_get_some e2]
 rw [eval_get_some e3]
 rw [eval_get_some e4]
 rw [eval_get_some e5]
 rw [eval_get_some e6]
 rw [eval_get_some e7]
 rw [eval_get_some e8]
 all_goals (have e : k + ((mkcInsSS a2 + mkcProcS a3 + mkcIntS a4 + mkcIntSS a5 + mkcOpenS a6 + mkcBPipeS a7 + mkcCpuS a8 + mkcIntS a9 + mkcIntS a10 : Nat) : Int) = k + (mkcInsSS a2 : Nat) + (mkcProcS a3 : Nat) + (mkcIntS a4 : Nat) + (mkcIntSS a5 : Nat) + (mkcOpenS a6 : Nat) + (mkcBPipeS a7 : Nat) + (mkcCpuS a8 : Nat) + (mkcIntS a9 : Nat) + (mkcIntS a10 : Nat) := (by omega); rw [e]; try rfl)
def f19_tree (a0 : Int) (a1 : Int) (a2 : Int) (a3 : List (List InsD)) (a4 : List XB) (a5 : List Int) (a6 : List Bool) (a7 : List XF) (a8 : List (Bool × XE)) (a9 : List XK) (a10 : Bool) (a11 : List Int) (a12 : Int) (a13 : Int) (a14 : List Int) (a15 : Int) (a16 : Int) (a17 : List (List InsD)) (a18 : List ProcD) (a19 : List Int) (a20 : List (List Int)) (a21 : List OpenD) (a22 : List XH) (a23 : List CpuD) (a24 : List Int) (a25 : List Int) (a26 : Int) : Out (((Int × Unit) × Unit) × ((List (List InsD) × List XB × List Int × List Bool × List XF × List (Bool × XE) × List XK × List Int × List Int × XJ) × Unit × Unit)) :=
 .get (markArraysV a1 a2 a3 a4 a5 a6 a7 a8 a9 a10 a11 a12 a13 a14 a26) fun y1 =>
 .get (markNodesV a15 a16 a17 a18 a19 a20 a21 a22 a23 a24 a25 y1.1) fun y2 =>
 .ret (((y2.1, ()), ()), ((y1.2.1, y1.2.2.1, y1.2.2.2.1, y1.2.2.2.2.1, y1.2.2.2.2.2.1, y1.2.2.2.2.2.2.1, y1.2.2.2.2.2.2.2.1, y1.2.2.2.2.2.2.2.2.1, y1.2.2.2.2.2.2.2.2.2, y2.2.1, y2.2.2.1, y2.2.2.2.1, y2.2.2.2.2.1, y2.2.2.2.2.2.1, y2.2.2.2.2.2.2.1, y2.2.2.2.2.2.2.2.1, y2.2.2.2.2.2.2.2.2.1, y2.2.2.2.2.2.2.2.2.2, ()), (), ()))
def markLiveV (_a0 : Int) (_a1 : Int) (_a2 : Int) (a3 : List (List InsD)) (a4 : List ASlotD) (a5 : List Int) (a6 : List Bool) (a7 : List AOpenD) (a8 : List ARingD) (a9 : List AFileD) (_a10 : Bool) (a11 : List Int) (_a12 : Int) (_a13 : Int) (a14 : List Int) (_a15 : Int) (_a16 : Int) (a17 : List (List InsD)) (a18 : List ProcD) (a19 : List Int) (a20 : List (List Int)) (a21 : List OpenD) (a22 : List BPipeD) (a23 : List CpuD) (a24 : List Int) (a25 : List Int) (k : Int) : Option (Int × (List (List InsD)) × (List ASlotD) × (List Int) × (List Bool) × (List AOpenD) × (List ARingD) × (List AFileD) × (List Int) × (List Int) × (List (List InsD)) × (List ProcD) × (List Int) × (List (List Int)) × (List OpenD) × (List BPipeD) × (List CpuD) × (List Int) × (List Int)) := mkP (mkcInsSS a3 + mkcASlotS a4 + mkcIntS a5 + mkcBoolS a6 + mkcAOpenS a7 + mkcARingS a8 + mkcAFileS a9 + mkcIntS a11 + mkcIntS a14 + mkcInsSS a17 + mkcProcS a18 + mkcIntS a19 + mkcIntSS a20 + mkcOpenS a21 + mkcBPipeS a22 + mkcCpuS a23 + mkcIntS a24 + mkcIntS a25) k (mkdInsSS (k) a3, mkdASlotS (k + (mkcInsSS a3 : Nat)) a4, mkdIntS (k + (mkcInsSS a3 : Nat) + (mkcASlotS a4 : Nat)) a5, mkdBoolS (k + (mkcInsSS a3 : Nat) + (mkcASlotS a4 : Nat) + (mkcIntS a5 : Nat)) a6, mkdAOpenS (k + (mkcInsSS a3 : Nat) + (mkcASlotS a4 : Nat) + (mkcIntS a5 : Nat) + (mkcBoolS a6 : Nat)) a7, mkdARingS (k + (mkcInsSS a3 : Nat) + (mkcASlotS a4 : Nat) + (mkcIntS a5 : Nat) + (mkcBoolS a6 : Nat) + (mkcAOpenS a7 : Nat)) a8, mkdAFileS (k + (mkcInsSS a3 : Nat) + (mkcASlotS a4 : Nat) + (mkcIntS a5 : Nat) + (mkcBoolS a6 : Nat) + (mkcAOpenS a7 : Nat) + (mkcARingS a8 : Nat)) a9, mkdIntS (k + (mkcInsSS a3 : Nat) + (mkcASlotS a4 : Nat) + (mkcIntS a5 : Nat) + (mkcBoolS a6 : Nat) + (mkcAOpenS a7 : Nat) + (mkcARingS a8 : Nat) + (mkcAFileS a9 : Nat)) a11, mkdIntS (k + (mkcInsSS a3 : Nat) + (mkcASlotS a4 : Nat) + (mkcIntS a5 : Nat) + (mkcBoolS a6 : Nat) + (mkcAOpenS a7 : Nat) + (mkcARingS a8 : Nat) + (mkcAFileS a9 : Nat) + (mkcIntS a11 : Nat)) a14, mkdInsSS (k + (mkcInsSS a3 : Nat) + (mkcASlotS a4 : Nat) + (mkcIntS a5 : Nat) + (mkcBoolS a6 : Nat) + (mkcAOpenS a7 : Nat) + (mkcARingS a8 : Nat) + (mkcAFileS a9 : Nat) + (mkcIntS a11 : Nat) + (mkcIntS a14 : Nat)) a17, mkdProcS (k + (mkcInsSS a3 : Nat) + (mkcASlotS a4 : Nat) + (mkcIntS a5 : Nat) + (mkcBoolS a6 : Nat) + (mkcAOpenS a7 : Nat) + (mkcARingS a8 : Nat) + (mkcAFileS a9 : Nat) + (mkcIntS a11 : Nat) + (mkcIntS a14 : Nat) + (mkcInsSS a17 : Nat)) a18, mkdIntS (k + (mkcInsSS a3 : Nat) + (mkcASlotS a4 : Nat) + (mkcIntS a5 : Nat) + (mkcBoolS a6 : Nat) + (mkcAOpenS a7 : Nat) + (mkcARingS a8 : Nat) + (mkcAFileS a9 : Nat) + (mkcIntS a11 : Nat) + (mkcIntS a14 : Nat) + (mkcInsSS a17 : Nat) + (mkcProcS a18 : Nat)) a19, mkdIntSS (k + (mkcInsSS a3 : Nat) + (mkcASlotS a4 : Nat) + (mkcIntS a5 : Nat) + (mkcBoolS a6 : Nat) + (mkcAOpenS a7 : Nat) + (mkcARingS a8 : Nat) + (mkcAFileS a9 : Nat) + (mkcIntS a11 : Nat) + (mkcIntS a14 : Nat) + (mkcInsSS a17 : Nat) + (mkcProcS a18 : Nat) + (mkcIntS a19 : Nat)) a20, mkdOpenS (k + (mkcInsSS a3 : Nat) + (mkcASlotS a4 : Nat) + (mkcIntS a5 : Nat) + (mkcBoolS a6 : Nat) + (mkcAOpenS a7 : Nat) + (mkcARingS a8 : Nat) + (mkcAFileS a9 : Nat) + (mkcIntS a11 : Nat) + (mkcIntS a14 : Nat) + (mkcInsSS a17 : Nat) + (mkcProcS a18 : Nat) + (mkcIntS a19 : Nat) + (mkcIntSS a20 : Nat)) a21, mkdBPipeS (k + (mkcInsSS a3 : Nat) + (mkcASlotS a4 : Nat) + (mkcIntS a5 : Nat) + (mkcBoolS a6 : Nat) + (mkcAOpenS a7 : Nat) + (mkcARingS a8 : Nat) + (mkcAFileS a9 : Nat) + (mkcIntS a11 : Nat) + (mkcIntS a14 : Nat) + (mkcInsSS a17 : Nat) + (mkcProcS a18 : Nat) + (mkcIntS a19 : Nat) + (mkcIntSS a20 : Nat) + (mkcOpenS a21 : Nat)) a22, mkdCpuS (k + (mkcInsSS a3 : Nat) + (mkcASlotS a4 : Nat) + (mkcIntS a5 : Nat) + (mkcBoolS a6 : Nat) + (mkcAOpenS a7 : Nat) + (mkcARingS a8 : Nat) + (mkcAFileS a9 : Nat) + (mkcIntS a11 : Nat) + (mkcIntS a14 : Nat) + (mkcInsSS a17 : Nat) + (mkcProcS a18 : Nat) + (mkcIntS a19 : Nat) + (mkcIntSS a20 : Nat) + (mkcOpenS a21 : Nat) + (mkcBPipeS a22 : Nat)) a23, mkdIntS (k + (mkcInsSS a3 : Nat) + (mkcASlotS a4 : Nat) + (mkcIntS a5 : Nat) + (mkcBoolS a6 : Nat) + (mkcAOpenS a7 : Nat) + (mkcARingS a8 : Nat) + (mkcAFileS a9 : Nat) + (mkcIntS a11 : Nat) + (mkcIntS a14 : Nat) + (mkcInsSS a17 : Nat) + (mkcProcS a18 : Nat) + (mkcIntS a19 : Nat) + (mkcIntSS a20 : Nat) + (mkcOpenS a21 : Nat) + (mkcBPipeS a22 : Nat) + (mkcCpuS a23 : Nat)) a24, mkdIntS (k + (mkcInsSS a3 : Nat) + (mkcASlotS a4 : Nat) + (mkcIntS a5 : Nat) + (mkcBoolS a6 : Nat) + (mkcAOpenS a7 : Nat) + (mkcARingS a8 : Nat) + (mkcAFileS a9 : Nat) + (mkcIntS a11 : Nat) + (mkcIntS a14 : Nat) + (mkcInsSS a17 : Nat) + (mkcProcS a18 : Nat) + (mkcIntS a19 : Nat) + (mkcIntSS a20 : Nat) + (mkcOpenS a21 : Nat) + (mkcBPipeS a22 : Nat) + (mkcCpuS a23 : Nat) + (mkcIntS a24 : Nat)) a25)
def k19 : Con := { f := 19, lend := true, its := [⟨false, true, [.i .i64, .i .i64, .i .i64, .mut (.sl tyN), .mut tyQ, .mut (.int .i64), .mut .bool, .mut tyS, .mut tyR, .mut tyT, .b, .mut (.int .i64), .i .i64, .i .i64, .mut (.int .i64), .i .i64, .i .i64, .mut (.sl tyN), .mut tyP, .mut (.int .i64), .mut (.sl (.int .i64)), .mut tyO, .mut tyU, .mut tyF, .mut (.int .i64), .mut (.int .i64)]⟩, ⟨false, false, [.i .i64]⟩], lay := [none, none], rs := [⟨false, false, [.i .i64]⟩], F := fun x => .get (markLiveV x.1.1 x.1.2.1 x.1.2.2.1 x.1.2.2.2.1 x.1.2.2.2.2.1 x.1.2.2.2.2.2.1 x.1.2.2.2.2.2.2.1 x.1.2.2.2.2.2.2.2.1 x.1.2.2.2.2.2.2.2.2.1 x.1.2.2.2.2.2.2.2.2.2.1 x.1.2.2.2.2.2.2.2.2.2.2.1 x.1.2.2.2.2.2.2.2.2.2.2.2.1 x.1.2.2.2.2.2.2.2.2.2.2.2.2.1 x.1.2.2.2.2.2.2.2.2.2.2.2.2.2.1 x.1.2.2.2.2.2.2.2.2.2.2.2.2.2.2.1 x.1.2.2.2.2.2.2.2.2.2.2.2.2.2.2.2.1 x.1.2.2.2.2.2.2.2.2.2.2.2.2.2.2.2.2.1 x.1.2.2.2.2.2.2.2.2.2.2.2.2.2.2.2.2.2.1 x.1.2.2.2.2.2.2.2.2.2.2.2.2.2.2.2.2.2.2.1 x.1.2.2.2.2.2.2.2.2.2.2.2.2.2.2.2.2.2.2.2.1 x.1.2.2.2.2.2.2.2.2.2.2.2.2.2.2.2.2.2.2.2.2.1 x.1.2.2.2.2.2.2.2.2.2.2.2.2.2.2.2.2.2.2.2.2.2.1 x.1.2.2.2.2.2.2.2.2.2.2.2.2.2.2.2.2.2.2.2.2.2.2.1 x.1.2.2.2.2.2.2.2.2.2.2.2.2.2.2.2.2.2.2.2.2.2.2.2.1 x.1.2.2.2.2.2.2.2.2.2.2.2.2.2.2.2.2.2.2.2.2.2.2.2.2.1 x.1.2.2.2.2.2.2.2.2.2.2.2.2.2.2.2.2.2.2.2.2.2.2.2.2.2.1 x.2.1.1) fun y => .ret (((y.1, ()), ()), ((y.2.1, y.2.2.1, y.2.2.2.1, y.2.2.2.2.1, y.2.2.2.2.2.1, y.2.2.2.2.2.2.1, y.2.2.2.2.2.2.2.1, y.2.2.2.2.2.2.2.2.1, y.2.2.2.2.2.2.2.2.2.1, y.2.2.2.2.2.2.2.2.2.2.1, y.2.2.2.2.2.2.2.2.2.2.2.1, y.2.2.2.2.2.2.2.2.2.2.2.2.1, y.2.2.2.2.2.2.2.2.2.2.2.2.2.1, y.2.2.2.2.2.2.2.2.2.2.2.2.2.2.1, y.2.2.2.2.2.2.2.2.2.2.2.2.2.2.2.1, y.2.2.2.2.2.2.2.2.2.2.2.2.2.2.2.2.1, y.2.2.2.2.2.2.2.2.2.2.2.2.2.2.2.2.2.1, y.2.2.2.2.2.2.2.2.2.2.2.2.2.2.2.2.2.2, ()), (), ())) }
theorem f19_eq (x : itemsD k19.its) : bo [k50, k51] (fun _ => none) Tryz.f19 k19 [.tmp 4] x = f19_tree x.1.1 x.1.2.1 x.1.2.2.1 x.1.2.2.2.1 x.1.2.2.2.2.1 x.1.2.2.2.2.2.1 x.1.2.2.2.2.2.2.1 x.1.2.2.2.2.2.2.2.1 x.1.2.2.2.2.2.2.2.2.1 x.1.2.2.2.2.2.2.2.2.2.1 x.1.2.2.2.2.2.2.2.2.2.2.1 x.1.2.2.2.2.2.2.2.2.2.2.2.1 x.1.2.2.2.2.2.2.2.2.2.2.2.2.1 x.1.2.2.2.2.2.2.2.2.2.2.2.2.2.1 x.1.2.2.2.2.2.2.2.2.2.2.2.2.2.2.1 x.1.2.2.2.2.2.2.2.2.2.2.2.2.2.2.2.1 x.1.2.2.2.2.2.2.2.2.2.2.2.2.2.2.2.2.1 x.1.2.2.2.2.2.2.2.2.2.2.2.2.2.2.2.2.2.1 x.1.2.2.2.2.2.2.2.2.2.2.2.2.2.2.2.2.2.2.1 x.1.2.2.2.2.2.2.2.2.2.2.2.2.2.2.2.2.2.2.2.1 x.1.2.2.2.2.2.2.2.2.2.2.2.2.2.2.2.2.2.2.2.2.1 x.1.2.2.2.2.2.2.2.2.2.2.2.2.2.2.2.2.2.2.2.2.2.1 x.1.2.2.2.2.2.2.2.2.2.2.2.2.2.2.2.2.2.2.2.2.2.2.1 x.1.2.2.2.2.2.2.2.2.2.2.2.2.2.2.2.2.2.2.2.2.2.2.2.1 x.1.2.2.2.2.2.2.2.2.2.2.2.2.2.2.2.2.2.2.2.2.2.2.2.2.1 x.1.2.2.2.2.2.2.2.2.2.2.2.2.2.2.2.2.2.2.2.2.2.2.2.2.2.1 x.2.1.1 := by kernel_rfl
theorem f19_okp (hr : ∀ x : XD × (Int × Unit) × Unit, itemsWF k19.its x → ∀ y, (k19.F x).eval = some y → (f19_tree x.1.1 x.1.2.1 x.1.2.2.1 x.1.2.2.2.1 x.1.2.2.2.2.1 x.1.2.2.2.2.2.1 x.1.2.2.2.2.2.2.1 x.1.2.2.2.2.2.2.2.1 x.1.2.2.2.2.2.2.2.2.1 x.1.2.2.2.2.2.2.2.2.2.1 x.1.2.2.2.2.2.2.2.2.2.2.1 x.1.2.2.2.2.2.2.2.2.2.2.2.1 x.1.2.2.2.2.2.2.2.2.2.2.2.2.1 x.1.2.2.2.2.2.2.2.2.2.2.2.2.2.1 x.1.2.2.2.2.2.2.2.2.2.2.2.2.2.2.1 x.1.2.2.2.2.2.2.2.2.2.2.2.2.2.2.2.1 x.1.2.2.2.2.2.2.2.2.2.2.2.2.2.2.2.2.1 x.1.2.2.2.2.2.2.2.2.2.2.2.2.2.2.2.2.2.1 x.1.2.2.2.2.2.2.2.2.2.2.2.2.2.2.2.2.2.2.1 x.1.2.2.2.2.2.2.2.2.2.2.2.2.2.2.2.2.2.2.2.1 x.1.2.2.2.2.2.2.2.2.2.2.2.2.2.2.2.2.2.2.2.2.1 x.1.2.2.2.2.2.2.2.2.2.2.2.2.2.2.2.2.2.2.2.2.2.1 x.1.2.2.2.2.2.2.2.2.2.2.2.2.2.2.2.2.2.2.2.2.2.2.1 x.1.2.2.2.2.2.2.2.2.2.2.2.2.2.2.2.2.2.2.2.2.2.2.2.1 x.1.2.2.2.2.2.2.2.2.2.2.2.2.2.2.2.2.2.2.2.2.2.2.2.2.1 x.1.2.2.2.2.2.2.2.2.2.2.2.2.2.2.2.2.2.2.2.2.2.2.2.2.2.1 x.2.1.1).eval = some y) : k19.Ok Tryz.prog := con_fn [k50, k51] ⟨k50_ok, k51_ok, trivial⟩ f19_eq hr
theorem k19_ok : k19.Ok Tryz.prog := by
 refine f19_okp fun x hw y hy => ?_
 obtain ⟨⟨a0, a1, a2, a3, a4, a5, a6, a7, a8, a9, a10, a11, a12, a13, a14, a15, a16, a17, a18, a19, a20, a21, a22, a23, a24, a25, _⟩, ⟨k, _⟩, _⟩ := x
 change (Out.get (markLiveV a0 a1 a2 a3 a4 a5 a6 a7 a8 a9 a10 a11 a12 a13 a14 a15 a16 a17 a18 a19 a20 a21 a22 a23 a24 a25 k) fun y => Out.ret (((y.1, ()), ()), ((y.2.1, y.2.2.1, y.2.2.2.1, y.2.2.2.2.1, y.2.2.2.2.2.1, y.2.2.2.2.2.2.1, y.2.2.2.2.2.2.2.1, y.2.2.2.2.2.2.2.2.1, y.2.2.2.2.2.2.2.2.2.1, y.2.2.2.2.2.2.2.2.2.2.1, y.2.2.2.2.2.2.2.2.2.2.2.1, y.2.2.2.2.2.2.2.2.2.2.2.2.1, y.2.2.2.2.2.2.2.2.2.2.2.2.2.1, y.2.2.2.2.2.2.2.2.2.2.2.2.2.2.1, y.2.2.2.2.2.2.2.2.2.2.2.2.2.2.2.1, y.2.2.2.2.2.2.2.2.2.2.2.2.2.2.2.2.1, y.2.2.2.2.2.2.2.2.2.2.2.2.2.2.2.2.2.1, y.2.2.2.2.2.2.2.2.2.2.2.2.2.2.2.2.2.2, ()), (), ()))).eval = some y at hy
 obtain ⟨h0, h1, hy⟩ := mkP_get hy
 refine Eq.trans ?_ hy
 show (f19_tree a0 a1 a2 a3 a4 a5 a6 a7 a8 a9 a10 a11 a12 a13 a14 a15 a16 a17 a18 a19 a20 a21 a22 a23 a24 a25 k).eval = _
 unfold f19_tree
 have e0 : markArraysV a1 a2 a3 a4 a5 a6 a7 a8 a9 a10 a11 a12 a13 a14 (k) = some (k + (mkcInsSS a3 : Nat) + (mkcASlotS a4 : Nat) + (mkcIntS a5 : Nat) + (mkcBoolS a6 : Nat) + (mkcAOpenS a7 : Nat) + (mkcARingS a8 : Nat) + (mkcAFileS a9 : Nat) + (mkcIntS a11 : Nat) + (mkcIntS a14 : Nat), (mkdInsSS (k) a3, mkdASlotS (k + (mkcInsSS a3 : Nat)) a4, mkdIntS (k + (mkcInsSS a3 : Nat) + (mkcASlotS a4 : Nat)) a5, mkdBoolS (k + (mkcInsSS a3 : Nat) + (mkcASlotS a4 : Nat) + (mkcIntS a5 : Nat)) a6, mkdAOpenS (k + (mkcInsSS a3 : Nat) + (mkcASlotS a4 : Nat) + (mkcIntS a5 : Nat) + (mkcBoolS a6 : Nat)) a7, mkdARingS (k + (mkcInsSS a3 : Nat) + (mkcASlotS a4 : Nat) + (mkcIntS a5 : Nat) + (mkcBoolS a6 : Nat) + (mkcAOpenS a7 : Nat)) a8, mkdAFileS (k + (mkcInsSS a3 : Nat) + (mkcASlotS a4 : Nat) + (mkcIntS a5 : Nat) + (mkcBoolS a6 : Nat) + (mkcAOpenS a7 : Nat) + (mkcARingS a8 : Nat)) a9, mkdIntS (k + (mkcInsSS a3 : Nat) + (mkcASlotS a4 : Nat) + (mkcIntS a5 : Nat) + (mkcBoolS a6 : Nat) + (mkcAOpenS a7 : Nat) + (mkcARingS a8 : Nat) + (mkcAFileS a9 : Nat)) a11, mkdIntS (k + (mkcInsSS a3 : Nat) + (mkcASlotS a4 : Nat) + (mkcIntS a5 : Nat) + (mkcBoolS a6 : Nat) + (mkcAOpenS a7 : Nat) + (mkcARingS a8 : Nat) + (mkcAFileS a9 : Nat) + (mkcIntS a11 : Nat)) a14)) := (mkP_in (by omega) (by omega)).trans (by rw [show k + ((mkcInsSS a3 + mkcASlotS a4 + mkcIntS a5 + mkcBoolS a6 + mkcAOpenS a7 + mkcARingS a8 + mkcAFileS a9 + mkcIntS a11 + mkcIntS a14 : Nat) : Int) = k + (mkcInsSS a3 : Nat) + (mkcASlotS a4 : Nat) + (mkcIntS a5 : Nat) + (mkcBoolS a6 : Nat) + (mkcAOpenS a7 : Nat) + (mkcARingS a8 : Nat) + (mkcAFileS a9 : Nat) + (mkcIntS a11 : Nat) + (mkcIntS a14 : Nat) by omega])
 have e1 : markNodesV a15 a16 a17 a18 a19 a20 a21 a22 a23 a24 a25 (k + (mkcInsSS a3 : Nat) + (mkcASlotS a4 : Nat) + (mkcIntS a5 : Nat) + (mkcBoolS a6 : Nat) + (mkcAOpenS a7 : Nat) + (mkcARingS a8 : Nat) + (mkcAFileS a9 : Nat) + (mkcIntS a11 : Nat) + (mkcIntS a14 : Nat)) = some (k + (mkcInsSS a3 : Nat) + (mkcASlotS a4 : Nat) + (mkcIntS a5 : Nat) + (mkcBoolS a6 : Nat) + (mkcAOpenS a7 : Nat) + (mkcARingS a8 : Nat) + (mkcAFileS a9 : Nat) + (mkcIntS a11 : Nat) + (mkcIntS a14 : Nat) + (mkcInsSS a17 : Nat) + (mkcProcS a18 : Nat) + (mkcIntS a19 : Nat) + (mkcIntSS a20 : Nat) + (mkcOpenS a21 : Nat) + (mkcBPipeS a22 : Nat) + (mkcCpuS a23 : Nat) + (mkcIntS a24 : Nat) + (mkcIntS a25 : Nat), (mkdInsSS (k + (mkcInsSS a3 : Nat) + (mkcASlotS a4 : Nat) + (mkcIntS a5 : Nat) + (mkcBoolS a6 : Nat) + (mkcAOpenS a7 : Nat) + (mkcARingS a8 : Nat) + (mkcAFileS a9 : Nat) + (mkcIntS a11 : Nat) + (mkcIntS a14 : Nat)) a17, mkdProcS (k + (mkcInsSS a3 : Nat) + (mkcASlotS a4 : Nat) + (mkcIntS a5 : Nat) + (mkcBoolS a6 : Nat) + (mkcAOpenS a7 : Nat) + (mkcARingS a8 : Nat) + (mkcAFileS a9 : Nat) + (mkcIntS a11 : Nat) + (mkcIntS a14 : Nat) + (mkcInsSS a17 : Nat)) a18, mkdIntS (k + (mkcInsSS a3 : Nat) + (mkcASlotS a4 : Nat) + (mkcIntS a5 : Nat) + (mkcBoolS a6 : Nat) + (mkcAOpenS a7 : Nat) + (mkcARingS a8 : Nat) + (mkcAFileS a9 : Nat) + (mkcIntS a11 : Nat) + (mkcIntS a14 : Nat) + (mkcInsSS a17 : Nat) + (mkcProcS a18 : Nat)) a19, mkdIntSS (k + (mkcInsSS a3 : Nat) + (mkcASlotS a4 : Nat) + (mkcIntS a5 : Nat) + (mkcBoolS a6 : Nat) + (mkcAOpenS a7 : Nat) + (mkcARingS a8 : Nat) + (mkcAFileS a9 : Nat) + (mkcIntS a11 : Nat) + (mkcIntS a14 : Nat) + (mkcInsSS a17 : Nat) + (mkcProcS a18 : Nat) + (mkcIntS a19 : Nat)) a20, mkdOpenS (k + (mkcInsSS a3 : Nat) + (mkcASlotS a4 : Nat) + (mkcIntS a5 : Nat) + (mkcBoolS a6 : Nat) + (mkcAOpenS a7 : Nat) + (mkcARingS a8 : Nat) + (mkcAFileS a9 : Nat) + (mkcIntS a11 : Nat) + (mkcIntS a14 : Nat) + (mkcInsSS a17 : Nat) + (mkcProcS a18 : Nat) + (mkcIntS a19 : Nat) + (mkcIntSS a20 : Nat)) a21, mkdBPipeS (k + (mkcInsSS a3 : Nat) + (mkcASlotS a4 : Nat) + (mkcIntS a5 : Nat) + (mkcBoolS a6 : Nat) + (mkcAOpenS a7 : Nat) + (mkcARingS a8 : Nat) + (mkcAFileS a9 : Nat) + (mkcIntS a11 : Nat) + (mkcIntS a14 : Nat) + (mkcInsSS a17 : Nat) + (mkcProcS a18 : Nat) + (mkcIntS a19 : Nat) + (mkcIntSS a20 : Nat) + (mkcOpenS a21 : Nat)) a22, mkdCpuS (k + (mkcInsSS a3 : Nat) + (mkcASlotS a4 : Nat) + (mkcIntS a5 : Nat) + (mkcBoolS a6 : Nat) + (mkcAOpenS a7 : Nat) + (mkcARingS a8 : Nat) + (mkcAFileS a9 : Nat) + (mkcIntS a11 : Nat) + (mkcIntS a14 : Nat) + (mkcInsSS a17 : Nat) + (mkcProcS a18 : Nat) + (mkcIntS a19 : Nat) + (mkcIntSS a20 : Nat) + (mkcOpenS a21 : Nat) + (mkcBPipeS a22 : Nat)) a23, mkdIntS (k + (mkcInsSS a3 : Nat) + (mkcASlotS a4 : Nat) + (mkcIntS a5 : Nat) + (mkcBoolS a6 : Nat) + (mkcAOpenS a7 : Nat) + (mkcARingS a8 : Nat) + (mkcAFileS a9 : Nat) + (mkcIntS a11 : Nat) + (mkcIntS a14 : Nat) + (mkcInsSS a17 : Nat) + (mkcProcS a18 : Nat) + (mkcIntS a19 : Nat) + (mkcIntSS a20 : Nat) + (mkcOpenS a21 : Nat) + (mkcBPipeS a22 : Nat) + (mkcCpuS a23 : Nat)) a24, mkdIntS (k + (mkcInsSS a3 : Nat) + (mkcASlotS a4 : Nat) + (mkcIntS a5 : Nat) + (mkcBoolS a6 : Nat) + (mkcAOpenS a7 : Nat) + (mkcARingS a8 : Nat) + (mkcAFileS a9 : Nat) + (mkcIntS a11 : Nat) + (mkcIntS a14 : Nat) + (mkcInsSS a17 : Nat) + (mkcProcS a18 : Nat) + (mkcIntS a19 : Nat) + (mkcIntSS a20 : Nat) + (mkcOpenS a21 : Nat) + (mkcBPipeS a22 : Nat) + (mkcCpuS a23 : Nat) + (mkcIntS a24 : Nat)) a25)) := (mkP_in (by omega) (by omega)).trans (by rw [show k + (mkcInsSS a3 : Nat) + (mkcASlotS a4 : Nat) + (mkcIntS a5 : Nat) + (mkcBoolS a6 : Nat) + (mkcAOpenS a7 : Nat) + (mkcARingS a8 : Nat) + (mkcAFileS a9 : Nat) + (mkcIntS a11 : Nat) + (mkcIntS a14 : Nat) + ((mkcInsSS a17 + mkcProcS a18 + mkcIntS a19 + mkcIntSS a20 + mkcOpenS a21 + mkcBPipeS a22 + mkcCpuS a23 + mkcIntS a24 + mkcIntS a25 : Nat) : Int) = k + (mkcInsSS a3 : Nat) + (mkcASlotS a4 : Nat) + (mkcIntS a5 : Nat) + (mkcBoolS a6 : Nat) + (mkcAOpenS a7 : Nat) + (mkcARingS a8 : Nat) + (mkcAFileS a9 : Nat) + (mkcIntS a11 : Nat) + (mkcIntS a14 : Nat) + (mkcInsSS a17 : Nat) + (mkcProcS a18 : Nat) + (mkcIntS a19 : Nat) + (mkcIntSS a20 : Nat) + (mkcOpenS a21 : Nat) + (mkcBPipeS a22 : Nat) + (mkcCpuS a23 : Nat) + (mkcIntS a24 : Nat) + (mkcIntS a25 : Nat) by omega])
 rw [eval_get_some e0]
 rw [eval_get_some e1]
 have e : k + ((mkcInsSS a3 + mkcASlotS a4 + mkcIntS a5 + mkcBoolS a6 + mkcAOpenS a7 + mkcARingS a8 + mkcAFileS a9 + mkcIntS a11 + mkcIntS a14 + mkcInsSS a17 + mkcProcS a18 + mkcIntS a19 + mkcIntSS a20 + mkcOpenS a21 + mkcBPipeS a22 + mkcCpuS a23 + mkcIntS a24 + mkcIntS a25 : Nat) : Int) = k + (mkcInsSS a3 : Nat) + (mkcASlotS a4 : Nat) + (mkcIntS a5 : Nat) + (mkcBoolS a6 : Nat) + (mkcAOpenS a7 : Nat) + (mkcARingS a8 : Nat) + (mkcAFileS a9 : Nat) + (mkcIntS a11 : Nat) + (mkcIntS a14 : Nat) + (mkcInsSS a17 : Nat) + (mkcProcS a18 : Nat) + (mkcIntS a19 : Nat) + (mkcIntSS a20 : Nat) + (mkcOpenS a21 : Nat) + (mkcBPipeS a22 : Nat) + (mkcCpuS a23 : Nat) + (mkcIntS a24 : Nat) + (mkcIntS a25 : Nat) := by omega
 rw [e]; try rfl
end Go.Proofs.YtnnpnkegpkladaaGreat.Dm
