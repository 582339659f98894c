/- f -/
import Derived.Test.YtnnpnkegpkladaaGreatQ3
namespace Go.Proofs.YtnnpnkegpkladaaGreat.Dm
open Go Go.ChangeShapes Go.WideShapes Go.ChangeAt Go.RowKit
theorem gt4 (n : Nat) : decide (((n : Nat) : Int) > (4 : Int)) = !decide (n ≤ 4) := gt_cast (m := 4)
theorem gt6 (n : Nat) : decide (((n : Nat) : Int) > (6 : Int)) = !decide (n ≤ 6) := gt_cast (m := 6)
theorem gt8 (n : Nat) : decide (((n : Nat) : Int) > (8 : Int)) = !decide (n ≤ 8) := gt_cast (m := 8)
theorem gt12 (n : Nat) : decide (((n : Nat) : Int) > (12 : Int)) = !decide (n ≤ 12) := gt_cast (m := 12)
theorem gt60 (n : Nat) : decide (((n : Nat) : Int) > (60 : Int)) = !decide (n ≤ 60) := gt_cast (m := 60)
theorem le3 (n : Nat) : decide (((n : Nat) : Int) ≤ (3 : Int)) = decide (n ≤ 3) := le_cast (m := 3)
theorem ne4 (n : Nat) : (((n : Nat) : Int) != (4 : Int)) = !decide (n = 4) := ne_cast (m := 4)
theorem eq4 (n : Nat) : (((n : Nat) : Int) == (4 : Int)) = decide (n = 4) := by rw [Bool.eq_iff_iff]; simp; omega
theorem tmod4 (n : Nat) : (Int.tmod ((n : Nat) : Int) (4 : Int) != (0 : Int)) = !decide (n % 4 = 0) := by
 rw [Int.tmod_eq_emod_of_nonneg (by omega), Bool.eq_iff_iff]
 simp
 omega
theorem beq_false (c : Bool) : (c == false) = !c := by cases c <;> rfl
theorem beq_true' (c : Bool) : (c == true) = c := by cases c <;> rfl
theorem placeBy_none {α : Type} {key : α → Int} {a : List α} {v : Int} (h : idxBy key a v = none) : placeBy key a v = -1 := by unfold placeBy; rw [h]; rfl
theorem placeBy_some {α : Type} {key : α → Int} {a : List α} {v : Int} {i : Nat} (h : idxBy key a v = some i) : placeBy key a v = ((i : Nat) : Int) := by unfold placeBy; rw [h]; rfl
theorem idxBy_lt {α : Type} {key : α → Int} {a : List α} {v : Int} {i : Nat} (h : idxBy key a v = some i) : i < a.length := (List.findIdx?_eq_some_iff_getElem.1 h).1
abbrev f75_S0 := XE × (Unit)
def f75_L0 : f75_S0 → Out (Round f75_S0 ((Unit) × (Unit)) ((Bool × Unit) × (Unit)))
| ((p0, p1, p2, _), _) =>
 .ite (decide (p2 < ((List.length p0 : Nat) : Int)))
 (.ite (decide (0 ≤ p2))
 (.get (nth p0 (Int.toNat p2)) fun y1 =>
 .ite ((y1 == p1))
 (.ret (.ret ((true, ()), ())))
 (.ret (.again ((p0, p1, (IntKind.i64.wrap (p2 + (1 : Int))), ()), ()))))
 .fail)
 (.ret (.out ((), ())))
def f75_tree (a0 : List Int) (a1 : Int) : Out (((Bool × Unit) × Unit) × XI) :=
 .get (iter f75_L0 FUEL ((a0, a1, (0 : Int), ()), ())) fun y1 => .alt y1 (fun y2 =>
 .ret (((false, ()), ()), ((), (), ()))) (fun y3 =>
 .ret (((y3.1.1, ()), ()), ((), (), ())))
def f75_A : Nat → Option LoopAnn := fun n => annOf [(0, ⟨⟨[.ro (.int .i64) (some 0), .i .i64, .dead, .dead, .dead, .i .i64] ++ dd 12, []⟩, ⟨dd 18, []⟩, some ⟨dd 4 ++ [.b] ++ dd 13, []⟩, false⟩)] n
def k75 : Con := { f := 75, lend := true, its := [⟨false, false, [.ro (.int .i64)]⟩, ⟨false, false, [.i .i64]⟩], lay := [none, none], rs := [⟨false, false, [.b]⟩], F := fun x => .ret ((((hasV x.1.1 x.2.1.1), ()), ()), ((), (), ())) }
theorem f75_eq (x : itemsD k75.its) : bo [] f75_A Tryz.f75 k75 [.tmp 4] x = f75_tree x.1.1 x.2.1.1 := by kernel_rfl
theorem f75_ok (hr : ∀ x : (List Int × Unit) × (Int × Unit) × Unit, itemsWF k75.its x → (f75_tree x.1.1 x.2.1.1).eval = (k75.F x).eval) : k75.Ok Tryz.prog := con_fn [] trivial f75_eq fun x hw _ hy => (hr x hw).trans hy
theorem k75_ok : k75.Ok Tryz.prog := by
 refine f75_ok fun x hw => ?_
 obtain ⟨⟨a0, _⟩, ⟨a1, _⟩, _⟩ := x
 have l0 : List.length a0 ≤ BIG := hw.1.1.1
 show (f75_tree a0 a1).eval = some ((((hasV a0 a1), ()), ()), ((), (), ()))
 unfold f75_tree hasV
 have h : iter f75_L0 FUEL ((a0, a1, (0 : Int), ()), ()) = some (if List.any a0 (fun y => decide (y = a1)) = true then .inr ((true, ()), ()) else .inl ((), ())) := any_loop (f := f75_L0) a0 (fun y => decide (y = a1)) (fun i => ((a0, a1, ((i : Nat) : Int), ()), ())) (y := ((), ())) (z := ((true, ()), ()))
  (fun i hi => by
   have h1 := wrap_succ (i := i) (by omega)
   cases q : (fun y => decide (y = a1)) a0[i] <;> simp [f75_L0, Out.eval, hi, h1, cond_eq_ite] at q ⊢ <;> simp_all)
  (by simp [f75_L0, Out.eval]) l0
 refine (eval_get_some h).trans ?_
 cases List.any a0 (fun y => decide (y = a1)) <;> rfl
abbrev f31_S0 := (List (List InsD) × Int × Unit) × (Unit)
def f31_L0 : f31_S0 → Out (Round f31_S0 ((Unit) × (Unit)) ((Bool × Unit) × (Unit)))
| ((p0, p1, _), _) =>
 .ite (decide (p1 < ((List.length p0 : Nat) : Int)))
 (.ite (decide (0 ≤ p1))
 (.get (nth p0 (Int.toNat p1)) fun y1 =>
 .ite (!(progOkV y1))
 (.ret (.ret ((false, ()), ())))
 (.ret (.again ((p0, (IntKind.i64.wrap (p1 + (1 : Int))), ()), ()))))
 .fail)
 (.ret (.out ((), ())))
def f31_tree (a0 : List (List InsD)) : Out (((Bool × Unit) × Unit) × (Unit × Unit)) :=
 .ite (!(inV ((List.length a0 : Nat) : Int) (1 : Int) (4 : Int)))
 (.ret (((false, ()), ()), ((), ())))
 (.get (iter f31_L0 FUEL ((a0, (0 : Int), ()), ())) fun y1 => .alt y1 (fun y2 =>
 .ret (((true, ()), ()), ((), ()))) (fun y3 =>
 .ret (((y3.1.1, ()), ()), ((), ()))))
def f31_A : Nat → Option LoopAnn := fun n => annOf [(0, ⟨⟨[.ro (.sl tyN) (some 0), .dead, .dead, .i .i64] ++ dd 16, []⟩, ⟨dd 20, []⟩, some ⟨[.dead, .dead, .b] ++ dd 17, []⟩, false⟩)] n
def k31 : Con := { f := 31, lend := true, its := [⟨false, false, [.ro (.sl tyN)]⟩], lay := [none], rs := [⟨false, false, [.b]⟩], F := fun x => .ret ((((progsOkV x.1.1), ()), ()), ((), ())) }
theorem f31_eq (x : itemsD k31.its) : bo [k65, k66] f31_A Tryz.f31 k31 [.tmp 2] x = f31_tree x.1.1 := by kernel_rfl
theorem f31_ok (hr : ∀ x : (List (List InsD) × Unit) × Unit, itemsWF k31.its x → (f31_tree x.1.1).eval = (k31.F x).eval) : k31.Ok Tryz.prog := con_fn [k65, k66] ⟨k65_ok, k66_ok, trivial⟩ f31_eq fun x hw _ hy => (hr x hw).trans hy
theorem k31_ok : k31.Ok Tryz.prog := by
 refine f31_ok fun x hw => ?_
 obtain ⟨⟨a0, _⟩, _⟩ := x
 have l0 : List.length a0 ≤ BIG := hw.1.1.1
 show (f31_tree a0).eval = some ((((progsOkV a0), ()), ()), ((), ()))
 unfold f31_tree progsOkV
 have e1 : inV ((List.length a0 : Nat) : Int) 1 4 = (decide (1 ≤ List.length a0) && decide (List.length a0 ≤ 4)) := by
  unfold inV
  congr 1 <;> (rw [Bool.eq_iff_iff]; simp; omega)
 rw [e1]
 have h : iter f31_L0 FUEL ((a0, (0 : Int), ()), ()) = some (if List.all a0 progOkV = true then .inl ((), ()) else .inr ((false, ()), ())) := allB_loop (f := f31_L0) a0 progOkV (fun i => ((a0, ((i : Nat) : Int), ()), ())) (y := ((), ())) (z := ((false, ()), ()))
  (fun i hi => by
   have h1 := wrap_succ (i := i) (by omega)
   cases q : progOkV a0[i] <;> simp [f31_L0, Out.eval, hi, h1, cond_eq_ite] at q ⊢ <;> simp_all)
  (by simp [f31_L0, Out.eval]) l0
 cases decide (1 ≤ List.length a0) && decide (List.length a0 ≤ 4)
 . rfl
 . refine (eval_ite_f rfl).trans ((eval_get_some h).trans ?_)
   cases List.all a0 progOkV <;> rfl
end Go.Proofs.YtnnpnkegpkladaaGreat.Dm
