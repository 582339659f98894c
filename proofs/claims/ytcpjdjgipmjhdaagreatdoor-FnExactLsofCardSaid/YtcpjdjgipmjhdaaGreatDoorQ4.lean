/- Functions of the program, and what they compute. -/
import Derived.Test.YtcpjdjgipmjhdaaGreatDoorQ3
namespace Go.Proofs.YtcpjdjgipmjhdaaGreatDoor.Dm
open Go Go.ChangeShapes Go.WideShapes Go.ChangeAt Go.RowKit
theorem gt3 (n : Nat) : decide (((n : Nat) : Int) > (3 : Int)) = !decide (n ≤ 3) := gt_cast (m := 3)
theorem gt4 (n : Nat) : decide (((n : Nat) : Int) > (4 : Int)) = !decide (n ≤ 4) := gt_cast (m := 4)
theorem gt6 (n : Nat) : decide (((n : Nat) : Int) > (6 : Int)) = !decide (n ≤ 6) := gt_cast (m := 6)
theorem gt8 (n : Nat) : decide (((n : Nat) : Int) > (8 : Int)) = !decide (n ≤ 8) := gt_cast (m := 8)
theorem gt12 (n : Nat) : decide (((n : Nat) : Int) > (12 : Int)) = !decide (n ≤ 12) := gt_cast (m := 12)
theorem gt60 (n : Nat) : decide (((n : Nat) : Int) > (60 : Int)) = !decide (n ≤ 60) := gt_cast (m := 60)
theorem le3 (n : Nat) : decide (((n : Nat) : Int) ≤ (3 : Int)) = decide (n ≤ 3) := le_cast (m := 3)
theorem ne4 (n : Nat) : (((n : Nat) : Int) != (4 : Int)) = !decide (n = 4) := ne_cast (m := 4)
theorem eq4 (n : Nat) : (((n : Nat) : Int) == (4 : Int)) = decide (n = 4) := by rw [Bool.eq_iff_iff]; simp; omega
theorem tmod4 (n : Nat) : (Int.tmod ((n : Nat) : Int) (4 : Int) != (0 : Int)) = !decide (n % 4 = 0) := by
  rw [Int.tmod_eq_emod_of_nonneg (by omega), Bool.eq_iff_iff]
  simp
  omega
theorem neg_not (x : Int) : decide (x < (0 : Int)) = !decide (0 ≤ x) := by rw [Bool.eq_iff_iff]; simp
theorem beq_false (c : Bool) : (c == false) = !c := by cases c <;> rfl
theorem beq_true' (c : Bool) : (c == true) = c := by cases c <;> rfl
theorem placeBy_none {α : Type} {key : α → Int} {a : List α} {v : Int} (h : idxBy key a v = none) : placeBy key a v = -1 := by unfold placeBy; rw [h]; rfl
theorem placeBy_some {α : Type} {key : α → Int} {a : List α} {v : Int} {i : Nat} (h : idxBy key a v = some i) : placeBy key a v = ((i : Nat) : Int) := by unfold placeBy; rw [h]; rfl
theorem idxBy_lt {α : Type} {key : α → Int} {a : List α} {v : Int} {i : Nat} (h : idxBy key a v = some i) : i < a.length := (List.findIdx?_eq_some_iff_getElem.1 h).1
abbrev f72_S0 := (Int × Int × Unit) × (UnixD × Unit)
def f72_L0 : f72_S0 → Out (Round f72_S0 ((Unit) × (Unit)) ((Int × Unit) × (Unit)))
| ((p0, p1, _), (p2, p3, p4, p5, p6, p7, p8, p9, p10, _), _) =>
 .ite (decide (p1 < ((List.length p5 : Nat) : Int)))
 (.ite (decide (0 ≤ p1))
 (.get (nth p5 (Int.toNat p1)) fun y1 =>
 .ite ((y1.1 == p0))
 (.ret (.ret ((p1, ()), ())))
 (.ret (.again ((p0, (IntKind.i64.wrap (p1 + (1 : Int))), ()), ((p2, p3, p4, p5, p6, p7, p8, p9, p10, ()), ())))))
 .fail)
 (.ret (.out ((), ())))
def f72_tree (a0 : Int) (a1 : Int) (a2 : List (List InsD)) (a3 : List ProcD) (a4 : List OpenD) (a5 : List CpuD) (a6 : List CpuD) (a7 : List Int) (a8 : List Int) (a9 : Int) : Out (((Int × Unit) × Unit) × (Unit × Unit × Unit)) :=
 .get (iter f72_L0 FUEL ((a9, (0 : Int), ()), ((a0, a1, a2, a3, a4, a5, a6, a7, a8, ()), ()))) fun y1 => .alt y1 (fun y2 =>
 .ret ((((-1 : Int), ()), ()), ((), (), ()))) (fun y3 =>
 .ret (((y3.1.1, ()), ()), ((), (), ())))
def f72_A : Nat → Option LoopAnn := fun n => annOf [(0, { head := { t := [.dead, .i .i64, .vptr 64000000 0, .dead, .dead, .i .i64] ++ dd 16, v := [(64000000, .var [.i .i64, .i .i64, .ro (.sl tyN) (some 0), .ro tyP (some 1), .ro tyO (some 2), .ro tyF (some 3), .ro tyF (some 4), .ro (.int .i64) (some 5), .ro (.int .i64) (some 6)])] }, out := { t := dd 22, v := [] }, ret := some { t := dd 4 ++ [.i .i64] ++ dd 17, v := [] } })] n
def k72 : Con := { f := 72, lend := true, its := [⟨false, true, [.i .i64, .i .i64, .ro (.sl tyN), .ro tyP, .ro tyO, .ro tyF, .ro tyF, .ro (.int .i64), .ro (.int .i64)]⟩, ⟨false, false, [.i .i64]⟩], lay := [none, none], rs := [⟨false, false, [.i .i64]⟩], F := fun x => .ret ((((procAtV x.1.2.2.2.1 x.2.1.1), ()), ()), ((), (), ())) }
theorem f72_eq (x : itemsD k72.its) : bo [] f72_A Tryz.f72 k72 [.tmp 4] x = f72_tree x.1.1 x.1.2.1 x.1.2.2.1 x.1.2.2.2.1 x.1.2.2.2.2.1 x.1.2.2.2.2.2.1 x.1.2.2.2.2.2.2.1 x.1.2.2.2.2.2.2.2.1 x.1.2.2.2.2.2.2.2.2.1 x.2.1.1 := by kernel_rfl
theorem f72_ok (hr : ∀ x : UnixD × (Int × Unit) × Unit, itemsWF k72.its x → (f72_tree x.1.1 x.1.2.1 x.1.2.2.1 x.1.2.2.2.1 x.1.2.2.2.2.1 x.1.2.2.2.2.2.1 x.1.2.2.2.2.2.2.1 x.1.2.2.2.2.2.2.2.1 x.1.2.2.2.2.2.2.2.2.1 x.2.1.1).eval = (k72.F x).eval) : k72.Ok Tryz.prog := con_fn [] trivial f72_eq fun x hw _ hy => (hr x hw).trans hy
theorem k72_ok : k72.Ok Tryz.prog := by
  refine f72_ok fun x hw => ?_
  obtain ⟨⟨a0, a1, a2, a3, a4, a5, a6, a7, a8, _⟩, ⟨a9, _⟩, _⟩ := x
  have l2 : List.length a2 ≤ BIG := hw.1.1.1
  have l3 : List.length a3 ≤ BIG := hw.1.2.1.1
  have l4 : List.length a4 ≤ BIG := hw.1.2.2.1.1
  have l5 : List.length a5 ≤ BIG := hw.1.2.2.2.1.1
  have l6 : List.length a6 ≤ BIG := hw.1.2.2.2.2.1.1
  have l7 : List.length a7 ≤ BIG := hw.1.2.2.2.2.2.1.1
  have l8 : List.length a8 ≤ BIG := hw.1.2.2.2.2.2.2.1.1
  show (f72_tree a0 a1 a2 a3 a4 a5 a6 a7 a8 a9).eval = some ((((procAtV a3 a9), ()), ()), ((), (), ()))
  unfold f72_tree procAtV placeBy idxBy
  have h : iter f72_L0 FUEL ((a9, (0 : Int), ()), ((a0, a1, a2, a3, a4, a5, a6, a7, a8, ()), ())) = some (match List.findIdx? (fun x => procKey x == a9) a3 with | some i => .inr ((((i : Nat) : Int), ()), ()) | none => .inl ((), ())) := idx_loop (f := f72_L0) a3 (fun x => procKey x == a9) (fun i => ((a9, ((i : Nat) : Int), ()), ((a0, a1, a2, a3, a4, a5, a6, a7, a8, ()), ()))) (y := ((), ())) (z := fun i => ((((i : Nat) : Int), ()), ()))
      (fun i hi hp => by
        have h1 := wrap_succ (i := i) (by omega)
        simp [f72_L0, Out.eval, hi, h1, cond_eq_ite, procKey] at hp ⊢ <;> (try simp_all) <;> (try (rcases hp with h | h <;> simp_all)))
      (fun i hi hp => by simp [f72_L0, Out.eval, hi, cond_eq_ite, procKey] at hp ⊢ <;> (try simp_all) <;> (try (rcases hp with h | h <;> simp_all)))
      (by simp [f72_L0, Out.eval]) l3
  refine (eval_get_some h).trans ?_
  cases List.findIdx? (fun x => procKey x == a9) a3 <;> rfl
abbrev f71_S0 := (Int × Int × Unit) × (UnixD × Unit)
def f71_L0 : f71_S0 → Out (Round f71_S0 ((Unit) × (Unit)) ((Int × Unit) × (Unit)))
| ((p0, p1, _), (p2, p3, p4, p5, p6, p7, p8, p9, p10, _), _) =>
 .ite (decide (p1 < ((List.length p6 : Nat) : Int)))
 (.ite (decide (0 ≤ p1))
 (.get (nth p6 (Int.toNat p1)) fun y1 =>
 .ite ((y1.1 == p0))
 (.ret (.ret ((p1, ()), ())))
 (.ret (.again ((p0, (IntKind.i64.wrap (p1 + (1 : Int))), ()), ((p2, p3, p4, p5, p6, p7, p8, p9, p10, ()), ())))))
 .fail)
 (.ret (.out ((), ())))
def f71_tree (a0 : Int) (a1 : Int) (a2 : List (List InsD)) (a3 : List ProcD) (a4 : List OpenD) (a5 : List CpuD) (a6 : List CpuD) (a7 : List Int) (a8 : List Int) (a9 : Int) : Out (((Int × Unit) × Unit) × (Unit × Unit × Unit)) :=
 .get (iter f71_L0 FUEL ((a9, (0 : Int), ()), ((a0, a1, a2, a3, a4, a5, a6, a7, a8, ()), ()))) fun y1 => .alt y1 (fun y2 =>
 .ret ((((-1 : Int), ()), ()), ((), (), ()))) (fun y3 =>
 .ret (((y3.1.1, ()), ()), ((), (), ())))
def f71_A : Nat → Option LoopAnn := fun n => annOf [(0, { head := { t := [.dead, .i .i64, .vptr 64000000 0, .dead, .dead, .i .i64] ++ dd 16, v := [(64000000, .var [.i .i64, .i .i64, .ro (.sl tyN) (some 0), .ro tyP (some 1), .ro tyO (some 2), .ro tyF (some 3), .ro tyF (some 4), .ro (.int .i64) (some 5), .ro (.int .i64) (some 6)])] }, out := { t := dd 22, v := [] }, ret := some { t := dd 4 ++ [.i .i64] ++ dd 17, v := [] } })] n
def k71 : Con := { f := 71, lend := true, its := [⟨false, true, [.i .i64, .i .i64, .ro (.sl tyN), .ro tyP, .ro tyO, .ro tyF, .ro tyF, .ro (.int .i64), .ro (.int .i64)]⟩, ⟨false, false, [.i .i64]⟩], lay := [none, none], rs := [⟨false, false, [.i .i64]⟩], F := fun x => .ret ((((openAtV x.1.2.2.2.2.1 x.2.1.1), ()), ()), ((), (), ())) }
theorem f71_eq (x : itemsD k71.its) : bo [] f71_A Tryz.f71 k71 [.tmp 4] x = f71_tree x.1.1 x.1.2.1 x.1.2.2.1 x.1.2.2.2.1 x.1.2.2.2.2.1 x.1.2.2.2.2.2.1 x.1.2.2.2.2.2.2.1 x.1.2.2.2.2.2.2.2.1 x.1.2.2.2.2.2.2.2.2.1 x.2.1.1 := by kernel_rfl
theorem f71_ok (hr : ∀ x : UnixD × (Int × Unit) × Unit, itemsWF k71.its x → (f71_tree x.1.1 x.1.2.1 x.1.2.2.1 x.1.2.2.2.1 x.1.2.2.2.2.1 x.1.2.2.2.2.2.1 x.1.2.2.2.2.2.2.1 x.1.2.2.2.2.2.2.2.1 x.1.2.2.2.2.2.2.2.2.1 x.2.1.1).eval = (k71.F x).eval) : k71.Ok Tryz.prog := con_fn [] trivial f71_eq fun x hw _ hy => (hr x hw).trans hy
theorem k71_ok : k71.Ok Tryz.prog := by
  refine f71_ok fun x hw => ?_
  obtain ⟨⟨a0, a1, a2, a3, a4, a5, a6, a7, a8, _⟩, ⟨a9, _⟩, _⟩ := x
  have l2 : List.length a2 ≤ BIG := hw.1.1.1
  have l3 : List.length a3 ≤ BIG := hw.1.2.1.1
  have l4 : List.length a4 ≤ BIG := hw.1.2.2.1.1
  have l5 : List.length a5 ≤ BIG := hw.1.2.2.2.1.1
  have l6 : List.length a6 ≤ BIG := hw.1.2.2.2.2.1.1
  have l7 : List.length a7 ≤ BIG := hw.1.2.2.2.2.2.1.1
  have l8 : List.length a8 ≤ BIG := hw.1.2.2.2.2.2.2.1.1
  show (f71_tree a0 a1 a2 a3 a4 a5 a6 a7 a8 a9).eval = some ((((openAtV a4 a9), ()), ()), ((), (), ()))
  unfold f71_tree openAtV placeBy idxBy
  have h : iter f71_L0 FUEL ((a9, (0 : Int), ()), ((a0, a1, a2, a3, a4, a5, a6, a7, a8, ()), ())) = some (match List.findIdx? (fun x => openKey x == a9) a4 with | some i => .inr ((((i : Nat) : Int), ()), ()) | none => .inl ((), ())) := idx_loop (f := f71_L0) a4 (fun x => openKey x == a9) (fun i => ((a9, ((i : Nat) : Int), ()), ((a0, a1, a2, a3, a4, a5, a6, a7, a8, ()), ()))) (y := ((), ())) (z := fun i => ((((i : Nat) : Int), ()), ()))
      (fun i hi hp => by
        have h1 := wrap_succ (i := i) (by omega)
        simp [f71_L0, Out.eval, hi, h1, cond_eq_ite, openKey] at hp ⊢ <;> (try simp_all) <;> (try (rcases hp with h | h <;> simp_all)))
      (fun i hi hp => by simp [f71_L0, Out.eval, hi, cond_eq_ite, openKey] at hp ⊢ <;> (try simp_all) <;> (try (rcases hp with h | h <;> simp_all)))
      (by simp [f71_L0, Out.eval]) l4
  refine (eval_get_some h).trans ?_
  cases List.findIdx? (fun x => openKey x == a9) a4 <;> rfl
abbrev f105_S0 := (Int × Int × Unit) × (UnixD × Unit)
def f105_L0 : f105_S0 → Out (Round f105_S0 ((Unit) × (Unit)) ((Int × Unit) × (Unit)))
| ((p0, p1, _), (p2, p3, p4, p5, p6, p7, p8, p9, p10, _), _) =>
 .ite (decide (p1 < ((List.length p7 : Nat) : Int)))
 (.ite (decide (0 ≤ p1))
 (.get (nth p7 (Int.toNat p1)) fun y1 =>
 .ite ((y1.1 == p0))
 (.ret (.ret ((p1, ()), ())))
 (.ret (.again ((p0, (IntKind.i64.wrap (p1 + (1 : Int))), ()), ((p2, p3, p4, p5, p6, p7, p8, p9, p10, ()), ())))))
 .fail)
 (.ret (.out ((), ())))
def f105_tree (a0 : Int) (a1 : Int) (a2 : List (List InsD)) (a3 : List ProcD) (a4 : List OpenD) (a5 : List CpuD) (a6 : List CpuD) (a7 : List Int) (a8 : List Int) (a9 : Int) : Out (((Int × Unit) × Unit) × (Unit × Unit × Unit)) :=
 .get (iter f105_L0 FUEL ((a9, (0 : Int), ()), ((a0, a1, a2, a3, a4, a5, a6, a7, a8, ()), ()))) fun y1 => .alt y1 (fun y2 =>
 .ret ((((-1 : Int), ()), ()), ((), (), ()))) (fun y3 =>
 .ret (((y3.1.1, ()), ()), ((), (), ())))
def f105_A : Nat → Option LoopAnn := fun n => annOf [(0, { head := { t := [.dead, .i .i64, .vptr 64000000 0, .dead, .dead, .i .i64] ++ dd 16, v := [(64000000, .var [.i .i64, .i .i64, .ro (.sl tyN) (some 0), .ro tyP (some 1), .ro tyO (some 2), .ro tyF (some 3), .ro tyF (some 4), .ro (.int .i64) (some 5), .ro (.int .i64) (some 6)])] }, out := { t := dd 22, v := [] }, ret := some { t := dd 4 ++ [.i .i64] ++ dd 17, v := [] } })] n
def k105 : Con := { f := 105, lend := true, its := [⟨false, true, [.i .i64, .i .i64, .ro (.sl tyN), .ro tyP, .ro tyO, .ro tyF, .ro tyF, .ro (.int .i64), .ro (.int .i64)]⟩, ⟨false, false, [.i .i64]⟩], lay := [none, none], rs := [⟨false, false, [.i .i64]⟩], F := fun x => .ret ((((pipeAtV x.1.2.2.2.2.2.1 x.2.1.1), ()), ()), ((), (), ())) }
theorem f105_eq (x : itemsD k105.its) : bo [] f105_A Tryz.f105 k105 [.tmp 4] x = f105_tree x.1.1 x.1.2.1 x.1.2.2.1 x.1.2.2.2.1 x.1.2.2.2.2.1 x.1.2.2.2.2.2.1 x.1.2.2.2.2.2.2.1 x.1.2.2.2.2.2.2.2.1 x.1.2.2.2.2.2.2.2.2.1 x.2.1.1 := by kernel_rfl
theorem f105_ok (hr : ∀ x : UnixD × (Int × Unit) × Unit, itemsWF k105.its x → (f105_tree x.1.1 x.1.2.1 x.1.2.2.1 x.1.2.2.2.1 x.1.2.2.2.2.1 x.1.2.2.2.2.2.1 x.1.2.2.2.2.2.2.1 x.1.2.2.2.2.2.2.2.1 x.1.2.2.2.2.2.2.2.2.1 x.2.1.1).eval = (k105.F x).eval) : k105.Ok Tryz.prog := con_fn [] trivial f105_eq fun x hw _ hy => (hr x hw).trans hy
theorem k105_ok : k105.Ok Tryz.prog := by
  refine f105_ok fun x hw => ?_
  obtain ⟨⟨a0, a1, a2, a3, a4, a5, a6, a7, a8, _⟩, ⟨a9, _⟩, _⟩ := x
  have l2 : List.length a2 ≤ BIG := hw.1.1.1
  have l3 : List.length a3 ≤ BIG := hw.1.2.1.1
  have l4 : List.length a4 ≤ BIG := hw.1.2.2.1.1
  have l5 : List.length a5 ≤ BIG := hw.1.2.2.2.1.1
  have l6 : List.length a6 ≤ BIG := hw.1.2.2.2.2.1.1
  have l7 : List.length a7 ≤ BIG := hw.1.2.2.2.2.2.1.1
  have l8 : List.length a8 ≤ BIG := hw.1.2.2.2.2.2.2.1.1
  show (f105_tree a0 a1 a2 a3 a4 a5 a6 a7 a8 a9).eval = some ((((pipeAtV a5 a9), ()), ()), ((), (), ()))
  unfold f105_tree pipeAtV placeBy idxBy
  have h : iter f105_L0 FUEL ((a9, (0 : Int), ()), ((a0, a1, a2, a3, a4, a5, a6, a7, a8, ()), ())) = some (match List.findIdx? (fun x => pipeKey x == a9) a5 with | some i => .inr ((((i : Nat) : Int), ()), ()) | none => .inl ((), ())) := idx_loop (f := f105_L0) a5 (fun x => pipeKey x == a9) (fun i => ((a9, ((i : Nat) : Int), ()), ((a0, a1, a2, a3, a4, a5, a6, a7, a8, ()), ()))) (y := ((), ())) (z := fun i => ((((i : Nat) : Int), ()), ()))
      (fun i hi hp => by
        have h1 := wrap_succ (i := i) (by omega)
        simp [f105_L0, Out.eval, hi, h1, cond_eq_ite, pipeKey] at hp ⊢ <;> (try simp_all) <;> (try (rcases hp with h | h <;> simp_all)))
      (fun i hi hp => by simp [f105_L0, Out.eval, hi, cond_eq_ite, pipeKey] at hp ⊢ <;> (try simp_all) <;> (try (rcases hp with h | h <;> simp_all)))
      (by simp [f105_L0, Out.eval]) l5
  refine (eval_get_some h).trans ?_
  cases List.findIdx? (fun x => pipeKey x == a9) a5 <;> rfl
abbrev f104_S0 := (Int × Int × Unit) × (UnixD × Unit)
def f104_L0 : f104_S0 → Out (Round f104_S0 ((Unit) × (Unit)) ((Int × Unit) × (Unit)))
| ((p0, p1, _), (p2, p3, p4, p5, p6, p7, p8, p9, p10, _), _) =>
 .ite (decide (p1 < ((List.length p8 : Nat) : Int)))
 (.ite (decide (0 ≤ p1))
 (.get (nth p8 (Int.toNat p1)) fun y1 =>
 .ite ((y1.1 == p0))
 (.ret (.ret ((p1, ()), ())))
 (.ret (.again ((p0, (IntKind.i64.wrap (p1 + (1 : Int))), ()), ((p2, p3, p4, p5, p6, p7, p8, p9, p10, ()), ())))))
 .fail)
 (.ret (.out ((), ())))
def f104_tree (a0 : Int) (a1 : Int) (a2 : List (List InsD)) (a3 : List ProcD) (a4 : List OpenD) (a5 : List CpuD) (a6 : List CpuD) (a7 : List Int) (a8 : List Int) (a9 : Int) : Out (((Int × Unit) × Unit) × (Unit × Unit × Unit)) :=
 .get (iter f104_L0 FUEL ((a9, (0 : Int), ()), ((a0, a1, a2, a3, a4, a5, a6, a7, a8, ()), ()))) fun y1 => .alt y1 (fun y2 =>
 .ret ((((-1 : Int), ()), ()), ((), (), ()))) (fun y3 =>
 .ret (((y3.1.1, ()), ()), ((), (), ())))
def f104_A : Nat → Option LoopAnn := fun n => annOf [(0, { head := { t := [.dead, .i .i64, .vptr 64000000 0, .dead, .dead, .i .i64] ++ dd 16, v := [(64000000, .var [.i .i64, .i .i64, .ro (.sl tyN) (some 0), .ro tyP (some 1), .ro tyO (some 2), .ro tyF (some 3), .ro tyF (some 4), .ro (.int .i64) (some 5), .ro (.int .i64) (some 6)])] }, out := { t := dd 22, v := [] }, ret := some { t := dd 4 ++ [.i .i64] ++ dd 17, v := [] } })] n
def k104 : Con := { f := 104, lend := true, its := [⟨false, true, [.i .i64, .i .i64, .ro (.sl tyN), .ro tyP, .ro tyO, .ro tyF, .ro tyF, .ro (.int .i64), .ro (.int .i64)]⟩, ⟨false, false, [.i .i64]⟩], lay := [none, none], rs := [⟨false, false, [.i .i64]⟩], F := fun x => .ret ((((fileAtV x.1.2.2.2.2.2.2.1 x.2.1.1), ()), ()), ((), (), ())) }
theorem f104_eq (x : itemsD k104.its) : bo [] f104_A Tryz.f104 k104 [.tmp 4] x = f104_tree x.1.1 x.1.2.1 x.1.2.2.1 x.1.2.2.2.1 x.1.2.2.2.2.1 x.1.2.2.2.2.2.1 x.1.2.2.2.2.2.2.1 x.1.2.2.2.2.2.2.2.1 x.1.2.2.2.2.2.2.2.2.1 x.2.1.1 := by kernel_rfl
theorem f104_ok (hr : ∀ x : UnixD × (Int × Unit) × Unit, itemsWF k104.its x → (f104_tree x.1.1 x.1.2.1 x.1.2.2.1 x.1.2.2.2.1 x.1.2.2.2.2.1 x.1.2.2.2.2.2.1 x.1.2.2.2.2.2.2.1 x.1.2.2.2.2.2.2.2.1 x.1.2.2.2.2.2.2.2.2.1 x.2.1.1).eval = (k104.F x).eval) : k104.Ok Tryz.prog := con_fn [] trivial f104_eq fun x hw _ hy => (hr x hw).trans hy
theorem k104_ok : k104.Ok Tryz.prog := by
  refine f104_ok fun x hw => ?_
  obtain ⟨⟨a0, a1, a2, a3, a4, a5, a6, a7, a8, _⟩, ⟨a9, _⟩, _⟩ := x
  have l2 : List.length a2 ≤ BIG := hw.1.1.1
  have l3 : List.length a3 ≤ BIG := hw.1.2.1.1
  have l4 : List.length a4 ≤ BIG := hw.1.2.2.1.1
  have l5 : List.length a5 ≤ BIG := hw.1.2.2.2.1.1
  have l6 : List.length a6 ≤ BIG := hw.1.2.2.2.2.1.1
  have l7 : List.length a7 ≤ BIG := hw.1.2.2.2.2.2.1.1
  have l8 : List.length a8 ≤ BIG := hw.1.2.2.2.2.2.2.1.1
  show (f104_tree a0 a1 a2 a3 a4 a5 a6 a7 a8 a9).eval = some ((((fileAtV a6 a9), ()), ()), ((), (), ()))
  unfold f104_tree fileAtV placeBy idxBy
  have h : iter f104_L0 FUEL ((a9, (0 : Int), ()), ((a0, a1, a2, a3, a4, a5, a6, a7, a8, ()), ())) = some (match List.findIdx? (fun x => fileKey x == a9) a6 with | some i => .inr ((((i : Nat) : Int), ()), ()) | none => .inl ((), ())) := idx_loop (f := f104_L0) a6 (fun x => fileKey x == a9) (fun i => ((a9, ((i : Nat) : Int), ()), ((a0, a1, a2, a3, a4, a5, a6, a7, a8, ()), ()))) (y := ((), ())) (z := fun i => ((((i : Nat) : Int), ()), ()))
      (fun i hi hp => by
        have h1 := wrap_succ (i := i) (by omega)
        simp [f104_L0, Out.eval, hi, h1, cond_eq_ite, fileKey] at hp ⊢ <;> (try simp_all) <;> (try (rcases hp with h | h <;> simp_all)))
      (fun i hi hp => by simp [f104_L0, Out.eval, hi, cond_eq_ite, fileKey] at hp ⊢ <;> (try simp_all) <;> (try (rcases hp with h | h <;> simp_all)))
      (by simp [f104_L0, Out.eval]) l6
  refine (eval_get_some h).trans ?_
  cases List.findIdx? (fun x => fileKey x == a9) a6 <;> rfl
abbrev f73_S0 := (List Int × Int × Int × Unit) × (Unit)
def f73_L0 : f73_S0 → Out (Round f73_S0 ((Unit) × (Unit)) ((Bool × Unit) × (Unit)))
| ((p0, p1, p2, _), _) =>
 .ite (decide (p2 < ((List.length p0 : Nat) : Int)))
 (.ite (decide (0 ≤ p2))
 (.get (nth p0 (Int.toNat p2)) fun y1 =>
 .ite ((y1 == p1))
 (.ret (.ret ((true, ()), ())))
 (.ret (.again ((p0, p1, (IntKind.i64.wrap (p2 + (1 : Int))), ()), ()))))
 .fail)
 (.ret (.out ((), ())))
def f73_tree (a0 : List Int) (a1 : Int) : Out (((Bool × Unit) × Unit) × (Unit × Unit × Unit)) :=
 .get (iter f73_L0 FUEL ((a0, a1, (0 : Int), ()), ())) fun y1 => .alt y1 (fun y2 =>
 .ret (((false, ()), ()), ((), (), ()))) (fun y3 =>
 .ret (((y3.1.1, ()), ()), ((), (), ())))
def f73_A : Nat → Option LoopAnn := fun n => annOf [(0, { head := { t := [.ro (.int .i64) (some 0), .i .i64, .dead, .dead, .dead, .i .i64] ++ dd 12, v := [] }, out := { t := dd 18, v := [] }, ret := some { t := dd 4 ++ [.b] ++ dd 13, v := [] } })] n
def k73 : Con := { f := 73, lend := true, its := [⟨false, false, [.ro (.int .i64)]⟩, ⟨false, false, [.i .i64]⟩], lay := [none, none], rs := [⟨false, false, [.b]⟩], F := fun x => .ret ((((hasV x.1.1 x.2.1.1), ()), ()), ((), (), ())) }
theorem f73_eq (x : itemsD k73.its) : bo [] f73_A Tryz.f73 k73 [.tmp 4] x = f73_tree x.1.1 x.2.1.1 := by kernel_rfl
theorem f73_ok (hr : ∀ x : (List Int × Unit) × (Int × Unit) × Unit, itemsWF k73.its x → (f73_tree x.1.1 x.2.1.1).eval = (k73.F x).eval) : k73.Ok Tryz.prog := con_fn [] trivial f73_eq fun x hw _ hy => (hr x hw).trans hy
theorem k73_ok : k73.Ok Tryz.prog := by
  refine f73_ok fun x hw => ?_
  obtain ⟨⟨a0, _⟩, ⟨a1, _⟩, _⟩ := x
  have l0 : List.length a0 ≤ BIG := hw.1.1.1
  show (f73_tree a0 a1).eval = some ((((hasV a0 a1), ()), ()), ((), (), ()))
  unfold f73_tree hasV
  have h : iter f73_L0 FUEL ((a0, a1, (0 : Int), ()), ()) = some (if List.any a0 (fun y => decide (y = a1)) = true then .inr ((true, ()), ()) else .inl ((), ())) := any_loop (f := f73_L0) a0 (fun y => decide (y = a1)) (fun i => ((a0, a1, ((i : Nat) : Int), ()), ())) (y := ((), ())) (z := ((true, ()), ()))
      (fun i hi => by
        have h1 := wrap_succ (i := i) (by omega)
        cases q : (fun y => decide (y = a1)) a0[i] <;> simp [f73_L0, Out.eval, hi, h1, cond_eq_ite] at q ⊢ <;> simp_all)
      (by simp [f73_L0, Out.eval]) l0
  refine (eval_get_some h).trans ?_
  cases List.any a0 (fun y => decide (y = a1)) <;> rfl
abbrev f41_S0 := (Int × Int × Unit) × (UnixD × Unit)
def f41_L0 : f41_S0 → Out (Round f41_S0 ((Int × Unit) × (Unit)) Empty)
| ((p0, p1, _), (p2, p3, p4, p5, p6, p7, p8, p9, p10, _), _) =>
 .ite (decide (p1 < ((List.length p5 : Nat) : Int)))
 (.ite (decide (0 ≤ p1))
 (.get (nth p5 (Int.toNat p1)) fun y1 =>
 .ite ((4 : Int) == 0)
 .fail
 (.ret (.again (((IntKind.i64.wrap (p0 + (IntKind.i64.wrap (Int.tdiv ((List.length y1.2.2.2.2.2.1 : Nat) : Int) (4 : Int))))), (IntKind.i64.wrap (p1 + (1 : Int))), ()), ((p2, p3, p4, p5, p6, p7, p8, p9, p10, ()), ())))))
 .fail)
 (.ret (.out ((p0, ()), ())))
def f41_tree (a0 : Int) (a1 : Int) (a2 : List (List InsD)) (a3 : List ProcD) (a4 : List OpenD) (a5 : List CpuD) (a6 : List CpuD) (a7 : List Int) (a8 : List Int) : Out (((Int × Unit) × Unit) × (Unit × Unit)) :=
 .get (iter1 f41_L0 FUEL (((0 : Int), (0 : Int), ()), ((a0, a1, a2, a3, a4, a5, a6, a7, a8, ()), ()))) fun y1 =>
 .ret (((y1.1.1, ()), ()), ((), ()))
def f41_A : Nat → Option LoopAnn := fun n => annOf [(0, { head := { t := [.dead, .vptr 64000000 0, .dead, .i .i64, .i .i64] ++ dd 18, v := [(64000000, .var [.i .i64, .i .i64, .ro (.sl tyN) (some 0), .ro tyP (some 1), .ro tyO (some 2), .ro tyF (some 3), .ro tyF (some 4), .ro (.int .i64) (some 5), .ro (.int .i64) (some 6)])] }, out := { t := [.dead, .dead, .dead, .i .i64] ++ dd 19, v := [] }, ret := none })] n
def k41 : Con := { f := 41, lend := true, its := [⟨false, true, [.i .i64, .i .i64, .ro (.sl tyN), .ro tyP, .ro tyO, .ro tyF, .ro tyF, .ro (.int .i64), .ro (.int .i64)]⟩], lay := [none], rs := [⟨false, false, [.i .i64]⟩], F := fun x => .ret ((((pagesV x.1.2.2.2.1), ()), ()), ((), ())) }
theorem f41_eq (x : itemsD k41.its) : bo [] f41_A Tryz.f41 k41 [.tmp 2] x = f41_tree x.1.1 x.1.2.1 x.1.2.2.1 x.1.2.2.2.1 x.1.2.2.2.2.1 x.1.2.2.2.2.2.1 x.1.2.2.2.2.2.2.1 x.1.2.2.2.2.2.2.2.1 x.1.2.2.2.2.2.2.2.2.1 := by kernel_rfl
theorem f41_ok (hr : ∀ x : UnixD × Unit, itemsWF k41.its x → (f41_tree x.1.1 x.1.2.1 x.1.2.2.1 x.1.2.2.2.1 x.1.2.2.2.2.1 x.1.2.2.2.2.2.1 x.1.2.2.2.2.2.2.1 x.1.2.2.2.2.2.2.2.1 x.1.2.2.2.2.2.2.2.2.1).eval = (k41.F x).eval) : k41.Ok Tryz.prog := con_fn [] trivial f41_eq fun x hw _ hy => (hr x hw).trans hy
theorem k41_ok : k41.Ok Tryz.prog := by
  refine f41_ok fun x hw => ?_
  obtain ⟨⟨a0, a1, a2, a3, a4, a5, a6, a7, a8, _⟩, _⟩ := x
  have l2 : List.length a2 ≤ BIG := hw.1.1.1
  have l3 : List.length a3 ≤ BIG := hw.1.2.1.1
  have l4 : List.length a4 ≤ BIG := hw.1.2.2.1.1
  have l5 : List.length a5 ≤ BIG := hw.1.2.2.2.1.1
  have l6 : List.length a6 ≤ BIG := hw.1.2.2.2.2.1.1
  have l7 : List.length a7 ≤ BIG := hw.1.2.2.2.2.2.1.1
  have l8 : List.length a8 ≤ BIG := hw.1.2.2.2.2.2.2.1.1
  show (f41_tree a0 a1 a2 a3 a4 a5 a6 a7 a8).eval = some ((((pagesV a3), ()), ()), ((), ()))
  unfold f41_tree pagesV
  have h : iter1 f41_L0 FUEL (((0 : Int), (0 : Int), ()), ((a0, a1, a2, a3, a4, a5, a6, a7, a8, ()), ())) = some (((List.foldl (fun (n : Int) (p : ProcD) => IntKind.i64.wrap (n + ((p.2.2.2.2.2.1.length / 4 : Nat) : Int))) (0 : Int) a3), ()), ()) := foldl_loop (f := f41_L0) (fun _ _ => True) (fun (n : Int) (p : ProcD) => IntKind.i64.wrap (n + ((p.2.2.2.2.2.1.length / 4 : Nat) : Int))) a3 (fun d i => ((d, ((i : Nat) : Int), ()), ((a0, a1, a2, a3, a4, a5, a6, a7, a8, ()), ()))) (fun d => ((d, ()), ()))
      (fun i hi d _ => by
        have h1 := wrap_succ (i := i) (by omega)
        have lj : List.length a3[i].2.2.2.2.2.1 ≤ 9223372036854775807 := (hw.1.2.1.2 i a3[i] (List.getElem?_eq_getElem hi)).2.2.2.2.2.1.1
        have h2 : IntKind.i64.wrap (((List.length a3[i].2.2.2.2.2.1 : Nat) : Int) / 4) = ((List.length a3[i].2.2.2.2.2.1 : Nat) : Int) / 4 := wrap_id (by omega) (by omega)
        simp [f41_L0, Out.eval, hi, h1, cond_eq_ite, h2])
      (fun d _ => by simp [f41_L0, Out.eval]) (fun _ _ _ _ => trivial) l3 (0 : Int) trivial
  exact eval_get_some h
def f70_tree (a0 : Int) (a1 : List Int) : Out (((Bool × Unit) × Unit) × (Unit × Unit)) :=
 .ite ((inV a0 (0 : Int) (40 : Int)) == true)
 (.ite (((((List.length a1 : Nat) : Int) == (4 : Int))) == true)
 (.ret ((((wordsOkV a1), ()), ()), ((), ())))
 (.ret (((false, ()), ()), ((), ()))))
 (.ret (((false, ()), ()), ((), ())))
def k70 : Con := { f := 70, lend := true, its := [⟨false, true, [.i .i64, .ro (.int .i64)]⟩], lay := [none], rs := [⟨false, false, [.b]⟩], F := fun x => .ret ((((cpuOkV x.1.1 x.1.2.1), ()), ()), ((), ())) }
theorem f70_eq (x : itemsD k70.its) : bo [k38, k40] (fun _ => none) Tryz.f70 k70 [.tmp 2] x = f70_tree x.1.1 x.1.2.1 := by kernel_rfl
theorem f70_ok (hr : ∀ x : CpuD × Unit, itemsWF k70.its x → (f70_tree x.1.1 x.1.2.1).eval = (k70.F x).eval) : k70.Ok Tryz.prog := con_fn [k38, k40] ⟨k38_ok, k40_ok, trivial⟩ f70_eq fun x hw _ hy => (hr x hw).trans hy
theorem k70_ok : k70.Ok Tryz.prog := by
  refine f70_ok fun x hw => ?_
  obtain ⟨⟨a0, a1, _⟩, _⟩ := x
  have l1 : List.length a1 ≤ BIG := hw.1.1.1
  show (f70_tree a0 a1).eval = some ((((cpuOkV a0 a1), ()), ()), ((), ()))
  unfold f70_tree cpuOkV placeV
  simp only [eq4, beq_true']
  cases inV a0 0 40 <;> cases decide (List.length a1 = 4) <;> rfl
abbrev f39_S0 := (List (List InsD) × Int × Unit) × (Unit)
def f39_L0 : f39_S0 → Out (Round f39_S0 ((Unit) × (Unit)) ((Bool × Unit) × (Unit)))
| ((p0, p1, _), _) =>
 .ite (decide (p1 < ((List.length p0 : Nat) : Int)))
 (.ite (decide (0 ≤ p1))
 (.get (nth p0 (Int.toNat p1)) fun y1 =>
 .ite (!(progOkV y1))
 (.ret (.ret ((false, ()), ())))
 (.ret (.again ((p0, (IntKind.i64.wrap (p1 + (1 : Int))), ()), ()))))
 .fail)
 (.ret (.out ((), ())))
def f39_tree (a0 : List (List InsD)) : Out (((Bool × Unit) × Unit) × (Unit × Unit)) :=
 .ite (!(inV ((List.length a0 : Nat) : Int) (1 : Int) (4 : Int)))
 (.ret (((false, ()), ()), ((), ())))
 (.get (iter f39_L0 FUEL ((a0, (0 : Int), ()), ())) fun y1 => .alt y1 (fun y2 =>
 .ret (((true, ()), ()), ((), ()))) (fun y3 =>
 .ret (((y3.1.1, ()), ()), ((), ()))))
def f39_A : Nat → Option LoopAnn := fun n => annOf [(0, { head := { t := [.ro (.sl tyN) (some 0), .dead, .dead, .i .i64] ++ dd 16, v := [] }, out := { t := dd 20, v := [] }, ret := some { t := [.dead, .dead, .b] ++ dd 17, v := [] } })] n
def k39 : Con := { f := 39, lend := true, its := [⟨false, false, [.ro (.sl tyN)]⟩], lay := [none], rs := [⟨false, false, [.b]⟩], F := fun x => .ret ((((progsOkV x.1.1), ()), ()), ((), ())) }
theorem f39_eq (x : itemsD k39.its) : bo [k38, k68] f39_A Tryz.f39 k39 [.tmp 2] x = f39_tree x.1.1 := by kernel_rfl
theorem f39_ok (hr : ∀ x : (List (List InsD) × Unit) × Unit, itemsWF k39.its x → (f39_tree x.1.1).eval = (k39.F x).eval) : k39.Ok Tryz.prog := con_fn [k38, k68] ⟨k38_ok, k68_ok, trivial⟩ f39_eq fun x hw _ hy => (hr x hw).trans hy
theorem k39_ok : k39.Ok Tryz.prog := by
  refine f39_ok fun x hw => ?_
  obtain ⟨⟨a0, _⟩, _⟩ := x
  have l0 : List.length a0 ≤ BIG := hw.1.1.1
  show (f39_tree a0).eval = some ((((progsOkV a0), ()), ()), ((), ()))
  unfold f39_tree progsOkV
  have e1 : inV ((List.length a0 : Nat) : Int) 1 4 = (decide (1 ≤ List.length a0) && decide (List.length a0 ≤ 4)) := by
    unfold inV
    congr 1 <;> (rw [Bool.eq_iff_iff]; simp; omega)
  rw [e1]
  have h : iter f39_L0 FUEL ((a0, (0 : Int), ()), ()) = some (if List.all a0 progOkV = true then .inl ((), ()) else .inr ((false, ()), ())) := allB_loop (f := f39_L0) a0 progOkV (fun i => ((a0, ((i : Nat) : Int), ()), ())) (y := ((), ())) (z := ((false, ()), ()))
      (fun i hi => by
        have h1 := wrap_succ (i := i) (by omega)
        cases q : progOkV a0[i] <;> simp [f39_L0, Out.eval, hi, h1, cond_eq_ite] at q ⊢ <;> simp_all)
      (by simp [f39_L0, Out.eval]) l0
  cases decide (1 ≤ List.length a0) && decide (List.length a0 ≤ 4)
  · rfl
  · refine (eval_ite_f rfl).trans ((eval_get_some h).trans ?_)
    cases List.all a0 progOkV <;> rfl
end Go.Proofs.YtcpjdjgipmjhdaaGreatDoor.Dm
