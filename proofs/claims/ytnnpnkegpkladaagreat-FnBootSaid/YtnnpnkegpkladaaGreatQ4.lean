/- Functions of the program, and what they compute. -/
import Derived.Test.YtnnpnkegpkladaaGreatQ3
namespace Go.Proofs.YtnnpnkegpkladaaGreat.Dm
open Go Go.ChangeShapes Go.WideShapes Go.ChangeAt Go.RowKit
theorem gt3 (n : Nat) : decide (((n : Nat) : Int) > (3 : Int)) = !decide (n ≤ 3) := gt_cast (m := 3)
theorem gt4 (n : Nat) : decide (((n : Nat) : Int) > (4 : Int)) = !decide (n ≤ 4) := gt_cast (m := 4)
theorem gt6 (n : Nat) : decide (((n : Nat) : Int) > (6 : Int)) = !decide (n ≤ 6) := gt_cast (m := 6)
theorem gt8 (n : Nat) : decide (((n : Nat) : Int) > (8 : Int)) = !decide (n ≤ 8) := gt_cast (m := 8)
theorem gt12 (n : Nat) : decide (((n : Nat) : Int) > (12 : Int)) = !decide (n ≤ 12) := gt_cast (m := 12)
theorem gt60 (n : Nat) : decide (((n : Nat) : Int) > (60 : Int)) = !decide (n ≤ 60) := gt_cast (m := 60)
theorem le3 (n : Nat) : decide (((n : Nat) : Int) ≤ (3 : Int)) = decide (n ≤ 3) := le_cast (m := 3)
theorem ne4 (n : Nat) : (((n : Nat) : Int) != (4 : Int)) = !decide (n = 4) := ne_cast (m := 4)
theorem eq4 (n : Nat) : (((n : Nat) : Int) == (4 : Int)) = decide (n = 4) := by rw [Bool.eq_iff_iff]; simp; omega
theorem tmod4 (n : Nat) : (Int.tmod ((n : Nat) : Int) (4 : Int) != (0 : Int)) = !decide (n % 4 = 0) := by
  rw [Int.tmod_eq_emod_of_nonneg (by omega), Bool.eq_iff_iff]
  simp
  omega
theorem neg_not (x : Int) : decide (x < (0 : Int)) = !decide (0 ≤ x) := by rw [Bool.eq_iff_iff]; simp
theorem beq_false (c : Bool) : (c == false) = !c := by cases c <;> rfl
theorem beq_true' (c : Bool) : (c == true) = c := by cases c <;> rfl
theorem placeBy_none {α : Type} {key : α → Int} {a : List α} {v : Int} (h : idxBy key a v = none) : placeBy key a v = -1 := by unfold placeBy; rw [h]; rfl
theorem placeBy_some {α : Type} {key : α → Int} {a : List α} {v : Int} {i : Nat} (h : idxBy key a v = some i) : placeBy key a v = ((i : Nat) : Int) := by unfold placeBy; rw [h]; rfl
theorem idxBy_lt {α : Type} {key : α → Int} {a : List α} {v : Int} {i : Nat} (h : idxBy key a v = some i) : i < a.length := (List.findIdx?_eq_some_iff_getElem.1 h).1
abbrev f164_S0 := (Int × Int × Unit) × (UnixD × Unit)
def f164_L0 : f164_S0 → Out (Round f164_S0 ((Unit) × (Unit)) ((Int × Unit) × (Unit)))
| ((p0, p1, _), (p2, p3, p4, p5, p6, p7, p8, p9, p10, _), _) =>
 .ite (decide (p1 < ((List.length p5 : Nat) : Int)))
 (.ite (decide (0 ≤ p1))
 (.get (nth p5 (Int.toNat p1)) fun y1 =>
 .ite ((y1.1 == p0))
 (.ret (.ret ((p1, ()), ())))
 (.ret (.again ((p0, (IntKind.i64.wrap (p1 + (1 : Int))), ()), ((p2, p3, p4, p5, p6, p7, p8, p9, p10, ()), ())))))
 .fail)
 (.ret (.out ((), ())))
def f164_tree (a0 : Int) (a1 : Int) (a2 : List (List InsD)) (a3 : List ProcD) (a4 : List OpenD) (a5 : List CpuD) (a6 : List CpuD) (a7 : List Int) (a8 : List Int) (a9 : Int) : Out (((Int × Unit) × Unit) × XI) :=
 .get (iter f164_L0 FUEL ((a9, (0 : Int), ()), ((a0, a1, a2, a3, a4, a5, a6, a7, a8, ()), ()))) fun y1 => .alt y1 (fun y2 =>
 .ret ((((-1 : Int), ()), ()), ((), (), ()))) (fun y3 =>
 .ret (((y3.1.1, ()), ()), ((), (), ())))
abbrev f164_s0 : List (Nat × VSlot) := [(64000000, .var [.i .i64, .i .i64, .ro (.sl tyN) (some 0), .ro tyP (some 1), .ro tyO (some 2), .ro tyF (some 3), .ro tyF (some 4), .ro (.int .i64) (some 5), .ro (.int .i64) (some 6)])]
def f164_A : Nat → Option LoopAnn := fun n => annOf [(0, ⟨⟨[.dead, .i .i64, .vptr 64000000 0, .dead, .dead, .i .i64] ++ dd 16, f164_s0⟩, ⟨dd 22, []⟩, some ⟨dd 4 ++ [.i .i64] ++ dd 17, []⟩, false⟩)] n
def k164 : Con := { f := 164, lend := true, its := [⟨false, true, [.i .i64, .i .i64, .ro (.sl tyN), .ro tyP, .ro tyO, .ro tyF, .ro tyF, .ro (.int .i64), .ro (.int .i64)]⟩, ⟨false, false, [.i .i64]⟩], lay := [none, none], rs := [⟨false, false, [.i .i64]⟩], F := fun x => .ret ((((procAtV x.1.2.2.2.1 x.2.1.1), ()), ()), ((), (), ())) }
theorem f164_eq (x : itemsD k164.its) : bo [] f164_A Tryz.f164 k164 [.tmp 4] x = f164_tree x.1.1 x.1.2.1 x.1.2.2.1 x.1.2.2.2.1 x.1.2.2.2.2.1 x.1.2.2.2.2.2.1 x.1.2.2.2.2.2.2.1 x.1.2.2.2.2.2.2.2.1 x.1.2.2.2.2.2.2.2.2.1 x.2.1.1 := by kernel_rfl
theorem f164_ok (hr : ∀ x : UnixD × (Int × Unit) × Unit, itemsWF k164.its x → (f164_tree x.1.1 x.1.2.1 x.1.2.2.1 x.1.2.2.2.1 x.1.2.2.2.2.1 x.1.2.2.2.2.2.1 x.1.2.2.2.2.2.2.1 x.1.2.2.2.2.2.2.2.1 x.1.2.2.2.2.2.2.2.2.1 x.2.1.1).eval = (k164.F x).eval) : k164.Ok Tryz.prog := con_fn [] trivial f164_eq fun x hw _ hy => (hr x hw).trans hy
theorem k164_ok : k164.Ok Tryz.prog := by
  refine f164_ok fun x hw => ?_
  obtain ⟨⟨a0, a1, a2, a3, a4, a5, a6, a7, a8, _⟩, ⟨a9, _⟩, _⟩ := x
  have l2 : List.length a2 ≤ BIG := hw.1.1.1
  have l3 : List.length a3 ≤ BIG := hw.1.2.1.1
  have l4 : List.length a4 ≤ BIG := hw.1.2.2.1.1
  have l5 : List.length a5 ≤ BIG := hw.1.2.2.2.1.1
  have l6 : List.length a6 ≤ BIG := hw.1.2.2.2.2.1.1
  have l7 : List.length a7 ≤ BIG := hw.1.2.2.2.2.2.1.1
  have l8 : List.length a8 ≤ BIG := hw.1.2.2.2.2.2.2.1.1
  show (f164_tree a0 a1 a2 a3 a4 a5 a6 a7 a8 a9).eval = some ((((procAtV a3 a9), ()), ()), ((), (), ()))
  unfold f164_tree procAtV placeBy idxBy
  have h : iter f164_L0 FUEL ((a9, (0 : Int), ()), ((a0, a1, a2, a3, a4, a5, a6, a7, a8, ()), ())) = some (match List.findIdx? (fun x => procKey x == a9) a3 with | some i => .inr ((((i : Nat) : Int), ()), ()) | none => .inl ((), ())) := idx_loop (f := f164_L0) a3 (fun x => procKey x == a9) (fun i => ((a9, ((i : Nat) : Int), ()), ((a0, a1, a2, a3, a4, a5, a6, a7, a8, ()), ()))) (y := ((), ())) (z := fun i => ((((i : Nat) : Int), ()), ()))
      (fun i hi hp => by
        have h1 := wrap_succ (i := i) (by omega)
        simp [f164_L0, Out.eval, hi, h1, cond_eq_ite, procKey] at hp ⊢ <;> (try simp_all) <;> (try (rcases hp with h | h <;> simp_all)))
      (fun i hi hp => by simp [f164_L0, Out.eval, hi, cond_eq_ite, procKey] at hp ⊢ <;> (try simp_all) <;> (try (rcases hp with h | h <;> simp_all)))
      (by simp [f164_L0, Out.eval]) l3
  refine (eval_get_some h).trans ?_
  cases List.findIdx? (fun x => procKey x == a9) a3 <;> rfl
abbrev f74_S0 := (Int × Int × Unit) × (UnixD × Unit)
def f74_L0 : f74_S0 → Out (Round f74_S0 ((Unit) × (Unit)) ((Int × Unit) × (Unit)))
| ((p0, p1, _), (p2, p3, p4, p5, p6, p7, p8, p9, p10, _), _) =>
 .ite (decide (p1 < ((List.length p6 : Nat) : Int)))
 (.ite (decide (0 ≤ p1))
 (.get (nth p6 (Int.toNat p1)) fun y1 =>
 .ite ((y1.1 == p0))
 (.ret (.ret ((p1, ()), ())))
 (.ret (.again ((p0, (IntKind.i64.wrap (p1 + (1 : Int))), ()), ((p2, p3, p4, p5, p6, p7, p8, p9, p10, ()), ())))))
 .fail)
 (.ret (.out ((), ())))
def f74_tree (a0 : Int) (a1 : Int) (a2 : List (List InsD)) (a3 : List ProcD) (a4 : List OpenD) (a5 : List CpuD) (a6 : List CpuD) (a7 : List Int) (a8 : List Int) (a9 : Int) : Out (((Int × Unit) × Unit) × XI) :=
 .get (iter f74_L0 FUEL ((a9, (0 : Int), ()), ((a0, a1, a2, a3, a4, a5, a6, a7, a8, ()), ()))) fun y1 => .alt y1 (fun y2 =>
 .ret ((((-1 : Int), ()), ()), ((), (), ()))) (fun y3 =>
 .ret (((y3.1.1, ()), ()), ((), (), ())))
def f74_A : Nat → Option LoopAnn := fun n => annOf [(0, ⟨⟨[.dead, .i .i64, .vptr 64000000 0, .dead, .dead, .i .i64] ++ dd 16, f164_s0⟩, ⟨dd 22, []⟩, some ⟨dd 4 ++ [.i .i64] ++ dd 17, []⟩, false⟩)] n
def k74 : Con := { f := 74, lend := true, its := [⟨false, true, [.i .i64, .i .i64, .ro (.sl tyN), .ro tyP, .ro tyO, .ro tyF, .ro tyF, .ro (.int .i64), .ro (.int .i64)]⟩, ⟨false, false, [.i .i64]⟩], lay := [none, none], rs := [⟨false, false, [.i .i64]⟩], F := fun x => .ret ((((openAtV x.1.2.2.2.2.1 x.2.1.1), ()), ()), ((), (), ())) }
theorem f74_eq (x : itemsD k74.its) : bo [] f74_A Tryz.f74 k74 [.tmp 4] x = f74_tree x.1.1 x.1.2.1 x.1.2.2.1 x.1.2.2.2.1 x.1.2.2.2.2.1 x.1.2.2.2.2.2.1 x.1.2.2.2.2.2.2.1 x.1.2.2.2.2.2.2.2.1 x.1.2.2.2.2.2.2.2.2.1 x.2.1.1 := by kernel_rfl
theorem f74_ok (hr : ∀ x : UnixD × (Int × Unit) × Unit, itemsWF k74.its x → (f74_tree x.1.1 x.1.2.1 x.1.2.2.1 x.1.2.2.2.1 x.1.2.2.2.2.1 x.1.2.2.2.2.2.1 x.1.2.2.2.2.2.2.1 x.1.2.2.2.2.2.2.2.1 x.1.2.2.2.2.2.2.2.2.1 x.2.1.1).eval = (k74.F x).eval) : k74.Ok Tryz.prog := con_fn [] trivial f74_eq fun x hw _ hy => (hr x hw).trans hy
theorem k74_ok : k74.Ok Tryz.prog := by
  refine f74_ok fun x hw => ?_
  obtain ⟨⟨a0, a1, a2, a3, a4, a5, a6, a7, a8, _⟩, ⟨a9, _⟩, _⟩ := x
  have l2 : List.length a2 ≤ BIG := hw.1.1.1
  have l3 : List.length a3 ≤ BIG := hw.1.2.1.1
  have l4 : List.length a4 ≤ BIG := hw.1.2.2.1.1
  have l5 : List.length a5 ≤ BIG := hw.1.2.2.2.1.1
  have l6 : List.length a6 ≤ BIG := hw.1.2.2.2.2.1.1
  have l7 : List.length a7 ≤ BIG := hw.1.2.2.2.2.2.1.1
  have l8 : List.length a8 ≤ BIG := hw.1.2.2.2.2.2.2.1.1
  show (f74_tree a0 a1 a2 a3 a4 a5 a6 a7 a8 a9).eval = some ((((openAtV a4 a9), ()), ()), ((), (), ()))
  unfold f74_tree openAtV placeBy idxBy
  have h : iter f74_L0 FUEL ((a9, (0 : Int), ()), ((a0, a1, a2, a3, a4, a5, a6, a7, a8, ()), ())) = some (match List.findIdx? (fun x => openKey x == a9) a4 with | some i => .inr ((((i : Nat) : Int), ()), ()) | none => .inl ((), ())) := idx_loop (f := f74_L0) a4 (fun x => openKey x == a9) (fun i => ((a9, ((i : Nat) : Int), ()), ((a0, a1, a2, a3, a4, a5, a6, a7, a8, ()), ()))) (y := ((), ())) (z := fun i => ((((i : Nat) : Int), ()), ()))
      (fun i hi hp => by
        have h1 := wrap_succ (i := i) (by omega)
        simp [f74_L0, Out.eval, hi, h1, cond_eq_ite, openKey] at hp ⊢ <;> (try simp_all) <;> (try (rcases hp with h | h <;> simp_all)))
      (fun i hi hp => by simp [f74_L0, Out.eval, hi, cond_eq_ite, openKey] at hp ⊢ <;> (try simp_all) <;> (try (rcases hp with h | h <;> simp_all)))
      (by simp [f74_L0, Out.eval]) l4
  refine (eval_get_some h).trans ?_
  cases List.findIdx? (fun x => openKey x == a9) a4 <;> rfl
abbrev f76_S0 := (Int × Int × Unit) × (UnixD × Unit)
def f76_L0 : f76_S0 → Out (Round f76_S0 ((Unit) × (Unit)) ((Int × Unit) × (Unit)))
| ((p0, p1, _), (p2, p3, p4, p5, p6, p7, p8, p9, p10, _), _) =>
 .ite (decide (p1 < ((List.length p7 : Nat) : Int)))
 (.ite (decide (0 ≤ p1))
 (.get (nth p7 (Int.toNat p1)) fun y1 =>
 .ite ((y1.1 == p0))
 (.ret (.ret ((p1, ()), ())))
 (.ret (.again ((p0, (IntKind.i64.wrap (p1 + (1 : Int))), ()), ((p2, p3, p4, p5, p6, p7, p8, p9, p10, ()), ())))))
 .fail)
 (.ret (.out ((), ())))
def f76_tree (a0 : Int) (a1 : Int) (a2 : List (List InsD)) (a3 : List ProcD) (a4 : List OpenD) (a5 : List CpuD) (a6 : List CpuD) (a7 : List Int) (a8 : List Int) (a9 : Int) : Out (((Int × Unit) × Unit) × XI) :=
 .get (iter f76_L0 FUEL ((a9, (0 : Int), ()), ((a0, a1, a2, a3, a4, a5, a6, a7, a8, ()), ()))) fun y1 => .alt y1 (fun y2 =>
 .ret ((((-1 : Int), ()), ()), ((), (), ()))) (fun y3 =>
 .ret (((y3.1.1, ()), ()), ((), (), ())))
def f76_A : Nat → Option LoopAnn := fun n => annOf [(0, ⟨⟨[.dead, .i .i64, .vptr 64000000 0, .dead, .dead, .i .i64] ++ dd 16, f164_s0⟩, ⟨dd 22, []⟩, some ⟨dd 4 ++ [.i .i64] ++ dd 17, []⟩, false⟩)] n
def k76 : Con := { f := 76, lend := true, its := [⟨false, true, [.i .i64, .i .i64, .ro (.sl tyN), .ro tyP, .ro tyO, .ro tyF, .ro tyF, .ro (.int .i64), .ro (.int .i64)]⟩, ⟨false, false, [.i .i64]⟩], lay := [none, none], rs := [⟨false, false, [.i .i64]⟩], F := fun x => .ret ((((pipeAtV x.1.2.2.2.2.2.1 x.2.1.1), ()), ()), ((), (), ())) }
theorem f76_eq (x : itemsD k76.its) : bo [] f76_A Tryz.f76 k76 [.tmp 4] x = f76_tree x.1.1 x.1.2.1 x.1.2.2.1 x.1.2.2.2.1 x.1.2.2.2.2.1 x.1.2.2.2.2.2.1 x.1.2.2.2.2.2.2.1 x.1.2.2.2.2.2.2.2.1 x.1.2.2.2.2.2.2.2.2.1 x.2.1.1 := by kernel_rfl
theorem f76_ok (hr : ∀ x : UnixD × (Int × Unit) × Unit, itemsWF k76.its x → (f76_tree x.1.1 x.1.2.1 x.1.2.2.1 x.1.2.2.2.1 x.1.2.2.2.2.1 x.1.2.2.2.2.2.1 x.1.2.2.2.2.2.2.1 x.1.2.2.2.2.2.2.2.1 x.1.2.2.2.2.2.2.2.2.1 x.2.1.1).eval = (k76.F x).eval) : k76.Ok Tryz.prog := con_fn [] trivial f76_eq fun x hw _ hy => (hr x hw).trans hy
theorem k76_ok : k76.Ok Tryz.prog := by
  refine f76_ok fun x hw => ?_
  obtain ⟨⟨a0, a1, a2, a3, a4, a5, a6, a7, a8, _⟩, ⟨a9, _⟩, _⟩ := x
  have l2 : List.length a2 ≤ BIG := hw.1.1.1
  have l3 : List.length a3 ≤ BIG := hw.1.2.1.1
  have l4 : List.length a4 ≤ BIG := hw.1.2.2.1.1
  have l5 : List.length a5 ≤ BIG := hw.1.2.2.2.1.1
  have l6 : List.length a6 ≤ BIG := hw.1.2.2.2.2.1.1
  have l7 : List.length a7 ≤ BIG := hw.1.2.2.2.2.2.1.1
  have l8 : List.length a8 ≤ BIG := hw.1.2.2.2.2.2.2.1.1
  show (f76_tree a0 a1 a2 a3 a4 a5 a6 a7 a8 a9).eval = some ((((pipeAtV a5 a9), ()), ()), ((), (), ()))
  unfold f76_tree pipeAtV placeBy idxBy
  have h : iter f76_L0 FUEL ((a9, (0 : Int), ()), ((a0, a1, a2, a3, a4, a5, a6, a7, a8, ()), ())) = some (match List.findIdx? (fun x => pipeKey x == a9) a5 with | some i => .inr ((((i : Nat) : Int), ()), ()) | none => .inl ((), ())) := idx_loop (f := f76_L0) a5 (fun x => pipeKey x == a9) (fun i => ((a9, ((i : Nat) : Int), ()), ((a0, a1, a2, a3, a4, a5, a6, a7, a8, ()), ()))) (y := ((), ())) (z := fun i => ((((i : Nat) : Int), ()), ()))
      (fun i hi hp => by
        have h1 := wrap_succ (i := i) (by omega)
        simp [f76_L0, Out.eval, hi, h1, cond_eq_ite, pipeKey] at hp ⊢ <;> (try simp_all) <;> (try (rcases hp with h | h <;> simp_all)))
      (fun i hi hp => by simp [f76_L0, Out.eval, hi, cond_eq_ite, pipeKey] at hp ⊢ <;> (try simp_all) <;> (try (rcases hp with h | h <;> simp_all)))
      (by simp [f76_L0, Out.eval]) l5
  refine (eval_get_some h).trans ?_
  cases List.findIdx? (fun x => pipeKey x == a9) a5 <;> rfl
abbrev f240_S0 := (Int × Int × Unit) × (UnixD × Unit)
def f240_L0 : f240_S0 → Out (Round f240_S0 ((Unit) × (Unit)) ((Int × Unit) × (Unit)))
| ((p0, p1, _), (p2, p3, p4, p5, p6, p7, p8, p9, p10, _), _) =>
 .ite (decide (p1 < ((List.length p8 : Nat) : Int)))
 (.ite (decide (0 ≤ p1))
 (.get (nth p8 (Int.toNat p1)) fun y1 =>
 .ite ((y1.1 == p0))
 (.ret (.ret ((p1, ()), ())))
 (.ret (.again ((p0, (IntKind.i64.wrap (p1 + (1 : Int))), ()), ((p2, p3, p4, p5, p6, p7, p8, p9, p10, ()), ())))))
 .fail)
 (.ret (.out ((), ())))
def f240_tree (a0 : Int) (a1 : Int) (a2 : List (List InsD)) (a3 : List ProcD) (a4 : List OpenD) (a5 : List CpuD) (a6 : List CpuD) (a7 : List Int) (a8 : List Int) (a9 : Int) : Out (((Int × Unit) × Unit) × XI) :=
 .get (iter f240_L0 FUEL ((a9, (0 : Int), ()), ((a0, a1, a2, a3, a4, a5, a6, a7, a8, ()), ()))) fun y1 => .alt y1 (fun y2 =>
 .ret ((((-1 : Int), ()), ()), ((), (), ()))) (fun y3 =>
 .ret (((y3.1.1, ()), ()), ((), (), ())))
def f240_A : Nat → Option LoopAnn := fun n => annOf [(0, ⟨⟨[.dead, .i .i64, .vptr 64000000 0, .dead, .dead, .i .i64] ++ dd 16, f164_s0⟩, ⟨dd 22, []⟩, some ⟨dd 4 ++ [.i .i64] ++ dd 17, []⟩, false⟩)] n
def k240 : Con := { f := 240, lend := true, its := [⟨false, true, [.i .i64, .i .i64, .ro (.sl tyN), .ro tyP, .ro tyO, .ro tyF, .ro tyF, .ro (.int .i64), .ro (.int .i64)]⟩, ⟨false, false, [.i .i64]⟩], lay := [none, none], rs := [⟨false, false, [.i .i64]⟩], F := fun x => .ret ((((fileAtV x.1.2.2.2.2.2.2.1 x.2.1.1), ()), ()), ((), (), ())) }
theorem f240_eq (x : itemsD k240.its) : bo [] f240_A Tryz.f240 k240 [.tmp 4] x = f240_tree x.1.1 x.1.2.1 x.1.2.2.1 x.1.2.2.2.1 x.1.2.2.2.2.1 x.1.2.2.2.2.2.1 x.1.2.2.2.2.2.2.1 x.1.2.2.2.2.2.2.2.1 x.1.2.2.2.2.2.2.2.2.1 x.2.1.1 := by kernel_rfl
theorem f240_ok (hr : ∀ x : UnixD × (Int × Unit) × Unit, itemsWF k240.its x → (f240_tree x.1.1 x.1.2.1 x.1.2.2.1 x.1.2.2.2.1 x.1.2.2.2.2.1 x.1.2.2.2.2.2.1 x.1.2.2.2.2.2.2.1 x.1.2.2.2.2.2.2.2.1 x.1.2.2.2.2.2.2.2.2.1 x.2.1.1).eval = (k240.F x).eval) : k240.Ok Tryz.prog := con_fn [] trivial f240_eq fun x hw _ hy => (hr x hw).trans hy
theorem k240_ok : k240.Ok Tryz.prog := by
  refine f240_ok fun x hw => ?_
  obtain ⟨⟨a0, a1, a2, a3, a4, a5, a6, a7, a8, _⟩, ⟨a9, _⟩, _⟩ := x
  have l2 : List.length a2 ≤ BIG := hw.1.1.1
  have l3 : List.length a3 ≤ BIG := hw.1.2.1.1
  have l4 : List.length a4 ≤ BIG := hw.1.2.2.1.1
  have l5 : List.length a5 ≤ BIG := hw.1.2.2.2.1.1
  have l6 : List.length a6 ≤ BIG := hw.1.2.2.2.2.1.1
  have l7 : List.length a7 ≤ BIG := hw.1.2.2.2.2.2.1.1
  have l8 : List.length a8 ≤ BIG := hw.1.2.2.2.2.2.2.1.1
  show (f240_tree a0 a1 a2 a3 a4 a5 a6 a7 a8 a9).eval = some ((((fileAtV a6 a9), ()), ()), ((), (), ()))
  unfold f240_tree fileAtV placeBy idxBy
  have h : iter f240_L0 FUEL ((a9, (0 : Int), ()), ((a0, a1, a2, a3, a4, a5, a6, a7, a8, ()), ())) = some (match List.findIdx? (fun x => fileKey x == a9) a6 with | some i => .inr ((((i : Nat) : Int), ()), ()) | none => .inl ((), ())) := idx_loop (f := f240_L0) a6 (fun x => fileKey x == a9) (fun i => ((a9, ((i : Nat) : Int), ()), ((a0, a1, a2, a3, a4, a5, a6, a7, a8, ()), ()))) (y := ((), ())) (z := fun i => ((((i : Nat) : Int), ()), ()))
      (fun i hi hp => by
        have h1 := wrap_succ (i := i) (by omega)
        simp [f240_L0, Out.eval, hi, h1, cond_eq_ite, fileKey] at hp ⊢ <;> (try simp_all) <;> (try (rcases hp with h | h <;> simp_all)))
      (fun i hi hp => by simp [f240_L0, Out.eval, hi, cond_eq_ite, fileKey] at hp ⊢ <;> (try simp_all) <;> (try (rcases hp with h | h <;> simp_all)))
      (by simp [f240_L0, Out.eval]) l6
  refine (eval_get_some h).trans ?_
  cases List.findIdx? (fun x => fileKey x == a9) a6 <;> rfl
abbrev f75_S0 := XE × (Unit)
def f75_L0 : f75_S0 → Out (Round f75_S0 ((Unit) × (Unit)) ((Bool × Unit) × (Unit)))
| ((p0, p1, p2, _), _) =>
 .ite (decide (p2 < ((List.length p0 : Nat) : Int)))
 (.ite (decide (0 ≤ p2))
 (.get (nth p0 (Int.toNat p2)) fun y1 =>
 .ite ((y1 == p1))
 (.ret (.ret ((true, ()), ())))
 (.ret (.again ((p0, p1, (IntKind.i64.wrap (p2 + (1 : Int))), ()), ()))))
 .fail)
 (.ret (.out ((), ())))
def f75_tree (a0 : List Int) (a1 : Int) : Out (((Bool × Unit) × Unit) × XI) :=
 .get (iter f75_L0 FUEL ((a0, a1, (0 : Int), ()), ())) fun y1 => .alt y1 (fun y2 =>
 .ret (((false, ()), ()), ((), (), ()))) (fun y3 =>
 .ret (((y3.1.1, ()), ()), ((), (), ())))
def f75_A : Nat → Option LoopAnn := fun n => annOf [(0, ⟨⟨[.ro (.int .i64) (some 0), .i .i64, .dead, .dead, .dead, .i .i64] ++ dd 12, []⟩, ⟨dd 18, []⟩, some ⟨dd 4 ++ [.b] ++ dd 13, []⟩, false⟩)] n
def k75 : Con := { f := 75, lend := true, its := [⟨false, false, [.ro (.int .i64)]⟩, ⟨false, false, [.i .i64]⟩], lay := [none, none], rs := [⟨false, false, [.b]⟩], F := fun x => .ret ((((hasV x.1.1 x.2.1.1), ()), ()), ((), (), ())) }
theorem f75_eq (x : itemsD k75.its) : bo [] f75_A Tryz.f75 k75 [.tmp 4] x = f75_tree x.1.1 x.2.1.1 := by kernel_rfl
theorem f75_ok (hr : ∀ x : (List Int × Unit) × (Int × Unit) × Unit, itemsWF k75.its x → (f75_tree x.1.1 x.2.1.1).eval = (k75.F x).eval) : k75.Ok Tryz.prog := con_fn [] trivial f75_eq fun x hw _ hy => (hr x hw).trans hy
theorem k75_ok : k75.Ok Tryz.prog := by
  refine f75_ok fun x hw => ?_
  obtain ⟨⟨a0, _⟩, ⟨a1, _⟩, _⟩ := x
  have l0 : List.length a0 ≤ BIG := hw.1.1.1
  show (f75_tree a0 a1).eval = some ((((hasV a0 a1), ()), ()), ((), (), ()))
  unfold f75_tree hasV
  have h : iter f75_L0 FUEL ((a0, a1, (0 : Int), ()), ()) = some (if List.any a0 (fun y => decide (y = a1)) = true then .inr ((true, ()), ()) else .inl ((), ())) := any_loop (f := f75_L0) a0 (fun y => decide (y = a1)) (fun i => ((a0, a1, ((i : Nat) : Int), ()), ())) (y := ((), ())) (z := ((true, ()), ()))
      (fun i hi => by
        have h1 := wrap_succ (i := i) (by omega)
        cases q : (fun y => decide (y = a1)) a0[i] <;> simp [f75_L0, Out.eval, hi, h1, cond_eq_ite] at q ⊢ <;> simp_all)
      (by simp [f75_L0, Out.eval]) l0
  refine (eval_get_some h).trans ?_
  cases List.any a0 (fun y => decide (y = a1)) <;> rfl
abbrev f70_S0 := (Int × Int × Unit) × (UnixD × Unit)
def f70_L0 : f70_S0 → Out (Round f70_S0 ((Int × Unit) × (Unit)) Empty)
| ((p0, p1, _), (p2, p3, p4, p5, p6, p7, p8, p9, p10, _), _) =>
 .ite (decide (p1 < ((List.length p5 : Nat) : Int)))
 (.ite (decide (0 ≤ p1))
 (.get (nth p5 (Int.toNat p1)) fun y1 =>
 .ite ((4 : Int) == 0)
 .fail
 (.ret (.again (((IntKind.i64.wrap (p0 + (IntKind.i64.wrap (Int.tdiv ((List.length y1.2.2.2.2.2.1 : Nat) : Int) (4 : Int))))), (IntKind.i64.wrap (p1 + (1 : Int))), ()), ((p2, p3, p4, p5, p6, p7, p8, p9, p10, ()), ())))))
 .fail)
 (.ret (.out ((p0, ()), ())))
def f70_tree (a0 : Int) (a1 : Int) (a2 : List (List InsD)) (a3 : List ProcD) (a4 : List OpenD) (a5 : List CpuD) (a6 : List CpuD) (a7 : List Int) (a8 : List Int) : Out (((Int × Unit) × Unit) × (Unit × Unit)) :=
 .get (iter1 f70_L0 FUEL (((0 : Int), (0 : Int), ()), ((a0, a1, a2, a3, a4, a5, a6, a7, a8, ()), ()))) fun y1 =>
 .ret (((y1.1.1, ()), ()), ((), ()))
def f70_A : Nat → Option LoopAnn := fun n => annOf [(0, ⟨⟨[.dead, .vptr 64000000 0, .dead, .i .i64, .i .i64] ++ dd 18, f164_s0⟩, ⟨[.dead, .dead, .dead, .i .i64] ++ dd 19, []⟩, none, false⟩)] n
def k70 : Con := { f := 70, lend := true, its := [⟨false, true, [.i .i64, .i .i64, .ro (.sl tyN), .ro tyP, .ro tyO, .ro tyF, .ro tyF, .ro (.int .i64), .ro (.int .i64)]⟩], lay := [none], rs := [⟨false, false, [.i .i64]⟩], F := fun x => .ret ((((pagesV x.1.2.2.2.1), ()), ()), ((), ())) }
theorem f70_eq (x : itemsD k70.its) : bo [] f70_A Tryz.f70 k70 [.tmp 2] x = f70_tree x.1.1 x.1.2.1 x.1.2.2.1 x.1.2.2.2.1 x.1.2.2.2.2.1 x.1.2.2.2.2.2.1 x.1.2.2.2.2.2.2.1 x.1.2.2.2.2.2.2.2.1 x.1.2.2.2.2.2.2.2.2.1 := by kernel_rfl
theorem f70_ok (hr : ∀ x : UnixD × Unit, itemsWF k70.its x → (f70_tree x.1.1 x.1.2.1 x.1.2.2.1 x.1.2.2.2.1 x.1.2.2.2.2.1 x.1.2.2.2.2.2.1 x.1.2.2.2.2.2.2.1 x.1.2.2.2.2.2.2.2.1 x.1.2.2.2.2.2.2.2.2.1).eval = (k70.F x).eval) : k70.Ok Tryz.prog := con_fn [] trivial f70_eq fun x hw _ hy => (hr x hw).trans hy
theorem k70_ok : k70.Ok Tryz.prog := by
  refine f70_ok fun x hw => ?_
  obtain ⟨⟨a0, a1, a2, a3, a4, a5, a6, a7, a8, _⟩, _⟩ := x
  have l2 : List.length a2 ≤ BIG := hw.1.1.1
  have l3 : List.length a3 ≤ BIG := hw.1.2.1.1
  have l4 : List.length a4 ≤ BIG := hw.1.2.2.1.1
  have l5 : List.length a5 ≤ BIG := hw.1.2.2.2.1.1
  have l6 : List.length a6 ≤ BIG := hw.1.2.2.2.2.1.1
  have l7 : List.length a7 ≤ BIG := hw.1.2.2.2.2.2.1.1
  have l8 : List.length a8 ≤ BIG := hw.1.2.2.2.2.2.2.1.1
  show (f70_tree a0 a1 a2 a3 a4 a5 a6 a7 a8).eval = some ((((pagesV a3), ()), ()), ((), ()))
  unfold f70_tree pagesV
  have h : iter1 f70_L0 FUEL (((0 : Int), (0 : Int), ()), ((a0, a1, a2, a3, a4, a5, a6, a7, a8, ()), ())) = some (((List.foldl (fun (n : Int) (p : ProcD) => IntKind.i64.wrap (n + ((p.2.2.2.2.2.1.length / 4 : Nat) : Int))) (0 : Int) a3), ()), ()) := foldl_loop (f := f70_L0) (fun _ _ => True) (fun (n : Int) (p : ProcD) => IntKind.i64.wrap (n + ((p.2.2.2.2.2.1.length / 4 : Nat) : Int))) a3 (fun d i => ((d, ((i : Nat) : Int), ()), ((a0, a1, a2, a3, a4, a5, a6, a7, a8, ()), ()))) (fun d => ((d, ()), ()))
      (fun i hi d _ => by
        have h1 := wrap_succ (i := i) (by omega)
        have lj : List.length a3[i].2.2.2.2.2.1 ≤ 9223372036854775807 := (hw.1.2.1.2 i a3[i] (List.getElem?_eq_getElem hi)).2.2.2.2.2.1.1
        have h2 : IntKind.i64.wrap (((List.length a3[i].2.2.2.2.2.1 : Nat) : Int) / 4) = ((List.length a3[i].2.2.2.2.2.1 : Nat) : Int) / 4 := wrap_id (by omega) (by omega)
        simp [f70_L0, Out.eval, hi, h1, cond_eq_ite, h2])
      (fun d _ => by simp [f70_L0, Out.eval]) (fun _ _ _ _ => trivial) l3 (0 : Int) trivial
  exact eval_get_some h
def f163_tree (a0 : Int) (a1 : List Int) : Out (((Bool × Unit) × Unit) × (Unit × Unit)) :=
 .ite ((inV a0 (0 : Int) (40 : Int)) == true)
 (.ite (((((List.length a1 : Nat) : Int) == (4 : Int))) == true)
 (.ret ((((wordsOkV a1), ()), ()), ((), ())))
 (.ret (((false, ()), ()), ((), ()))))
 (.ret (((false, ()), ()), ((), ())))
def k163 : Con := { f := 163, lend := true, its := [⟨false, true, [.i .i64, .ro (.int .i64)]⟩], lay := [none], rs := [⟨false, false, [.b]⟩], F := fun x => .ret ((((cpuOkV x.1.1 x.1.2.1), ()), ()), ((), ())) }
theorem f163_eq (x : itemsD k163.its) : bo [k65, k69] (fun _ => none) Tryz.f163 k163 [.tmp 2] x = f163_tree x.1.1 x.1.2.1 := by kernel_rfl
theorem f163_ok (hr : ∀ x : CpuD × Unit, itemsWF k163.its x → (f163_tree x.1.1 x.1.2.1).eval = (k163.F x).eval) : k163.Ok Tryz.prog := con_fn [k65, k69] ⟨k65_ok, k69_ok, trivial⟩ f163_eq fun x hw _ hy => (hr x hw).trans hy
theorem k163_ok : k163.Ok Tryz.prog := by
  refine f163_ok fun x hw => ?_
  obtain ⟨⟨a0, a1, _⟩, _⟩ := x
  have l1 : List.length a1 ≤ BIG := hw.1.1.1
  show (f163_tree a0 a1).eval = some ((((cpuOkV a0 a1), ()), ()), ((), ()))
  unfold f163_tree cpuOkV placeV
  simp only [eq4, beq_true']
  cases inV a0 0 40 <;> cases decide (List.length a1 = 4) <;> rfl
abbrev f31_S0 := (List (List InsD) × Int × Unit) × (Unit)
def f31_L0 : f31_S0 → Out (Round f31_S0 ((Unit) × (Unit)) ((Bool × Unit) × (Unit)))
| ((p0, p1, _), _) =>
 .ite (decide (p1 < ((List.length p0 : Nat) : Int)))
 (.ite (decide (0 ≤ p1))
 (.get (nth p0 (Int.toNat p1)) fun y1 =>
 .ite (!(progOkV y1))
 (.ret (.ret ((false, ()), ())))
 (.ret (.again ((p0, (IntKind.i64.wrap (p1 + (1 : Int))), ()), ()))))
 .fail)
 (.ret (.out ((), ())))
def f31_tree (a0 : List (List InsD)) : Out (((Bool × Unit) × Unit) × (Unit × Unit)) :=
 .ite (!(inV ((List.length a0 : Nat) : Int) (1 : Int) (4 : Int)))
 (.ret (((false, ()), ()), ((), ())))
 (.get (iter f31_L0 FUEL ((a0, (0 : Int), ()), ())) fun y1 => .alt y1 (fun y2 =>
 .ret (((true, ()), ()), ((), ()))) (fun y3 =>
 .ret (((y3.1.1, ()), ()), ((), ()))))
def f31_A : Nat → Option LoopAnn := fun n => annOf [(0, ⟨⟨[.ro (.sl tyN) (some 0), .dead, .dead, .i .i64] ++ dd 16, []⟩, ⟨dd 20, []⟩, some ⟨[.dead, .dead, .b] ++ dd 17, []⟩, false⟩)] n
def k31 : Con := { f := 31, lend := true, its := [⟨false, false, [.ro (.sl tyN)]⟩], lay := [none], rs := [⟨false, false, [.b]⟩], F := fun x => .ret ((((progsOkV x.1.1), ()), ()), ((), ())) }
theorem f31_eq (x : itemsD k31.its) : bo [k65, k66] f31_A Tryz.f31 k31 [.tmp 2] x = f31_tree x.1.1 := by kernel_rfl
theorem f31_ok (hr : ∀ x : (List (List InsD) × Unit) × Unit, itemsWF k31.its x → (f31_tree x.1.1).eval = (k31.F x).eval) : k31.Ok Tryz.prog := con_fn [k65, k66] ⟨k65_ok, k66_ok, trivial⟩ f31_eq fun x hw _ hy => (hr x hw).trans hy
theorem k31_ok : k31.Ok Tryz.prog := by
  refine f31_ok fun x hw => ?_
  obtain ⟨⟨a0, _⟩, _⟩ := x
  have l0 : List.length a0 ≤ BIG := hw.1.1.1
  show (f31_tree a0).eval = some ((((progsOkV a0), ()), ()), ((), ()))
  unfold f31_tree progsOkV
  have e1 : inV ((List.length a0 : Nat) : Int) 1 4 = (decide (1 ≤ List.length a0) && decide (List.length a0 ≤ 4)) := by
    unfold inV
    congr 1 <;> (rw [Bool.eq_iff_iff]; simp; omega)
  rw [e1]
  have h : iter f31_L0 FUEL ((a0, (0 : Int), ()), ()) = some (if List.all a0 progOkV = true then .inl ((), ()) else .inr ((false, ()), ())) := allB_loop (f := f31_L0) a0 progOkV (fun i => ((a0, ((i : Nat) : Int), ()), ())) (y := ((), ())) (z := ((false, ()), ()))
      (fun i hi => by
        have h1 := wrap_succ (i := i) (by omega)
        cases q : progOkV a0[i] <;> simp [f31_L0, Out.eval, hi, h1, cond_eq_ite] at q ⊢ <;> simp_all)
      (by simp [f31_L0, Out.eval]) l0
  cases decide (1 ≤ List.length a0) && decide (List.length a0 ≤ 4)
  · rfl
  · refine (eval_ite_f rfl).trans ((eval_get_some h).trans ?_)
    cases List.all a0 progOkV <;> rfl
end Go.Proofs.YtnnpnkegpkladaaGreat.Dm
