/- Functions of the program, and what they compute. -/
import Derived.Test.YtcinpcncclhejaaGreatQ3
namespace Go.Proofs.YtcinpcncclhejaaGreat.Dm
open Go Go.ChangeShapes Go.WideShapes Go.ChangeAt Go.RowKit

theorem gt3 (n : Nat) : decide (((n : Nat) : Int) > (3 : Int)) = !decide (n ≤ 3) := gt_cast (m := 3)
theorem gt4 (n : Nat) : decide (((n : Nat) : Int) > (4 : Int)) = !decide (n ≤ 4) := gt_cast (m := 4)
theorem gt6 (n : Nat) : decide (((n : Nat) : Int) > (6 : Int)) = !decide (n ≤ 6) := gt_cast (m := 6)
theorem gt8 (n : Nat) : decide (((n : Nat) : Int) > (8 : Int)) = !decide (n ≤ 8) := gt_cast (m := 8)
theorem gt12 (n : Nat) : decide (((n : Nat) : Int) > (12 : Int)) = !decide (n ≤ 12) := gt_cast (m := 12)
theorem gt60 (n : Nat) : decide (((n : Nat) : Int) > (60 : Int)) = !decide (n ≤ 60) := gt_cast (m := 60)
theorem le3 (n : Nat) : decide (((n : Nat) : Int) ≤ (3 : Int)) = decide (n ≤ 3) := le_cast (m := 3)
theorem ne4 (n : Nat) : (((n : Nat) : Int) != (4 : Int)) = !decide (n = 4) := ne_cast (m := 4)
theorem eq4 (n : Nat) : (((n : Nat) : Int) == (4 : Int)) = decide (n = 4) := by rw [Bool.eq_iff_iff]; simp; omega
theorem tmod4 (n : Nat) : (Int.tmod ((n : Nat) : Int) (4 : Int) != (0 : Int)) = !decide (n % 4 = 0) := by
  rw [Int.tmod_eq_emod_of_nonneg (by omega), Bool.eq_iff_iff]
  simp
  omega
theorem neg_not (x : Int) : decide (x < (0 : Int)) = !decide (0 ≤ x) := by rw [Bool.eq_iff_iff]; simp
theorem beq_false (c : Bool) : (c == false) = !c := by cases c <;> rfl
theorem beq_true' (c : Bool) : (c == true) = c := by cases c <;> rfl
theorem placeBy_none {α : Type} {key : α → Int} {a : List α} {v : Int} (h : idxBy key a v = none) : placeBy key a v = -1 := by unfold placeBy; rw [h]; rfl
theorem placeBy_some {α : Type} {key : α → Int} {a : List α} {v : Int} {i : Nat} (h : idxBy key a v = some i) : placeBy key a v = ((i : Nat) : Int) := by unfold placeBy; rw [h]; rfl
theorem idxBy_lt {α : Type} {key : α → Int} {a : List α} {v : Int} {i : Nat} (h : idxBy key a v = some i) : i < a.length := (List.findIdx?_eq_some_iff_getElem.1 h).1
/-! ## The reference: places -/
abbrev f30_S0 := (Int × Int × Unit) × (UnixD × Unit)
def f30_L0 (x : f30_S0) : Out (Round f30_S0 ((Unit) × (Unit)) ((Int × Unit) × (Unit))) :=
 .ite (decide (x.1.2.1 < ((List.length x.2.1.2.2.2.1 : Nat) : Int)))
 (.ite (decide (0 ≤ x.1.2.1))
 (.get (nth x.2.1.2.2.2.1 (Int.toNat x.1.2.1)) fun y1 =>
 .ite ((y1.1 == x.1.1))
 (.ret (.ret ((x.1.2.1, ()), ())))
 (.ret (.again ((x.1.1, (IntKind.i64.wrap (x.1.2.1 + (1 : Int))), ()), ((x.2.1.1, x.2.1.2.1, x.2.1.2.2.1, x.2.1.2.2.2.1, x.2.1.2.2.2.2.1, x.2.1.2.2.2.2.2.1, x.2.1.2.2.2.2.2.2.1, x.2.1.2.2.2.2.2.2.2.1, x.2.1.2.2.2.2.2.2.2.2.1, ()), ())))))
 .fail)
 (.ret (.out ((), ())))
def f30_tree (a0 : Int) (a1 : Int) (a2 : List (List InsD)) (a3 : List ProcD) (a4 : List OpenD) (a5 : List CpuD) (a6 : List CpuD) (a7 : List Int) (a8 : List Int) (a9 : Int) : Out (((Int × Unit) × Unit) × (Unit × Unit × Unit)) :=
 .get (iter f30_L0 FUEL ((a9, (0 : Int), ()), ((a0, a1, a2, a3, a4, a5, a6, a7, a8, ()), ()))) fun y1 => .alt y1 (fun y2 =>
 .ret ((((-1 : Int), ()), ()), ((), (), ()))) (fun y3 =>
 .ret (((y3.1.1, ()), ()), ((), (), ())))
def f30_A : Nat → Option LoopAnn := fun n => annOf [(0, { head := { t := [.dead, .i .i64, .vptr 64000000 0, .dead, .dead, .i .i64] ++ dd 16, v := [(64000000, .var [.i .i64, .i .i64, .ro (.sl (.st (.cons (.int .i64) (.cons (.int .i64) (.cons (.int .i64) (.cons (.int .i64) .nil)))))) (some 0), .ro (.st (.cons (.int .i64) (.cons (.int .i64) (.cons (.int .i64) (.cons (.int .i64) (.cons (.st (.cons (.int .i64) (.cons (.sl (.int .i64)) .nil))) (.cons (.sl (.int .i64)) (.cons (.sl (.int .i64)) (.cons (.int .i64) (.cons (.int .i64) .nil)))))))))) (some 1), .ro (.st (.cons (.int .i64) (.cons (.int .i64) (.cons (.int .i64) (.cons (.int .i64) (.cons (.int .i64) .nil)))))) (some 2), .ro (.st (.cons (.int .i64) (.cons (.sl (.int .i64)) .nil))) (some 3), .ro (.st (.cons (.int .i64) (.cons (.sl (.int .i64)) .nil))) (some 4), .ro (.int .i64) (some 5), .ro (.int .i64) (some 6)])] }, out := { t := dd 22, v := [] }, ret := some { t := dd 4 ++ [.i .i64] ++ dd 17, v := [] } })] n
def k30 : Con := { f := 30, lend := true, its := [⟨false, true, [.i .i64, .i .i64, .ro (.sl (.st (.cons (.int .i64) (.cons (.int .i64) (.cons (.int .i64) (.cons (.int .i64) .nil)))))), .ro (.st (.cons (.int .i64) (.cons (.int .i64) (.cons (.int .i64) (.cons (.int .i64) (.cons (.st (.cons (.int .i64) (.cons (.sl (.int .i64)) .nil))) (.cons (.sl (.int .i64)) (.cons (.sl (.int .i64)) (.cons (.int .i64) (.cons (.int .i64) .nil)))))))))), .ro (.st (.cons (.int .i64) (.cons (.int .i64) (.cons (.int .i64) (.cons (.int .i64) (.cons (.int .i64) .nil)))))), .ro (.st (.cons (.int .i64) (.cons (.sl (.int .i64)) .nil))), .ro (.st (.cons (.int .i64) (.cons (.sl (.int .i64)) .nil))), .ro (.int .i64), .ro (.int .i64)]⟩, ⟨false, false, [.i .i64]⟩], lay := [none, none], rs := [⟨false, false, [.i .i64]⟩], F := fun x => .ret ((((procAtV x.1.2.2.2.1 x.2.1.1), ()), ()), ((), (), ())) }
theorem f30_eq (x : itemsD k30.its) : bodyOut (cxOf []) (f30_A) (codeOf Tryz.f30) k30.its k30.lay Tryz.f30.ntmps k30.rs [.tmp 4] x = f30_tree x.1.1 x.1.2.1 x.1.2.2.1 x.1.2.2.2.1 x.1.2.2.2.2.1 x.1.2.2.2.2.2.1 x.1.2.2.2.2.2.2.1 x.1.2.2.2.2.2.2.2.1 x.1.2.2.2.2.2.2.2.2.1 x.2.1.1 := by kernel_rfl
theorem f30_ok (hr : ∀ x : UnixD × (Int × Unit) × Unit, itemsWF k30.its x → (f30_tree x.1.1 x.1.2.1 x.1.2.2.1 x.1.2.2.2.1 x.1.2.2.2.2.1 x.1.2.2.2.2.2.1 x.1.2.2.2.2.2.2.1 x.1.2.2.2.2.2.2.2.1 x.1.2.2.2.2.2.2.2.2.1 x.2.1.1).eval = (k30.F x).eval) : k30.Ok Tryz.prog :=
  con_fn [] trivial (by kernel_rfl) (codeOf_eq (by kernel_rfl)) (by kernel_rfl) (by kernel_rfl) (by kernel_rfl) f30_eq fun x hw _ hy => (hr x hw).trans hy
theorem k30_ok : k30.Ok Tryz.prog := by
  refine f30_ok fun x hw => ?_
  obtain ⟨⟨a0, a1, a2, a3, a4, a5, a6, a7, a8, _⟩, ⟨a9, _⟩, _⟩ := x
  have l2 : List.length a2 ≤ BIG := hw.1.1.1
  have l3 : List.length a3 ≤ BIG := hw.1.2.1.1
  have l4 : List.length a4 ≤ BIG := hw.1.2.2.1.1
  have l5 : List.length a5 ≤ BIG := hw.1.2.2.2.1.1
  have l6 : List.length a6 ≤ BIG := hw.1.2.2.2.2.1.1
  have l7 : List.length a7 ≤ BIG := hw.1.2.2.2.2.2.1.1
  have l8 : List.length a8 ≤ BIG := hw.1.2.2.2.2.2.2.1.1
  show (f30_tree a0 a1 a2 a3 a4 a5 a6 a7 a8 a9).eval = some ((((procAtV a3 a9), ()), ()), ((), (), ()))
  unfold f30_tree procAtV placeBy idxBy
  have h : iter f30_L0 FUEL ((a9, (0 : Int), ()), ((a0, a1, a2, a3, a4, a5, a6, a7, a8, ()), ())) = some (match List.findIdx? (fun x => procKey x == a9) a3 with | some i => .inr ((((i : Nat) : Int), ()), ()) | none => .inl ((), ())) := idx_loop (f := f30_L0) a3 (fun x => procKey x == a9) (fun i => ((a9, ((i : Nat) : Int), ()), ((a0, a1, a2, a3, a4, a5, a6, a7, a8, ()), ()))) (y := ((), ())) (z := fun i => ((((i : Nat) : Int), ()), ()))
      (fun i hi hp => by
        have h1 := wrap_succ (i := i) (by omega)
        simp [f30_L0, Out.eval, hi, h1, cond_eq_ite, procKey] at hp ⊢ <;> (try simp_all) <;> (try (rcases hp with h | h <;> simp_all)))
      (fun i hi hp => by simp [f30_L0, Out.eval, hi, cond_eq_ite, procKey] at hp ⊢ <;> (try simp_all) <;> (try (rcases hp with h | h <;> simp_all)))
      (by simp [f30_L0, Out.eval]) l3
  refine (eval_get_some h).trans ?_
  cases List.findIdx? (fun x => procKey x == a9) a3 <;> rfl
abbrev f140_S0 := (Int × Int × Unit) × (UnixD × Unit)
def f140_L0 (x : f140_S0) : Out (Round f140_S0 ((Unit) × (Unit)) ((Int × Unit) × (Unit))) :=
 .ite (decide (x.1.2.1 < ((List.length x.2.1.2.2.2.2.1 : Nat) : Int)))
 (.ite (decide (0 ≤ x.1.2.1))
 (.get (nth x.2.1.2.2.2.2.1 (Int.toNat x.1.2.1)) fun y1 =>
 .ite ((y1.1 == x.1.1))
 (.ret (.ret ((x.1.2.1, ()), ())))
 (.ret (.again ((x.1.1, (IntKind.i64.wrap (x.1.2.1 + (1 : Int))), ()), ((x.2.1.1, x.2.1.2.1, x.2.1.2.2.1, x.2.1.2.2.2.1, x.2.1.2.2.2.2.1, x.2.1.2.2.2.2.2.1, x.2.1.2.2.2.2.2.2.1, x.2.1.2.2.2.2.2.2.2.1, x.2.1.2.2.2.2.2.2.2.2.1, ()), ())))))
 .fail)
 (.ret (.out ((), ())))
def f140_tree (a0 : Int) (a1 : Int) (a2 : List (List InsD)) (a3 : List ProcD) (a4 : List OpenD) (a5 : List CpuD) (a6 : List CpuD) (a7 : List Int) (a8 : List Int) (a9 : Int) : Out (((Int × Unit) × Unit) × (Unit × Unit × Unit)) :=
 .get (iter f140_L0 FUEL ((a9, (0 : Int), ()), ((a0, a1, a2, a3, a4, a5, a6, a7, a8, ()), ()))) fun y1 => .alt y1 (fun y2 =>
 .ret ((((-1 : Int), ()), ()), ((), (), ()))) (fun y3 =>
 .ret (((y3.1.1, ()), ()), ((), (), ())))
def f140_A : Nat → Option LoopAnn := fun n => annOf [(0, { head := { t := [.dead, .i .i64, .vptr 64000000 0, .dead, .dead, .i .i64] ++ dd 16, v := [(64000000, .var [.i .i64, .i .i64, .ro (.sl (.st (.cons (.int .i64) (.cons (.int .i64) (.cons (.int .i64) (.cons (.int .i64) .nil)))))) (some 0), .ro (.st (.cons (.int .i64) (.cons (.int .i64) (.cons (.int .i64) (.cons (.int .i64) (.cons (.st (.cons (.int .i64) (.cons (.sl (.int .i64)) .nil))) (.cons (.sl (.int .i64)) (.cons (.sl (.int .i64)) (.cons (.int .i64) (.cons (.int .i64) .nil)))))))))) (some 1), .ro (.st (.cons (.int .i64) (.cons (.int .i64) (.cons (.int .i64) (.cons (.int .i64) (.cons (.int .i64) .nil)))))) (some 2), .ro (.st (.cons (.int .i64) (.cons (.sl (.int .i64)) .nil))) (some 3), .ro (.st (.cons (.int .i64) (.cons (.sl (.int .i64)) .nil))) (some 4), .ro (.int .i64) (some 5), .ro (.int .i64) (some 6)])] }, out := { t := dd 22, v := [] }, ret := some { t := dd 4 ++ [.i .i64] ++ dd 17, v := [] } })] n
def k140 : Con := { f := 140, lend := true, its := [⟨false, true, [.i .i64, .i .i64, .ro (.sl (.st (.cons (.int .i64) (.cons (.int .i64) (.cons (.int .i64) (.cons (.int .i64) .nil)))))), .ro (.st (.cons (.int .i64) (.cons (.int .i64) (.cons (.int .i64) (.cons (.int .i64) (.cons (.st (.cons (.int .i64) (.cons (.sl (.int .i64)) .nil))) (.cons (.sl (.int .i64)) (.cons (.sl (.int .i64)) (.cons (.int .i64) (.cons (.int .i64) .nil)))))))))), .ro (.st (.cons (.int .i64) (.cons (.int .i64) (.cons (.int .i64) (.cons (.int .i64) (.cons (.int .i64) .nil)))))), .ro (.st (.cons (.int .i64) (.cons (.sl (.int .i64)) .nil))), .ro (.st (.cons (.int .i64) (.cons (.sl (.int .i64)) .nil))), .ro (.int .i64), .ro (.int .i64)]⟩, ⟨false, false, [.i .i64]⟩], lay := [none, none], rs := [⟨false, false, [.i .i64]⟩], F := fun x => .ret ((((openAtV x.1.2.2.2.2.1 x.2.1.1), ()), ()), ((), (), ())) }
theorem f140_eq (x : itemsD k140.its) : bodyOut (cxOf []) (f140_A) (codeOf Tryz.f140) k140.its k140.lay Tryz.f140.ntmps k140.rs [.tmp 4] x = f140_tree x.1.1 x.1.2.1 x.1.2.2.1 x.1.2.2.2.1 x.1.2.2.2.2.1 x.1.2.2.2.2.2.1 x.1.2.2.2.2.2.2.1 x.1.2.2.2.2.2.2.2.1 x.1.2.2.2.2.2.2.2.2.1 x.2.1.1 := by kernel_rfl
theorem f140_ok (hr : ∀ x : UnixD × (Int × Unit) × Unit, itemsWF k140.its x → (f140_tree x.1.1 x.1.2.1 x.1.2.2.1 x.1.2.2.2.1 x.1.2.2.2.2.1 x.1.2.2.2.2.2.1 x.1.2.2.2.2.2.2.1 x.1.2.2.2.2.2.2.2.1 x.1.2.2.2.2.2.2.2.2.1 x.2.1.1).eval = (k140.F x).eval) : k140.Ok Tryz.prog :=
  con_fn [] trivial (by kernel_rfl) (codeOf_eq (by kernel_rfl)) (by kernel_rfl) (by kernel_rfl) (by kernel_rfl) f140_eq fun x hw _ hy => (hr x hw).trans hy
theorem k140_ok : k140.Ok Tryz.prog := by
  refine f140_ok fun x hw => ?_
  obtain ⟨⟨a0, a1, a2, a3, a4, a5, a6, a7, a8, _⟩, ⟨a9, _⟩, _⟩ := x
  have l2 : List.length a2 ≤ BIG := hw.1.1.1
  have l3 : List.length a3 ≤ BIG := hw.1.2.1.1
  have l4 : List.length a4 ≤ BIG := hw.1.2.2.1.1
  have l5 : List.length a5 ≤ BIG := hw.1.2.2.2.1.1
  have l6 : List.length a6 ≤ BIG := hw.1.2.2.2.2.1.1
  have l7 : List.length a7 ≤ BIG := hw.1.2.2.2.2.2.1.1
  have l8 : List.length a8 ≤ BIG := hw.1.2.2.2.2.2.2.1.1
  show (f140_tree a0 a1 a2 a3 a4 a5 a6 a7 a8 a9).eval = some ((((openAtV a4 a9), ()), ()), ((), (), ()))
  unfold f140_tree openAtV placeBy idxBy
  have h : iter f140_L0 FUEL ((a9, (0 : Int), ()), ((a0, a1, a2, a3, a4, a5, a6, a7, a8, ()), ())) = some (match List.findIdx? (fun x => openKey x == a9) a4 with | some i => .inr ((((i : Nat) : Int), ()), ()) | none => .inl ((), ())) := idx_loop (f := f140_L0) a4 (fun x => openKey x == a9) (fun i => ((a9, ((i : Nat) : Int), ()), ((a0, a1, a2, a3, a4, a5, a6, a7, a8, ()), ()))) (y := ((), ())) (z := fun i => ((((i : Nat) : Int), ()), ()))
      (fun i hi hp => by
        have h1 := wrap_succ (i := i) (by omega)
        simp [f140_L0, Out.eval, hi, h1, cond_eq_ite, openKey] at hp ⊢ <;> (try simp_all) <;> (try (rcases hp with h | h <;> simp_all)))
      (fun i hi hp => by simp [f140_L0, Out.eval, hi, cond_eq_ite, openKey] at hp ⊢ <;> (try simp_all) <;> (try (rcases hp with h | h <;> simp_all)))
      (by simp [f140_L0, Out.eval]) l4
  refine (eval_get_some h).trans ?_
  cases List.findIdx? (fun x => openKey x == a9) a4 <;> rfl
abbrev f178_S0 := (Int × Int × Unit) × (UnixD × Unit)
def f178_L0 (x : f178_S0) : Out (Round f178_S0 ((Unit) × (Unit)) ((Int × Unit) × (Unit))) :=
 .ite (decide (x.1.2.1 < ((List.length x.2.1.2.2.2.2.2.1 : Nat) : Int)))
 (.ite (decide (0 ≤ x.1.2.1))
 (.get (nth x.2.1.2.2.2.2.2.1 (Int.toNat x.1.2.1)) fun y1 =>
 .ite ((y1.1 == x.1.1))
 (.ret (.ret ((x.1.2.1, ()), ())))
 (.ret (.again ((x.1.1, (IntKind.i64.wrap (x.1.2.1 + (1 : Int))), ()), ((x.2.1.1, x.2.1.2.1, x.2.1.2.2.1, x.2.1.2.2.2.1, x.2.1.2.2.2.2.1, x.2.1.2.2.2.2.2.1, x.2.1.2.2.2.2.2.2.1, x.2.1.2.2.2.2.2.2.2.1, x.2.1.2.2.2.2.2.2.2.2.1, ()), ())))))
 .fail)
 (.ret (.out ((), ())))
def f178_tree (a0 : Int) (a1 : Int) (a2 : List (List InsD)) (a3 : List ProcD) (a4 : List OpenD) (a5 : List CpuD) (a6 : List CpuD) (a7 : List Int) (a8 : List Int) (a9 : Int) : Out (((Int × Unit) × Unit) × (Unit × Unit × Unit)) :=
 .get (iter f178_L0 FUEL ((a9, (0 : Int), ()), ((a0, a1, a2, a3, a4, a5, a6, a7, a8, ()), ()))) fun y1 => .alt y1 (fun y2 =>
 .ret ((((-1 : Int), ()), ()), ((), (), ()))) (fun y3 =>
 .ret (((y3.1.1, ()), ()), ((), (), ())))
def f178_A : Nat → Option LoopAnn := fun n => annOf [(0, { head := { t := [.dead, .i .i64, .vptr 64000000 0, .dead, .dead, .i .i64] ++ dd 16, v := [(64000000, .var [.i .i64, .i .i64, .ro (.sl (.st (.cons (.int .i64) (.cons (.int .i64) (.cons (.int .i64) (.cons (.int .i64) .nil)))))) (some 0), .ro (.st (.cons (.int .i64) (.cons (.int .i64) (.cons (.int .i64) (.cons (.int .i64) (.cons (.st (.cons (.int .i64) (.cons (.sl (.int .i64)) .nil))) (.cons (.sl (.int .i64)) (.cons (.sl (.int .i64)) (.cons (.int .i64) (.cons (.int .i64) .nil)))))))))) (some 1), .ro (.st (.cons (.int .i64) (.cons (.int .i64) (.cons (.int .i64) (.cons (.int .i64) (.cons (.int .i64) .nil)))))) (some 2), .ro (.st (.cons (.int .i64) (.cons (.sl (.int .i64)) .nil))) (some 3), .ro (.st (.cons (.int .i64) (.cons (.sl (.int .i64)) .nil))) (some 4), .ro (.int .i64) (some 5), .ro (.int .i64) (some 6)])] }, out := { t := dd 22, v := [] }, ret := some { t := dd 4 ++ [.i .i64] ++ dd 17, v := [] } })] n
def k178 : Con := { f := 178, lend := true, its := [⟨false, true, [.i .i64, .i .i64, .ro (.sl (.st (.cons (.int .i64) (.cons (.int .i64) (.cons (.int .i64) (.cons (.int .i64) .nil)))))), .ro (.st (.cons (.int .i64) (.cons (.int .i64) (.cons (.int .i64) (.cons (.int .i64) (.cons (.st (.cons (.int .i64) (.cons (.sl (.int .i64)) .nil))) (.cons (.sl (.int .i64)) (.cons (.sl (.int .i64)) (.cons (.int .i64) (.cons (.int .i64) .nil)))))))))), .ro (.st (.cons (.int .i64) (.cons (.int .i64) (.cons (.int .i64) (.cons (.int .i64) (.cons (.int .i64) .nil)))))), .ro (.st (.cons (.int .i64) (.cons (.sl (.int .i64)) .nil))), .ro (.st (.cons (.int .i64) (.cons (.sl (.int .i64)) .nil))), .ro (.int .i64), .ro (.int .i64)]⟩, ⟨false, false, [.i .i64]⟩], lay := [none, none], rs := [⟨false, false, [.i .i64]⟩], F := fun x => .ret ((((pipeAtV x.1.2.2.2.2.2.1 x.2.1.1), ()), ()), ((), (), ())) }
theorem f178_eq (x : itemsD k178.its) : bodyOut (cxOf []) (f178_A) (codeOf Tryz.f178) k178.its k178.lay Tryz.f178.ntmps k178.rs [.tmp 4] x = f178_tree x.1.1 x.1.2.1 x.1.2.2.1 x.1.2.2.2.1 x.1.2.2.2.2.1 x.1.2.2.2.2.2.1 x.1.2.2.2.2.2.2.1 x.1.2.2.2.2.2.2.2.1 x.1.2.2.2.2.2.2.2.2.1 x.2.1.1 := by kernel_rfl
theorem f178_ok (hr : ∀ x : UnixD × (Int × Unit) × Unit, itemsWF k178.its x → (f178_tree x.1.1 x.1.2.1 x.1.2.2.1 x.1.2.2.2.1 x.1.2.2.2.2.1 x.1.2.2.2.2.2.1 x.1.2.2.2.2.2.2.1 x.1.2.2.2.2.2.2.2.1 x.1.2.2.2.2.2.2.2.2.1 x.2.1.1).eval = (k178.F x).eval) : k178.Ok Tryz.prog :=
  con_fn [] trivial (by kernel_rfl) (codeOf_eq (by kernel_rfl)) (by kernel_rfl) (by kernel_rfl) (by kernel_rfl) f178_eq fun x hw _ hy => (hr x hw).trans hy
theorem k178_ok : k178.Ok Tryz.prog := by
  refine f178_ok fun x hw => ?_
  obtain ⟨⟨a0, a1, a2, a3, a4, a5, a6, a7, a8, _⟩, ⟨a9, _⟩, _⟩ := x
  have l2 : List.length a2 ≤ BIG := hw.1.1.1
  have l3 : List.length a3 ≤ BIG := hw.1.2.1.1
  have l4 : List.length a4 ≤ BIG := hw.1.2.2.1.1
  have l5 : List.length a5 ≤ BIG := hw.1.2.2.2.1.1
  have l6 : List.length a6 ≤ BIG := hw.1.2.2.2.2.1.1
  have l7 : List.length a7 ≤ BIG := hw.1.2.2.2.2.2.1.1
  have l8 : List.length a8 ≤ BIG := hw.1.2.2.2.2.2.2.1.1
  show (f178_tree a0 a1 a2 a3 a4 a5 a6 a7 a8 a9).eval = some ((((pipeAtV a5 a9), ()), ()), ((), (), ()))
  unfold f178_tree pipeAtV placeBy idxBy
  have h : iter f178_L0 FUEL ((a9, (0 : Int), ()), ((a0, a1, a2, a3, a4, a5, a6, a7, a8, ()), ())) = some (match List.findIdx? (fun x => pipeKey x == a9) a5 with | some i => .inr ((((i : Nat) : Int), ()), ()) | none => .inl ((), ())) := idx_loop (f := f178_L0) a5 (fun x => pipeKey x == a9) (fun i => ((a9, ((i : Nat) : Int), ()), ((a0, a1, a2, a3, a4, a5, a6, a7, a8, ()), ()))) (y := ((), ())) (z := fun i => ((((i : Nat) : Int), ()), ()))
      (fun i hi hp => by
        have h1 := wrap_succ (i := i) (by omega)
        simp [f178_L0, Out.eval, hi, h1, cond_eq_ite, pipeKey] at hp ⊢ <;> (try simp_all) <;> (try (rcases hp with h | h <;> simp_all)))
      (fun i hi hp => by simp [f178_L0, Out.eval, hi, cond_eq_ite, pipeKey] at hp ⊢ <;> (try simp_all) <;> (try (rcases hp with h | h <;> simp_all)))
      (by simp [f178_L0, Out.eval]) l5
  refine (eval_get_some h).trans ?_
  cases List.findIdx? (fun x => pipeKey x == a9) a5 <;> rfl
abbrev f177_S0 := (Int × Int × Unit) × (UnixD × Unit)
def f177_L0 (x : f177_S0) : Out (Round f177_S0 ((Unit) × (Unit)) ((Int × Unit) × (Unit))) :=
 .ite (decide (x.1.2.1 < ((List.length x.2.1.2.2.2.2.2.2.1 : Nat) : Int)))
 (.ite (decide (0 ≤ x.1.2.1))
 (.get (nth x.2.1.2.2.2.2.2.2.1 (Int.toNat x.1.2.1)) fun y1 =>
 .ite ((y1.1 == x.1.1))
 (.ret (.ret ((x.1.2.1, ()), ())))
 (.ret (.again ((x.1.1, (IntKind.i64.wrap (x.1.2.1 + (1 : Int))), ()), ((x.2.1.1, x.2.1.2.1, x.2.1.2.2.1, x.2.1.2.2.2.1, x.2.1.2.2.2.2.1, x.2.1.2.2.2.2.2.1, x.2.1.2.2.2.2.2.2.1, x.2.1.2.2.2.2.2.2.2.1, x.2.1.2.2.2.2.2.2.2.2.1, ()), ())))))
 .fail)
 (.ret (.out ((), ())))
def f177_tree (a0 : Int) (a1 : Int) (a2 : List (List InsD)) (a3 : List ProcD) (a4 : List OpenD) (a5 : List CpuD) (a6 : List CpuD) (a7 : List Int) (a8 : List Int) (a9 : Int) : Out (((Int × Unit) × Unit) × (Unit × Unit × Unit)) :=
 .get (iter f177_L0 FUEL ((a9, (0 : Int), ()), ((a0, a1, a2, a3, a4, a5, a6, a7, a8, ()), ()))) fun y1 => .alt y1 (fun y2 =>
 .ret ((((-1 : Int), ()), ()), ((), (), ()))) (fun y3 =>
 .ret (((y3.1.1, ()), ()), ((), (), ())))
def f177_A : Nat → Option LoopAnn := fun n => annOf [(0, { head := { t := [.dead, .i .i64, .vptr 64000000 0, .dead, .dead, .i .i64] ++ dd 16, v := [(64000000, .var [.i .i64, .i .i64, .ro (.sl (.st (.cons (.int .i64) (.cons (.int .i64) (.cons (.int .i64) (.cons (.int .i64) .nil)))))) (some 0), .ro (.st (.cons (.int .i64) (.cons (.int .i64) (.cons (.int .i64) (.cons (.int .i64) (.cons (.st (.cons (.int .i64) (.cons (.sl (.int .i64)) .nil))) (.cons (.sl (.int .i64)) (.cons (.sl (.int .i64)) (.cons (.int .i64) (.cons (.int .i64) .nil)))))))))) (some 1), .ro (.st (.cons (.int .i64) (.cons (.int .i64) (.cons (.int .i64) (.cons (.int .i64) (.cons (.int .i64) .nil)))))) (some 2), .ro (.st (.cons (.int .i64) (.cons (.sl (.int .i64)) .nil))) (some 3), .ro (.st (.cons (.int .i64) (.cons (.sl (.int .i64)) .nil))) (some 4), .ro (.int .i64) (some 5), .ro (.int .i64) (some 6)])] }, out := { t := dd 22, v := [] }, ret := some { t := dd 4 ++ [.i .i64] ++ dd 17, v := [] } })] n
def k177 : Con := { f := 177, lend := true, its := [⟨false, true, [.i .i64, .i .i64, .ro (.sl (.st (.cons (.int .i64) (.cons (.int .i64) (.cons (.int .i64) (.cons (.int .i64) .nil)))))), .ro (.st (.cons (.int .i64) (.cons (.int .i64) (.cons (.int .i64) (.cons (.int .i64) (.cons (.st (.cons (.int .i64) (.cons (.sl (.int .i64)) .nil))) (.cons (.sl (.int .i64)) (.cons (.sl (.int .i64)) (.cons (.int .i64) (.cons (.int .i64) .nil)))))))))), .ro (.st (.cons (.int .i64) (.cons (.int .i64) (.cons (.int .i64) (.cons (.int .i64) (.cons (.int .i64) .nil)))))), .ro (.st (.cons (.int .i64) (.cons (.sl (.int .i64)) .nil))), .ro (.st (.cons (.int .i64) (.cons (.sl (.int .i64)) .nil))), .ro (.int .i64), .ro (.int .i64)]⟩, ⟨false, false, [.i .i64]⟩], lay := [none, none], rs := [⟨false, false, [.i .i64]⟩], F := fun x => .ret ((((fileAtV x.1.2.2.2.2.2.2.1 x.2.1.1), ()), ()), ((), (), ())) }
theorem f177_eq (x : itemsD k177.its) : bodyOut (cxOf []) (f177_A) (codeOf Tryz.f177) k177.its k177.lay Tryz.f177.ntmps k177.rs [.tmp 4] x = f177_tree x.1.1 x.1.2.1 x.1.2.2.1 x.1.2.2.2.1 x.1.2.2.2.2.1 x.1.2.2.2.2.2.1 x.1.2.2.2.2.2.2.1 x.1.2.2.2.2.2.2.2.1 x.1.2.2.2.2.2.2.2.2.1 x.2.1.1 := by kernel_rfl
theorem f177_ok (hr : ∀ x : UnixD × (Int × Unit) × Unit, itemsWF k177.its x → (f177_tree x.1.1 x.1.2.1 x.1.2.2.1 x.1.2.2.2.1 x.1.2.2.2.2.1 x.1.2.2.2.2.2.1 x.1.2.2.2.2.2.2.1 x.1.2.2.2.2.2.2.2.1 x.1.2.2.2.2.2.2.2.2.1 x.2.1.1).eval = (k177.F x).eval) : k177.Ok Tryz.prog :=
  con_fn [] trivial (by kernel_rfl) (codeOf_eq (by kernel_rfl)) (by kernel_rfl) (by kernel_rfl) (by kernel_rfl) f177_eq fun x hw _ hy => (hr x hw).trans hy
theorem k177_ok : k177.Ok Tryz.prog := by
  refine f177_ok fun x hw => ?_
  obtain ⟨⟨a0, a1, a2, a3, a4, a5, a6, a7, a8, _⟩, ⟨a9, _⟩, _⟩ := x
  have l2 : List.length a2 ≤ BIG := hw.1.1.1
  have l3 : List.length a3 ≤ BIG := hw.1.2.1.1
  have l4 : List.length a4 ≤ BIG := hw.1.2.2.1.1
  have l5 : List.length a5 ≤ BIG := hw.1.2.2.2.1.1
  have l6 : List.length a6 ≤ BIG := hw.1.2.2.2.2.1.1
  have l7 : List.length a7 ≤ BIG := hw.1.2.2.2.2.2.1.1
  have l8 : List.length a8 ≤ BIG := hw.1.2.2.2.2.2.2.1.1
  show (f177_tree a0 a1 a2 a3 a4 a5 a6 a7 a8 a9).eval = some ((((fileAtV a6 a9), ()), ()), ((), (), ()))
  unfold f177_tree fileAtV placeBy idxBy
  have h : iter f177_L0 FUEL ((a9, (0 : Int), ()), ((a0, a1, a2, a3, a4, a5, a6, a7, a8, ()), ())) = some (match List.findIdx? (fun x => fileKey x == a9) a6 with | some i => .inr ((((i : Nat) : Int), ()), ()) | none => .inl ((), ())) := idx_loop (f := f177_L0) a6 (fun x => fileKey x == a9) (fun i => ((a9, ((i : Nat) : Int), ()), ((a0, a1, a2, a3, a4, a5, a6, a7, a8, ()), ()))) (y := ((), ())) (z := fun i => ((((i : Nat) : Int), ()), ()))
      (fun i hi hp => by
        have h1 := wrap_succ (i := i) (by omega)
        simp [f177_L0, Out.eval, hi, h1, cond_eq_ite, fileKey] at hp ⊢ <;> (try simp_all) <;> (try (rcases hp with h | h <;> simp_all)))
      (fun i hi hp => by simp [f177_L0, Out.eval, hi, cond_eq_ite, fileKey] at hp ⊢ <;> (try simp_all) <;> (try (rcases hp with h | h <;> simp_all)))
      (by simp [f177_L0, Out.eval]) l6
  refine (eval_get_some h).trans ?_
  cases List.findIdx? (fun x => fileKey x == a9) a6 <;> rfl
abbrev f141_S0 := (List Int × Int × Int × Unit) × (Unit)
def f141_L0 (x : f141_S0) : Out (Round f141_S0 ((Unit) × (Unit)) ((Bool × Unit) × (Unit))) :=
 .ite (decide (x.1.2.2.1 < ((List.length x.1.1 : Nat) : Int)))
 (.ite (decide (0 ≤ x.1.2.2.1))
 (.get (nth x.1.1 (Int.toNat x.1.2.2.1)) fun y1 =>
 .ite ((y1 == x.1.2.1))
 (.ret (.ret ((true, ()), ())))
 (.ret (.again ((x.1.1, x.1.2.1, (IntKind.i64.wrap (x.1.2.2.1 + (1 : Int))), ()), ()))))
 .fail)
 (.ret (.out ((), ())))
def f141_tree (a0 : List Int) (a1 : Int) : Out (((Bool × Unit) × Unit) × (Unit × Unit × Unit)) :=
 .get (iter f141_L0 FUEL ((a0, a1, (0 : Int), ()), ())) fun y1 => .alt y1 (fun y2 =>
 .ret (((false, ()), ()), ((), (), ()))) (fun y3 =>
 .ret (((y3.1.1, ()), ()), ((), (), ())))
def f141_A : Nat → Option LoopAnn := fun n => annOf [(0, { head := { t := [.ro (.int .i64) (some 0), .i .i64, .dead, .dead, .dead, .i .i64] ++ dd 12, v := [] }, out := { t := dd 18, v := [] }, ret := some { t := dd 4 ++ [.b] ++ dd 13, v := [] } })] n
def k141 : Con := { f := 141, lend := true, its := [⟨false, false, [.ro (.int .i64)]⟩, ⟨false, false, [.i .i64]⟩], lay := [none, none], rs := [⟨false, false, [.b]⟩], F := fun x => .ret ((((hasV x.1.1 x.2.1.1), ()), ()), ((), (), ())) }
theorem f141_eq (x : itemsD k141.its) : bodyOut (cxOf []) (f141_A) (codeOf Tryz.f141) k141.its k141.lay Tryz.f141.ntmps k141.rs [.tmp 4] x = f141_tree x.1.1 x.2.1.1 := by kernel_rfl
theorem f141_ok (hr : ∀ x : (List Int × Unit) × (Int × Unit) × Unit, itemsWF k141.its x → (f141_tree x.1.1 x.2.1.1).eval = (k141.F x).eval) : k141.Ok Tryz.prog :=
  con_fn [] trivial (by kernel_rfl) (codeOf_eq (by kernel_rfl)) (by kernel_rfl) (by kernel_rfl) (by kernel_rfl) f141_eq fun x hw _ hy => (hr x hw).trans hy
theorem k141_ok : k141.Ok Tryz.prog := by
  refine f141_ok fun x hw => ?_
  obtain ⟨⟨a0, _⟩, ⟨a1, _⟩, _⟩ := x
  have l0 : List.length a0 ≤ BIG := hw.1.1.1
  show (f141_tree a0 a1).eval = some ((((hasV a0 a1), ()), ()), ((), (), ()))
  unfold f141_tree hasV
  have h : iter f141_L0 FUEL ((a0, a1, (0 : Int), ()), ()) = some (if List.any a0 (fun y => decide (y = a1)) = true then .inr ((true, ()), ()) else .inl ((), ())) := any_loop (f := f141_L0) a0 (fun y => decide (y = a1)) (fun i => ((a0, a1, ((i : Nat) : Int), ()), ())) (y := ((), ())) (z := ((true, ()), ()))
      (fun i hi => by
        have h1 := wrap_succ (i := i) (by omega)
        cases q : (fun y => decide (y = a1)) a0[i] <;> simp [f141_L0, Out.eval, hi, h1, cond_eq_ite] at q ⊢ <;> simp_all)
      (by simp [f141_L0, Out.eval]) l0
  refine (eval_get_some h).trans ?_
  cases List.any a0 (fun y => decide (y = a1)) <;> rfl
abbrev f85_S0 := (Int × Int × Unit) × (UnixD × Unit)
def f85_L0 (x : f85_S0) : Out (Round f85_S0 ((Int × Unit) × (Unit)) Empty) :=
 .ite (decide (x.1.2.1 < ((List.length x.2.1.2.2.2.1 : Nat) : Int)))
 (.ite (decide (0 ≤ x.1.2.1))
 (.get (nth x.2.1.2.2.2.1 (Int.toNat x.1.2.1)) fun y1 =>
 .ite ((4 : Int) == 0)
 .fail
 (.ret (.again (((IntKind.i64.wrap (x.1.1 + (IntKind.i64.wrap (Int.tdiv ((List.length y1.2.2.2.2.2.1 : Nat) : Int) (4 : Int))))), (IntKind.i64.wrap (x.1.2.1 + (1 : Int))), ()), ((x.2.1.1, x.2.1.2.1, x.2.1.2.2.1, x.2.1.2.2.2.1, x.2.1.2.2.2.2.1, x.2.1.2.2.2.2.2.1, x.2.1.2.2.2.2.2.2.1, x.2.1.2.2.2.2.2.2.2.1, x.2.1.2.2.2.2.2.2.2.2.1, ()), ())))))
 .fail)
 (.ret (.out ((x.1.1, ()), ())))
def f85_tree (a0 : Int) (a1 : Int) (a2 : List (List InsD)) (a3 : List ProcD) (a4 : List OpenD) (a5 : List CpuD) (a6 : List CpuD) (a7 : List Int) (a8 : List Int) : Out (((Int × Unit) × Unit) × (Unit × Unit)) :=
 .get (iter1 f85_L0 FUEL (((0 : Int), (0 : Int), ()), ((a0, a1, a2, a3, a4, a5, a6, a7, a8, ()), ()))) fun y1 =>
 .ret (((y1.1.1, ()), ()), ((), ()))
def f85_A : Nat → Option LoopAnn := fun n => annOf [(0, { head := { t := [.dead, .vptr 64000000 0, .dead, .i .i64, .i .i64] ++ dd 18, v := [(64000000, .var [.i .i64, .i .i64, .ro (.sl (.st (.cons (.int .i64) (.cons (.int .i64) (.cons (.int .i64) (.cons (.int .i64) .nil)))))) (some 0), .ro (.st (.cons (.int .i64) (.cons (.int .i64) (.cons (.int .i64) (.cons (.int .i64) (.cons (.st (.cons (.int .i64) (.cons (.sl (.int .i64)) .nil))) (.cons (.sl (.int .i64)) (.cons (.sl (.int .i64)) (.cons (.int .i64) (.cons (.int .i64) .nil)))))))))) (some 1), .ro (.st (.cons (.int .i64) (.cons (.int .i64) (.cons (.int .i64) (.cons (.int .i64) (.cons (.int .i64) .nil)))))) (some 2), .ro (.st (.cons (.int .i64) (.cons (.sl (.int .i64)) .nil))) (some 3), .ro (.st (.cons (.int .i64) (.cons (.sl (.int .i64)) .nil))) (some 4), .ro (.int .i64) (some 5), .ro (.int .i64) (some 6)])] }, out := { t := [.dead, .dead, .dead, .i .i64] ++ dd 19, v := [] }, ret := none })] n
def k85 : Con := { f := 85, lend := true, its := [⟨false, true, [.i .i64, .i .i64, .ro (.sl (.st (.cons (.int .i64) (.cons (.int .i64) (.cons (.int .i64) (.cons (.int .i64) .nil)))))), .ro (.st (.cons (.int .i64) (.cons (.int .i64) (.cons (.int .i64) (.cons (.int .i64) (.cons (.st (.cons (.int .i64) (.cons (.sl (.int .i64)) .nil))) (.cons (.sl (.int .i64)) (.cons (.sl (.int .i64)) (.cons (.int .i64) (.cons (.int .i64) .nil)))))))))), .ro (.st (.cons (.int .i64) (.cons (.int .i64) (.cons (.int .i64) (.cons (.int .i64) (.cons (.int .i64) .nil)))))), .ro (.st (.cons (.int .i64) (.cons (.sl (.int .i64)) .nil))), .ro (.st (.cons (.int .i64) (.cons (.sl (.int .i64)) .nil))), .ro (.int .i64), .ro (.int .i64)]⟩], lay := [none], rs := [⟨false, false, [.i .i64]⟩], F := fun x => .ret ((((pagesV x.1.2.2.2.1), ()), ()), ((), ())) }
theorem f85_eq (x : itemsD k85.its) : bodyOut (cxOf []) (f85_A) (codeOf Tryz.f85) k85.its k85.lay Tryz.f85.ntmps k85.rs [.tmp 2] x = f85_tree x.1.1 x.1.2.1 x.1.2.2.1 x.1.2.2.2.1 x.1.2.2.2.2.1 x.1.2.2.2.2.2.1 x.1.2.2.2.2.2.2.1 x.1.2.2.2.2.2.2.2.1 x.1.2.2.2.2.2.2.2.2.1 := by kernel_rfl
theorem f85_ok (hr : ∀ x : UnixD × Unit, itemsWF k85.its x → (f85_tree x.1.1 x.1.2.1 x.1.2.2.1 x.1.2.2.2.1 x.1.2.2.2.2.1 x.1.2.2.2.2.2.1 x.1.2.2.2.2.2.2.1 x.1.2.2.2.2.2.2.2.1 x.1.2.2.2.2.2.2.2.2.1).eval = (k85.F x).eval) : k85.Ok Tryz.prog :=
  con_fn [] trivial (by kernel_rfl) (codeOf_eq (by kernel_rfl)) (by kernel_rfl) (by kernel_rfl) (by kernel_rfl) f85_eq fun x hw _ hy => (hr x hw).trans hy
theorem k85_ok : k85.Ok Tryz.prog := by
  refine f85_ok fun x hw => ?_
  obtain ⟨⟨a0, a1, a2, a3, a4, a5, a6, a7, a8, _⟩, _⟩ := x
  have l2 : List.length a2 ≤ BIG := hw.1.1.1
  have l3 : List.length a3 ≤ BIG := hw.1.2.1.1
  have l4 : List.length a4 ≤ BIG := hw.1.2.2.1.1
  have l5 : List.length a5 ≤ BIG := hw.1.2.2.2.1.1
  have l6 : List.length a6 ≤ BIG := hw.1.2.2.2.2.1.1
  have l7 : List.length a7 ≤ BIG := hw.1.2.2.2.2.2.1.1
  have l8 : List.length a8 ≤ BIG := hw.1.2.2.2.2.2.2.1.1
  show (f85_tree a0 a1 a2 a3 a4 a5 a6 a7 a8).eval = some ((((pagesV a3), ()), ()), ((), ()))
  unfold f85_tree pagesV
  have h : iter1 f85_L0 FUEL (((0 : Int), (0 : Int), ()), ((a0, a1, a2, a3, a4, a5, a6, a7, a8, ()), ())) = some (((List.foldl (fun (n : Int) (p : ProcD) => IntKind.i64.wrap (n + ((p.2.2.2.2.2.1.length / 4 : Nat) : Int))) (0 : Int) a3), ()), ()) := foldl_loop (f := f85_L0) (fun _ _ => True) (fun (n : Int) (p : ProcD) => IntKind.i64.wrap (n + ((p.2.2.2.2.2.1.length / 4 : Nat) : Int))) a3 (fun d i => ((d, ((i : Nat) : Int), ()), ((a0, a1, a2, a3, a4, a5, a6, a7, a8, ()), ()))) (fun d => ((d, ()), ()))
      (fun i hi d _ => by
        have h1 := wrap_succ (i := i) (by omega)
        have lj : List.length a3[i].2.2.2.2.2.1 ≤ 9223372036854775807 := (hw.1.2.1.2 i a3[i] (List.getElem?_eq_getElem hi)).2.2.2.2.2.1.1
        have h2 : IntKind.i64.wrap (((List.length a3[i].2.2.2.2.2.1 : Nat) : Int) / 4) = ((List.length a3[i].2.2.2.2.2.1 : Nat) : Int) / 4 := wrap_id (by omega) (by omega)
        simp [f85_L0, Out.eval, hi, h1, cond_eq_ite, h2])
      (fun d _ => by simp [f85_L0, Out.eval]) (fun _ _ _ _ => trivial) l3 (0 : Int) trivial
  exact eval_get_some h
def f139_tree (a0 : Int) (a1 : List Int) : Out (((Bool × Unit) × Unit) × (Unit × Unit)) :=
 .ite ((inV a0 (0 : Int) (40 : Int)) == true)
 (.ite (((((List.length a1 : Nat) : Int) == (4 : Int))) == true)
 (.ret ((((wordsOkV a1), ()), ()), ((), ())))
 (.ret (((false, ()), ()), ((), ()))))
 (.ret (((false, ()), ()), ((), ())))
def k139 : Con := { f := 139, lend := true, its := [⟨false, true, [.i .i64, .ro (.int .i64)]⟩], lay := [none], rs := [⟨false, false, [.b]⟩], F := fun x => .ret ((((cpuOkV x.1.1 x.1.2.1), ()), ()), ((), ())) }
theorem f139_eq (x : itemsD k139.its) : bodyOut (cxOf [k82, k84]) (fun _ => none) (codeOf Tryz.f139) k139.its k139.lay Tryz.f139.ntmps k139.rs [.tmp 2] x = f139_tree x.1.1 x.1.2.1 := by kernel_rfl
theorem f139_ok (hr : ∀ x : CpuD × Unit, itemsWF k139.its x → (f139_tree x.1.1 x.1.2.1).eval = (k139.F x).eval) : k139.Ok Tryz.prog :=
  con_fn [k82, k84] ⟨k82_ok, k84_ok, trivial⟩ (by kernel_rfl) (codeOf_eq (by kernel_rfl)) (by kernel_rfl) (by kernel_rfl) (by kernel_rfl) f139_eq fun x hw _ hy => (hr x hw).trans hy
theorem k139_ok : k139.Ok Tryz.prog := by
  refine f139_ok fun x hw => ?_
  obtain ⟨⟨a0, a1, _⟩, _⟩ := x
  have l1 : List.length a1 ≤ BIG := hw.1.1.1
  show (f139_tree a0 a1).eval = some ((((cpuOkV a0 a1), ()), ()), ((), ()))
  unfold f139_tree cpuOkV placeV
  simp only [eq4, beq_true']
  cases inV a0 0 40 <;> cases decide (List.length a1 = 4) <;> rfl
abbrev f83_S0 := (List (List InsD) × Int × Unit) × (Unit)
def f83_L0 (x : f83_S0) : Out (Round f83_S0 ((Unit) × (Unit)) ((Bool × Unit) × (Unit))) :=
 .ite (decide (x.1.2.1 < ((List.length x.1.1 : Nat) : Int)))
 (.ite (decide (0 ≤ x.1.2.1))
 (.get (nth x.1.1 (Int.toNat x.1.2.1)) fun y1 =>
 .ite (!(progOkV y1))
 (.ret (.ret ((false, ()), ())))
 (.ret (.again ((x.1.1, (IntKind.i64.wrap (x.1.2.1 + (1 : Int))), ()), ()))))
 .fail)
 (.ret (.out ((), ())))
def f83_tree (a0 : List (List InsD)) : Out (((Bool × Unit) × Unit) × (Unit × Unit)) :=
 .ite (!(inV ((List.length a0 : Nat) : Int) (1 : Int) (4 : Int)))
 (.ret (((false, ()), ()), ((), ())))
 (.get (iter f83_L0 FUEL ((a0, (0 : Int), ()), ())) fun y1 => .alt y1 (fun y2 =>
 .ret (((true, ()), ()), ((), ()))) (fun y3 =>
 .ret (((y3.1.1, ()), ()), ((), ()))))
def f83_A : Nat → Option LoopAnn := fun n => annOf [(0, { head := { t := [.ro (.sl (.st (.cons (.int .i64) (.cons (.int .i64) (.cons (.int .i64) (.cons (.int .i64) .nil)))))) (some 0), .dead, .dead, .i .i64] ++ dd 16, v := [] }, out := { t := dd 20, v := [] }, ret := some { t := [.dead, .dead, .b] ++ dd 17, v := [] } })] n
def k83 : Con := { f := 83, lend := true, its := [⟨false, false, [.ro (.sl (.st (.cons (.int .i64) (.cons (.int .i64) (.cons (.int .i64) (.cons (.int .i64) .nil))))))]⟩], lay := [none], rs := [⟨false, false, [.b]⟩], F := fun x => .ret ((((progsOkV x.1.1), ()), ()), ((), ())) }
theorem f83_eq (x : itemsD k83.its) : bodyOut (cxOf [k82, k127]) (f83_A) (codeOf Tryz.f83) k83.its k83.lay Tryz.f83.ntmps k83.rs [.tmp 2] x = f83_tree x.1.1 := by kernel_rfl
theorem f83_ok (hr : ∀ x : (List (List InsD) × Unit) × Unit, itemsWF k83.its x → (f83_tree x.1.1).eval = (k83.F x).eval) : k83.Ok Tryz.prog :=
  con_fn [k82, k127] ⟨k82_ok, k127_ok, trivial⟩ (by kernel_rfl) (codeOf_eq (by kernel_rfl)) (by kernel_rfl) (by kernel_rfl) (by kernel_rfl) f83_eq fun x hw _ hy => (hr x hw).trans hy
theorem k83_ok : k83.Ok Tryz.prog := by
  refine f83_ok fun x hw => ?_
  obtain ⟨⟨a0, _⟩, _⟩ := x
  have l0 : List.length a0 ≤ BIG := hw.1.1.1
  show (f83_tree a0).eval = some ((((progsOkV a0), ()), ()), ((), ()))
  unfold f83_tree progsOkV
  have e1 : inV ((List.length a0 : Nat) : Int) 1 4 = (decide (1 ≤ List.length a0) && decide (List.length a0 ≤ 4)) := by
    unfold inV
    congr 1 <;> (rw [Bool.eq_iff_iff]; simp; omega)
  rw [e1]
  have h : iter f83_L0 FUEL ((a0, (0 : Int), ()), ()) = some (if List.all a0 progOkV = true then .inl ((), ()) else .inr ((false, ()), ())) := allB_loop (f := f83_L0) a0 progOkV (fun i => ((a0, ((i : Nat) : Int), ()), ())) (y := ((), ())) (z := ((false, ()), ()))
      (fun i hi => by
        have h1 := wrap_succ (i := i) (by omega)
        cases q : progOkV a0[i] <;> simp [f83_L0, Out.eval, hi, h1, cond_eq_ite] at q ⊢ <;> simp_all)
      (by simp [f83_L0, Out.eval]) l0
  cases decide (1 ≤ List.length a0) && decide (List.length a0 ≤ 4)
  · rfl
  · refine (eval_ite_f rfl).trans ((eval_get_some h).trans ?_)
    cases List.all a0 progOkV <;> rfl
/-! ## The reference: is all right? -/
end Go.Proofs.YtcinpcncclhejaaGreat.Dm
