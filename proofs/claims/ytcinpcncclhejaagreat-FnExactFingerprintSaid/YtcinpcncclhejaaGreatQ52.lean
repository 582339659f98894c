/- Functions of the program, and what they compute. -/
import Derived.Test.YtcinpcncclhejaaGreatQ51
namespace Go.Proofs.YtcinpcncclhejaaGreat.Dm
open Go Go.ChangeShapes Go.WideShapes Go.ChangeAt Go.RowKit

abbrev f158_S2 := (Int × Int × List ProcD × Int × Int × List Int × Int × Int × Unit) × (Unit)
def f158_L2 (x : f158_S2) : Out (Round f158_S2 ((Int × Int × List ProcD × Int × Int × Unit) × (Unit)) Empty) :=
 .ite (decide (x.1.2.2.2.2.2.2.2.1 < x.1.2.2.2.2.2.2.1))
 (.ite (decide (0 ≤ x.1.2.2.2.2.2.2.2.1))
 (.get (nth x.1.2.2.2.2.2.1 (Int.toNat x.1.2.2.2.2.2.2.2.1)) fun y1 =>
 .ite ((y1 == x.1.1))
 (.ret (.again ((x.1.1, (IntKind.i64.wrap (x.1.2.1 + (1 : Int))), x.1.2.2.1, x.1.2.2.2.1, x.1.2.2.2.2.1, x.1.2.2.2.2.2.1, x.1.2.2.2.2.2.2.1, (IntKind.i64.wrap (x.1.2.2.2.2.2.2.2.1 + (1 : Int))), ()), ())))
 (.ret (.again ((x.1.1, x.1.2.1, x.1.2.2.1, x.1.2.2.2.1, x.1.2.2.2.2.1, x.1.2.2.2.2.2.1, x.1.2.2.2.2.2.2.1, (IntKind.i64.wrap (x.1.2.2.2.2.2.2.2.1 + (1 : Int))), ()), ()))))
 .fail)
 (.ret (.out ((x.1.1, x.1.2.1, x.1.2.2.1, x.1.2.2.2.1, x.1.2.2.2.2.1, ()), ())))
abbrev f158_S0 := (Int × Int × List ProcD × Int × Int × Unit) × (Unit)
def f158_L0 (x : f158_S0) : Out (Round f158_S0 ((Int × Unit) × (Unit)) Empty) :=
 .ite (decide (x.1.2.2.2.2.1 < x.1.2.2.2.1))
 (.ite (decide (0 ≤ x.1.2.2.2.2.1))
 (.get (nth x.1.2.2.1 (Int.toNat x.1.2.2.2.2.1)) fun y1 =>
 .get (iter1 f158_L2 FUEL ((x.1.1, x.1.2.1, x.1.2.2.1, x.1.2.2.2.1, x.1.2.2.2.2.1, y1.2.2.2.2.2.2.1, ((List.length y1.2.2.2.2.2.2.1 : Nat) : Int), (0 : Int), ()), ())) fun y2 =>
 .ret (.again ((y2.1.1, y2.1.2.1, y2.1.2.2.1, y2.1.2.2.2.1, (IntKind.i64.wrap (y2.1.2.2.2.2.1 + (1 : Int))), ()), ())))
 .fail)
 (.ret (.out ((x.1.2.1, ()), ())))
def f158_tree (a0 : Int) (a1 : Int) (a2 : List (List InsD)) (a3 : List ProcD) (a4 : List OpenD) (a5 : List CpuD) (a6 : List CpuD) (a7 : List Int) (a8 : List Int) (a9 : Int) : Out (((Int × Unit) × Unit) × (Unit × Unit × Unit)) :=
 .get (iter1 f158_L0 FUEL ((a9, (0 : Int), a3, ((List.length a3 : Nat) : Int), (0 : Int), ()), ())) fun y1 =>
 .ret (((y1.1.1, ()), ()), ((), (), ()))
def f158_A : Nat → Option LoopAnn := fun n => annOf [(0, { head := { t := [.dead, .i .i64, .dead, .dead, .dead, .i .i64] ++ dd 5 ++ [.ro (.st (.cons (.int .i64) (.cons (.int .i64) (.cons (.int .i64) (.cons (.int .i64) (.cons (.st (.cons (.int .i64) (.cons (.sl (.int .i64)) .nil))) (.cons (.sl (.int .i64)) (.cons (.sl (.int .i64)) (.cons (.int .i64) (.cons (.int .i64) .nil)))))))))) (some 1), .i .i64, .i .i64] ++ dd 18, v := [] }, out := { t := dd 5 ++ [.i .i64] ++ dd 26, v := [] }, ret := none }), (2, { head := { t := [.dead, .i .i64, .dead, .dead, .dead, .i .i64] ++ dd 5 ++ [.ro (.st (.cons (.int .i64) (.cons (.int .i64) (.cons (.int .i64) (.cons (.int .i64) (.cons (.st (.cons (.int .i64) (.cons (.sl (.int .i64)) .nil))) (.cons (.sl (.int .i64)) (.cons (.sl (.int .i64)) (.cons (.int .i64) (.cons (.int .i64) .nil)))))))))) (some 1), .i .i64, .i .i64] ++ dd 4 ++ [.ro (.int .i64) none, .i .i64, .i .i64] ++ dd 11, v := [] }, out := { t := [.dead, .i .i64, .dead, .dead, .dead, .i .i64] ++ dd 5 ++ [.ro (.st (.cons (.int .i64) (.cons (.int .i64) (.cons (.int .i64) (.cons (.int .i64) (.cons (.st (.cons (.int .i64) (.cons (.sl (.int .i64)) .nil))) (.cons (.sl (.int .i64)) (.cons (.sl (.int .i64)) (.cons (.int .i64) (.cons (.int .i64) .nil)))))))))) (some 1), .i .i64, .i .i64] ++ dd 18, v := [] }, ret := none })] n
def k158 : Con := { f := 158, lend := true, its := [⟨false, true, [.i .i64, .i .i64, .ro (.sl (.st (.cons (.int .i64) (.cons (.int .i64) (.cons (.int .i64) (.cons (.int .i64) .nil)))))), .ro (.st (.cons (.int .i64) (.cons (.int .i64) (.cons (.int .i64) (.cons (.int .i64) (.cons (.st (.cons (.int .i64) (.cons (.sl (.int .i64)) .nil))) (.cons (.sl (.int .i64)) (.cons (.sl (.int .i64)) (.cons (.int .i64) (.cons (.int .i64) .nil)))))))))), .ro (.st (.cons (.int .i64) (.cons (.int .i64) (.cons (.int .i64) (.cons (.int .i64) (.cons (.int .i64) .nil)))))), .ro (.st (.cons (.int .i64) (.cons (.sl (.int .i64)) .nil))), .ro (.st (.cons (.int .i64) (.cons (.sl (.int .i64)) .nil))), .ro (.int .i64), .ro (.int .i64)]⟩, ⟨false, false, [.i .i64]⟩], lay := [none, none], rs := [⟨false, false, [.i .i64]⟩], F := fun x => .ret ((((refsV x.1.2.2.2.1 x.2.1.1), ()), ()), ((), (), ())) }
theorem f158_eq (x : itemsD k158.its) : bodyOut (cxOf []) (f158_A) (codeOf Tryz.f158) k158.its k158.lay Tryz.f158.ntmps k158.rs [.tmp 4] x = f158_tree x.1.1 x.1.2.1 x.1.2.2.1 x.1.2.2.2.1 x.1.2.2.2.2.1 x.1.2.2.2.2.2.1 x.1.2.2.2.2.2.2.1 x.1.2.2.2.2.2.2.2.1 x.1.2.2.2.2.2.2.2.2.1 x.2.1.1 := by kernel_rfl
theorem f158_ok (hr : ∀ x : UnixD × (Int × Unit) × Unit, itemsWF k158.its x → (f158_tree x.1.1 x.1.2.1 x.1.2.2.1 x.1.2.2.2.1 x.1.2.2.2.2.1 x.1.2.2.2.2.2.1 x.1.2.2.2.2.2.2.1 x.1.2.2.2.2.2.2.2.1 x.1.2.2.2.2.2.2.2.2.1 x.2.1.1).eval = (k158.F x).eval) : k158.Ok Tryz.prog :=
  con_fn [] trivial (by kernel_rfl) (codeOf_eq (by kernel_rfl)) (by kernel_rfl) (by kernel_rfl) (by kernel_rfl) f158_eq fun x hw _ hy => (hr x hw).trans hy
theorem k158_ok : k158.Ok Tryz.prog := by
  refine f158_ok fun x hw => ?_
  obtain ⟨⟨a0, a1, a2, a3, a4, a5, a6, a7, a8, _⟩, ⟨a9, _⟩, _⟩ := x
  have l2 : List.length a2 ≤ BIG := hw.1.1.1
  have l3 : List.length a3 ≤ BIG := hw.1.2.1.1
  have l4 : List.length a4 ≤ BIG := hw.1.2.2.1.1
  have l5 : List.length a5 ≤ BIG := hw.1.2.2.2.1.1
  have l6 : List.length a6 ≤ BIG := hw.1.2.2.2.2.1.1
  have l7 : List.length a7 ≤ BIG := hw.1.2.2.2.2.2.1.1
  have l8 : List.length a8 ≤ BIG := hw.1.2.2.2.2.2.2.1.1
  show (f158_tree a0 a1 a2 a3 a4 a5 a6 a7 a8 a9).eval = some ((((refsV a3 a9), ()), ()), ((), (), ()))
  unfold f158_tree refsV
  have inner : ∀ (n : Int) (j : Nat) (hj : j < List.length a3), iter1 f158_L2 FUEL ((a9, n, a3, ((List.length a3 : Nat) : Int), ((j : Nat) : Int), a3[j].2.2.2.2.2.2.1, ((List.length a3[j].2.2.2.2.2.2.1 : Nat) : Int), (0 : Int), ()), ()) =
      some ((a9, List.foldl (fun n f => cntV f a9 n) n a3[j].2.2.2.2.2.2.1, a3, ((List.length a3 : Nat) : Int), ((j : Nat) : Int), ()), ()) := fun n j hj => by
    have lj : List.length a3[j].2.2.2.2.2.2.1 ≤ BIG := (hw.1.2.1.2 j a3[j] (List.getElem?_eq_getElem hj)).2.2.2.2.2.2.1.1
    exact foldl_loop (f := f158_L2) (fun _ _ => True) (fun n f => cntV f a9 n) a3[j].2.2.2.2.2.2.1 (fun d i => ((a9, d, a3, ((List.length a3 : Nat) : Int), ((j : Nat) : Int), a3[j].2.2.2.2.2.2.1, ((List.length a3[j].2.2.2.2.2.2.1 : Nat) : Int), ((i : Nat) : Int), ()), ()))
      (fun d => ((a9, d, a3, ((List.length a3 : Nat) : Int), ((j : Nat) : Int), ()), ()))
      (fun i hi d _ => by
        have h1 := wrap_succ (i := i) (by omega)
        by_cases q : a3[j].2.2.2.2.2.2.1[i] = a9 <;> simp [f158_L2, Out.eval, hi, h1, cntV, cond_eq_ite, q])
      (fun d _ => by simp [f158_L2, Out.eval]) (fun _ _ _ _ => trivial) lj n trivial
  have h : iter1 f158_L0 FUEL ((a9, (0 : Int), a3, ((List.length a3 : Nat) : Int), (0 : Int), ()), ()) = some (((List.foldl (fun (n : Int) (p : ProcD) => p.2.2.2.2.2.2.1.foldl (fun n f => cntV f a9 n) n) (0 : Int) a3), ()), ()) := foldl_loop (f := f158_L0) (fun _ _ => True) (fun (n : Int) (p : ProcD) => p.2.2.2.2.2.2.1.foldl (fun n f => cntV f a9 n) n) a3 (fun d i => ((a9, d, a3, ((List.length a3 : Nat) : Int), ((i : Nat) : Int), ()), ())) (fun d => ((d, ()), ()))
      (fun i hi d _ => by
        have h1 := wrap_succ (i := i) (by omega)
        simp [f158_L0, Out.eval, hi, h1, inner d i hi])
      (fun d _ => by simp [f158_L0, Out.eval]) (fun _ _ _ _ => trivial) l3 (0 : Int) trivial
  exact eval_get_some h
def f102_tree (a0 : Int) (a1 : Int) (a2 : List (List InsD)) (a3 : List ProcD) (a4 : List OpenD) (a5 : List CpuD) (a6 : List CpuD) (a7 : List Int) (a8 : List Int) (a9 : Int) (a10 : Int) (a11 : Int) (a12 : Int) (a13 : Int) : Out (((Bool × Unit) × Unit) × (Unit × Unit × Unit)) :=
 .ite ((!(inV a9 (0 : Int) (7 : Int))) == false)
 (.ite (((a13 == (0 : Int))) == false)
 (.ite ((a13 != (refsV a3 a9)))
 (.ret (((false, ()), ()), ((), (), ())))
 (.ite ((a10 == (1 : Int)))
 (.ite (((a11 == (0 : Int))) == true)
 (.ret (((((a12 == (0 : Int))), ()), ()), ((), (), ())))
 (.ret (((false, ()), ()), ((), (), ()))))
 (.ite ((a10 == (2 : Int)))
 (.ite ((decide ((fileAtV a6 a11) ≥ (0 : Int))) == true)
 (.ite (decide (0 ≤ (fileAtV a6 a11)))
 (.get (nth a6 (Int.toNat (fileAtV a6 a11))) fun y1 =>
 .ret ((((inV a12 (0 : Int) ((List.length y1.2.1 : Nat) : Int)), ()), ()), ((), (), ())))
 .fail)
 (.ret (((false, ()), ()), ((), (), ()))))
 (.ite ((a10 == (3 : Int)))
 (.ite ((decide ((pipeAtV a5 a11) ≥ (0 : Int))) == true)
 (.ret (((((a12 == (0 : Int))), ()), ()), ((), (), ())))
 (.ret (((false, ()), ()), ((), (), ()))))
 (.ite ((a10 == (4 : Int)))
 (.ite ((decide ((pipeAtV a5 a11) ≥ (0 : Int))) == true)
 (.ret (((((a12 == (0 : Int))), ()), ()), ((), (), ())))
 (.ret (((false, ()), ()), ((), (), ()))))
 (.ret (((false, ()), ()), ((), (), ()))))))))
 (.ret (((false, ()), ()), ((), (), ()))))
 (.ret (((false, ()), ()), ((), (), ())))
def k102 : Con := { f := 102, lend := true, its := [⟨false, true, [.i .i64, .i .i64, .ro (.sl (.st (.cons (.int .i64) (.cons (.int .i64) (.cons (.int .i64) (.cons (.int .i64) .nil)))))), .ro (.st (.cons (.int .i64) (.cons (.int .i64) (.cons (.int .i64) (.cons (.int .i64) (.cons (.st (.cons (.int .i64) (.cons (.sl (.int .i64)) .nil))) (.cons (.sl (.int .i64)) (.cons (.sl (.int .i64)) (.cons (.int .i64) (.cons (.int .i64) .nil)))))))))), .ro (.st (.cons (.int .i64) (.cons (.int .i64) (.cons (.int .i64) (.cons (.int .i64) (.cons (.int .i64) .nil)))))), .ro (.st (.cons (.int .i64) (.cons (.sl (.int .i64)) .nil))), .ro (.st (.cons (.int .i64) (.cons (.sl (.int .i64)) .nil))), .ro (.int .i64), .ro (.int .i64)]⟩, ⟨false, true, [.i .i64, .i .i64, .i .i64, .i .i64, .i .i64]⟩], lay := [none, none], rs := [⟨false, false, [.b]⟩], F := fun x => .ret ((((openOkV x.1.2.2.2.1 x.1.2.2.2.2.2.1 x.1.2.2.2.2.2.2.1 x.2.1.1 x.2.1.2.1 x.2.1.2.2.1 x.2.1.2.2.2.1 x.2.1.2.2.2.2.1), ()), ()), ((), (), ())) }
theorem f102_eq (x : itemsD k102.its) : bodyOut (cxOf [k96, k158, k159, k160]) (fun _ => none) (codeOf Tryz.f102) k102.its k102.lay Tryz.f102.ntmps k102.rs [.tmp 4] x = f102_tree x.1.1 x.1.2.1 x.1.2.2.1 x.1.2.2.2.1 x.1.2.2.2.2.1 x.1.2.2.2.2.2.1 x.1.2.2.2.2.2.2.1 x.1.2.2.2.2.2.2.2.1 x.1.2.2.2.2.2.2.2.2.1 x.2.1.1 x.2.1.2.1 x.2.1.2.2.1 x.2.1.2.2.2.1 x.2.1.2.2.2.2.1 := by kernel_rfl
theorem f102_ok (hr : ∀ x : UnixD × OpenD × Unit, itemsWF k102.its x → (f102_tree x.1.1 x.1.2.1 x.1.2.2.1 x.1.2.2.2.1 x.1.2.2.2.2.1 x.1.2.2.2.2.2.1 x.1.2.2.2.2.2.2.1 x.1.2.2.2.2.2.2.2.1 x.1.2.2.2.2.2.2.2.2.1 x.2.1.1 x.2.1.2.1 x.2.1.2.2.1 x.2.1.2.2.2.1 x.2.1.2.2.2.2.1).eval = (k102.F x).eval) : k102.Ok Tryz.prog :=
  con_fn [k96, k158, k159, k160] ⟨k96_ok, k158_ok, k159_ok, k160_ok, trivial⟩ (by kernel_rfl) (codeOf_eq (by kernel_rfl)) (by kernel_rfl) (by kernel_rfl) (by kernel_rfl) f102_eq fun x hw _ hy => (hr x hw).trans hy
theorem k102_ok : k102.Ok Tryz.prog := by
  refine f102_ok fun x hw => ?_
  obtain ⟨⟨a0, a1, a2, a3, a4, a5, a6, a7, a8, _⟩, ⟨a9, a10, a11, a12, a13, _⟩, _⟩ := x
  have l2 : List.length a2 ≤ BIG := hw.1.1.1
  have l3 : List.length a3 ≤ BIG := hw.1.2.1.1
  have l4 : List.length a4 ≤ BIG := hw.1.2.2.1.1
  have l5 : List.length a5 ≤ BIG := hw.1.2.2.2.1.1
  have l6 : List.length a6 ≤ BIG := hw.1.2.2.2.2.1.1
  have l7 : List.length a7 ≤ BIG := hw.1.2.2.2.2.2.1.1
  have l8 : List.length a8 ≤ BIG := hw.1.2.2.2.2.2.2.1.1
  show (f102_tree a0 a1 a2 a3 a4 a5 a6 a7 a8 a9 a10 a11 a12 a13).eval = some ((((openOkV a3 a5 a6 a9 a10 a11 a12 a13), ()), ()), ((), (), ()))
  unfold f102_tree
  unfold openOkV
  generalize refsV a3 a9 = r
  by_cases c3 : inV a9 0 7 = true
  case neg => rw [eval_ite_f (by simp [c3])]; simp [Out.eval, c3]
  rw [eval_ite_t (by simp [c3])]
  by_cases c1 : a13 = 0
  · rw [eval_ite_f (by simp [c1])]
    have e : (!(r == 0) && a13 == r && inV a9 0 7 && kindOkV a5 a6 a10 a11 a12) = false := by
      subst c1
      by_cases q : r = 0
      · simp [q]
      · have : ((0 : Int) == r) = false := by simpa using fun h => q h.symm
        simp [this]
    rw [e]; rfl
  rw [eval_ite_t (by simp [c1])]
  by_cases c2 : a13 = r
  case neg => rw [eval_ite_t (by simp [c2])]; simp [Out.eval, c2]
  rw [eval_ite_f (by simp [c2])]
  refine (kind_tail a10 a11 a12 a5 a6 (fun b => (((b, ()), ()), ((), (), ())))).trans ?_
  subst c2
  simp [c1, c3]
def isEndF (kind target pipe : Int) : Bool := (kind == 3 && target == pipe) || (kind == 4 && target == pipe)
def f163_tree (a0 : Int) (a1 : Int) (a2 : Int) (a3 : Int) (a4 : Int) (a5 : Int) : Out (((Bool × Unit) × Unit) × (Unit × Unit × Unit)) :=
 .ite (((a1 == (3 : Int))) == false)
 (.ite (((a1 == (4 : Int))) == true)
 (.ret (((((a2 == a5)), ()), ()), ((), (), ())))
 (.ret (((false, ()), ()), ((), (), ()))))
 (.ret (((((a2 == a5)), ()), ()), ((), (), ())))
def k163 : Con := { f := 163, lend := true, its := [⟨false, true, [.i .i64, .i .i64, .i .i64, .i .i64, .i .i64]⟩, ⟨false, false, [.i .i64]⟩], lay := [none, none], rs := [⟨false, false, [.b]⟩], F := fun x => .ret ((((isEndF x.1.2.1 x.1.2.2.1 x.2.1.1), ()), ()), ((), (), ())) }
theorem f163_eq (x : itemsD k163.its) : bodyOut (cxOf []) (fun _ => none) (codeOf Tryz.f163) k163.its k163.lay Tryz.f163.ntmps k163.rs [.tmp 4] x = f163_tree x.1.1 x.1.2.1 x.1.2.2.1 x.1.2.2.2.1 x.1.2.2.2.2.1 x.2.1.1 := by kernel_rfl
theorem f163_ok (hr : ∀ x : OpenD × (Int × Unit) × Unit, itemsWF k163.its x → (f163_tree x.1.1 x.1.2.1 x.1.2.2.1 x.1.2.2.2.1 x.1.2.2.2.2.1 x.2.1.1).eval = (k163.F x).eval) : k163.Ok Tryz.prog :=
  con_fn [] trivial (by kernel_rfl) (codeOf_eq (by kernel_rfl)) (by kernel_rfl) (by kernel_rfl) (by kernel_rfl) f163_eq fun x hw _ hy => (hr x hw).trans hy
theorem k163_ok : k163.Ok Tryz.prog := by
  refine f163_ok fun x hw => ?_
  obtain ⟨⟨a0, a1, a2, a3, a4, _⟩, ⟨a5, _⟩, _⟩ := x
  show (f163_tree a0 a1 a2 a3 a4 a5).eval = some ((((isEndF a1 a2 a5), ()), ()), ((), (), ()))
  unfold f163_tree isEndF
  simp only [Out.eval, cond_eq_ite]
  all_goals ((repeat' split) <;> simp_all)
def isEndC (kind target pipe : Int) : Bool × Int := (isEndF kind target pipe, pipe)
def f162_tree (a0 : Int) (a1 : Int) (a2 : Int) (a3 : Int) (a4 : Int) (a5 : Int) (a6 : List Int) : Out (((Bool × Unit) × Unit) × (Unit × (Int × Unit) × Unit)) :=
 .ret ((((isEndF a1 a2 a5), ()), ()), ((), (a5, ()), ()))
def k162 : Con := { f := 162, lend := true, its := [⟨false, true, [.i .i64, .i .i64, .i .i64, .i .i64, .i .i64]⟩, ⟨true, false, [.i .i64, .ro (.int .i64)]⟩], lay := [none, none], rs := [⟨false, false, [.b]⟩], F := fun x => .ret ((((isEndC x.1.2.1 x.1.2.2.1 x.2.1.1).1, ()), ()), ((), ((isEndC x.1.2.1 x.1.2.2.1 x.2.1.1).2, ()), ())) }
theorem f162_eq (x : itemsD k162.its) : bodyOut (cxOf [k163]) (fun _ => none) (codeOf Tryz.f162) k162.its k162.lay Tryz.f162.ntmps k162.rs [.tmp 3] x = f162_tree x.1.1 x.1.2.1 x.1.2.2.1 x.1.2.2.2.1 x.1.2.2.2.2.1 x.2.1.1 x.2.1.2.1 := by kernel_rfl
theorem f162_ok (hr : ∀ x : OpenD × CpuD × Unit, itemsWF k162.its x → (f162_tree x.1.1 x.1.2.1 x.1.2.2.1 x.1.2.2.2.1 x.1.2.2.2.2.1 x.2.1.1 x.2.1.2.1).eval = (k162.F x).eval) : k162.Ok Tryz.prog :=
  con_fn [k163] ⟨k163_ok, trivial⟩ (by kernel_rfl) (codeOf_eq (by kernel_rfl)) (by kernel_rfl) (by kernel_rfl) (by kernel_rfl) f162_eq fun x hw _ hy => (hr x hw).trans hy
theorem k162_ok : k162.Ok Tryz.prog := by
  refine f162_ok fun x hw => ?_
  obtain ⟨⟨a0, a1, a2, a3, a4, _⟩, ⟨a5, a6, _⟩, _⟩ := x
  have l6 : List.length a6 ≤ BIG := hw.2.1.1.1
  show (f162_tree a0 a1 a2 a3 a4 a5 a6).eval = some ((((isEndC a1 a2 a5).1, ()), ()), ((), ((isEndC a1 a2 a5).2, ()), ()))
  unfold f162_tree isEndC
  simp only [Out.eval, cond_eq_ite]
  all_goals ((repeat' split) <;> simp_all)
def endIdxC (a : List OpenD) (pipe : Int) : Int × Int := (idxV (a.findIdx? (isEndV pipe)), pipe)
abbrev f184e_S0 := (List OpenD × Int × Int × Unit) × ((Int × List Int × Unit) × Unit)
def f184e_L0 (x : f184e_S0) : Out (Round f184e_S0 ((Unit) × ((Int × List Int × Unit) × Unit)) ((Int × Unit) × ((Int × List Int × Unit) × Unit))) :=
 .ite (decide (x.1.2.2.1 < x.1.2.1))
 (.ite (decide (0 ≤ x.1.2.2.1))
 (.get (nth x.1.1 (Int.toNat x.1.2.2.1)) fun y1 =>
 .ite ((isEndC y1.2.1 y1.2.2.1 x.2.1.1).1)
 (.ret (.ret ((x.1.2.2.1, ()), (((isEndC y1.2.1 y1.2.2.1 x.2.1.1).2, x.2.1.2.1, ()), ()))))
 (.ret (.again ((x.1.1, x.1.2.1, (IntKind.i64.wrap (x.1.2.2.1 + (1 : Int))), ()), (((isEndC y1.2.1 y1.2.2.1 x.2.1.1).2, x.2.1.2.1, ()), ())))))
 .fail)
 (.ret (.out ((), ((x.2.1.1, x.2.1.2.1, ()), ()))))
def f184e_tree (a0 : List OpenD) (a1 : Int) (a2 : List Int) : Out (((Int × Unit) × Unit) × (Unit × (Int × Unit) × Unit)) :=
 .get (iter f184e_L0 FUEL ((a0, ((List.length a0 : Nat) : Int), (0 : Int), ()), ((a1, a2, ()), ()))) fun y1 => .alt y1 (fun y2 =>
 .ret ((((-1 : Int), ()), ()), ((), (y2.2.1.1, ()), ()))) (fun y3 =>
 .ret (((y3.1.1, ()), ()), ((), (y3.2.1.1, ()), ())))
def f184e_A : Nat → Option LoopAnn := fun n => annOf [(0, { head := { t := [.ro (.st (.cons (.int .i64) (.cons (.int .i64) (.cons (.int .i64) (.cons (.int .i64) (.cons (.int .i64) .nil)))))) (some 0), .fn 162 [1]] ++ dd 5 ++ [.i .i64, .i .i64] ++ dd 10, v := [(1, .var [.i .i64, .ro (.int .i64) (some 2)])] }, out := { t := [.dead, .fn 162 [1]] ++ dd 17, v := [(1, .var [.i .i64, .ro (.int .i64) (some 2)])] }, ret := some { t := [.dead, .fn 162 [1], .dead, .dead, .i .i64] ++ dd 14, v := [(1, .var [.i .i64, .ro (.int .i64) (some 2)])] } })] n
def k184e : Con := { f := 184, lend := true, its := [⟨false, false, [.ro (.st (.cons (.int .i64) (.cons (.int .i64) (.cons (.int .i64) (.cons (.int .i64) (.cons (.int .i64) .nil))))))]⟩, ⟨true, false, [.i .i64, .ro (.int .i64)]⟩], lay := [none, some (162, 1)], rs := [⟨false, false, [.i .i64]⟩], F := fun x => .ret ((((endIdxC x.1.1 x.2.1.1).1, ()), ()), ((), ((endIdxC x.1.1 x.2.1.1).2, ()), ())) }
theorem f184e_eq (x : itemsD k184e.its) : bodyOut (cxOf [k162]) (f184e_A) (codeOf Tryz.f184) k184e.its k184e.lay Tryz.f184.ntmps k184e.rs [.tmp 4] x = f184e_tree x.1.1 x.2.1.1 x.2.1.2.1 := by kernel_rfl
theorem f184e_ok (hr : ∀ x : (List OpenD × Unit) × CpuD × Unit, itemsWF k184e.its x → (f184e_tree x.1.1 x.2.1.1 x.2.1.2.1).eval = (k184e.F x).eval) : k184e.Ok Tryz.prog :=
  con_fn [k162] ⟨k162_ok, trivial⟩ (by kernel_rfl) (codeOf_eq (by kernel_rfl)) (by kernel_rfl) (by kernel_rfl) (by kernel_rfl) f184e_eq fun x hw _ hy => (hr x hw).trans hy
theorem k184e_ok : k184e.Ok Tryz.prog := by
  refine f184e_ok fun x hw => ?_
  obtain ⟨⟨a0, _⟩, ⟨a1, a2, _⟩, _⟩ := x
  have l0 : List.length a0 ≤ BIG := hw.1.1.1
  have l2 : List.length a2 ≤ BIG := hw.2.1.1.1
  show (f184e_tree a0 a1 a2).eval = some ((((endIdxC a0 a1).1, ()), ()), ((), ((endIdxC a0 a1).2, ()), ()))
  unfold f184e_tree endIdxC
  have h : iter f184e_L0 FUEL ((a0, ((List.length a0 : Nat) : Int), (0 : Int), ()), ((a1, a2, ()), ())) = some (match List.findIdx? (isEndV a1) a0 with | some i => .inr ((((i : Nat) : Int), ()), ((a1, a2, ()), ())) | none => .inl ((), ((a1, a2, ()), ()))) := idx_loop (f := f184e_L0) a0 (isEndV a1) (fun i => ((a0, ((List.length a0 : Nat) : Int), ((i : Nat) : Int), ()), ((a1, a2, ()), ()))) (y := ((), ((a1, a2, ()), ()))) (z := fun i => ((((i : Nat) : Int), ()), ((a1, a2, ()), ())))
      (fun i hi hp => by
        have h1 := wrap_succ (i := i) (by omega)
        simp [f184e_L0, Out.eval, hi, h1, cond_eq_ite, isEndC, isEndF, isEndV, endV] at hp ⊢ <;> (try simp_all) <;> (try (rcases hp with h | h <;> simp_all)))
      (fun i hi hp => by simp [f184e_L0, Out.eval, hi, cond_eq_ite, isEndC, isEndF, isEndV, endV] at hp ⊢ <;> (try simp_all) <;> (try (rcases hp with h | h <;> simp_all)))
      (by simp [f184e_L0, Out.eval]) l0
  refine (eval_get_some h).trans ?_
  cases List.findIdx? (isEndV a1) a0 <;> rfl
def anyEndC (a : List OpenD) (pipe : Int) : Bool × Int := (a.any (isEndV pipe), pipe)
def f161e_tree (a0 : List OpenD) (a1 : Int) (a2 : List Int) : Out (((Bool × Unit) × Unit) × (Unit × (Int × Unit) × Unit)) :=
 .ret ((((decide ((endIdxC a0 a1).1 ≥ (0 : Int))), ()), ()), ((), ((endIdxC a0 a1).2, ()), ()))
def k161e : Con := { f := 161, lend := true, its := [⟨false, false, [.ro (.st (.cons (.int .i64) (.cons (.int .i64) (.cons (.int .i64) (.cons (.int .i64) (.cons (.int .i64) .nil))))))]⟩, ⟨true, false, [.i .i64, .ro (.int .i64)]⟩], lay := [none, some (162, 1)], rs := [⟨false, false, [.b]⟩], F := fun x => .ret ((((anyEndC x.1.1 x.2.1.1).1, ()), ()), ((), ((anyEndC x.1.1 x.2.1.1).2, ()), ())) }
theorem f161e_eq (x : itemsD k161e.its) : bodyOut (cxOf [k184e]) (fun _ => none) (codeOf Tryz.f161) k161e.its k161e.lay Tryz.f161.ntmps k161e.rs [.tmp 4] x = f161e_tree x.1.1 x.2.1.1 x.2.1.2.1 := by kernel_rfl
theorem f161e_ok (hr : ∀ x : (List OpenD × Unit) × CpuD × Unit, itemsWF k161e.its x → (f161e_tree x.1.1 x.2.1.1 x.2.1.2.1).eval = (k161e.F x).eval) : k161e.Ok Tryz.prog :=
  con_fn [k184e] ⟨k184e_ok, trivial⟩ (by kernel_rfl) (codeOf_eq (by kernel_rfl)) (by kernel_rfl) (by kernel_rfl) (by kernel_rfl) f161e_eq fun x hw _ hy => (hr x hw).trans hy
theorem k161e_ok : k161e.Ok Tryz.prog := by
  refine f161e_ok fun x hw => ?_
  obtain ⟨⟨a0, _⟩, ⟨a1, a2, _⟩, _⟩ := x
  have l0 : List.length a0 ≤ BIG := hw.1.1.1
  have l2 : List.length a2 ≤ BIG := hw.2.1.1.1
  show (f161e_tree a0 a1 a2).eval = some ((((anyEndC a0 a1).1, ()), ()), ((), ((anyEndC a0 a1).2, ()), ()))
  unfold f161e_tree anyEndC endIdxC
  rw [idxV_ge]
  rfl
abbrev f103_S0 := (Int × List ProcD × Int × Int × Unit) × (Unit)
def f103_L0 (x : f103_S0) : Out (Round f103_S0 ((Int × Unit) × (Unit)) Empty) :=
 .ite (decide (x.1.2.2.2.1 < x.1.2.2.1))
 (.ite (decide (0 ≤ x.1.2.2.2.1))
 (.get (nth x.1.2.1 (Int.toNat x.1.2.2.2.1)) fun y1 =>
 .ret (.again (((IntKind.i64.wrap (x.1.1 + ((List.length y1.2.2.2.2.2.1 : Nat) : Int))), x.1.2.1, x.1.2.2.1, (IntKind.i64.wrap (x.1.2.2.2.1 + (1 : Int))), ()), ())))
 .fail)
 (.ret (.out ((x.1.1, ()), ())))
def f103_tree (a0 : Int) (a1 : Int) (a2 : List (List InsD)) (a3 : List ProcD) (a4 : List OpenD) (a5 : List CpuD) (a6 : List CpuD) (a7 : List Int) (a8 : List Int) : Out (((Int × Unit) × Unit) × (Unit × Unit)) :=
 .get (iter1 f103_L0 FUEL (((0 : Int), a3, ((List.length a3 : Nat) : Int), (0 : Int), ()), ())) fun y1 =>
 .ret (((y1.1.1, ()), ()), ((), ()))
def f103_A : Nat → Option LoopAnn := fun n => annOf [(0, { head := { t := [.dead, .dead, .dead, .i .i64, .dead, .dead, .dead, .ro (.st (.cons (.int .i64) (.cons (.int .i64) (.cons (.int .i64) (.cons (.int .i64) (.cons (.st (.cons (.int .i64) (.cons (.sl (.int .i64)) .nil))) (.cons (.sl (.int .i64)) (.cons (.sl (.int .i64)) (.cons (.int .i64) (.cons (.int .i64) .nil)))))))))) (some 1), .i .i64, .i .i64] ++ dd 10, v := [] }, out := { t := [.dead, .dead, .dead, .i .i64] ++ dd 16, v := [] }, ret := none })] n
def k103 : Con := { f := 103, lend := true, its := [⟨false, true, [.i .i64, .i .i64, .ro (.sl (.st (.cons (.int .i64) (.cons (.int .i64) (.cons (.int .i64) (.cons (.int .i64) .nil)))))), .ro (.st (.cons (.int .i64) (.cons (.int .i64) (.cons (.int .i64) (.cons (.int .i64) (.cons (.st (.cons (.int .i64) (.cons (.sl (.int .i64)) .nil))) (.cons (.sl (.int .i64)) (.cons (.sl (.int .i64)) (.cons (.int .i64) (.cons (.int .i64) .nil)))))))))), .ro (.st (.cons (.int .i64) (.cons (.int .i64) (.cons (.int .i64) (.cons (.int .i64) (.cons (.int .i64) .nil)))))), .ro (.st (.cons (.int .i64) (.cons (.sl (.int .i64)) .nil))), .ro (.st (.cons (.int .i64) (.cons (.sl (.int .i64)) .nil))), .ro (.int .i64), .ro (.int .i64)]⟩], lay := [none], rs := [⟨false, false, [.i .i64]⟩], F := fun x => .ret ((((wordsV x.1.2.2.2.1), ()), ()), ((), ())) }
theorem f103_eq (x : itemsD k103.its) : bodyOut (cxOf []) (f103_A) (codeOf Tryz.f103) k103.its k103.lay Tryz.f103.ntmps k103.rs [.tmp 2] x = f103_tree x.1.1 x.1.2.1 x.1.2.2.1 x.1.2.2.2.1 x.1.2.2.2.2.1 x.1.2.2.2.2.2.1 x.1.2.2.2.2.2.2.1 x.1.2.2.2.2.2.2.2.1 x.1.2.2.2.2.2.2.2.2.1 := by kernel_rfl
theorem f103_ok (hr : ∀ x : UnixD × Unit, itemsWF k103.its x → (f103_tree x.1.1 x.1.2.1 x.1.2.2.1 x.1.2.2.2.1 x.1.2.2.2.2.1 x.1.2.2.2.2.2.1 x.1.2.2.2.2.2.2.1 x.1.2.2.2.2.2.2.2.1 x.1.2.2.2.2.2.2.2.2.1).eval = (k103.F x).eval) : k103.Ok Tryz.prog :=
  con_fn [] trivial (by kernel_rfl) (codeOf_eq (by kernel_rfl)) (by kernel_rfl) (by kernel_rfl) (by kernel_rfl) f103_eq fun x hw _ hy => (hr x hw).trans hy
theorem k103_ok : k103.Ok Tryz.prog := by
  refine f103_ok fun x hw => ?_
  obtain ⟨⟨a0, a1, a2, a3, a4, a5, a6, a7, a8, _⟩, _⟩ := x
  have l2 : List.length a2 ≤ BIG := hw.1.1.1
  have l3 : List.length a3 ≤ BIG := hw.1.2.1.1
  have l4 : List.length a4 ≤ BIG := hw.1.2.2.1.1
  have l5 : List.length a5 ≤ BIG := hw.1.2.2.2.1.1
  have l6 : List.length a6 ≤ BIG := hw.1.2.2.2.2.1.1
  have l7 : List.length a7 ≤ BIG := hw.1.2.2.2.2.2.1.1
  have l8 : List.length a8 ≤ BIG := hw.1.2.2.2.2.2.2.1.1
  show (f103_tree a0 a1 a2 a3 a4 a5 a6 a7 a8).eval = some ((((wordsV a3), ()), ()), ((), ()))
  unfold f103_tree wordsV
  have h : iter1 f103_L0 FUEL (((0 : Int), a3, ((List.length a3 : Nat) : Int), (0 : Int), ()), ()) = some (((List.foldl (fun (n : Int) (p : ProcD) => IntKind.i64.wrap (n + ((p.2.2.2.2.2.1.length : Nat) : Int))) (0 : Int) a3), ()), ()) := foldl_loop (f := f103_L0) (fun _ _ => True) (fun (n : Int) (p : ProcD) => IntKind.i64.wrap (n + ((p.2.2.2.2.2.1.length : Nat) : Int))) a3 (fun d i => ((d, a3, ((List.length a3 : Nat) : Int), ((i : Nat) : Int), ()), ())) (fun d => ((d, ()), ()))
      (fun i hi d _ => by
        have h1 := wrap_succ (i := i) (by omega)
        simp [f103_L0, Out.eval, hi, h1, cond_eq_ite])
      (fun d _ => by simp [f103_L0, Out.eval]) (fun _ _ _ _ => trivial) l3 (0 : Int) trivial
  exact eval_get_some h
abbrev f104_S0 := (List CpuD × Int × Int × Unit) × (UnixD × Unit)
def f104_L0 (x : f104_S0) : Out (Round f104_S0 ((Unit) × (UnixD × Unit)) ((Bool × Unit) × (Unit))) :=
 .ite (decide (x.1.2.2.1 < x.1.2.1))
 (.ite (decide (0 ≤ x.1.2.2.1))
 (.get (nth x.1.1 (Int.toNat x.1.2.2.1)) fun y1 =>
 .ite ((!(inV y1.1 (0 : Int) (2 : Int))) == false)
 (.ite ((decide (x.1.2.2.1 > (0 : Int))) == true)
 (.ite (decide (0 ≤ (IntKind.i64.wrap (x.1.2.2.1 - (1 : Int)))))
 (.get (nth x.2.1.2.2.2.2.2.1 (Int.toNat (IntKind.i64.wrap (x.1.2.2.1 - (1 : Int))))) fun y2 =>
 .ite ((decide (y2.1 ≥ y1.1)) == false)
 (.ite ((decide (((List.length y1.2.1 : Nat) : Int) > (4 : Int))) == false)
 (.ite (!(wordsOkV y1.2.1))
 (.ret (.ret ((false, ()), ())))
 (.ite (!(anyEndC x.2.1.2.2.2.2.1 y1.1).1)
 (.ret (.ret ((false, ()), ())))
 (.ret (.again ((x.1.1, x.1.2.1, (IntKind.i64.wrap (x.1.2.2.1 + (1 : Int))), ()), ((x.2.1.1, x.2.1.2.1, x.2.1.2.2.1, x.2.1.2.2.2.1, x.2.1.2.2.2.2.1, x.2.1.2.2.2.2.2.1, x.2.1.2.2.2.2.2.2.1, x.2.1.2.2.2.2.2.2.2.1, x.2.1.2.2.2.2.2.2.2.2.1, ()), ()))))))
 (.ret (.ret ((false, ()), ()))))
 (.ret (.ret ((false, ()), ()))))
 .fail)
 (.ite ((decide (((List.length y1.2.1 : Nat) : Int) > (4 : Int))) == false)
 (.ite (!(wordsOkV y1.2.1))
 (.ret (.ret ((false, ()), ())))
 (.ite (!(anyEndC x.2.1.2.2.2.2.1 y1.1).1)
 (.ret (.ret ((false, ()), ())))
 (.ret (.again ((x.1.1, x.1.2.1, (IntKind.i64.wrap (x.1.2.2.1 + (1 : Int))), ()), ((x.2.1.1, x.2.1.2.1, x.2.1.2.2.1, x.2.1.2.2.2.1, x.2.1.2.2.2.2.1, x.2.1.2.2.2.2.2.1, x.2.1.2.2.2.2.2.2.1, x.2.1.2.2.2.2.2.2.2.1, x.2.1.2.2.2.2.2.2.2.2.1, ()), ()))))))
 (.ret (.ret ((false, ()), ())))))
 (.ret (.ret ((false, ()), ()))))
 .fail)
 (.ret (.out ((), ((x.2.1.1, x.2.1.2.1, x.2.1.2.2.1, x.2.1.2.2.2.1, x.2.1.2.2.2.2.1, x.2.1.2.2.2.2.2.1, x.2.1.2.2.2.2.2.2.1, x.2.1.2.2.2.2.2.2.2.1, x.2.1.2.2.2.2.2.2.2.2.1, ()), ()))))
def f104_tree (a0 : Int) (a1 : Int) (a2 : List (List InsD)) (a3 : List ProcD) (a4 : List OpenD) (a5 : List CpuD) (a6 : List CpuD) (a7 : List Int) (a8 : List Int) : Out (((Bool × Unit) × Unit) × (Unit × Unit)) :=
 .get (iter f104_L0 FUEL ((a5, ((List.length a5 : Nat) : Int), (0 : Int), ()), ((a0, a1, a2, a3, a4, a5, a6, a7, a8, ()), ()))) fun y1 => .alt y1 (fun y2 =>
 .ret ((((decide (((List.length y2.2.1.2.2.2.2.2.1 : Nat) : Int) ≤ (3 : Int))), ()), ()), ((), ()))) (fun y3 =>
 .ret (((y3.1.1, ()), ()), ((), ())))
def f104_A : Nat → Option LoopAnn := fun n => annOf [(0, { head := { t := [.dead, .vptr 64000000 0] ++ dd 4 ++ [.ro (.st (.cons (.int .i64) (.cons (.sl (.int .i64)) .nil))) (some 3), .i .i64, .i .i64] ++ dd 46, v := [(64000000, .var [.i .i64, .i .i64, .ro (.sl (.st (.cons (.int .i64) (.cons (.int .i64) (.cons (.int .i64) (.cons (.int .i64) .nil)))))) (some 0), .ro (.st (.cons (.int .i64) (.cons (.int .i64) (.cons (.int .i64) (.cons (.int .i64) (.cons (.st (.cons (.int .i64) (.cons (.sl (.int .i64)) .nil))) (.cons (.sl (.int .i64)) (.cons (.sl (.int .i64)) (.cons (.int .i64) (.cons (.int .i64) .nil)))))))))) (some 1), .ro (.st (.cons (.int .i64) (.cons (.int .i64) (.cons (.int .i64) (.cons (.int .i64) (.cons (.int .i64) .nil)))))) (some 2), .ro (.st (.cons (.int .i64) (.cons (.sl (.int .i64)) .nil))) (some 3), .ro (.st (.cons (.int .i64) (.cons (.sl (.int .i64)) .nil))) (some 4), .ro (.int .i64) (some 5), .ro (.int .i64) (some 6)])] }, out := { t := [.dead, .vptr 64000256 0] ++ dd 53, v := [(64000256, .var [.i .i64, .i .i64, .ro (.sl (.st (.cons (.int .i64) (.cons (.int .i64) (.cons (.int .i64) (.cons (.int .i64) .nil)))))) (some 0), .ro (.st (.cons (.int .i64) (.cons (.int .i64) (.cons (.int .i64) (.cons (.int .i64) (.cons (.st (.cons (.int .i64) (.cons (.sl (.int .i64)) .nil))) (.cons (.sl (.int .i64)) (.cons (.sl (.int .i64)) (.cons (.int .i64) (.cons (.int .i64) .nil)))))))))) (some 1), .ro (.st (.cons (.int .i64) (.cons (.int .i64) (.cons (.int .i64) (.cons (.int .i64) (.cons (.int .i64) .nil)))))) (some 2), .ro (.st (.cons (.int .i64) (.cons (.sl (.int .i64)) .nil))) (some 3), .ro (.st (.cons (.int .i64) (.cons (.sl (.int .i64)) .nil))) (some 4), .ro (.int .i64) (some 5), .ro (.int .i64) (some 6)])] }, ret := some { t := [.dead, .dead, .b] ++ dd 52, v := [] } })] n
def k104 : Con := { f := 104, lend := true, its := [⟨false, true, [.i .i64, .i .i64, .ro (.sl (.st (.cons (.int .i64) (.cons (.int .i64) (.cons (.int .i64) (.cons (.int .i64) .nil)))))), .ro (.st (.cons (.int .i64) (.cons (.int .i64) (.cons (.int .i64) (.cons (.int .i64) (.cons (.st (.cons (.int .i64) (.cons (.sl (.int .i64)) .nil))) (.cons (.sl (.int .i64)) (.cons (.sl (.int .i64)) (.cons (.int .i64) (.cons (.int .i64) .nil)))))))))), .ro (.st (.cons (.int .i64) (.cons (.int .i64) (.cons (.int .i64) (.cons (.int .i64) (.cons (.int .i64) .nil)))))), .ro (.st (.cons (.int .i64) (.cons (.sl (.int .i64)) .nil))), .ro (.st (.cons (.int .i64) (.cons (.sl (.int .i64)) .nil))), .ro (.int .i64), .ro (.int .i64)]⟩], lay := [none], rs := [⟨false, false, [.b]⟩], F := fun x => .ret ((((pipesOkV x.1.2.2.2.2.1 x.1.2.2.2.2.2.1), ()), ()), ((), ())) }
theorem f104_eq (x : itemsD k104.its) : bodyOut (cxOf [k96, k97, k161e]) (f104_A) (codeOf Tryz.f104) k104.its k104.lay Tryz.f104.ntmps k104.rs [.tmp 2] x = f104_tree x.1.1 x.1.2.1 x.1.2.2.1 x.1.2.2.2.1 x.1.2.2.2.2.1 x.1.2.2.2.2.2.1 x.1.2.2.2.2.2.2.1 x.1.2.2.2.2.2.2.2.1 x.1.2.2.2.2.2.2.2.2.1 := by kernel_rfl
theorem f104_ok (hr : ∀ x : UnixD × Unit, itemsWF k104.its x → (f104_tree x.1.1 x.1.2.1 x.1.2.2.1 x.1.2.2.2.1 x.1.2.2.2.2.1 x.1.2.2.2.2.2.1 x.1.2.2.2.2.2.2.1 x.1.2.2.2.2.2.2.2.1 x.1.2.2.2.2.2.2.2.2.1).eval = (k104.F x).eval) : k104.Ok Tryz.prog :=
  con_fn [k96, k97, k161e] ⟨k96_ok, k97_ok, k161e_ok, trivial⟩ (by kernel_rfl) (codeOf_eq (by kernel_rfl)) (by kernel_rfl) (by kernel_rfl) (by kernel_rfl) f104_eq fun x hw _ hy => (hr x hw).trans hy
theorem k104_ok : k104.Ok Tryz.prog := by
  refine f104_ok fun x hw => ?_
  obtain ⟨⟨a0, a1, a2, a3, a4, a5, a6, a7, a8, _⟩, _⟩ := x
  have l2 : List.length a2 ≤ BIG := hw.1.1.1
  have l3 : List.length a3 ≤ BIG := hw.1.2.1.1
  have l4 : List.length a4 ≤ BIG := hw.1.2.2.1.1
  have l5 : List.length a5 ≤ BIG := hw.1.2.2.2.1.1
  have l6 : List.length a6 ≤ BIG := hw.1.2.2.2.2.1.1
  have l7 : List.length a7 ≤ BIG := hw.1.2.2.2.2.2.1.1
  have l8 : List.length a8 ≤ BIG := hw.1.2.2.2.2.2.2.1.1
  show (f104_tree a0 a1 a2 a3 a4 a5 a6 a7 a8).eval = some ((((pipesOkV a4 a5), ()), ()), ((), ()))
  unfold f104_tree pipesOkV
  have h : iter f104_L0 FUEL ((a5, ((List.length a5 : Nat) : Int), (0 : Int), ()), ((a0, a1, a2, a3, a4, a5, a6, a7, a8, ()), ())) = some (if rowsV pipeKey (pipe1V a4) a5 = true then .inl ((), ((a0, a1, a2, a3, a4, a5, a6, a7, a8, ()), ())) else .inr ((false, ()), ())) := allI_loop (f := f104_L0) (List.length a5) (rowV pipeKey (pipe1V a4) a5) (fun i => ((a5, ((List.length a5 : Nat) : Int), ((i : Nat) : Int), ()), ((a0, a1, a2, a3, a4, a5, a6, a7, a8, ()), ()))) (y := ((), ((a0, a1, a2, a3, a4, a5, a6, a7, a8, ()), ()))) (z := ((false, ()), ()))
      (fun i hi => by
        have w1 := wrap_succ (i := i) (by omega)
        cases i with
        | zero =>
          rw [rowV_zero hi]
          have w3 : decide (((0 : Nat) : Int) > 0) = false := rfl
          try unfold pipe1V
          try unfold pipeKey
          simp only [f104_L0, Out.eval, lt_t hi, ge0, nth_get hi, Option.bind_some, cond_true, cond_false, w1, w3, gt4, anyEndC]
          cases p0 : inV a5[0].1 0 2 <;> cases p2 : decide (List.length a5[0].2.1 ≤ 4) <;> cases p3 : wordsOkV a5[0].2.1 <;> cases p4 : List.any a4 (isEndV a5[0].1) <;> rfl
        | succ i =>
          rw [rowV_succ hi]
          have w2 := wrap_pred i (by omega)
          have w3 : decide (((i + 1 : Nat) : Int) > 0) = true := decide_eq_true (by omega)
          try unfold pipe1V
          try unfold pipeKey
          simp only [f104_L0, Out.eval, lt_t hi, ge0, nth_get hi, Option.bind_some, cond_true, cond_false, w1, w3, gt4, anyEndC, nth_get (show i < List.length a5 by omega), w2, not_ge]
          cases p0 : inV a5[i + 1].1 0 2 <;> cases p1 : decide (a5[i].1 < a5[i + 1].1) <;> cases p2 : decide (List.length a5[i + 1].2.1 ≤ 4) <;> cases p3 : wordsOkV a5[i + 1].2.1 <;> cases p4 : List.any a4 (isEndV a5[i + 1].1) <;> rfl)
      (by simp [f104_L0, Out.eval]) l5
  refine (eval_get_some h).trans ?_
  cases rowsV pipeKey (pipe1V a4) a5
  · cases decide (List.length a5 ≤ 3) <;> rfl
  · refine (eval_alt_l _).trans ?_
    dsimp only
    rw [le3, Bool.and_true]
    rfl
end Go.Proofs.YtcinpcncclhejaaGreat.Dm
