/- Functions of the program, and what they compute. -/
import Derived.Test.YtcpjdjgipmjhdaaGreatDoorQ51
namespace Go.Proofs.YtcpjdjgipmjhdaaGreatDoor.Dm
open Go Go.ChangeShapes Go.WideShapes Go.ChangeAt Go.RowKit
abbrev f91_S2 := (Int × Int × List ProcD × Int × Int × List Int × Int × Int × Unit) × (Unit)
def f91_L2 : f91_S2 → Out (Round f91_S2 ((Int × Int × List ProcD × Int × Int × Unit) × (Unit)) Empty)
| ((p0, p1, p2, p3, p4, p5, p6, p7, _), _) =>
 .ite (decide (p7 < p6))
 (.ite (decide (0 ≤ p7))
 (.get (nth p5 (Int.toNat p7)) fun y1 =>
 .ite ((y1 == p0))
 (.ret (.again ((p0, (IntKind.i64.wrap (p1 + (1 : Int))), p2, p3, p4, p5, p6, (IntKind.i64.wrap (p7 + (1 : Int))), ()), ())))
 (.ret (.again ((p0, p1, p2, p3, p4, p5, p6, (IntKind.i64.wrap (p7 + (1 : Int))), ()), ()))))
 .fail)
 (.ret (.out ((p0, p1, p2, p3, p4, ()), ())))
abbrev f91_S0 := (Int × Int × List ProcD × Int × Int × Unit) × (Unit)
def f91_L0 : f91_S0 → Out (Round f91_S0 ((Int × Unit) × (Unit)) Empty)
| ((p0, p1, p2, p3, p4, _), _) =>
 .ite (decide (p4 < p3))
 (.ite (decide (0 ≤ p4))
 (.get (nth p2 (Int.toNat p4)) fun y1 =>
 .get (iter1 f91_L2 FUEL ((p0, p1, p2, p3, p4, y1.2.2.2.2.2.2.1, ((List.length y1.2.2.2.2.2.2.1 : Nat) : Int), (0 : Int), ()), ())) fun y2 =>
 .ret (.again ((y2.1.1, y2.1.2.1, y2.1.2.2.1, y2.1.2.2.2.1, (IntKind.i64.wrap (y2.1.2.2.2.2.1 + (1 : Int))), ()), ())))
 .fail)
 (.ret (.out ((p1, ()), ())))
def f91_tree (a0 : Int) (a1 : Int) (a2 : List (List InsD)) (a3 : List ProcD) (a4 : List OpenD) (a5 : List CpuD) (a6 : List CpuD) (a7 : List Int) (a8 : List Int) (a9 : Int) : Out (((Int × Unit) × Unit) × (Unit × Unit × Unit)) :=
 .get (iter1 f91_L0 FUEL ((a9, (0 : Int), a3, ((List.length a3 : Nat) : Int), (0 : Int), ()), ())) fun y1 =>
 .ret (((y1.1.1, ()), ()), ((), (), ()))
def f91_A : Nat → Option LoopAnn := fun n => annOf [(0, { head := { t := [.dead, .i .i64, .dead, .dead, .dead, .i .i64] ++ dd 5 ++ [.ro tyP (some 1), .i .i64, .i .i64] ++ dd 18, v := [] }, out := { t := dd 5 ++ [.i .i64] ++ dd 26, v := [] }, ret := none }), (2, { head := { t := [.dead, .i .i64, .dead, .dead, .dead, .i .i64] ++ dd 5 ++ [.ro tyP (some 1), .i .i64, .i .i64] ++ dd 4 ++ [.ro (.int .i64) none, .i .i64, .i .i64] ++ dd 11, v := [] }, out := { t := [.dead, .i .i64, .dead, .dead, .dead, .i .i64] ++ dd 5 ++ [.ro tyP (some 1), .i .i64, .i .i64] ++ dd 18, v := [] }, ret := none })] n
def k91 : Con := { f := 91, lend := true, its := [⟨false, true, [.i .i64, .i .i64, .ro (.sl tyN), .ro tyP, .ro tyO, .ro tyF, .ro tyF, .ro (.int .i64), .ro (.int .i64)]⟩, ⟨false, false, [.i .i64]⟩], lay := [none, none], rs := [⟨false, false, [.i .i64]⟩], F := fun x => .ret ((((refsV x.1.2.2.2.1 x.2.1.1), ()), ()), ((), (), ())) }
theorem f91_eq (x : itemsD k91.its) : bo [] f91_A Tryz.f91 k91 [.tmp 4] x = f91_tree x.1.1 x.1.2.1 x.1.2.2.1 x.1.2.2.2.1 x.1.2.2.2.2.1 x.1.2.2.2.2.2.1 x.1.2.2.2.2.2.2.1 x.1.2.2.2.2.2.2.2.1 x.1.2.2.2.2.2.2.2.2.1 x.2.1.1 := by kernel_rfl
theorem f91_ok (hr : ∀ x : UnixD × (Int × Unit) × Unit, itemsWF k91.its x → (f91_tree x.1.1 x.1.2.1 x.1.2.2.1 x.1.2.2.2.1 x.1.2.2.2.2.1 x.1.2.2.2.2.2.1 x.1.2.2.2.2.2.2.1 x.1.2.2.2.2.2.2.2.1 x.1.2.2.2.2.2.2.2.2.1 x.2.1.1).eval = (k91.F x).eval) : k91.Ok Tryz.prog := con_fn [] trivial f91_eq fun x hw _ hy => (hr x hw).trans hy
theorem k91_ok : k91.Ok Tryz.prog := by
  refine f91_ok fun x hw => ?_
  obtain ⟨⟨a0, a1, a2, a3, a4, a5, a6, a7, a8, _⟩, ⟨a9, _⟩, _⟩ := x
  have l2 : List.length a2 ≤ BIG := hw.1.1.1
  have l3 : List.length a3 ≤ BIG := hw.1.2.1.1
  have l4 : List.length a4 ≤ BIG := hw.1.2.2.1.1
  have l5 : List.length a5 ≤ BIG := hw.1.2.2.2.1.1
  have l6 : List.length a6 ≤ BIG := hw.1.2.2.2.2.1.1
  have l7 : List.length a7 ≤ BIG := hw.1.2.2.2.2.2.1.1
  have l8 : List.length a8 ≤ BIG := hw.1.2.2.2.2.2.2.1.1
  show (f91_tree a0 a1 a2 a3 a4 a5 a6 a7 a8 a9).eval = some ((((refsV a3 a9), ()), ()), ((), (), ()))
  unfold f91_tree refsV
  have inner : ∀ (n : Int) (j : Nat) (hj : j < List.length a3), iter1 f91_L2 FUEL ((a9, n, a3, ((List.length a3 : Nat) : Int), ((j : Nat) : Int), a3[j].2.2.2.2.2.2.1, ((List.length a3[j].2.2.2.2.2.2.1 : Nat) : Int), (0 : Int), ()), ()) =
      some ((a9, List.foldl (fun n f => cntV f a9 n) n a3[j].2.2.2.2.2.2.1, a3, ((List.length a3 : Nat) : Int), ((j : Nat) : Int), ()), ()) := fun n j hj => by
    have lj : List.length a3[j].2.2.2.2.2.2.1 ≤ BIG := (hw.1.2.1.2 j a3[j] (List.getElem?_eq_getElem hj)).2.2.2.2.2.2.1.1
    exact foldl_loop (f := f91_L2) (fun _ _ => True) (fun n f => cntV f a9 n) a3[j].2.2.2.2.2.2.1 (fun d i => ((a9, d, a3, ((List.length a3 : Nat) : Int), ((j : Nat) : Int), a3[j].2.2.2.2.2.2.1, ((List.length a3[j].2.2.2.2.2.2.1 : Nat) : Int), ((i : Nat) : Int), ()), ()))
      (fun d => ((a9, d, a3, ((List.length a3 : Nat) : Int), ((j : Nat) : Int), ()), ()))
      (fun i hi d _ => by
        have h1 := wrap_succ (i := i) (by omega)
        by_cases q : a3[j].2.2.2.2.2.2.1[i] = a9 <;> simp [f91_L2, Out.eval, hi, h1, cntV, cond_eq_ite, q])
      (fun d _ => by simp [f91_L2, Out.eval]) (fun _ _ _ _ => trivial) lj n trivial
  have h : iter1 f91_L0 FUEL ((a9, (0 : Int), a3, ((List.length a3 : Nat) : Int), (0 : Int), ()), ()) = some (((List.foldl (fun (n : Int) (p : ProcD) => p.2.2.2.2.2.2.1.foldl (fun n f => cntV f a9 n) n) (0 : Int) a3), ()), ()) := foldl_loop (f := f91_L0) (fun _ _ => True) (fun (n : Int) (p : ProcD) => p.2.2.2.2.2.2.1.foldl (fun n f => cntV f a9 n) n) a3 (fun d i => ((a9, d, a3, ((List.length a3 : Nat) : Int), ((i : Nat) : Int), ()), ())) (fun d => ((d, ()), ()))
      (fun i hi d _ => by
        have h1 := wrap_succ (i := i) (by omega)
        simp [f91_L0, Out.eval, hi, h1, inner d i hi])
      (fun d _ => by simp [f91_L0, Out.eval]) (fun _ _ _ _ => trivial) l3 (0 : Int) trivial
  exact eval_get_some h
def f56_tree (a0 : Int) (a1 : Int) (a2 : List (List InsD)) (a3 : List ProcD) (a4 : List OpenD) (a5 : List CpuD) (a6 : List CpuD) (a7 : List Int) (a8 : List Int) (a9 : Int) (a10 : Int) (a11 : Int) (a12 : Int) (a13 : Int) : Out (((Bool × Unit) × Unit) × (Unit × Unit × Unit)) :=
 .ite ((!(inV a9 (0 : Int) (7 : Int))) == false)
 (.ite (((a13 == (0 : Int))) == false)
 (.ite ((a13 != (refsV a3 a9)))
 (.ret (((false, ()), ()), ((), (), ())))
 (.ite ((a10 == (1 : Int)))
 (.ite (((a11 == (0 : Int))) == true)
 (.ret (((((a12 == (0 : Int))), ()), ()), ((), (), ())))
 (.ret (((false, ()), ()), ((), (), ()))))
 (.ite ((a10 == (2 : Int)))
 (.ite ((decide ((fileAtV a6 a11) ≥ (0 : Int))) == true)
 (.ite (decide (0 ≤ (fileAtV a6 a11)))
 (.get (nth a6 (Int.toNat (fileAtV a6 a11))) fun y1 =>
 .ret ((((inV a12 (0 : Int) ((List.length y1.2.1 : Nat) : Int)), ()), ()), ((), (), ())))
 .fail)
 (.ret (((false, ()), ()), ((), (), ()))))
 (.ite ((a10 == (3 : Int)))
 (.ite ((decide ((pipeAtV a5 a11) ≥ (0 : Int))) == true)
 (.ret (((((a12 == (0 : Int))), ()), ()), ((), (), ())))
 (.ret (((false, ()), ()), ((), (), ()))))
 (.ite ((a10 == (4 : Int)))
 (.ite ((decide ((pipeAtV a5 a11) ≥ (0 : Int))) == true)
 (.ret (((((a12 == (0 : Int))), ()), ()), ((), (), ())))
 (.ret (((false, ()), ()), ((), (), ()))))
 (.ret (((false, ()), ()), ((), (), ()))))))))
 (.ret (((false, ()), ()), ((), (), ()))))
 (.ret (((false, ()), ()), ((), (), ())))
def k56 : Con := { f := 56, lend := true, its := [⟨false, true, [.i .i64, .i .i64, .ro (.sl tyN), .ro tyP, .ro tyO, .ro tyF, .ro tyF, .ro (.int .i64), .ro (.int .i64)]⟩, ⟨false, true, [.i .i64, .i .i64, .i .i64, .i .i64, .i .i64]⟩], lay := [none, none], rs := [⟨false, false, [.b]⟩], F := fun x => .ret ((((openOkV x.1.2.2.2.1 x.1.2.2.2.2.2.1 x.1.2.2.2.2.2.2.1 x.2.1.1 x.2.1.2.1 x.2.1.2.2.1 x.2.1.2.2.2.1 x.2.1.2.2.2.2.1), ()), ()), ((), (), ())) }
theorem f56_eq (x : itemsD k56.its) : bo [k50, k91, k92, k93] (fun _ => none) Tryz.f56 k56 [.tmp 4] x = f56_tree x.1.1 x.1.2.1 x.1.2.2.1 x.1.2.2.2.1 x.1.2.2.2.2.1 x.1.2.2.2.2.2.1 x.1.2.2.2.2.2.2.1 x.1.2.2.2.2.2.2.2.1 x.1.2.2.2.2.2.2.2.2.1 x.2.1.1 x.2.1.2.1 x.2.1.2.2.1 x.2.1.2.2.2.1 x.2.1.2.2.2.2.1 := by kernel_rfl
theorem f56_ok (hr : ∀ x : UnixD × OpenD × Unit, itemsWF k56.its x → (f56_tree x.1.1 x.1.2.1 x.1.2.2.1 x.1.2.2.2.1 x.1.2.2.2.2.1 x.1.2.2.2.2.2.1 x.1.2.2.2.2.2.2.1 x.1.2.2.2.2.2.2.2.1 x.1.2.2.2.2.2.2.2.2.1 x.2.1.1 x.2.1.2.1 x.2.1.2.2.1 x.2.1.2.2.2.1 x.2.1.2.2.2.2.1).eval = (k56.F x).eval) : k56.Ok Tryz.prog := con_fn [k50, k91, k92, k93] ⟨k50_ok, k91_ok, k92_ok, k93_ok, trivial⟩ f56_eq fun x hw _ hy => (hr x hw).trans hy
theorem k56_ok : k56.Ok Tryz.prog := by
  refine f56_ok fun x hw => ?_
  obtain ⟨⟨a0, a1, a2, a3, a4, a5, a6, a7, a8, _⟩, ⟨a9, a10, a11, a12, a13, _⟩, _⟩ := x
  have l2 : List.length a2 ≤ BIG := hw.1.1.1
  have l3 : List.length a3 ≤ BIG := hw.1.2.1.1
  have l4 : List.length a4 ≤ BIG := hw.1.2.2.1.1
  have l5 : List.length a5 ≤ BIG := hw.1.2.2.2.1.1
  have l6 : List.length a6 ≤ BIG := hw.1.2.2.2.2.1.1
  have l7 : List.length a7 ≤ BIG := hw.1.2.2.2.2.2.1.1
  have l8 : List.length a8 ≤ BIG := hw.1.2.2.2.2.2.2.1.1
  show (f56_tree a0 a1 a2 a3 a4 a5 a6 a7 a8 a9 a10 a11 a12 a13).eval = some ((((openOkV a3 a5 a6 a9 a10 a11 a12 a13), ()), ()), ((), (), ()))
  unfold f56_tree
  unfold openOkV
  generalize refsV a3 a9 = r
  by_cases c3 : inV a9 0 7 = true
  case neg => rw [eval_ite_f (by simp [c3])]; simp [Out.eval, c3]
  rw [eval_ite_t (by simp [c3])]
  by_cases c1 : a13 = 0
  · rw [eval_ite_f (by simp [c1])]
    have e : (!(r == 0) && a13 == r && inV a9 0 7 && kindOkV a5 a6 a10 a11 a12) = false := by
      subst c1
      by_cases q : r = 0
      · simp [q]
      · have : ((0 : Int) == r) = false := by simpa using fun h => q h.symm
        simp [this]
    rw [e]; rfl
  rw [eval_ite_t (by simp [c1])]
  by_cases c2 : a13 = r
  case neg => rw [eval_ite_t (by simp [c2])]; simp [Out.eval, c2]
  rw [eval_ite_f (by simp [c2])]
  refine (kind_tail a10 a11 a12 a5 a6 (fun b => (((b, ()), ()), ((), (), ())))).trans ?_
  subst c2
  simp [c1, c3]
def isEndF (kind target pipe : Int) : Bool := (kind == 3 && target == pipe) || (kind == 4 && target == pipe)
def f96_tree (a0 : Int) (a1 : Int) (a2 : Int) (a3 : Int) (a4 : Int) (a5 : Int) : Out (((Bool × Unit) × Unit) × (Unit × Unit × Unit)) :=
 .ite (((a1 == (3 : Int))) == false)
 (.ite (((a1 == (4 : Int))) == true)
 (.ret (((((a2 == a5)), ()), ()), ((), (), ())))
 (.ret (((false, ()), ()), ((), (), ()))))
 (.ret (((((a2 == a5)), ()), ()), ((), (), ())))
def k96 : Con := { f := 96, lend := true, its := [⟨false, true, [.i .i64, .i .i64, .i .i64, .i .i64, .i .i64]⟩, ⟨false, false, [.i .i64]⟩], lay := [none, none], rs := [⟨false, false, [.b]⟩], F := fun x => .ret ((((isEndF x.1.2.1 x.1.2.2.1 x.2.1.1), ()), ()), ((), (), ())) }
theorem f96_eq (x : itemsD k96.its) : bo [] (fun _ => none) Tryz.f96 k96 [.tmp 4] x = f96_tree x.1.1 x.1.2.1 x.1.2.2.1 x.1.2.2.2.1 x.1.2.2.2.2.1 x.2.1.1 := by kernel_rfl
theorem f96_ok (hr : ∀ x : OpenD × (Int × Unit) × Unit, itemsWF k96.its x → (f96_tree x.1.1 x.1.2.1 x.1.2.2.1 x.1.2.2.2.1 x.1.2.2.2.2.1 x.2.1.1).eval = (k96.F x).eval) : k96.Ok Tryz.prog := con_fn [] trivial f96_eq fun x hw _ hy => (hr x hw).trans hy
theorem k96_ok : k96.Ok Tryz.prog := by
  refine f96_ok fun x hw => ?_
  obtain ⟨⟨a0, a1, a2, a3, a4, _⟩, ⟨a5, _⟩, _⟩ := x
  show (f96_tree a0 a1 a2 a3 a4 a5).eval = some ((((isEndF a1 a2 a5), ()), ()), ((), (), ()))
  unfold f96_tree isEndF
  simp only [Out.eval, cond_eq_ite]
  all_goals ((repeat' split) <;> simp_all)
def isEndC (kind target pipe : Int) : Bool × Int := (isEndF kind target pipe, pipe)
def f95_tree (a0 : Int) (a1 : Int) (a2 : Int) (a3 : Int) (a4 : Int) (a5 : Int) (a6 : List Int) : Out (((Bool × Unit) × Unit) × (Unit × (Int × Unit) × Unit)) :=
 .ret ((((isEndF a1 a2 a5), ()), ()), ((), (a5, ()), ()))
def k95 : Con := { f := 95, lend := true, its := [⟨false, true, [.i .i64, .i .i64, .i .i64, .i .i64, .i .i64]⟩, ⟨true, false, [.i .i64, .ro (.int .i64)]⟩], lay := [none, none], rs := [⟨false, false, [.b]⟩], F := fun x => .ret ((((isEndC x.1.2.1 x.1.2.2.1 x.2.1.1).1, ()), ()), ((), ((isEndC x.1.2.1 x.1.2.2.1 x.2.1.1).2, ()), ())) }
theorem f95_eq (x : itemsD k95.its) : bo [k96] (fun _ => none) Tryz.f95 k95 [.tmp 3] x = f95_tree x.1.1 x.1.2.1 x.1.2.2.1 x.1.2.2.2.1 x.1.2.2.2.2.1 x.2.1.1 x.2.1.2.1 := by kernel_rfl
theorem f95_ok (hr : ∀ x : OpenD × CpuD × Unit, itemsWF k95.its x → (f95_tree x.1.1 x.1.2.1 x.1.2.2.1 x.1.2.2.2.1 x.1.2.2.2.2.1 x.2.1.1 x.2.1.2.1).eval = (k95.F x).eval) : k95.Ok Tryz.prog := con_fn [k96] ⟨k96_ok, trivial⟩ f95_eq fun x hw _ hy => (hr x hw).trans hy
theorem k95_ok : k95.Ok Tryz.prog := by
  refine f95_ok fun x hw => ?_
  obtain ⟨⟨a0, a1, a2, a3, a4, _⟩, ⟨a5, a6, _⟩, _⟩ := x
  have l6 : List.length a6 ≤ BIG := hw.2.1.1.1
  show (f95_tree a0 a1 a2 a3 a4 a5 a6).eval = some ((((isEndC a1 a2 a5).1, ()), ()), ((), ((isEndC a1 a2 a5).2, ()), ()))
  unfold f95_tree isEndC
  simp only [Out.eval, cond_eq_ite]
  all_goals ((repeat' split) <;> simp_all)
def endIdxC (a : List OpenD) (pipe : Int) : Int × Int := (idxV (a.findIdx? (isEndV pipe)), pipe)
abbrev f113e_S0 := (List OpenD × Int × Int × Unit) × ((Int × List Int × Unit) × Unit)
def f113e_L0 : f113e_S0 → Out (Round f113e_S0 ((Unit) × ((Int × List Int × Unit) × Unit)) ((Int × Unit) × ((Int × List Int × Unit) × Unit)))
| ((p0, p1, p2, _), (p3, p4, _), _) =>
 .ite (decide (p2 < p1))
 (.ite (decide (0 ≤ p2))
 (.get (nth p0 (Int.toNat p2)) fun y1 =>
 .ite ((isEndC y1.2.1 y1.2.2.1 p3).1)
 (.ret (.ret ((p2, ()), (((isEndC y1.2.1 y1.2.2.1 p3).2, p4, ()), ()))))
 (.ret (.again ((p0, p1, (IntKind.i64.wrap (p2 + (1 : Int))), ()), (((isEndC y1.2.1 y1.2.2.1 p3).2, p4, ()), ())))))
 .fail)
 (.ret (.out ((), ((p3, p4, ()), ()))))
def f113e_tree (a0 : List OpenD) (a1 : Int) (a2 : List Int) : Out (((Int × Unit) × Unit) × (Unit × (Int × Unit) × Unit)) :=
 .get (iter f113e_L0 FUEL ((a0, ((List.length a0 : Nat) : Int), (0 : Int), ()), ((a1, a2, ()), ()))) fun y1 => .alt y1 (fun y2 =>
 .ret ((((-1 : Int), ()), ()), ((), (y2.2.1.1, ()), ()))) (fun y3 =>
 .ret (((y3.1.1, ()), ()), ((), (y3.2.1.1, ()), ())))
def f113e_A : Nat → Option LoopAnn := fun n => annOf [(0, { head := { t := [.ro tyO (some 0), .fn 95 [1]] ++ dd 5 ++ [.i .i64, .i .i64] ++ dd 10, v := [(1, .var [.i .i64, .ro (.int .i64) (some 2)])] }, out := { t := [.dead, .fn 95 [1]] ++ dd 17, v := [(1, .var [.i .i64, .ro (.int .i64) (some 2)])] }, ret := some { t := [.dead, .fn 95 [1], .dead, .dead, .i .i64] ++ dd 14, v := [(1, .var [.i .i64, .ro (.int .i64) (some 2)])] } })] n
def k113e : Con := { f := 113, lend := true, its := [⟨false, false, [.ro tyO]⟩, ⟨true, false, [.i .i64, .ro (.int .i64)]⟩], lay := [none, some (95, 1)], rs := [⟨false, false, [.i .i64]⟩], F := fun x => .ret ((((endIdxC x.1.1 x.2.1.1).1, ()), ()), ((), ((endIdxC x.1.1 x.2.1.1).2, ()), ())) }
theorem f113e_eq (x : itemsD k113e.its) : bo [k95] f113e_A Tryz.f113 k113e [.tmp 4] x = f113e_tree x.1.1 x.2.1.1 x.2.1.2.1 := by kernel_rfl
theorem f113e_ok (hr : ∀ x : (List OpenD × Unit) × CpuD × Unit, itemsWF k113e.its x → (f113e_tree x.1.1 x.2.1.1 x.2.1.2.1).eval = (k113e.F x).eval) : k113e.Ok Tryz.prog := con_fn [k95] ⟨k95_ok, trivial⟩ f113e_eq fun x hw _ hy => (hr x hw).trans hy
theorem k113e_ok : k113e.Ok Tryz.prog := by
  refine f113e_ok fun x hw => ?_
  obtain ⟨⟨a0, _⟩, ⟨a1, a2, _⟩, _⟩ := x
  have l0 : List.length a0 ≤ BIG := hw.1.1.1
  have l2 : List.length a2 ≤ BIG := hw.2.1.1.1
  show (f113e_tree a0 a1 a2).eval = some ((((endIdxC a0 a1).1, ()), ()), ((), ((endIdxC a0 a1).2, ()), ()))
  unfold f113e_tree endIdxC
  have h : iter f113e_L0 FUEL ((a0, ((List.length a0 : Nat) : Int), (0 : Int), ()), ((a1, a2, ()), ())) = some (match List.findIdx? (isEndV a1) a0 with | some i => .inr ((((i : Nat) : Int), ()), ((a1, a2, ()), ())) | none => .inl ((), ((a1, a2, ()), ()))) := idx_loop (f := f113e_L0) a0 (isEndV a1) (fun i => ((a0, ((List.length a0 : Nat) : Int), ((i : Nat) : Int), ()), ((a1, a2, ()), ()))) (y := ((), ((a1, a2, ()), ()))) (z := fun i => ((((i : Nat) : Int), ()), ((a1, a2, ()), ())))
      (fun i hi hp => by
        have h1 := wrap_succ (i := i) (by omega)
        simp [f113e_L0, Out.eval, hi, h1, cond_eq_ite, isEndC, isEndF, isEndV, endV] at hp ⊢ <;> (try simp_all) <;> (try (rcases hp with h | h <;> simp_all)))
      (fun i hi hp => by simp [f113e_L0, Out.eval, hi, cond_eq_ite, isEndC, isEndF, isEndV, endV] at hp ⊢ <;> (try simp_all) <;> (try (rcases hp with h | h <;> simp_all)))
      (by simp [f113e_L0, Out.eval]) l0
  refine (eval_get_some h).trans ?_
  cases List.findIdx? (isEndV a1) a0 <;> rfl
def anyEndC (a : List OpenD) (pipe : Int) : Bool × Int := (a.any (isEndV pipe), pipe)
def f94e_tree (a0 : List OpenD) (a1 : Int) (a2 : List Int) : Out (((Bool × Unit) × Unit) × (Unit × (Int × Unit) × Unit)) :=
 .ret ((((decide ((endIdxC a0 a1).1 ≥ (0 : Int))), ()), ()), ((), ((endIdxC a0 a1).2, ()), ()))
def k94e : Con := { f := 94, lend := true, its := [⟨false, false, [.ro tyO]⟩, ⟨true, false, [.i .i64, .ro (.int .i64)]⟩], lay := [none, some (95, 1)], rs := [⟨false, false, [.b]⟩], F := fun x => .ret ((((anyEndC x.1.1 x.2.1.1).1, ()), ()), ((), ((anyEndC x.1.1 x.2.1.1).2, ()), ())) }
theorem f94e_eq (x : itemsD k94e.its) : bo [k113e] (fun _ => none) Tryz.f94 k94e [.tmp 4] x = f94e_tree x.1.1 x.2.1.1 x.2.1.2.1 := by kernel_rfl
theorem f94e_ok (hr : ∀ x : (List OpenD × Unit) × CpuD × Unit, itemsWF k94e.its x → (f94e_tree x.1.1 x.2.1.1 x.2.1.2.1).eval = (k94e.F x).eval) : k94e.Ok Tryz.prog := con_fn [k113e] ⟨k113e_ok, trivial⟩ f94e_eq fun x hw _ hy => (hr x hw).trans hy
theorem k94e_ok : k94e.Ok Tryz.prog := by
  refine f94e_ok fun x hw => ?_
  obtain ⟨⟨a0, _⟩, ⟨a1, a2, _⟩, _⟩ := x
  have l0 : List.length a0 ≤ BIG := hw.1.1.1
  have l2 : List.length a2 ≤ BIG := hw.2.1.1.1
  show (f94e_tree a0 a1 a2).eval = some ((((anyEndC a0 a1).1, ()), ()), ((), ((anyEndC a0 a1).2, ()), ()))
  unfold f94e_tree anyEndC endIdxC
  rw [idxV_ge]
  rfl
abbrev f57_S0 := (Int × List ProcD × Int × Int × Unit) × (Unit)
def f57_L0 : f57_S0 → Out (Round f57_S0 ((Int × Unit) × (Unit)) Empty)
| ((p0, p1, p2, p3, _), _) =>
 .ite (decide (p3 < p2))
 (.ite (decide (0 ≤ p3))
 (.get (nth p1 (Int.toNat p3)) fun y1 =>
 .ret (.again (((IntKind.i64.wrap (p0 + ((List.length y1.2.2.2.2.2.1 : Nat) : Int))), p1, p2, (IntKind.i64.wrap (p3 + (1 : Int))), ()), ())))
 .fail)
 (.ret (.out ((p0, ()), ())))
def f57_tree (a0 : Int) (a1 : Int) (a2 : List (List InsD)) (a3 : List ProcD) (a4 : List OpenD) (a5 : List CpuD) (a6 : List CpuD) (a7 : List Int) (a8 : List Int) : Out (((Int × Unit) × Unit) × (Unit × Unit)) :=
 .get (iter1 f57_L0 FUEL (((0 : Int), a3, ((List.length a3 : Nat) : Int), (0 : Int), ()), ())) fun y1 =>
 .ret (((y1.1.1, ()), ()), ((), ()))
def f57_A : Nat → Option LoopAnn := fun n => annOf [(0, { head := { t := [.dead, .dead, .dead, .i .i64, .dead, .dead, .dead, .ro tyP (some 1), .i .i64, .i .i64] ++ dd 10, v := [] }, out := { t := [.dead, .dead, .dead, .i .i64] ++ dd 16, v := [] }, ret := none })] n
def k57 : Con := { f := 57, lend := true, its := [⟨false, true, [.i .i64, .i .i64, .ro (.sl tyN), .ro tyP, .ro tyO, .ro tyF, .ro tyF, .ro (.int .i64), .ro (.int .i64)]⟩], lay := [none], rs := [⟨false, false, [.i .i64]⟩], F := fun x => .ret ((((wordsV x.1.2.2.2.1), ()), ()), ((), ())) }
theorem f57_eq (x : itemsD k57.its) : bo [] f57_A Tryz.f57 k57 [.tmp 2] x = f57_tree x.1.1 x.1.2.1 x.1.2.2.1 x.1.2.2.2.1 x.1.2.2.2.2.1 x.1.2.2.2.2.2.1 x.1.2.2.2.2.2.2.1 x.1.2.2.2.2.2.2.2.1 x.1.2.2.2.2.2.2.2.2.1 := by kernel_rfl
theorem f57_ok (hr : ∀ x : UnixD × Unit, itemsWF k57.its x → (f57_tree x.1.1 x.1.2.1 x.1.2.2.1 x.1.2.2.2.1 x.1.2.2.2.2.1 x.1.2.2.2.2.2.1 x.1.2.2.2.2.2.2.1 x.1.2.2.2.2.2.2.2.1 x.1.2.2.2.2.2.2.2.2.1).eval = (k57.F x).eval) : k57.Ok Tryz.prog := con_fn [] trivial f57_eq fun x hw _ hy => (hr x hw).trans hy
theorem k57_ok : k57.Ok Tryz.prog := by
  refine f57_ok fun x hw => ?_
  obtain ⟨⟨a0, a1, a2, a3, a4, a5, a6, a7, a8, _⟩, _⟩ := x
  have l2 : List.length a2 ≤ BIG := hw.1.1.1
  have l3 : List.length a3 ≤ BIG := hw.1.2.1.1
  have l4 : List.length a4 ≤ BIG := hw.1.2.2.1.1
  have l5 : List.length a5 ≤ BIG := hw.1.2.2.2.1.1
  have l6 : List.length a6 ≤ BIG := hw.1.2.2.2.2.1.1
  have l7 : List.length a7 ≤ BIG := hw.1.2.2.2.2.2.1.1
  have l8 : List.length a8 ≤ BIG := hw.1.2.2.2.2.2.2.1.1
  show (f57_tree a0 a1 a2 a3 a4 a5 a6 a7 a8).eval = some ((((wordsV a3), ()), ()), ((), ()))
  unfold f57_tree wordsV
  have h : iter1 f57_L0 FUEL (((0 : Int), a3, ((List.length a3 : Nat) : Int), (0 : Int), ()), ()) = some (((List.foldl (fun (n : Int) (p : ProcD) => IntKind.i64.wrap (n + ((p.2.2.2.2.2.1.length : Nat) : Int))) (0 : Int) a3), ()), ()) := foldl_loop (f := f57_L0) (fun _ _ => True) (fun (n : Int) (p : ProcD) => IntKind.i64.wrap (n + ((p.2.2.2.2.2.1.length : Nat) : Int))) a3 (fun d i => ((d, a3, ((List.length a3 : Nat) : Int), ((i : Nat) : Int), ()), ())) (fun d => ((d, ()), ()))
      (fun i hi d _ => by
        have h1 := wrap_succ (i := i) (by omega)
        simp [f57_L0, Out.eval, hi, h1, cond_eq_ite])
      (fun d _ => by simp [f57_L0, Out.eval]) (fun _ _ _ _ => trivial) l3 (0 : Int) trivial
  exact eval_get_some h
abbrev f58_S0 := (List CpuD × Int × Int × Unit) × (UnixD × Unit)
def f58_L0 : f58_S0 → Out (Round f58_S0 ((Unit) × (UnixD × Unit)) ((Bool × Unit) × (Unit)))
| ((p0, p1, p2, _), (p3, p4, p5, p6, p7, p8, p9, p10, p11, _), _) =>
 .ite (decide (p2 < p1))
 (.ite (decide (0 ≤ p2))
 (.get (nth p0 (Int.toNat p2)) fun y1 =>
 .ite ((!(inV y1.1 (0 : Int) (2 : Int))) == false)
 (.ite ((decide (p2 > (0 : Int))) == true)
 (.ite (decide (0 ≤ (IntKind.i64.wrap (p2 - (1 : Int)))))
 (.get (nth p8 (Int.toNat (IntKind.i64.wrap (p2 - (1 : Int))))) fun y2 =>
 .ite ((decide (y2.1 ≥ y1.1)) == false)
 (.ite ((decide (((List.length y1.2.1 : Nat) : Int) > (4 : Int))) == false)
 (.ite (!(wordsOkV y1.2.1))
 (.ret (.ret ((false, ()), ())))
 (.ite (!(anyEndC p7 y1.1).1)
 (.ret (.ret ((false, ()), ())))
 (.ret (.again ((p0, p1, (IntKind.i64.wrap (p2 + (1 : Int))), ()), ((p3, p4, p5, p6, p7, p8, p9, p10, p11, ()), ()))))))
 (.ret (.ret ((false, ()), ()))))
 (.ret (.ret ((false, ()), ()))))
 .fail)
 (.ite ((decide (((List.length y1.2.1 : Nat) : Int) > (4 : Int))) == false)
 (.ite (!(wordsOkV y1.2.1))
 (.ret (.ret ((false, ()), ())))
 (.ite (!(anyEndC p7 y1.1).1)
 (.ret (.ret ((false, ()), ())))
 (.ret (.again ((p0, p1, (IntKind.i64.wrap (p2 + (1 : Int))), ()), ((p3, p4, p5, p6, p7, p8, p9, p10, p11, ()), ()))))))
 (.ret (.ret ((false, ()), ())))))
 (.ret (.ret ((false, ()), ()))))
 .fail)
 (.ret (.out ((), ((p3, p4, p5, p6, p7, p8, p9, p10, p11, ()), ()))))
def f58_tree (a0 : Int) (a1 : Int) (a2 : List (List InsD)) (a3 : List ProcD) (a4 : List OpenD) (a5 : List CpuD) (a6 : List CpuD) (a7 : List Int) (a8 : List Int) : Out (((Bool × Unit) × Unit) × (Unit × Unit)) :=
 .get (iter f58_L0 FUEL ((a5, ((List.length a5 : Nat) : Int), (0 : Int), ()), ((a0, a1, a2, a3, a4, a5, a6, a7, a8, ()), ()))) fun y1 => .alt y1 (fun y2 =>
 .ret ((((decide (((List.length y2.2.1.2.2.2.2.2.1 : Nat) : Int) ≤ (3 : Int))), ()), ()), ((), ()))) (fun y3 =>
 .ret (((y3.1.1, ()), ()), ((), ())))
def f58_A : Nat → Option LoopAnn := fun n => annOf [(0, { head := { t := [.dead, .vptr 64000000 0] ++ dd 4 ++ [.ro tyF (some 3), .i .i64, .i .i64] ++ dd 46, v := [(64000000, .var [.i .i64, .i .i64, .ro (.sl tyN) (some 0), .ro tyP (some 1), .ro tyO (some 2), .ro tyF (some 3), .ro tyF (some 4), .ro (.int .i64) (some 5), .ro (.int .i64) (some 6)])] }, out := { t := [.dead, .vptr 64000256 0] ++ dd 53, v := [(64000256, .var [.i .i64, .i .i64, .ro (.sl tyN) (some 0), .ro tyP (some 1), .ro tyO (some 2), .ro tyF (some 3), .ro tyF (some 4), .ro (.int .i64) (some 5), .ro (.int .i64) (some 6)])] }, ret := some { t := [.dead, .dead, .b] ++ dd 52, v := [] } })] n
def k58 : Con := { f := 58, lend := true, its := [⟨false, true, [.i .i64, .i .i64, .ro (.sl tyN), .ro tyP, .ro tyO, .ro tyF, .ro tyF, .ro (.int .i64), .ro (.int .i64)]⟩], lay := [none], rs := [⟨false, false, [.b]⟩], F := fun x => .ret ((((pipesOkV x.1.2.2.2.2.1 x.1.2.2.2.2.2.1), ()), ()), ((), ())) }
theorem f58_eq (x : itemsD k58.its) : bo [k50, k51, k94e] f58_A Tryz.f58 k58 [.tmp 2] x = f58_tree x.1.1 x.1.2.1 x.1.2.2.1 x.1.2.2.2.1 x.1.2.2.2.2.1 x.1.2.2.2.2.2.1 x.1.2.2.2.2.2.2.1 x.1.2.2.2.2.2.2.2.1 x.1.2.2.2.2.2.2.2.2.1 := by kernel_rfl
theorem f58_ok (hr : ∀ x : UnixD × Unit, itemsWF k58.its x → (f58_tree x.1.1 x.1.2.1 x.1.2.2.1 x.1.2.2.2.1 x.1.2.2.2.2.1 x.1.2.2.2.2.2.1 x.1.2.2.2.2.2.2.1 x.1.2.2.2.2.2.2.2.1 x.1.2.2.2.2.2.2.2.2.1).eval = (k58.F x).eval) : k58.Ok Tryz.prog := con_fn [k50, k51, k94e] ⟨k50_ok, k51_ok, k94e_ok, trivial⟩ f58_eq fun x hw _ hy => (hr x hw).trans hy
theorem k58_ok : k58.Ok Tryz.prog := by
  refine f58_ok fun x hw => ?_
  obtain ⟨⟨a0, a1, a2, a3, a4, a5, a6, a7, a8, _⟩, _⟩ := x
  have l2 : List.length a2 ≤ BIG := hw.1.1.1
  have l3 : List.length a3 ≤ BIG := hw.1.2.1.1
  have l4 : List.length a4 ≤ BIG := hw.1.2.2.1.1
  have l5 : List.length a5 ≤ BIG := hw.1.2.2.2.1.1
  have l6 : List.length a6 ≤ BIG := hw.1.2.2.2.2.1.1
  have l7 : List.length a7 ≤ BIG := hw.1.2.2.2.2.2.1.1
  have l8 : List.length a8 ≤ BIG := hw.1.2.2.2.2.2.2.1.1
  show (f58_tree a0 a1 a2 a3 a4 a5 a6 a7 a8).eval = some ((((pipesOkV a4 a5), ()), ()), ((), ()))
  unfold f58_tree pipesOkV
  have h : iter f58_L0 FUEL ((a5, ((List.length a5 : Nat) : Int), (0 : Int), ()), ((a0, a1, a2, a3, a4, a5, a6, a7, a8, ()), ())) = some (if rowsV pipeKey (pipe1V a4) a5 = true then .inl ((), ((a0, a1, a2, a3, a4, a5, a6, a7, a8, ()), ())) else .inr ((false, ()), ())) := allI_loop (f := f58_L0) (List.length a5) (rowV pipeKey (pipe1V a4) a5) (fun i => ((a5, ((List.length a5 : Nat) : Int), ((i : Nat) : Int), ()), ((a0, a1, a2, a3, a4, a5, a6, a7, a8, ()), ()))) (y := ((), ((a0, a1, a2, a3, a4, a5, a6, a7, a8, ()), ()))) (z := ((false, ()), ()))
      (fun i hi => by
        have w1 := wrap_succ (i := i) (by omega)
        cases i with
        | zero =>
          rw [rowV_zero hi]
          have w3 : decide (((0 : Nat) : Int) > 0) = false := rfl
          try unfold pipe1V
          try unfold pipeKey
          simp only [f58_L0, Out.eval, lt_t hi, ge0, nth_get hi, Option.bind_some, cond_true, cond_false, w1, w3, gt4, anyEndC]
          cases p0 : inV a5[0].1 0 2 <;> cases p2 : decide (List.length a5[0].2.1 ≤ 4) <;> cases p3 : wordsOkV a5[0].2.1 <;> cases p4 : List.any a4 (isEndV a5[0].1) <;> rfl
        | succ i =>
          rw [rowV_succ hi]
          have w2 := wrap_pred i (by omega)
          have w3 : decide (((i + 1 : Nat) : Int) > 0) = true := decide_eq_true (by omega)
          try unfold pipe1V
          try unfold pipeKey
          simp only [f58_L0, Out.eval, lt_t hi, ge0, nth_get hi, Option.bind_some, cond_true, cond_false, w1, w3, gt4, anyEndC, nth_get (show i < List.length a5 by omega), w2, not_ge]
          cases p0 : inV a5[i + 1].1 0 2 <;> cases p1 : decide (a5[i].1 < a5[i + 1].1) <;> cases p2 : decide (List.length a5[i + 1].2.1 ≤ 4) <;> cases p3 : wordsOkV a5[i + 1].2.1 <;> cases p4 : List.any a4 (isEndV a5[i + 1].1) <;> rfl)
      (by simp [f58_L0, Out.eval]) l5
  refine (eval_get_some h).trans ?_
  cases rowsV pipeKey (pipe1V a4) a5
  · cases decide (List.length a5 ≤ 3) <;> rfl
  · refine (eval_alt_l _).trans ?_
    dsimp only
    rw [le3, Bool.and_true]
    rfl
end Go.Proofs.YtcpjdjgipmjhdaaGreatDoor.Dm
