/- Functions of the program, and what they compute. -/
import Derived.Test.YtnnpnkegpkladaaGreatQ51
namespace Go.Proofs.YtnnpnkegpkladaaGreat.Dm
open Go Go.ChangeShapes Go.WideShapes Go.ChangeAt Go.RowKit
abbrev f271_S2 := (Int × Int × List ProcD × Int × Int × XE) × (Unit)
def f271_L2 : f271_S2 → Out (Round f271_S2 ((Int × Int × XS) × (Unit)) Empty)
| ((p0, p1, p2, p3, p4, p5, p6, p7, _), _) =>
 .ite (decide (p7 < p6))
 (.ite (decide (0 ≤ p7))
 (.get (nth p5 (Int.toNat p7)) fun y1 =>
 .ite ((y1 == p0))
 (.ret (.again ((p0, (IntKind.i64.wrap (p1 + (1 : Int))), p2, p3, p4, p5, p6, (IntKind.i64.wrap (p7 + (1 : Int))), ()), ())))
 (.ret (.again ((p0, p1, p2, p3, p4, p5, p6, (IntKind.i64.wrap (p7 + (1 : Int))), ()), ()))))
 .fail)
 (.ret (.out ((p0, p1, p2, p3, p4, ()), ())))
abbrev f271_S0 := (Int × Int × XS) × (Unit)
def f271_L0 : f271_S0 → Out (Round f271_S0 ((Int × Unit) × (Unit)) Empty)
| ((p0, p1, p2, p3, p4, _), _) =>
 .ite (decide (p4 < p3))
 (.ite (decide (0 ≤ p4))
 (.get (nth p2 (Int.toNat p4)) fun y1 =>
 .get (iter1 f271_L2 FUEL ((p0, p1, p2, p3, p4, y1.2.2.2.2.2.2.1, ((List.length y1.2.2.2.2.2.2.1 : Nat) : Int), (0 : Int), ()), ())) fun y2 =>
 .ret (.again ((y2.1.1, y2.1.2.1, y2.1.2.2.1, y2.1.2.2.2.1, (IntKind.i64.wrap (y2.1.2.2.2.2.1 + (1 : Int))), ()), ())))
 .fail)
 (.ret (.out ((p1, ()), ())))
def f271_tree (a0 : Int) (a1 : Int) (a2 : List (List InsD)) (a3 : List ProcD) (a4 : List OpenD) (a5 : List CpuD) (a6 : List CpuD) (a7 : List Int) (a8 : List Int) (a9 : Int) : Out (((Int × Unit) × Unit) × XI) :=
 .get (iter1 f271_L0 FUEL ((a9, (0 : Int), a3, ((List.length a3 : Nat) : Int), (0 : Int), ()), ())) fun y1 =>
 .ret (((y1.1.1, ()), ()), ((), (), ()))
def f271_A : Nat → Option LoopAnn := fun n => annOf [(0, ⟨⟨[.dead, .i .i64, .dead, .dead, .dead, .i .i64] ++ dd 5 ++ [.ro tyP (some 1), .i .i64, .i .i64] ++ dd 18, []⟩, ⟨dd 5 ++ [.i .i64] ++ dd 26, []⟩, none, false⟩), (2, ⟨⟨[.dead, .i .i64, .dead, .dead, .dead, .i .i64] ++ dd 5 ++ [.ro tyP (some 1), .i .i64, .i .i64] ++ dd 4 ++ [.ro (.int .i64) none, .i .i64, .i .i64] ++ dd 11, []⟩, ⟨[.dead, .i .i64, .dead, .dead, .dead, .i .i64] ++ dd 5 ++ [.ro tyP (some 1), .i .i64, .i .i64] ++ dd 18, []⟩, none, false⟩)] n
def k271 : Con := { f := 271, lend := true, its := [⟨false, true, [.i .i64, .i .i64, .ro (.sl tyN), .ro tyP, .ro tyO, .ro tyF, .ro tyF, .ro (.int .i64), .ro (.int .i64)]⟩, ⟨false, false, [.i .i64]⟩], lay := [none, none], rs := [⟨false, false, [.i .i64]⟩], F := fun x => .ret ((((refsV x.1.2.2.2.1 x.2.1.1), ()), ()), ((), (), ())) }
theorem f271_eq (x : itemsD k271.its) : bo [] f271_A Tryz.f271 k271 [.tmp 4] x = f271_tree x.1.1 x.1.2.1 x.1.2.2.1 x.1.2.2.2.1 x.1.2.2.2.2.1 x.1.2.2.2.2.2.1 x.1.2.2.2.2.2.2.1 x.1.2.2.2.2.2.2.2.1 x.1.2.2.2.2.2.2.2.2.1 x.2.1.1 := by kernel_rfl
theorem f271_ok (hr : ∀ x : UnixD × (Int × Unit) × Unit, itemsWF k271.its x → (f271_tree x.1.1 x.1.2.1 x.1.2.2.1 x.1.2.2.2.1 x.1.2.2.2.2.1 x.1.2.2.2.2.2.1 x.1.2.2.2.2.2.2.1 x.1.2.2.2.2.2.2.2.1 x.1.2.2.2.2.2.2.2.2.1 x.2.1.1).eval = (k271.F x).eval) : k271.Ok Tryz.prog := con_fn [] trivial f271_eq fun x hw _ hy => (hr x hw).trans hy
theorem k271_ok : k271.Ok Tryz.prog := by
  refine f271_ok fun x hw => ?_
  obtain ⟨⟨a0, a1, a2, a3, a4, a5, a6, a7, a8, _⟩, ⟨a9, _⟩, _⟩ := x
  have l2 : List.length a2 ≤ BIG := hw.1.1.1
  have l3 : List.length a3 ≤ BIG := hw.1.2.1.1
  have l4 : List.length a4 ≤ BIG := hw.1.2.2.1.1
  have l5 : List.length a5 ≤ BIG := hw.1.2.2.2.1.1
  have l6 : List.length a6 ≤ BIG := hw.1.2.2.2.2.1.1
  have l7 : List.length a7 ≤ BIG := hw.1.2.2.2.2.2.1.1
  have l8 : List.length a8 ≤ BIG := hw.1.2.2.2.2.2.2.1.1
  show (f271_tree a0 a1 a2 a3 a4 a5 a6 a7 a8 a9).eval = some ((((refsV a3 a9), ()), ()), ((), (), ()))
  unfold f271_tree refsV
  have inner : ∀ (n : Int) (j : Nat) (hj : j < List.length a3), iter1 f271_L2 FUEL ((a9, n, a3, ((List.length a3 : Nat) : Int), ((j : Nat) : Int), a3[j].2.2.2.2.2.2.1, ((List.length a3[j].2.2.2.2.2.2.1 : Nat) : Int), (0 : Int), ()), ()) =
      some ((a9, List.foldl (fun n f => cntV f a9 n) n a3[j].2.2.2.2.2.2.1, a3, ((List.length a3 : Nat) : Int), ((j : Nat) : Int), ()), ()) := fun n j hj => by
    have lj : List.length a3[j].2.2.2.2.2.2.1 ≤ BIG := (hw.1.2.1.2 j a3[j] (List.getElem?_eq_getElem hj)).2.2.2.2.2.2.1.1
    exact foldl_loop (f := f271_L2) (fun _ _ => True) (fun n f => cntV f a9 n) a3[j].2.2.2.2.2.2.1 (fun d i => ((a9, d, a3, ((List.length a3 : Nat) : Int), ((j : Nat) : Int), a3[j].2.2.2.2.2.2.1, ((List.length a3[j].2.2.2.2.2.2.1 : Nat) : Int), ((i : Nat) : Int), ()), ()))
      (fun d => ((a9, d, a3, ((List.length a3 : Nat) : Int), ((j : Nat) : Int), ()), ()))
      (fun i hi d _ => by
        have h1 := wrap_succ (i := i) (by omega)
        by_cases q : a3[j].2.2.2.2.2.2.1[i] = a9 <;> simp [f271_L2, Out.eval, hi, h1, cntV, cond_eq_ite, q])
      (fun d _ => by simp [f271_L2, Out.eval]) (fun _ _ _ _ => trivial) lj n trivial
  have h : iter1 f271_L0 FUEL ((a9, (0 : Int), a3, ((List.length a3 : Nat) : Int), (0 : Int), ()), ()) = some (((List.foldl (fun (n : Int) (p : ProcD) => p.2.2.2.2.2.2.1.foldl (fun n f => cntV f a9 n) n) (0 : Int) a3), ()), ()) := foldl_loop (f := f271_L0) (fun _ _ => True) (fun (n : Int) (p : ProcD) => p.2.2.2.2.2.2.1.foldl (fun n f => cntV f a9 n) n) a3 (fun d i => ((a9, d, a3, ((List.length a3 : Nat) : Int), ((i : Nat) : Int), ()), ())) (fun d => ((d, ()), ()))
      (fun i hi d _ => by
        have h1 := wrap_succ (i := i) (by omega)
        simp [f271_L0, Out.eval, hi, h1, inner d i hi])
      (fun d _ => by simp [f271_L0, Out.eval]) (fun _ _ _ _ => trivial) l3 (0 : Int) trivial
  exact eval_get_some h
def f226_tree (a0 : Int) (a1 : Int) (a2 : List (List InsD)) (a3 : List ProcD) (a4 : List OpenD) (a5 : List CpuD) (a6 : List CpuD) (a7 : List Int) (a8 : List Int) (a9 : Int) (a10 : Int) (a11 : Int) (a12 : Int) (a13 : Int) : Out (((Bool × Unit) × Unit) × XI) :=
 .ite ((!(inV a9 (0 : Int) (7 : Int))) == false)
 (.ite (((a13 == (0 : Int))) == false)
 (.ite ((a13 != (refsV a3 a9)))
 (.ret (((false, ()), ()), ((), (), ())))
 (.ite ((a10 == (1 : Int)))
 (.ite (((a11 == (0 : Int))) == true)
 (.ret (((((a12 == (0 : Int))), ()), ()), ((), (), ())))
 (.ret (((false, ()), ()), ((), (), ()))))
 (.ite ((a10 == (2 : Int)))
 (.ite ((decide ((fileAtV a6 a11) ≥ (0 : Int))) == true)
 (.ite (decide (0 ≤ (fileAtV a6 a11)))
 (.get (nth a6 (Int.toNat (fileAtV a6 a11))) fun y1 =>
 .ret ((((inV a12 (0 : Int) ((List.length y1.2.1 : Nat) : Int)), ()), ()), ((), (), ())))
 .fail)
 (.ret (((false, ()), ()), ((), (), ()))))
 (.ite ((a10 == (3 : Int)))
 (.ite ((decide ((pipeAtV a5 a11) ≥ (0 : Int))) == true)
 (.ret (((((a12 == (0 : Int))), ()), ()), ((), (), ())))
 (.ret (((false, ()), ()), ((), (), ()))))
 (.ite ((a10 == (4 : Int)))
 (.ite ((decide ((pipeAtV a5 a11) ≥ (0 : Int))) == true)
 (.ret (((((a12 == (0 : Int))), ()), ()), ((), (), ())))
 (.ret (((false, ()), ()), ((), (), ()))))
 (.ret (((false, ()), ()), ((), (), ()))))))))
 (.ret (((false, ()), ()), ((), (), ()))))
 (.ret (((false, ()), ()), ((), (), ())))
def k226 : Con := { f := 226, lend := true, its := [⟨false, true, [.i .i64, .i .i64, .ro (.sl tyN), .ro tyP, .ro tyO, .ro tyF, .ro tyF, .ro (.int .i64), .ro (.int .i64)]⟩, ⟨false, true, [.i .i64, .i .i64, .i .i64, .i .i64, .i .i64]⟩], lay := [none, none], rs := [⟨false, false, [.b]⟩], F := fun x => .ret ((((openOkV x.1.2.2.2.1 x.1.2.2.2.2.2.1 x.1.2.2.2.2.2.2.1 x.2.1.1 x.2.1.2.1 x.2.1.2.2.1 x.2.1.2.2.2.1 x.2.1.2.2.2.2.1), ()), ()), ((), (), ())) }
theorem f226_eq (x : itemsD k226.its) : bo [k25, k271, k272, k273] (fun _ => none) Tryz.f226 k226 [.tmp 4] x = f226_tree x.1.1 x.1.2.1 x.1.2.2.1 x.1.2.2.2.1 x.1.2.2.2.2.1 x.1.2.2.2.2.2.1 x.1.2.2.2.2.2.2.1 x.1.2.2.2.2.2.2.2.1 x.1.2.2.2.2.2.2.2.2.1 x.2.1.1 x.2.1.2.1 x.2.1.2.2.1 x.2.1.2.2.2.1 x.2.1.2.2.2.2.1 := by kernel_rfl
theorem f226_ok (hr : ∀ x : UnixD × OpenD × Unit, itemsWF k226.its x → (f226_tree x.1.1 x.1.2.1 x.1.2.2.1 x.1.2.2.2.1 x.1.2.2.2.2.1 x.1.2.2.2.2.2.1 x.1.2.2.2.2.2.2.1 x.1.2.2.2.2.2.2.2.1 x.1.2.2.2.2.2.2.2.2.1 x.2.1.1 x.2.1.2.1 x.2.1.2.2.1 x.2.1.2.2.2.1 x.2.1.2.2.2.2.1).eval = (k226.F x).eval) : k226.Ok Tryz.prog := con_fn [k25, k271, k272, k273] ⟨k25_ok, k271_ok, k272_ok, k273_ok, trivial⟩ f226_eq fun x hw _ hy => (hr x hw).trans hy
theorem k226_ok : k226.Ok Tryz.prog := by
  refine f226_ok fun x hw => ?_
  obtain ⟨⟨a0, a1, a2, a3, a4, a5, a6, a7, a8, _⟩, ⟨a9, a10, a11, a12, a13, _⟩, _⟩ := x
  have l2 : List.length a2 ≤ BIG := hw.1.1.1
  have l3 : List.length a3 ≤ BIG := hw.1.2.1.1
  have l4 : List.length a4 ≤ BIG := hw.1.2.2.1.1
  have l5 : List.length a5 ≤ BIG := hw.1.2.2.2.1.1
  have l6 : List.length a6 ≤ BIG := hw.1.2.2.2.2.1.1
  have l7 : List.length a7 ≤ BIG := hw.1.2.2.2.2.2.1.1
  have l8 : List.length a8 ≤ BIG := hw.1.2.2.2.2.2.2.1.1
  show (f226_tree a0 a1 a2 a3 a4 a5 a6 a7 a8 a9 a10 a11 a12 a13).eval = some ((((openOkV a3 a5 a6 a9 a10 a11 a12 a13), ()), ()), ((), (), ()))
  unfold f226_tree
  unfold openOkV
  generalize refsV a3 a9 = r
  by_cases c3 : inV a9 0 7 = true
  case neg => rw [eval_ite_f (by simp [c3])]; simp [Out.eval, c3]
  rw [eval_ite_t (by simp [c3])]
  by_cases c1 : a13 = 0
  · rw [eval_ite_f (by simp [c1])]
    have e : (!(r == 0) && a13 == r && inV a9 0 7 && kindOkV a5 a6 a10 a11 a12) = false := by
      subst c1
      by_cases q : r = 0
      · simp [q]
      · have : ((0 : Int) == r) = false := by simpa using fun h => q h.symm
        simp [this]
    rw [e]; rfl
  rw [eval_ite_t (by simp [c1])]
  by_cases c2 : a13 = r
  case neg => rw [eval_ite_t (by simp [c2])]; simp [Out.eval, c2]
  rw [eval_ite_f (by simp [c2])]
  refine (kind_tail a10 a11 a12 a5 a6 (fun b => (((b, ()), ()), ((), (), ())))).trans ?_
  subst c2
  simp [c1, c3]
def isEndF (kind target pipe : Int) : Bool := (kind == 3 && target == pipe) || (kind == 4 && target == pipe)
def f276_tree (a0 : Int) (a1 : Int) (a2 : Int) (a3 : Int) (a4 : Int) (a5 : Int) : Out (((Bool × Unit) × Unit) × XI) :=
 .ite (((a1 == (3 : Int))) == false)
 (.ite (((a1 == (4 : Int))) == true)
 (.ret (((((a2 == a5)), ()), ()), ((), (), ())))
 (.ret (((false, ()), ()), ((), (), ()))))
 (.ret (((((a2 == a5)), ()), ()), ((), (), ())))
def k276 : Con := { f := 276, lend := true, its := [⟨false, true, [.i .i64, .i .i64, .i .i64, .i .i64, .i .i64]⟩, ⟨false, false, [.i .i64]⟩], lay := [none, none], rs := [⟨false, false, [.b]⟩], F := fun x => .ret ((((isEndF x.1.2.1 x.1.2.2.1 x.2.1.1), ()), ()), ((), (), ())) }
theorem f276_eq (x : itemsD k276.its) : bo [] (fun _ => none) Tryz.f276 k276 [.tmp 4] x = f276_tree x.1.1 x.1.2.1 x.1.2.2.1 x.1.2.2.2.1 x.1.2.2.2.2.1 x.2.1.1 := by kernel_rfl
theorem f276_ok (hr : ∀ x : OpenD × (Int × Unit) × Unit, itemsWF k276.its x → (f276_tree x.1.1 x.1.2.1 x.1.2.2.1 x.1.2.2.2.1 x.1.2.2.2.2.1 x.2.1.1).eval = (k276.F x).eval) : k276.Ok Tryz.prog := con_fn [] trivial f276_eq fun x hw _ hy => (hr x hw).trans hy
theorem k276_ok : k276.Ok Tryz.prog := by
  refine f276_ok fun x hw => ?_
  obtain ⟨⟨a0, a1, a2, a3, a4, _⟩, ⟨a5, _⟩, _⟩ := x
  show (f276_tree a0 a1 a2 a3 a4 a5).eval = some ((((isEndF a1 a2 a5), ()), ()), ((), (), ()))
  unfold f276_tree isEndF
  simp only [Out.eval, cond_eq_ite]
  all_goals ((repeat' split) <;> simp_all)
def isEndC (kind target pipe : Int) : Bool × Int := (isEndF kind target pipe, pipe)
def f275_tree (a0 : Int) (a1 : Int) (a2 : Int) (a3 : Int) (a4 : Int) (a5 : Int) (a6 : List Int) : Out (((Bool × Unit) × Unit) × (Unit × (Int × Unit) × Unit)) :=
 .ret ((((isEndF a1 a2 a5), ()), ()), ((), (a5, ()), ()))
def k275 : Con := { f := 275, lend := true, its := [⟨false, true, [.i .i64, .i .i64, .i .i64, .i .i64, .i .i64]⟩, ⟨true, false, [.i .i64, .ro (.int .i64)]⟩], lay := [none, none], rs := [⟨false, false, [.b]⟩], F := fun x => .ret ((((isEndC x.1.2.1 x.1.2.2.1 x.2.1.1).1, ()), ()), ((), ((isEndC x.1.2.1 x.1.2.2.1 x.2.1.1).2, ()), ())) }
theorem f275_eq (x : itemsD k275.its) : bo [k276] (fun _ => none) Tryz.f275 k275 [.tmp 3] x = f275_tree x.1.1 x.1.2.1 x.1.2.2.1 x.1.2.2.2.1 x.1.2.2.2.2.1 x.2.1.1 x.2.1.2.1 := by kernel_rfl
theorem f275_ok (hr : ∀ x : OpenD × CpuD × Unit, itemsWF k275.its x → (f275_tree x.1.1 x.1.2.1 x.1.2.2.1 x.1.2.2.2.1 x.1.2.2.2.2.1 x.2.1.1 x.2.1.2.1).eval = (k275.F x).eval) : k275.Ok Tryz.prog := con_fn [k276] ⟨k276_ok, trivial⟩ f275_eq fun x hw _ hy => (hr x hw).trans hy
theorem k275_ok : k275.Ok Tryz.prog := by
  refine f275_ok fun x hw => ?_
  obtain ⟨⟨a0, a1, a2, a3, a4, _⟩, ⟨a5, a6, _⟩, _⟩ := x
  have l6 : List.length a6 ≤ BIG := hw.2.1.1.1
  show (f275_tree a0 a1 a2 a3 a4 a5 a6).eval = some ((((isEndC a1 a2 a5).1, ()), ()), ((), ((isEndC a1 a2 a5).2, ()), ()))
  unfold f275_tree isEndC
  simp only [Out.eval, cond_eq_ite]
  all_goals ((repeat' split) <;> simp_all)
def endIdxC (a : List OpenD) (pipe : Int) : Int × Int := (idxV (a.findIdx? (isEndV pipe)), pipe)
abbrev f299e_S0 := (List OpenD × Int × Int × Unit) × ((Int × List Int × Unit) × Unit)
def f299e_L0 : f299e_S0 → Out (Round f299e_S0 ((Unit) × ((Int × List Int × Unit) × Unit)) ((Int × Unit) × ((Int × List Int × Unit) × Unit)))
| ((p0, p1, p2, _), (p3, p4, _), _) =>
 .ite (decide (p2 < p1))
 (.ite (decide (0 ≤ p2))
 (.get (nth p0 (Int.toNat p2)) fun y1 =>
 .ite ((isEndC y1.2.1 y1.2.2.1 p3).1)
 (.ret (.ret ((p2, ()), (((isEndC y1.2.1 y1.2.2.1 p3).2, p4, ()), ()))))
 (.ret (.again ((p0, p1, (IntKind.i64.wrap (p2 + (1 : Int))), ()), (((isEndC y1.2.1 y1.2.2.1 p3).2, p4, ()), ())))))
 .fail)
 (.ret (.out ((), ((p3, p4, ()), ()))))
def f299e_tree (a0 : List OpenD) (a1 : Int) (a2 : List Int) : Out (((Int × Unit) × Unit) × (Unit × (Int × Unit) × Unit)) :=
 .get (iter f299e_L0 FUEL ((a0, ((List.length a0 : Nat) : Int), (0 : Int), ()), ((a1, a2, ()), ()))) fun y1 => .alt y1 (fun y2 =>
 .ret ((((-1 : Int), ()), ()), ((), (y2.2.1.1, ()), ()))) (fun y3 =>
 .ret (((y3.1.1, ()), ()), ((), (y3.2.1.1, ()), ())))
abbrev f299e_s0 : List (Nat × VSlot) := [(1, .var [.i .i64, .ro (.int .i64) (some 2)])]
def f299e_A : Nat → Option LoopAnn := fun n => annOf [(0, ⟨⟨[.ro tyO (some 0), .fn 275 [1]] ++ dd 5 ++ [.i .i64, .i .i64] ++ dd 10, f299e_s0⟩, ⟨[.dead, .fn 275 [1]] ++ dd 17, f299e_s0⟩, some ⟨[.dead, .fn 275 [1], .dead, .dead, .i .i64] ++ dd 14, f299e_s0⟩, false⟩)] n
def k299e : Con := { f := 299, lend := true, its := [⟨false, false, [.ro tyO]⟩, ⟨true, false, [.i .i64, .ro (.int .i64)]⟩], lay := [none, some (275, 1)], rs := [⟨false, false, [.i .i64]⟩], F := fun x => .ret ((((endIdxC x.1.1 x.2.1.1).1, ()), ()), ((), ((endIdxC x.1.1 x.2.1.1).2, ()), ())) }
theorem f299e_eq (x : itemsD k299e.its) : bo [k275] f299e_A Tryz.f299 k299e [.tmp 4] x = f299e_tree x.1.1 x.2.1.1 x.2.1.2.1 := by kernel_rfl
theorem f299e_ok (hr : ∀ x : (List OpenD × Unit) × CpuD × Unit, itemsWF k299e.its x → (f299e_tree x.1.1 x.2.1.1 x.2.1.2.1).eval = (k299e.F x).eval) : k299e.Ok Tryz.prog := con_fn [k275] ⟨k275_ok, trivial⟩ f299e_eq fun x hw _ hy => (hr x hw).trans hy
theorem k299e_ok : k299e.Ok Tryz.prog := by
  refine f299e_ok fun x hw => ?_
  obtain ⟨⟨a0, _⟩, ⟨a1, a2, _⟩, _⟩ := x
  have l0 : List.length a0 ≤ BIG := hw.1.1.1
  have l2 : List.length a2 ≤ BIG := hw.2.1.1.1
  show (f299e_tree a0 a1 a2).eval = some ((((endIdxC a0 a1).1, ()), ()), ((), ((endIdxC a0 a1).2, ()), ()))
  unfold f299e_tree endIdxC
  have h : iter f299e_L0 FUEL ((a0, ((List.length a0 : Nat) : Int), (0 : Int), ()), ((a1, a2, ()), ())) = some (match List.findIdx? (isEndV a1) a0 with | some i => .inr ((((i : Nat) : Int), ()), ((a1, a2, ()), ())) | none => .inl ((), ((a1, a2, ()), ()))) := idx_loop (f := f299e_L0) a0 (isEndV a1) (fun i => ((a0, ((List.length a0 : Nat) : Int), ((i : Nat) : Int), ()), ((a1, a2, ()), ()))) (y := ((), ((a1, a2, ()), ()))) (z := fun i => ((((i : Nat) : Int), ()), ((a1, a2, ()), ())))
      (fun i hi hp => by
        have h1 := wrap_succ (i := i) (by omega)
        simp [f299e_L0, Out.eval, hi, h1, cond_eq_ite, isEndC, isEndF, isEndV, endV] at hp ⊢ <;> (try simp_all) <;> (try (rcases hp with h | h <;> simp_all)))
      (fun i hi hp => by simp [f299e_L0, Out.eval, hi, cond_eq_ite, isEndC, isEndF, isEndV, endV] at hp ⊢ <;> (try simp_all) <;> (try (rcases hp with h | h <;> simp_all)))
      (by simp [f299e_L0, Out.eval]) l0
  refine (eval_get_some h).trans ?_
  cases List.findIdx? (isEndV a1) a0 <;> rfl
def anyEndC (a : List OpenD) (pipe : Int) : Bool × Int := (a.any (isEndV pipe), pipe)
def f274e_tree (a0 : List OpenD) (a1 : Int) (a2 : List Int) : Out (((Bool × Unit) × Unit) × (Unit × (Int × Unit) × Unit)) :=
 .ret ((((decide ((endIdxC a0 a1).1 ≥ (0 : Int))), ()), ()), ((), ((endIdxC a0 a1).2, ()), ()))
def k274e : Con := { f := 274, lend := true, its := [⟨false, false, [.ro tyO]⟩, ⟨true, false, [.i .i64, .ro (.int .i64)]⟩], lay := [none, some (275, 1)], rs := [⟨false, false, [.b]⟩], F := fun x => .ret ((((anyEndC x.1.1 x.2.1.1).1, ()), ()), ((), ((anyEndC x.1.1 x.2.1.1).2, ()), ())) }
theorem f274e_eq (x : itemsD k274e.its) : bo [k299e] (fun _ => none) Tryz.f274 k274e [.tmp 4] x = f274e_tree x.1.1 x.2.1.1 x.2.1.2.1 := by kernel_rfl
theorem f274e_ok (hr : ∀ x : (List OpenD × Unit) × CpuD × Unit, itemsWF k274e.its x → (f274e_tree x.1.1 x.2.1.1 x.2.1.2.1).eval = (k274e.F x).eval) : k274e.Ok Tryz.prog := con_fn [k299e] ⟨k299e_ok, trivial⟩ f274e_eq fun x hw _ hy => (hr x hw).trans hy
theorem k274e_ok : k274e.Ok Tryz.prog := by
  refine f274e_ok fun x hw => ?_
  obtain ⟨⟨a0, _⟩, ⟨a1, a2, _⟩, _⟩ := x
  have l0 : List.length a0 ≤ BIG := hw.1.1.1
  have l2 : List.length a2 ≤ BIG := hw.2.1.1.1
  show (f274e_tree a0 a1 a2).eval = some ((((anyEndC a0 a1).1, ()), ()), ((), ((anyEndC a0 a1).2, ()), ()))
  unfold f274e_tree anyEndC endIdxC
  rw [idxV_ge]
  rfl
abbrev f227_S0 := (Int × XS) × (Unit)
def f227_L0 : f227_S0 → Out (Round f227_S0 ((Int × Unit) × (Unit)) Empty)
| ((p0, p1, p2, p3, _), _) =>
 .ite (decide (p3 < p2))
 (.ite (decide (0 ≤ p3))
 (.get (nth p1 (Int.toNat p3)) fun y1 =>
 .ret (.again (((IntKind.i64.wrap (p0 + ((List.length y1.2.2.2.2.2.1 : Nat) : Int))), p1, p2, (IntKind.i64.wrap (p3 + (1 : Int))), ()), ())))
 .fail)
 (.ret (.out ((p0, ()), ())))
def f227_tree (a0 : Int) (a1 : Int) (a2 : List (List InsD)) (a3 : List ProcD) (a4 : List OpenD) (a5 : List CpuD) (a6 : List CpuD) (a7 : List Int) (a8 : List Int) : Out (((Int × Unit) × Unit) × (Unit × Unit)) :=
 .get (iter1 f227_L0 FUEL (((0 : Int), a3, ((List.length a3 : Nat) : Int), (0 : Int), ()), ())) fun y1 =>
 .ret (((y1.1.1, ()), ()), ((), ()))
def f227_A : Nat → Option LoopAnn := fun n => annOf [(0, ⟨⟨[.dead, .dead, .dead, .i .i64, .dead, .dead, .dead, .ro tyP (some 1), .i .i64, .i .i64] ++ dd 10, []⟩, ⟨[.dead, .dead, .dead, .i .i64] ++ dd 16, []⟩, none, false⟩)] n
def k227 : Con := { f := 227, lend := true, its := [⟨false, true, [.i .i64, .i .i64, .ro (.sl tyN), .ro tyP, .ro tyO, .ro tyF, .ro tyF, .ro (.int .i64), .ro (.int .i64)]⟩], lay := [none], rs := [⟨false, false, [.i .i64]⟩], F := fun x => .ret ((((wordsV x.1.2.2.2.1), ()), ()), ((), ())) }
theorem f227_eq (x : itemsD k227.its) : bo [] f227_A Tryz.f227 k227 [.tmp 2] x = f227_tree x.1.1 x.1.2.1 x.1.2.2.1 x.1.2.2.2.1 x.1.2.2.2.2.1 x.1.2.2.2.2.2.1 x.1.2.2.2.2.2.2.1 x.1.2.2.2.2.2.2.2.1 x.1.2.2.2.2.2.2.2.2.1 := by kernel_rfl
theorem f227_ok (hr : ∀ x : UnixD × Unit, itemsWF k227.its x → (f227_tree x.1.1 x.1.2.1 x.1.2.2.1 x.1.2.2.2.1 x.1.2.2.2.2.1 x.1.2.2.2.2.2.1 x.1.2.2.2.2.2.2.1 x.1.2.2.2.2.2.2.2.1 x.1.2.2.2.2.2.2.2.2.1).eval = (k227.F x).eval) : k227.Ok Tryz.prog := con_fn [] trivial f227_eq fun x hw _ hy => (hr x hw).trans hy
theorem k227_ok : k227.Ok Tryz.prog := by
  refine f227_ok fun x hw => ?_
  obtain ⟨⟨a0, a1, a2, a3, a4, a5, a6, a7, a8, _⟩, _⟩ := x
  have l2 : List.length a2 ≤ BIG := hw.1.1.1
  have l3 : List.length a3 ≤ BIG := hw.1.2.1.1
  have l4 : List.length a4 ≤ BIG := hw.1.2.2.1.1
  have l5 : List.length a5 ≤ BIG := hw.1.2.2.2.1.1
  have l6 : List.length a6 ≤ BIG := hw.1.2.2.2.2.1.1
  have l7 : List.length a7 ≤ BIG := hw.1.2.2.2.2.2.1.1
  have l8 : List.length a8 ≤ BIG := hw.1.2.2.2.2.2.2.1.1
  show (f227_tree a0 a1 a2 a3 a4 a5 a6 a7 a8).eval = some ((((wordsV a3), ()), ()), ((), ()))
  unfold f227_tree wordsV
  have h : iter1 f227_L0 FUEL (((0 : Int), a3, ((List.length a3 : Nat) : Int), (0 : Int), ()), ()) = some (((List.foldl (fun (n : Int) (p : ProcD) => IntKind.i64.wrap (n + ((p.2.2.2.2.2.1.length : Nat) : Int))) (0 : Int) a3), ()), ()) := foldl_loop (f := f227_L0) (fun _ _ => True) (fun (n : Int) (p : ProcD) => IntKind.i64.wrap (n + ((p.2.2.2.2.2.1.length : Nat) : Int))) a3 (fun d i => ((d, a3, ((List.length a3 : Nat) : Int), ((i : Nat) : Int), ()), ())) (fun d => ((d, ()), ()))
      (fun i hi d _ => by
        have h1 := wrap_succ (i := i) (by omega)
        simp [f227_L0, Out.eval, hi, h1, cond_eq_ite])
      (fun d _ => by simp [f227_L0, Out.eval]) (fun _ _ _ _ => trivial) l3 (0 : Int) trivial
  exact eval_get_some h
abbrev f228_S0 := (List CpuD × Int × Int × Unit) × (UnixD × Unit)
def f228_L0 : f228_S0 → Out (Round f228_S0 ((Unit) × (UnixD × Unit)) ((Bool × Unit) × (Unit)))
| ((p0, p1, p2, _), (p3, p4, p5, p6, p7, p8, p9, p10, p11, _), _) =>
 .ite (decide (p2 < p1))
 (.ite (decide (0 ≤ p2))
 (.get (nth p0 (Int.toNat p2)) fun y1 =>
 .ite ((!(inV y1.1 (0 : Int) (2 : Int))) == false)
 (.ite ((decide (p2 > (0 : Int))) == true)
 (.ite (decide (0 ≤ (IntKind.i64.wrap (p2 - (1 : Int)))))
 (.get (nth p8 (Int.toNat (IntKind.i64.wrap (p2 - (1 : Int))))) fun y2 =>
 .ite ((decide (y2.1 ≥ y1.1)) == false)
 (.ite ((decide (((List.length y1.2.1 : Nat) : Int) > (4 : Int))) == false)
 (.ite (!(wordsOkV y1.2.1))
 (.ret (.ret ((false, ()), ())))
 (.ite (!(anyEndC p7 y1.1).1)
 (.ret (.ret ((false, ()), ())))
 (.ret (.again ((p0, p1, (IntKind.i64.wrap (p2 + (1 : Int))), ()), ((p3, p4, p5, p6, p7, p8, p9, p10, p11, ()), ()))))))
 (.ret (.ret ((false, ()), ()))))
 (.ret (.ret ((false, ()), ()))))
 .fail)
 (.ite ((decide (((List.length y1.2.1 : Nat) : Int) > (4 : Int))) == false)
 (.ite (!(wordsOkV y1.2.1))
 (.ret (.ret ((false, ()), ())))
 (.ite (!(anyEndC p7 y1.1).1)
 (.ret (.ret ((false, ()), ())))
 (.ret (.again ((p0, p1, (IntKind.i64.wrap (p2 + (1 : Int))), ()), ((p3, p4, p5, p6, p7, p8, p9, p10, p11, ()), ()))))))
 (.ret (.ret ((false, ()), ())))))
 (.ret (.ret ((false, ()), ()))))
 .fail)
 (.ret (.out ((), ((p3, p4, p5, p6, p7, p8, p9, p10, p11, ()), ()))))
def f228_tree (a0 : Int) (a1 : Int) (a2 : List (List InsD)) (a3 : List ProcD) (a4 : List OpenD) (a5 : List CpuD) (a6 : List CpuD) (a7 : List Int) (a8 : List Int) : Out (((Bool × Unit) × Unit) × (Unit × Unit)) :=
 .get (iter f228_L0 FUEL ((a5, ((List.length a5 : Nat) : Int), (0 : Int), ()), ((a0, a1, a2, a3, a4, a5, a6, a7, a8, ()), ()))) fun y1 => .alt y1 (fun y2 =>
 .ret ((((decide (((List.length y2.2.1.2.2.2.2.2.1 : Nat) : Int) ≤ (3 : Int))), ()), ()), ((), ()))) (fun y3 =>
 .ret (((y3.1.1, ()), ()), ((), ())))
abbrev f228_s1 : List (Nat × VSlot) := [(64000000, .var [.i .i64, .i .i64, .ro (.sl tyN) (some 0), .ro tyP (some 1), .ro tyO (some 2), .ro tyF (some 3), .ro tyF (some 4), .ro (.int .i64) (some 5), .ro (.int .i64) (some 6)])]
def f228_A : Nat → Option LoopAnn := fun n => annOf [(0, ⟨⟨[.dead, .vptr 64000000 0] ++ dd 4 ++ [.ro tyF (some 3), .i .i64, .i .i64] ++ dd 46, f228_s1⟩, ⟨[.dead, .vptr 64000000 0] ++ dd 53, f228_s1⟩, some ⟨[.dead, .dead, .b] ++ dd 52, []⟩, false⟩)] n
def k228 : Con := { f := 228, lend := true, its := [⟨false, true, [.i .i64, .i .i64, .ro (.sl tyN), .ro tyP, .ro tyO, .ro tyF, .ro tyF, .ro (.int .i64), .ro (.int .i64)]⟩], lay := [none], rs := [⟨false, false, [.b]⟩], F := fun x => .ret ((((pipesOkV x.1.2.2.2.2.1 x.1.2.2.2.2.2.1), ()), ()), ((), ())) }
theorem f228_eq (x : itemsD k228.its) : bo [k25, k223, k274e] f228_A Tryz.f228 k228 [.tmp 2] x = f228_tree x.1.1 x.1.2.1 x.1.2.2.1 x.1.2.2.2.1 x.1.2.2.2.2.1 x.1.2.2.2.2.2.1 x.1.2.2.2.2.2.2.1 x.1.2.2.2.2.2.2.2.1 x.1.2.2.2.2.2.2.2.2.1 := by kernel_rfl
theorem f228_ok (hr : ∀ x : UnixD × Unit, itemsWF k228.its x → (f228_tree x.1.1 x.1.2.1 x.1.2.2.1 x.1.2.2.2.1 x.1.2.2.2.2.1 x.1.2.2.2.2.2.1 x.1.2.2.2.2.2.2.1 x.1.2.2.2.2.2.2.2.1 x.1.2.2.2.2.2.2.2.2.1).eval = (k228.F x).eval) : k228.Ok Tryz.prog := con_fn [k25, k223, k274e] ⟨k25_ok, k223_ok, k274e_ok, trivial⟩ f228_eq fun x hw _ hy => (hr x hw).trans hy
theorem k228_ok : k228.Ok Tryz.prog := by
  refine f228_ok fun x hw => ?_
  obtain ⟨⟨a0, a1, a2, a3, a4, a5, a6, a7, a8, _⟩, _⟩ := x
  have l2 : List.length a2 ≤ BIG := hw.1.1.1
  have l3 : List.length a3 ≤ BIG := hw.1.2.1.1
  have l4 : List.length a4 ≤ BIG := hw.1.2.2.1.1
  have l5 : List.length a5 ≤ BIG := hw.1.2.2.2.1.1
  have l6 : List.length a6 ≤ BIG := hw.1.2.2.2.2.1.1
  have l7 : List.length a7 ≤ BIG := hw.1.2.2.2.2.2.1.1
  have l8 : List.length a8 ≤ BIG := hw.1.2.2.2.2.2.2.1.1
  show (f228_tree a0 a1 a2 a3 a4 a5 a6 a7 a8).eval = some ((((pipesOkV a4 a5), ()), ()), ((), ()))
  unfold f228_tree pipesOkV
  have h : iter f228_L0 FUEL ((a5, ((List.length a5 : Nat) : Int), (0 : Int), ()), ((a0, a1, a2, a3, a4, a5, a6, a7, a8, ()), ())) = some (if rowsV pipeKey (pipe1V a4) a5 = true then .inl ((), ((a0, a1, a2, a3, a4, a5, a6, a7, a8, ()), ())) else .inr ((false, ()), ())) := allI_loop (f := f228_L0) (List.length a5) (rowV pipeKey (pipe1V a4) a5) (fun i => ((a5, ((List.length a5 : Nat) : Int), ((i : Nat) : Int), ()), ((a0, a1, a2, a3, a4, a5, a6, a7, a8, ()), ()))) (y := ((), ((a0, a1, a2, a3, a4, a5, a6, a7, a8, ()), ()))) (z := ((false, ()), ()))
      (fun i hi => by
        have w1 := wrap_succ (i := i) (by omega)
        cases i with
        | zero =>
          rw [rowV_zero hi]
          have w3 : decide (((0 : Nat) : Int) > 0) = false := rfl
          try unfold pipe1V
          try unfold pipeKey
          simp only [f228_L0, Out.eval, lt_t hi, ge0, nth_get hi, Option.bind_some, cond_true, cond_false, w1, w3, gt4, anyEndC]
          cases p0 : inV a5[0].1 0 2 <;> cases p2 : decide (List.length a5[0].2.1 ≤ 4) <;> cases p3 : wordsOkV a5[0].2.1 <;> cases p4 : List.any a4 (isEndV a5[0].1) <;> rfl
        | succ i =>
          rw [rowV_succ hi]
          have w2 := wrap_pred i (by omega)
          have w3 : decide (((i + 1 : Nat) : Int) > 0) = true := decide_eq_true (by omega)
          try unfold pipe1V
          try unfold pipeKey
          simp only [f228_L0, Out.eval, lt_t hi, ge0, nth_get hi, Option.bind_some, cond_true, cond_false, w1, w3, gt4, anyEndC, nth_get (show i < List.length a5 by omega), w2, not_ge]
          cases p0 : inV a5[i + 1].1 0 2 <;> cases p1 : decide (a5[i].1 < a5[i + 1].1) <;> cases p2 : decide (List.length a5[i + 1].2.1 ≤ 4) <;> cases p3 : wordsOkV a5[i + 1].2.1 <;> cases p4 : List.any a4 (isEndV a5[i + 1].1) <;> rfl)
      (by simp [f228_L0, Out.eval]) l5
  refine (eval_get_some h).trans ?_
  cases rowsV pipeKey (pipe1V a4) a5
  · cases decide (List.length a5 ≤ 3) <;> rfl
  · refine (eval_alt_l _).trans ?_
    dsimp only
    rw [le3, Bool.and_true]
    rfl
end Go.Proofs.YtnnpnkegpkladaaGreat.Dm
