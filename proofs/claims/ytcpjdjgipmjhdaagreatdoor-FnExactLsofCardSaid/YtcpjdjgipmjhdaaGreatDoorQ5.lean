/- Functions of the program, and what they compute. -/
import Derived.Test.YtcpjdjgipmjhdaaGreatDoorQ43
namespace Go.Proofs.YtcpjdjgipmjhdaaGreatDoor.Dm
open Go Go.ChangeShapes Go.WideShapes Go.ChangeAt Go.RowKit
def procIsC (pid v : Int) : Bool × Int := (pid == v, v)
def f111_tree (a0 : Int) (a1 : Int) (a2 : Int) (a3 : Int) (a4 : Int) (a5 : List Int) (a6 : List Int) (a7 : List Int) (a8 : Int) (a9 : Int) (a10 : Int) : Out (((Bool × Unit) × Unit) × (Unit × (Int × Unit) × Unit)) :=
 .ret (((((a0 == a10)), ()), ()), ((), (a10, ()), ()))
def k111 : Con := { f := 111, lend := true, its := [⟨false, true, [.i .i64, .i .i64, .i .i64, .i .i64, .i .i64, .ro (.int .i64), .ro (.int .i64), .ro (.int .i64), .i .i64, .i .i64]⟩, ⟨true, false, [.i .i64]⟩], lay := [none, none], rs := [⟨false, false, [.b]⟩], F := fun x => .ret ((((procIsC x.1.1 x.2.1.1).1, ()), ()), ((), ((procIsC x.1.1 x.2.1.1).2, ()), ())) }
theorem f111_eq (x : itemsD k111.its) : bo [] (fun _ => none) Tryz.f111 k111 [.tmp 3] x = f111_tree x.1.1 x.1.2.1 x.1.2.2.1 x.1.2.2.2.1 x.1.2.2.2.2.1 x.1.2.2.2.2.2.1 x.1.2.2.2.2.2.2.1 x.1.2.2.2.2.2.2.2.1 x.1.2.2.2.2.2.2.2.2.1 x.1.2.2.2.2.2.2.2.2.2.1 x.2.1.1 := by kernel_rfl
theorem f111_ok (hr : ∀ x : (Int × Int × Int × Int × Int × List Int × List Int × List Int × Int × Int × Unit) × (Int × Unit) × Unit, itemsWF k111.its x → (f111_tree x.1.1 x.1.2.1 x.1.2.2.1 x.1.2.2.2.1 x.1.2.2.2.2.1 x.1.2.2.2.2.2.1 x.1.2.2.2.2.2.2.1 x.1.2.2.2.2.2.2.2.1 x.1.2.2.2.2.2.2.2.2.1 x.1.2.2.2.2.2.2.2.2.2.1 x.2.1.1).eval = (k111.F x).eval) : k111.Ok Tryz.prog := con_fn [] trivial f111_eq fun x hw _ hy => (hr x hw).trans hy
theorem k111_ok : k111.Ok Tryz.prog := by
  refine f111_ok fun x hw => ?_
  obtain ⟨⟨a0, a1, a2, a3, a4, a5, a6, a7, a8, a9, _⟩, ⟨a10, _⟩, _⟩ := x
  have l5 : List.length a5 ≤ BIG := hw.1.1.1
  have l6 : List.length a6 ≤ BIG := hw.1.2.1.1
  have l7 : List.length a7 ≤ BIG := hw.1.2.2.1.1
  show (f111_tree a0 a1 a2 a3 a4 a5 a6 a7 a8 a9 a10).eval = some ((((procIsC a0 a10).1, ()), ()), ((), ((procIsC a0 a10).2, ()), ()))
  unfold f111_tree procIsC
  simp only [Out.eval, cond_eq_ite]
  all_goals ((repeat' split) <;> simp_all)
def procIdxC (a : List ProcD) (v : Int) : Int × Int := (procAtV a v, v)
abbrev f110a_S0 := (List ProcD × Int × Int × Unit) × ((Int × Unit) × Unit)
def f110a_L0 : f110a_S0 → Out (Round f110a_S0 ((Unit) × ((Int × Unit) × Unit)) ((Int × Unit) × ((Int × Unit) × Unit)))
| ((p0, p1, p2, _), (p3, _), _) =>
 .ite (decide (p2 < p1))
 (.ite (decide (0 ≤ p2))
 (.get (nth p0 (Int.toNat p2)) fun y1 =>
 .ite ((procIsC y1.1 p3).1)
 (.ret (.ret ((p2, ()), (((procIsC y1.1 p3).2, ()), ()))))
 (.ret (.again ((p0, p1, (IntKind.i64.wrap (p2 + (1 : Int))), ()), (((procIsC y1.1 p3).2, ()), ())))))
 .fail)
 (.ret (.out ((), ((p3, ()), ()))))
def f110a_tree (a0 : List ProcD) (a1 : Int) : Out (((Int × Unit) × Unit) × (Unit × (Int × Unit) × Unit)) :=
 .get (iter f110a_L0 FUEL ((a0, ((List.length a0 : Nat) : Int), (0 : Int), ()), ((a1, ()), ()))) fun y1 => .alt y1 (fun y2 =>
 .ret ((((-1 : Int), ()), ()), ((), (y2.2.1.1, ()), ()))) (fun y3 =>
 .ret (((y3.1.1, ()), ()), ((), (y3.2.1.1, ()), ())))
def f110a_A : Nat → Option LoopAnn := fun n => annOf [(0, { head := { t := [.ro tyP (some 0), .fn 111 [1]] ++ dd 5 ++ [.i .i64, .i .i64] ++ dd 10, v := [(1, .var [.i .i64])] }, out := { t := [.dead, .fn 111 [1]] ++ dd 17, v := [(1, .var [.i .i64])] }, ret := some { t := [.dead, .fn 111 [1], .dead, .dead, .i .i64] ++ dd 14, v := [(1, .var [.i .i64])] } })] n
def k110a : Con := { f := 110, lend := true, its := [⟨false, false, [.ro tyP]⟩, ⟨true, false, [.i .i64]⟩], lay := [none, some (111, 1)], rs := [⟨false, false, [.i .i64]⟩], F := fun x => .ret ((((procIdxC x.1.1 x.2.1.1).1, ()), ()), ((), ((procIdxC x.1.1 x.2.1.1).2, ()), ())) }
theorem f110a_eq (x : itemsD k110a.its) : bo [k111] f110a_A Tryz.f110 k110a [.tmp 4] x = f110a_tree x.1.1 x.2.1.1 := by kernel_rfl
theorem f110a_ok (hr : ∀ x : (List ProcD × Unit) × (Int × Unit) × Unit, itemsWF k110a.its x → (f110a_tree x.1.1 x.2.1.1).eval = (k110a.F x).eval) : k110a.Ok Tryz.prog := con_fn [k111] ⟨k111_ok, trivial⟩ f110a_eq fun x hw _ hy => (hr x hw).trans hy
theorem k110a_ok : k110a.Ok Tryz.prog := by
  refine f110a_ok fun x hw => ?_
  obtain ⟨⟨a0, _⟩, ⟨a1, _⟩, _⟩ := x
  have l0 : List.length a0 ≤ BIG := hw.1.1.1
  show (f110a_tree a0 a1).eval = some ((((procIdxC a0 a1).1, ()), ()), ((), ((procIdxC a0 a1).2, ()), ()))
  unfold f110a_tree procIdxC procAtV placeBy idxBy
  have h : iter f110a_L0 FUEL ((a0, ((List.length a0 : Nat) : Int), (0 : Int), ()), ((a1, ()), ())) = some (match List.findIdx? (fun x => procKey x == a1) a0 with | some i => .inr ((((i : Nat) : Int), ()), ((a1, ()), ())) | none => .inl ((), ((a1, ()), ()))) := idx_loop (f := f110a_L0) a0 (fun x => procKey x == a1) (fun i => ((a0, ((List.length a0 : Nat) : Int), ((i : Nat) : Int), ()), ((a1, ()), ()))) (y := ((), ((a1, ()), ()))) (z := fun i => ((((i : Nat) : Int), ()), ((a1, ()), ())))
      (fun i hi hp => by
        have h1 := wrap_succ (i := i) (by omega)
        simp [f110a_L0, Out.eval, hi, h1, cond_eq_ite, procKey, procIsC] at hp ⊢ <;> (try simp_all) <;> (try (rcases hp with h | h <;> simp_all)))
      (fun i hi hp => by simp [f110a_L0, Out.eval, hi, cond_eq_ite, procKey, procIsC] at hp ⊢ <;> (try simp_all) <;> (try (rcases hp with h | h <;> simp_all)))
      (by simp [f110a_L0, Out.eval]) l0
  refine (eval_get_some h).trans ?_
  cases List.findIdx? (fun x => procKey x == a1) a0 <;> rfl
def f86_tree (a0 : Int) (a1 : Int) (a2 : List (List InsD)) (a3 : List ProcD) (a4 : List OpenD) (a5 : List CpuD) (a6 : List CpuD) (a7 : List Int) (a8 : List Int) (a9 : Int) : Out (((Int × Unit) × Unit) × (Unit × Unit × Unit)) :=
 .ret ((((procIdxC a3 a9).1, ()), ()), ((), (), ()))
def k86 : Con := { f := 86, lend := true, its := [⟨false, true, [.i .i64, .i .i64, .ro (.sl tyN), .ro tyP, .ro tyO, .ro tyF, .ro tyF, .ro (.int .i64), .ro (.int .i64)]⟩, ⟨false, false, [.i .i64]⟩], lay := [none, none], rs := [⟨false, false, [.i .i64]⟩], F := fun x => .ret ((((procAtV x.1.2.2.2.1 x.2.1.1), ()), ()), ((), (), ())) }
theorem f86_eq (x : itemsD k86.its) : bo [k110a] (fun _ => none) Tryz.f86 k86 [.tmp 4] x = f86_tree x.1.1 x.1.2.1 x.1.2.2.1 x.1.2.2.2.1 x.1.2.2.2.2.1 x.1.2.2.2.2.2.1 x.1.2.2.2.2.2.2.1 x.1.2.2.2.2.2.2.2.1 x.1.2.2.2.2.2.2.2.2.1 x.2.1.1 := by kernel_rfl
theorem f86_ok (hr : ∀ x : UnixD × (Int × Unit) × Unit, itemsWF k86.its x → (f86_tree x.1.1 x.1.2.1 x.1.2.2.1 x.1.2.2.2.1 x.1.2.2.2.2.1 x.1.2.2.2.2.2.1 x.1.2.2.2.2.2.2.1 x.1.2.2.2.2.2.2.2.1 x.1.2.2.2.2.2.2.2.2.1 x.2.1.1).eval = (k86.F x).eval) : k86.Ok Tryz.prog := con_fn [k110a] ⟨k110a_ok, trivial⟩ f86_eq fun x hw _ hy => (hr x hw).trans hy
theorem k86_ok : k86.Ok Tryz.prog := by
  refine f86_ok fun x hw => ?_
  obtain ⟨⟨a0, a1, a2, a3, a4, a5, a6, a7, a8, _⟩, ⟨a9, _⟩, _⟩ := x
  have l2 : List.length a2 ≤ BIG := hw.1.1.1
  have l3 : List.length a3 ≤ BIG := hw.1.2.1.1
  have l4 : List.length a4 ≤ BIG := hw.1.2.2.1.1
  have l5 : List.length a5 ≤ BIG := hw.1.2.2.2.1.1
  have l6 : List.length a6 ≤ BIG := hw.1.2.2.2.2.1.1
  have l7 : List.length a7 ≤ BIG := hw.1.2.2.2.2.2.1.1
  have l8 : List.length a8 ≤ BIG := hw.1.2.2.2.2.2.2.1.1
  show (f86_tree a0 a1 a2 a3 a4 a5 a6 a7 a8 a9).eval = some ((((procAtV a3 a9), ()), ()), ((), (), ()))
  unfold f86_tree procIdxC
  simp only [Out.eval, cond_eq_ite]
  all_goals ((repeat' split) <;> simp_all)
def openIsC (id v : Int) : Bool × Int := (id == v, v)
def f114_tree (a0 : Int) (a1 : Int) (a2 : Int) (a3 : Int) (a4 : Int) (a5 : Int) : Out (((Bool × Unit) × Unit) × (Unit × (Int × Unit) × Unit)) :=
 .ret (((((a0 == a5)), ()), ()), ((), (a5, ()), ()))
def k114 : Con := { f := 114, lend := true, its := [⟨false, true, [.i .i64, .i .i64, .i .i64, .i .i64, .i .i64]⟩, ⟨true, false, [.i .i64]⟩], lay := [none, none], rs := [⟨false, false, [.b]⟩], F := fun x => .ret ((((openIsC x.1.1 x.2.1.1).1, ()), ()), ((), ((openIsC x.1.1 x.2.1.1).2, ()), ())) }
theorem f114_eq (x : itemsD k114.its) : bo [] (fun _ => none) Tryz.f114 k114 [.tmp 3] x = f114_tree x.1.1 x.1.2.1 x.1.2.2.1 x.1.2.2.2.1 x.1.2.2.2.2.1 x.2.1.1 := by kernel_rfl
theorem f114_ok (hr : ∀ x : OpenD × (Int × Unit) × Unit, itemsWF k114.its x → (f114_tree x.1.1 x.1.2.1 x.1.2.2.1 x.1.2.2.2.1 x.1.2.2.2.2.1 x.2.1.1).eval = (k114.F x).eval) : k114.Ok Tryz.prog := con_fn [] trivial f114_eq fun x hw _ hy => (hr x hw).trans hy
theorem k114_ok : k114.Ok Tryz.prog := by
  refine f114_ok fun x hw => ?_
  obtain ⟨⟨a0, a1, a2, a3, a4, _⟩, ⟨a5, _⟩, _⟩ := x
  show (f114_tree a0 a1 a2 a3 a4 a5).eval = some ((((openIsC a0 a5).1, ()), ()), ((), ((openIsC a0 a5).2, ()), ()))
  unfold f114_tree openIsC
  simp only [Out.eval, cond_eq_ite]
  all_goals ((repeat' split) <;> simp_all)
def openIdxC (a : List OpenD) (v : Int) : Int × Int := (openAtV a v, v)
abbrev f113a_S0 := (List OpenD × Int × Int × Unit) × ((Int × Unit) × Unit)
def f113a_L0 : f113a_S0 → Out (Round f113a_S0 ((Unit) × ((Int × Unit) × Unit)) ((Int × Unit) × ((Int × Unit) × Unit)))
| ((p0, p1, p2, _), (p3, _), _) =>
 .ite (decide (p2 < p1))
 (.ite (decide (0 ≤ p2))
 (.get (nth p0 (Int.toNat p2)) fun y1 =>
 .ite ((openIsC y1.1 p3).1)
 (.ret (.ret ((p2, ()), (((openIsC y1.1 p3).2, ()), ()))))
 (.ret (.again ((p0, p1, (IntKind.i64.wrap (p2 + (1 : Int))), ()), (((openIsC y1.1 p3).2, ()), ())))))
 .fail)
 (.ret (.out ((), ((p3, ()), ()))))
def f113a_tree (a0 : List OpenD) (a1 : Int) : Out (((Int × Unit) × Unit) × (Unit × (Int × Unit) × Unit)) :=
 .get (iter f113a_L0 FUEL ((a0, ((List.length a0 : Nat) : Int), (0 : Int), ()), ((a1, ()), ()))) fun y1 => .alt y1 (fun y2 =>
 .ret ((((-1 : Int), ()), ()), ((), (y2.2.1.1, ()), ()))) (fun y3 =>
 .ret (((y3.1.1, ()), ()), ((), (y3.2.1.1, ()), ())))
def f113a_A : Nat → Option LoopAnn := fun n => annOf [(0, { head := { t := [.ro tyO (some 0), .fn 114 [1]] ++ dd 5 ++ [.i .i64, .i .i64] ++ dd 10, v := [(1, .var [.i .i64])] }, out := { t := [.dead, .fn 114 [1]] ++ dd 17, v := [(1, .var [.i .i64])] }, ret := some { t := [.dead, .fn 114 [1], .dead, .dead, .i .i64] ++ dd 14, v := [(1, .var [.i .i64])] } })] n
def k113a : Con := { f := 113, lend := true, its := [⟨false, false, [.ro tyO]⟩, ⟨true, false, [.i .i64]⟩], lay := [none, some (114, 1)], rs := [⟨false, false, [.i .i64]⟩], F := fun x => .ret ((((openIdxC x.1.1 x.2.1.1).1, ()), ()), ((), ((openIdxC x.1.1 x.2.1.1).2, ()), ())) }
theorem f113a_eq (x : itemsD k113a.its) : bo [k114] f113a_A Tryz.f113 k113a [.tmp 4] x = f113a_tree x.1.1 x.2.1.1 := by kernel_rfl
theorem f113a_ok (hr : ∀ x : (List OpenD × Unit) × (Int × Unit) × Unit, itemsWF k113a.its x → (f113a_tree x.1.1 x.2.1.1).eval = (k113a.F x).eval) : k113a.Ok Tryz.prog := con_fn [k114] ⟨k114_ok, trivial⟩ f113a_eq fun x hw _ hy => (hr x hw).trans hy
theorem k113a_ok : k113a.Ok Tryz.prog := by
  refine f113a_ok fun x hw => ?_
  obtain ⟨⟨a0, _⟩, ⟨a1, _⟩, _⟩ := x
  have l0 : List.length a0 ≤ BIG := hw.1.1.1
  show (f113a_tree a0 a1).eval = some ((((openIdxC a0 a1).1, ()), ()), ((), ((openIdxC a0 a1).2, ()), ()))
  unfold f113a_tree openIdxC openAtV placeBy idxBy
  have h : iter f113a_L0 FUEL ((a0, ((List.length a0 : Nat) : Int), (0 : Int), ()), ((a1, ()), ())) = some (match List.findIdx? (fun x => openKey x == a1) a0 with | some i => .inr ((((i : Nat) : Int), ()), ((a1, ()), ())) | none => .inl ((), ((a1, ()), ()))) := idx_loop (f := f113a_L0) a0 (fun x => openKey x == a1) (fun i => ((a0, ((List.length a0 : Nat) : Int), ((i : Nat) : Int), ()), ((a1, ()), ()))) (y := ((), ((a1, ()), ()))) (z := fun i => ((((i : Nat) : Int), ()), ((a1, ()), ())))
      (fun i hi hp => by
        have h1 := wrap_succ (i := i) (by omega)
        simp [f113a_L0, Out.eval, hi, h1, cond_eq_ite, openKey, openIsC] at hp ⊢ <;> (try simp_all) <;> (try (rcases hp with h | h <;> simp_all)))
      (fun i hi hp => by simp [f113a_L0, Out.eval, hi, cond_eq_ite, openKey, openIsC] at hp ⊢ <;> (try simp_all) <;> (try (rcases hp with h | h <;> simp_all)))
      (by simp [f113a_L0, Out.eval]) l0
  refine (eval_get_some h).trans ?_
  cases List.findIdx? (fun x => openKey x == a1) a0 <;> rfl
def f89_tree (a0 : Int) (a1 : Int) (a2 : List (List InsD)) (a3 : List ProcD) (a4 : List OpenD) (a5 : List CpuD) (a6 : List CpuD) (a7 : List Int) (a8 : List Int) (a9 : Int) : Out (((Int × Unit) × Unit) × (Unit × Unit × Unit)) :=
 .ret ((((openIdxC a4 a9).1, ()), ()), ((), (), ()))
def k89 : Con := { f := 89, lend := true, its := [⟨false, true, [.i .i64, .i .i64, .ro (.sl tyN), .ro tyP, .ro tyO, .ro tyF, .ro tyF, .ro (.int .i64), .ro (.int .i64)]⟩, ⟨false, false, [.i .i64]⟩], lay := [none, none], rs := [⟨false, false, [.i .i64]⟩], F := fun x => .ret ((((openAtV x.1.2.2.2.2.1 x.2.1.1), ()), ()), ((), (), ())) }
theorem f89_eq (x : itemsD k89.its) : bo [k113a] (fun _ => none) Tryz.f89 k89 [.tmp 4] x = f89_tree x.1.1 x.1.2.1 x.1.2.2.1 x.1.2.2.2.1 x.1.2.2.2.2.1 x.1.2.2.2.2.2.1 x.1.2.2.2.2.2.2.1 x.1.2.2.2.2.2.2.2.1 x.1.2.2.2.2.2.2.2.2.1 x.2.1.1 := by kernel_rfl
theorem f89_ok (hr : ∀ x : UnixD × (Int × Unit) × Unit, itemsWF k89.its x → (f89_tree x.1.1 x.1.2.1 x.1.2.2.1 x.1.2.2.2.1 x.1.2.2.2.2.1 x.1.2.2.2.2.2.1 x.1.2.2.2.2.2.2.1 x.1.2.2.2.2.2.2.2.1 x.1.2.2.2.2.2.2.2.2.1 x.2.1.1).eval = (k89.F x).eval) : k89.Ok Tryz.prog := con_fn [k113a] ⟨k113a_ok, trivial⟩ f89_eq fun x hw _ hy => (hr x hw).trans hy
theorem k89_ok : k89.Ok Tryz.prog := by
  refine f89_ok fun x hw => ?_
  obtain ⟨⟨a0, a1, a2, a3, a4, a5, a6, a7, a8, _⟩, ⟨a9, _⟩, _⟩ := x
  have l2 : List.length a2 ≤ BIG := hw.1.1.1
  have l3 : List.length a3 ≤ BIG := hw.1.2.1.1
  have l4 : List.length a4 ≤ BIG := hw.1.2.2.1.1
  have l5 : List.length a5 ≤ BIG := hw.1.2.2.2.1.1
  have l6 : List.length a6 ≤ BIG := hw.1.2.2.2.2.1.1
  have l7 : List.length a7 ≤ BIG := hw.1.2.2.2.2.2.1.1
  have l8 : List.length a8 ≤ BIG := hw.1.2.2.2.2.2.2.1.1
  show (f89_tree a0 a1 a2 a3 a4 a5 a6 a7 a8 a9).eval = some ((((openAtV a4 a9), ()), ()), ((), (), ()))
  unfold f89_tree openIdxC
  simp only [Out.eval, cond_eq_ite]
  all_goals ((repeat' split) <;> simp_all)
def pipeIsC (id v : Int) : Bool × Int := (id == v, v)
def f118_tree (a0 : Int) (a1 : List Int) (a2 : Int) : Out (((Bool × Unit) × Unit) × (Unit × (Int × Unit) × Unit)) :=
 .ret (((((a0 == a2)), ()), ()), ((), (a2, ()), ()))
def k118 : Con := { f := 118, lend := true, its := [⟨false, true, [.i .i64, .ro (.int .i64)]⟩, ⟨true, false, [.i .i64]⟩], lay := [none, none], rs := [⟨false, false, [.b]⟩], F := fun x => .ret ((((pipeIsC x.1.1 x.2.1.1).1, ()), ()), ((), ((pipeIsC x.1.1 x.2.1.1).2, ()), ())) }
theorem f118_eq (x : itemsD k118.its) : bo [] (fun _ => none) Tryz.f118 k118 [.tmp 3] x = f118_tree x.1.1 x.1.2.1 x.2.1.1 := by kernel_rfl
theorem f118_ok (hr : ∀ x : CpuD × (Int × Unit) × Unit, itemsWF k118.its x → (f118_tree x.1.1 x.1.2.1 x.2.1.1).eval = (k118.F x).eval) : k118.Ok Tryz.prog := con_fn [] trivial f118_eq fun x hw _ hy => (hr x hw).trans hy
theorem k118_ok : k118.Ok Tryz.prog := by
  refine f118_ok fun x hw => ?_
  obtain ⟨⟨a0, a1, _⟩, ⟨a2, _⟩, _⟩ := x
  have l1 : List.length a1 ≤ BIG := hw.1.1.1
  show (f118_tree a0 a1 a2).eval = some ((((pipeIsC a0 a2).1, ()), ()), ((), ((pipeIsC a0 a2).2, ()), ()))
  unfold f118_tree pipeIsC
  simp only [Out.eval, cond_eq_ite]
  all_goals ((repeat' split) <;> simp_all)
def pipeIdxC (a : List PipeD) (v : Int) : Int × Int := (pipeAtV a v, v)
abbrev f117a_S0 := (List CpuD × Int × Int × Unit) × ((Int × Unit) × Unit)
def f117a_L0 : f117a_S0 → Out (Round f117a_S0 ((Unit) × ((Int × Unit) × Unit)) ((Int × Unit) × ((Int × Unit) × Unit)))
| ((p0, p1, p2, _), (p3, _), _) =>
 .ite (decide (p2 < p1))
 (.ite (decide (0 ≤ p2))
 (.get (nth p0 (Int.toNat p2)) fun y1 =>
 .ite ((pipeIsC y1.1 p3).1)
 (.ret (.ret ((p2, ()), (((pipeIsC y1.1 p3).2, ()), ()))))
 (.ret (.again ((p0, p1, (IntKind.i64.wrap (p2 + (1 : Int))), ()), (((pipeIsC y1.1 p3).2, ()), ())))))
 .fail)
 (.ret (.out ((), ((p3, ()), ()))))
def f117a_tree (a0 : List CpuD) (a1 : Int) : Out (((Int × Unit) × Unit) × (Unit × (Int × Unit) × Unit)) :=
 .get (iter f117a_L0 FUEL ((a0, ((List.length a0 : Nat) : Int), (0 : Int), ()), ((a1, ()), ()))) fun y1 => .alt y1 (fun y2 =>
 .ret ((((-1 : Int), ()), ()), ((), (y2.2.1.1, ()), ()))) (fun y3 =>
 .ret (((y3.1.1, ()), ()), ((), (y3.2.1.1, ()), ())))
def f117a_A : Nat → Option LoopAnn := fun n => annOf [(0, { head := { t := [.ro tyF (some 0), .fn 118 [1]] ++ dd 5 ++ [.i .i64, .i .i64] ++ dd 10, v := [(1, .var [.i .i64])] }, out := { t := [.dead, .fn 118 [1]] ++ dd 17, v := [(1, .var [.i .i64])] }, ret := some { t := [.dead, .fn 118 [1], .dead, .dead, .i .i64] ++ dd 14, v := [(1, .var [.i .i64])] } })] n
def k117a : Con := { f := 117, lend := true, its := [⟨false, false, [.ro tyF]⟩, ⟨true, false, [.i .i64]⟩], lay := [none, some (118, 1)], rs := [⟨false, false, [.i .i64]⟩], F := fun x => .ret ((((pipeIdxC x.1.1 x.2.1.1).1, ()), ()), ((), ((pipeIdxC x.1.1 x.2.1.1).2, ()), ())) }
theorem f117a_eq (x : itemsD k117a.its) : bo [k118] f117a_A Tryz.f117 k117a [.tmp 4] x = f117a_tree x.1.1 x.2.1.1 := by kernel_rfl
theorem f117a_ok (hr : ∀ x : (List CpuD × Unit) × (Int × Unit) × Unit, itemsWF k117a.its x → (f117a_tree x.1.1 x.2.1.1).eval = (k117a.F x).eval) : k117a.Ok Tryz.prog := con_fn [k118] ⟨k118_ok, trivial⟩ f117a_eq fun x hw _ hy => (hr x hw).trans hy
theorem k117a_ok : k117a.Ok Tryz.prog := by
  refine f117a_ok fun x hw => ?_
  obtain ⟨⟨a0, _⟩, ⟨a1, _⟩, _⟩ := x
  have l0 : List.length a0 ≤ BIG := hw.1.1.1
  show (f117a_tree a0 a1).eval = some ((((pipeIdxC a0 a1).1, ()), ()), ((), ((pipeIdxC a0 a1).2, ()), ()))
  unfold f117a_tree pipeIdxC pipeAtV placeBy idxBy
  have h : iter f117a_L0 FUEL ((a0, ((List.length a0 : Nat) : Int), (0 : Int), ()), ((a1, ()), ())) = some (match List.findIdx? (fun x => pipeKey x == a1) a0 with | some i => .inr ((((i : Nat) : Int), ()), ((a1, ()), ())) | none => .inl ((), ((a1, ()), ()))) := idx_loop (f := f117a_L0) a0 (fun x => pipeKey x == a1) (fun i => ((a0, ((List.length a0 : Nat) : Int), ((i : Nat) : Int), ()), ((a1, ()), ()))) (y := ((), ((a1, ()), ()))) (z := fun i => ((((i : Nat) : Int), ()), ((a1, ()), ())))
      (fun i hi hp => by
        have h1 := wrap_succ (i := i) (by omega)
        simp [f117a_L0, Out.eval, hi, h1, cond_eq_ite, pipeKey, pipeIsC] at hp ⊢ <;> (try simp_all) <;> (try (rcases hp with h | h <;> simp_all)))
      (fun i hi hp => by simp [f117a_L0, Out.eval, hi, cond_eq_ite, pipeKey, pipeIsC] at hp ⊢ <;> (try simp_all) <;> (try (rcases hp with h | h <;> simp_all)))
      (by simp [f117a_L0, Out.eval]) l0
  refine (eval_get_some h).trans ?_
  cases List.findIdx? (fun x => pipeKey x == a1) a0 <;> rfl
def f93_tree (a0 : Int) (a1 : Int) (a2 : List (List InsD)) (a3 : List ProcD) (a4 : List OpenD) (a5 : List CpuD) (a6 : List CpuD) (a7 : List Int) (a8 : List Int) (a9 : Int) : Out (((Int × Unit) × Unit) × (Unit × Unit × Unit)) :=
 .ret ((((pipeIdxC a5 a9).1, ()), ()), ((), (), ()))
def k93 : Con := { f := 93, lend := true, its := [⟨false, true, [.i .i64, .i .i64, .ro (.sl tyN), .ro tyP, .ro tyO, .ro tyF, .ro tyF, .ro (.int .i64), .ro (.int .i64)]⟩, ⟨false, false, [.i .i64]⟩], lay := [none, none], rs := [⟨false, false, [.i .i64]⟩], F := fun x => .ret ((((pipeAtV x.1.2.2.2.2.2.1 x.2.1.1), ()), ()), ((), (), ())) }
theorem f93_eq (x : itemsD k93.its) : bo [k117a] (fun _ => none) Tryz.f93 k93 [.tmp 4] x = f93_tree x.1.1 x.1.2.1 x.1.2.2.1 x.1.2.2.2.1 x.1.2.2.2.2.1 x.1.2.2.2.2.2.1 x.1.2.2.2.2.2.2.1 x.1.2.2.2.2.2.2.2.1 x.1.2.2.2.2.2.2.2.2.1 x.2.1.1 := by kernel_rfl
theorem f93_ok (hr : ∀ x : UnixD × (Int × Unit) × Unit, itemsWF k93.its x → (f93_tree x.1.1 x.1.2.1 x.1.2.2.1 x.1.2.2.2.1 x.1.2.2.2.2.1 x.1.2.2.2.2.2.1 x.1.2.2.2.2.2.2.1 x.1.2.2.2.2.2.2.2.1 x.1.2.2.2.2.2.2.2.2.1 x.2.1.1).eval = (k93.F x).eval) : k93.Ok Tryz.prog := con_fn [k117a] ⟨k117a_ok, trivial⟩ f93_eq fun x hw _ hy => (hr x hw).trans hy
theorem k93_ok : k93.Ok Tryz.prog := by
  refine f93_ok fun x hw => ?_
  obtain ⟨⟨a0, a1, a2, a3, a4, a5, a6, a7, a8, _⟩, ⟨a9, _⟩, _⟩ := x
  have l2 : List.length a2 ≤ BIG := hw.1.1.1
  have l3 : List.length a3 ≤ BIG := hw.1.2.1.1
  have l4 : List.length a4 ≤ BIG := hw.1.2.2.1.1
  have l5 : List.length a5 ≤ BIG := hw.1.2.2.2.1.1
  have l6 : List.length a6 ≤ BIG := hw.1.2.2.2.2.1.1
  have l7 : List.length a7 ≤ BIG := hw.1.2.2.2.2.2.1.1
  have l8 : List.length a8 ≤ BIG := hw.1.2.2.2.2.2.2.1.1
  show (f93_tree a0 a1 a2 a3 a4 a5 a6 a7 a8 a9).eval = some ((((pipeAtV a5 a9), ()), ()), ((), (), ()))
  unfold f93_tree pipeIdxC
  simp only [Out.eval, cond_eq_ite]
  all_goals ((repeat' split) <;> simp_all)
def fileIsC (id v : Int) : Bool × Int := (id == v, v)
def f116_tree (a0 : Int) (a1 : List Int) (a2 : Int) : Out (((Bool × Unit) × Unit) × (Unit × (Int × Unit) × Unit)) :=
 .ret (((((a0 == a2)), ()), ()), ((), (a2, ()), ()))
def k116 : Con := { f := 116, lend := true, its := [⟨false, true, [.i .i64, .ro (.int .i64)]⟩, ⟨true, false, [.i .i64]⟩], lay := [none, none], rs := [⟨false, false, [.b]⟩], F := fun x => .ret ((((fileIsC x.1.1 x.2.1.1).1, ()), ()), ((), ((fileIsC x.1.1 x.2.1.1).2, ()), ())) }
theorem f116_eq (x : itemsD k116.its) : bo [] (fun _ => none) Tryz.f116 k116 [.tmp 3] x = f116_tree x.1.1 x.1.2.1 x.2.1.1 := by kernel_rfl
theorem f116_ok (hr : ∀ x : CpuD × (Int × Unit) × Unit, itemsWF k116.its x → (f116_tree x.1.1 x.1.2.1 x.2.1.1).eval = (k116.F x).eval) : k116.Ok Tryz.prog := con_fn [] trivial f116_eq fun x hw _ hy => (hr x hw).trans hy
theorem k116_ok : k116.Ok Tryz.prog := by
  refine f116_ok fun x hw => ?_
  obtain ⟨⟨a0, a1, _⟩, ⟨a2, _⟩, _⟩ := x
  have l1 : List.length a1 ≤ BIG := hw.1.1.1
  show (f116_tree a0 a1 a2).eval = some ((((fileIsC a0 a2).1, ()), ()), ((), ((fileIsC a0 a2).2, ()), ()))
  unfold f116_tree fileIsC
  simp only [Out.eval, cond_eq_ite]
  all_goals ((repeat' split) <;> simp_all)
def fileIdxC (a : List FileD) (v : Int) : Int × Int := (fileAtV a v, v)
abbrev f115a_S0 := (List CpuD × Int × Int × Unit) × ((Int × Unit) × Unit)
def f115a_L0 : f115a_S0 → Out (Round f115a_S0 ((Unit) × ((Int × Unit) × Unit)) ((Int × Unit) × ((Int × Unit) × Unit)))
| ((p0, p1, p2, _), (p3, _), _) =>
 .ite (decide (p2 < p1))
 (.ite (decide (0 ≤ p2))
 (.get (nth p0 (Int.toNat p2)) fun y1 =>
 .ite ((fileIsC y1.1 p3).1)
 (.ret (.ret ((p2, ()), (((fileIsC y1.1 p3).2, ()), ()))))
 (.ret (.again ((p0, p1, (IntKind.i64.wrap (p2 + (1 : Int))), ()), (((fileIsC y1.1 p3).2, ()), ())))))
 .fail)
 (.ret (.out ((), ((p3, ()), ()))))
def f115a_tree (a0 : List CpuD) (a1 : Int) : Out (((Int × Unit) × Unit) × (Unit × (Int × Unit) × Unit)) :=
 .get (iter f115a_L0 FUEL ((a0, ((List.length a0 : Nat) : Int), (0 : Int), ()), ((a1, ()), ()))) fun y1 => .alt y1 (fun y2 =>
 .ret ((((-1 : Int), ()), ()), ((), (y2.2.1.1, ()), ()))) (fun y3 =>
 .ret (((y3.1.1, ()), ()), ((), (y3.2.1.1, ()), ())))
def f115a_A : Nat → Option LoopAnn := fun n => annOf [(0, { head := { t := [.ro tyF (some 0), .fn 116 [1]] ++ dd 5 ++ [.i .i64, .i .i64] ++ dd 10, v := [(1, .var [.i .i64])] }, out := { t := [.dead, .fn 116 [1]] ++ dd 17, v := [(1, .var [.i .i64])] }, ret := some { t := [.dead, .fn 116 [1], .dead, .dead, .i .i64] ++ dd 14, v := [(1, .var [.i .i64])] } })] n
def k115a : Con := { f := 115, lend := true, its := [⟨false, false, [.ro tyF]⟩, ⟨true, false, [.i .i64]⟩], lay := [none, some (116, 1)], rs := [⟨false, false, [.i .i64]⟩], F := fun x => .ret ((((fileIdxC x.1.1 x.2.1.1).1, ()), ()), ((), ((fileIdxC x.1.1 x.2.1.1).2, ()), ())) }
theorem f115a_eq (x : itemsD k115a.its) : bo [k116] f115a_A Tryz.f115 k115a [.tmp 4] x = f115a_tree x.1.1 x.2.1.1 := by kernel_rfl
theorem f115a_ok (hr : ∀ x : (List CpuD × Unit) × (Int × Unit) × Unit, itemsWF k115a.its x → (f115a_tree x.1.1 x.2.1.1).eval = (k115a.F x).eval) : k115a.Ok Tryz.prog := con_fn [k116] ⟨k116_ok, trivial⟩ f115a_eq fun x hw _ hy => (hr x hw).trans hy
theorem k115a_ok : k115a.Ok Tryz.prog := by
  refine f115a_ok fun x hw => ?_
  obtain ⟨⟨a0, _⟩, ⟨a1, _⟩, _⟩ := x
  have l0 : List.length a0 ≤ BIG := hw.1.1.1
  show (f115a_tree a0 a1).eval = some ((((fileIdxC a0 a1).1, ()), ()), ((), ((fileIdxC a0 a1).2, ()), ()))
  unfold f115a_tree fileIdxC fileAtV placeBy idxBy
  have h : iter f115a_L0 FUEL ((a0, ((List.length a0 : Nat) : Int), (0 : Int), ()), ((a1, ()), ())) = some (match List.findIdx? (fun x => fileKey x == a1) a0 with | some i => .inr ((((i : Nat) : Int), ()), ((a1, ()), ())) | none => .inl ((), ((a1, ()), ()))) := idx_loop (f := f115a_L0) a0 (fun x => fileKey x == a1) (fun i => ((a0, ((List.length a0 : Nat) : Int), ((i : Nat) : Int), ()), ((a1, ()), ()))) (y := ((), ((a1, ()), ()))) (z := fun i => ((((i : Nat) : Int), ()), ((a1, ()), ())))
      (fun i hi hp => by
        have h1 := wrap_succ (i := i) (by omega)
        simp [f115a_L0, Out.eval, hi, h1, cond_eq_ite, fileKey, fileIsC] at hp ⊢ <;> (try simp_all) <;> (try (rcases hp with h | h <;> simp_all)))
      (fun i hi hp => by simp [f115a_L0, Out.eval, hi, cond_eq_ite, fileKey, fileIsC] at hp ⊢ <;> (try simp_all) <;> (try (rcases hp with h | h <;> simp_all)))
      (by simp [f115a_L0, Out.eval]) l0
  refine (eval_get_some h).trans ?_
  cases List.findIdx? (fun x => fileKey x == a1) a0 <;> rfl
def f92_tree (a0 : Int) (a1 : Int) (a2 : List (List InsD)) (a3 : List ProcD) (a4 : List OpenD) (a5 : List CpuD) (a6 : List CpuD) (a7 : List Int) (a8 : List Int) (a9 : Int) : Out (((Int × Unit) × Unit) × (Unit × Unit × Unit)) :=
 .ret ((((fileIdxC a6 a9).1, ()), ()), ((), (), ()))
def k92 : Con := { f := 92, lend := true, its := [⟨false, true, [.i .i64, .i .i64, .ro (.sl tyN), .ro tyP, .ro tyO, .ro tyF, .ro tyF, .ro (.int .i64), .ro (.int .i64)]⟩, ⟨false, false, [.i .i64]⟩], lay := [none, none], rs := [⟨false, false, [.i .i64]⟩], F := fun x => .ret ((((fileAtV x.1.2.2.2.2.2.2.1 x.2.1.1), ()), ()), ((), (), ())) }
theorem f92_eq (x : itemsD k92.its) : bo [k115a] (fun _ => none) Tryz.f92 k92 [.tmp 4] x = f92_tree x.1.1 x.1.2.1 x.1.2.2.1 x.1.2.2.2.1 x.1.2.2.2.2.1 x.1.2.2.2.2.2.1 x.1.2.2.2.2.2.2.1 x.1.2.2.2.2.2.2.2.1 x.1.2.2.2.2.2.2.2.2.1 x.2.1.1 := by kernel_rfl
theorem f92_ok (hr : ∀ x : UnixD × (Int × Unit) × Unit, itemsWF k92.its x → (f92_tree x.1.1 x.1.2.1 x.1.2.2.1 x.1.2.2.2.1 x.1.2.2.2.2.1 x.1.2.2.2.2.2.1 x.1.2.2.2.2.2.2.1 x.1.2.2.2.2.2.2.2.1 x.1.2.2.2.2.2.2.2.2.1 x.2.1.1).eval = (k92.F x).eval) : k92.Ok Tryz.prog := con_fn [k115a] ⟨k115a_ok, trivial⟩ f92_eq fun x hw _ hy => (hr x hw).trans hy
theorem k92_ok : k92.Ok Tryz.prog := by
  refine f92_ok fun x hw => ?_
  obtain ⟨⟨a0, a1, a2, a3, a4, a5, a6, a7, a8, _⟩, ⟨a9, _⟩, _⟩ := x
  have l2 : List.length a2 ≤ BIG := hw.1.1.1
  have l3 : List.length a3 ≤ BIG := hw.1.2.1.1
  have l4 : List.length a4 ≤ BIG := hw.1.2.2.1.1
  have l5 : List.length a5 ≤ BIG := hw.1.2.2.2.1.1
  have l6 : List.length a6 ≤ BIG := hw.1.2.2.2.2.1.1
  have l7 : List.length a7 ≤ BIG := hw.1.2.2.2.2.2.1.1
  have l8 : List.length a8 ≤ BIG := hw.1.2.2.2.2.2.2.1.1
  show (f92_tree a0 a1 a2 a3 a4 a5 a6 a7 a8 a9).eval = some ((((fileAtV a6 a9), ()), ()), ((), (), ()))
  unfold f92_tree fileIdxC
  simp only [Out.eval, cond_eq_ite]
  all_goals ((repeat' split) <;> simp_all)
def f85_tree (a0 : Int) (a1 : List Int) : Out (((Bool × Unit) × Unit) × (Unit × Unit)) :=
 .ite ((placeV a0) == true)
 (.ite (((((List.length a1 : Nat) : Int) == (4 : Int))) == true)
 (.ret ((((wordsOkV a1), ()), ()), ((), ())))
 (.ret (((false, ()), ()), ((), ()))))
 (.ret (((false, ()), ()), ((), ())))
def k85 : Con := { f := 85, lend := true, its := [⟨false, true, [.i .i64, .ro (.int .i64)]⟩], lay := [none], rs := [⟨false, false, [.b]⟩], F := fun x => .ret ((((cpuOkV x.1.1 x.1.2.1), ()), ()), ((), ())) }
theorem f85_eq (x : itemsD k85.its) : bo [k109, k51] (fun _ => none) Tryz.f85 k85 [.tmp 2] x = f85_tree x.1.1 x.1.2.1 := by kernel_rfl
theorem f85_ok (hr : ∀ x : CpuD × Unit, itemsWF k85.its x → (f85_tree x.1.1 x.1.2.1).eval = (k85.F x).eval) : k85.Ok Tryz.prog := con_fn [k109, k51] ⟨k109_ok, k51_ok, trivial⟩ f85_eq fun x hw _ hy => (hr x hw).trans hy
theorem k85_ok : k85.Ok Tryz.prog := by
  refine f85_ok fun x hw => ?_
  obtain ⟨⟨a0, a1, _⟩, _⟩ := x
  have l1 : List.length a1 ≤ BIG := hw.1.1.1
  show (f85_tree a0 a1).eval = some ((((cpuOkV a0 a1), ()), ()), ((), ()))
  unfold f85_tree cpuOkV
  simp only [eq4, beq_true']
  cases placeV a0 <;> cases decide (List.length a1 = 4) <;> rfl
abbrev f123_S0 := (List Int × Int × Int × Int × Unit) × (Unit)
def f123_L0 : f123_S0 → Out (Round f123_S0 ((Unit) × (Unit)) ((Int × Unit) × (Unit)))
| ((p0, p1, p2, p3, _), _) =>
 .ite (decide (p3 < p2))
 (.ite (decide (0 ≤ p3))
 (.get (nth p0 (Int.toNat p3)) fun y1 =>
 .ite ((p1 == y1))
 (.ret (.ret ((p3, ()), ())))
 (.ret (.again ((p0, p1, p2, (IntKind.i64.wrap (p3 + (1 : Int))), ()), ()))))
 .fail)
 (.ret (.out ((), ())))
def f123_tree (a0 : List Int) (a1 : Int) : Out (((Int × Unit) × Unit) × (Unit × Unit × Unit)) :=
 .get (iter f123_L0 FUEL ((a0, a1, ((List.length a0 : Nat) : Int), (0 : Int), ()), ())) fun y1 => .alt y1 (fun y2 =>
 .ret ((((-1 : Int), ()), ()), ((), (), ()))) (fun y3 =>
 .ret (((y3.1.1, ()), ()), ((), (), ())))
def f123_A : Nat → Option LoopAnn := fun n => annOf [(0, { head := { t := [.ro (.int .i64) (some 0), .i .i64] ++ dd 5 ++ [.i .i64, .i .i64] ++ dd 10, v := [] }, out := { t := dd 19, v := [] }, ret := some { t := dd 4 ++ [.i .i64] ++ dd 14, v := [] } })] n
def indexIntV (a : List Int) (v : Int) : Int := idxV (a.findIdx? fun y => v == y)
def k123 : Con := { f := 123, lend := true, its := [⟨false, false, [.ro (.int .i64)]⟩, ⟨false, false, [.i .i64]⟩], lay := [none, none], rs := [⟨false, false, [.i .i64]⟩], F := fun x => .ret ((((indexIntV x.1.1 x.2.1.1), ()), ()), ((), (), ())) }
theorem f123_eq (x : itemsD k123.its) : bo [] f123_A Tryz.f123 k123 [.tmp 4] x = f123_tree x.1.1 x.2.1.1 := by kernel_rfl
theorem f123_ok (hr : ∀ x : (List Int × Unit) × (Int × Unit) × Unit, itemsWF k123.its x → (f123_tree x.1.1 x.2.1.1).eval = (k123.F x).eval) : k123.Ok Tryz.prog := con_fn [] trivial f123_eq fun x hw _ hy => (hr x hw).trans hy
theorem k123_ok : k123.Ok Tryz.prog := by
  refine f123_ok fun x hw => ?_
  obtain ⟨⟨a0, _⟩, ⟨a1, _⟩, _⟩ := x
  have l0 : List.length a0 ≤ BIG := hw.1.1.1
  show (f123_tree a0 a1).eval = some ((((indexIntV a0 a1), ()), ()), ((), (), ()))
  unfold f123_tree indexIntV
  have h : iter f123_L0 FUEL ((a0, a1, ((List.length a0 : Nat) : Int), (0 : Int), ()), ()) = some (match List.findIdx? (fun y => a1 == y) a0 with | some i => .inr ((((i : Nat) : Int), ()), ()) | none => .inl ((), ())) := idx_loop (f := f123_L0) a0 (fun y => a1 == y) (fun i => ((a0, a1, ((List.length a0 : Nat) : Int), ((i : Nat) : Int), ()), ())) (y := ((), ())) (z := fun i => ((((i : Nat) : Int), ()), ()))
      (fun i hi hp => by
        have h1 := wrap_succ (i := i) (by omega)
        simp [f123_L0, Out.eval, hi, h1, cond_eq_ite] at hp ⊢ <;> (try simp_all) <;> (try (rcases hp with h | h <;> simp_all)))
      (fun i hi hp => by simp [f123_L0, Out.eval, hi, cond_eq_ite] at hp ⊢ <;> (try simp_all) <;> (try (rcases hp with h | h <;> simp_all)))
      (by simp [f123_L0, Out.eval]) l0
  refine (eval_get_some h).trans ?_
  cases List.findIdx? (fun y => a1 == y) a0 <;> rfl
def f112_tree (a0 : List Int) (a1 : Int) : Out (((Bool × Unit) × Unit) × (Unit × Unit × Unit)) :=
 .ret ((((decide ((indexIntV a0 a1) ≥ (0 : Int))), ()), ()), ((), (), ()))
def k112 : Con := { f := 112, lend := true, its := [⟨false, false, [.ro (.int .i64)]⟩, ⟨false, false, [.i .i64]⟩], lay := [none, none], rs := [⟨false, false, [.b]⟩], F := fun x => .ret ((((hasV x.1.1 x.2.1.1), ()), ()), ((), (), ())) }
theorem f112_eq (x : itemsD k112.its) : bo [k123] (fun _ => none) Tryz.f112 k112 [.tmp 4] x = f112_tree x.1.1 x.2.1.1 := by kernel_rfl
theorem f112_ok (hr : ∀ x : (List Int × Unit) × (Int × Unit) × Unit, itemsWF k112.its x → (f112_tree x.1.1 x.2.1.1).eval = (k112.F x).eval) : k112.Ok Tryz.prog := con_fn [k123] ⟨k123_ok, trivial⟩ f112_eq fun x hw _ hy => (hr x hw).trans hy
theorem k112_ok : k112.Ok Tryz.prog := by
  refine f112_ok fun x hw => ?_
  obtain ⟨⟨a0, _⟩, ⟨a1, _⟩, _⟩ := x
  have l0 : List.length a0 ≤ BIG := hw.1.1.1
  show (f112_tree a0 a1).eval = some ((((hasV a0 a1), ()), ()), ((), (), ()))
  unfold f112_tree indexIntV hasV
  have e : (fun y : Int => a1 == y) = fun y => decide (y = a1) := by
    funext y
    rw [Bool.eq_iff_iff, beq_iff_eq, decide_eq_true_iff]
    exact ⟨Eq.symm, Eq.symm⟩
  rw [idxV_ge, e]
  rfl
def f87_tree (a0 : Int) (a1 : Int) (a2 : List (List InsD)) (a3 : List ProcD) (a4 : List OpenD) (a5 : List CpuD) (a6 : List CpuD) (a7 : List Int) (a8 : List Int) (a9 : Int) (a10 : Int) (a11 : Int) (a12 : Int) (a13 : Int) (a14 : List Int) (a15 : List Int) (a16 : List Int) (a17 : Int) (a18 : Int) : Out (((Bool × Unit) × Unit) × (Unit × Unit × Unit)) :=
 .ite ((a11 == (2 : Int)))
 (.ret ((((decide (a17 > a1)), ()), ()), ((), (), ())))
 (.ite ((a11 == (4 : Int)))
 (.ite ((hasV a16 a17) == true)
 (.ret ((((decide ((openAtV a4 a17) ≥ (0 : Int))), ()), ()), ((), (), ())))
 (.ret (((false, ()), ()), ((), (), ()))))
 (.ite ((a11 == (5 : Int)))
 (.ite ((hasV a16 a17) == true)
 (.ret ((((decide ((openAtV a4 a17) ≥ (0 : Int))), ()), ()), ((), (), ())))
 (.ret (((false, ()), ()), ((), (), ()))))
 (.ret (((((a17 == (0 : Int))), ()), ()), ((), (), ())))))
def k87 : Con := { f := 87, lend := true, its := [⟨false, true, [.i .i64, .i .i64, .ro (.sl tyN), .ro tyP, .ro tyO, .ro tyF, .ro tyF, .ro (.int .i64), .ro (.int .i64)]⟩, ⟨false, true, [.i .i64, .i .i64, .i .i64, .i .i64, .i .i64, .ro (.int .i64), .ro (.int .i64), .ro (.int .i64), .i .i64, .i .i64]⟩], lay := [none, none], rs := [⟨false, false, [.b]⟩], F := fun x => .ret ((((untilOkV x.1.2.1 x.1.2.2.2.2.1 x.2.1.2.2.1 x.2.1.2.2.2.2.2.2.2.1 x.2.1.2.2.2.2.2.2.2.2.1), ()), ()), ((), (), ())) }
theorem f87_eq (x : itemsD k87.its) : bo [k112, k89] (fun _ => none) Tryz.f87 k87 [.tmp 4] x = f87_tree x.1.1 x.1.2.1 x.1.2.2.1 x.1.2.2.2.1 x.1.2.2.2.2.1 x.1.2.2.2.2.2.1 x.1.2.2.2.2.2.2.1 x.1.2.2.2.2.2.2.2.1 x.1.2.2.2.2.2.2.2.2.1 x.2.1.1 x.2.1.2.1 x.2.1.2.2.1 x.2.1.2.2.2.1 x.2.1.2.2.2.2.1 x.2.1.2.2.2.2.2.1 x.2.1.2.2.2.2.2.2.1 x.2.1.2.2.2.2.2.2.2.1 x.2.1.2.2.2.2.2.2.2.2.1 x.2.1.2.2.2.2.2.2.2.2.2.1 := by kernel_rfl
theorem f87_ok (hr : ∀ x : UnixD × (Int × Int × Int × Int × Int × List Int × List Int × List Int × Int × Int × Unit) × Unit, itemsWF k87.its x → (f87_tree x.1.1 x.1.2.1 x.1.2.2.1 x.1.2.2.2.1 x.1.2.2.2.2.1 x.1.2.2.2.2.2.1 x.1.2.2.2.2.2.2.1 x.1.2.2.2.2.2.2.2.1 x.1.2.2.2.2.2.2.2.2.1 x.2.1.1 x.2.1.2.1 x.2.1.2.2.1 x.2.1.2.2.2.1 x.2.1.2.2.2.2.1 x.2.1.2.2.2.2.2.1 x.2.1.2.2.2.2.2.2.1 x.2.1.2.2.2.2.2.2.2.1 x.2.1.2.2.2.2.2.2.2.2.1 x.2.1.2.2.2.2.2.2.2.2.2.1).eval = (k87.F x).eval) : k87.Ok Tryz.prog := con_fn [k112, k89] ⟨k112_ok, k89_ok, trivial⟩ f87_eq fun x hw _ hy => (hr x hw).trans hy
theorem k87_ok : k87.Ok Tryz.prog := by
  refine f87_ok fun x hw => ?_
  obtain ⟨⟨a0, a1, a2, a3, a4, a5, a6, a7, a8, _⟩, ⟨a9, a10, a11, a12, a13, a14, a15, a16, a17, a18, _⟩, _⟩ := x
  have l2 : List.length a2 ≤ BIG := hw.1.1.1
  have l3 : List.length a3 ≤ BIG := hw.1.2.1.1
  have l4 : List.length a4 ≤ BIG := hw.1.2.2.1.1
  have l5 : List.length a5 ≤ BIG := hw.1.2.2.2.1.1
  have l6 : List.length a6 ≤ BIG := hw.1.2.2.2.2.1.1
  have l7 : List.length a7 ≤ BIG := hw.1.2.2.2.2.2.1.1
  have l8 : List.length a8 ≤ BIG := hw.1.2.2.2.2.2.2.1.1
  have l14 : List.length a14 ≤ BIG := hw.2.1.1.1
  have l15 : List.length a15 ≤ BIG := hw.2.1.2.1.1
  have l16 : List.length a16 ≤ BIG := hw.2.1.2.2.1.1
  show (f87_tree a0 a1 a2 a3 a4 a5 a6 a7 a8 a9 a10 a11 a12 a13 a14 a15 a16 a17 a18).eval = some ((((untilOkV a1 a4 a11 a16 a17), ()), ()), ((), (), ()))
  unfold f87_tree untilOkV
  simp only [Out.eval, cond_eq_ite]
  all_goals ((repeat' split) <;> simp_all)
def fdBadC (f nx tk : Int) (os : List OpenD) : Bool × Int × Int := (!(f == -1) && decide (openAtV os f < 0), nx, tk)
def f88_tree (a0 : Int) (a1 : Int) (a2 : Int) (a3 : List (List InsD)) (a4 : List ProcD) (a5 : List OpenD) (a6 : List CpuD) (a7 : List CpuD) (a8 : List Int) (a9 : List Int) : Out (((Bool × Unit) × Unit) × (Unit × (Int × Int × Unit) × Unit)) :=
 .ite (((a0 != (-1 : Int))) == true)
 (.ret ((((decide ((openAtV a5 a0) < (0 : Int))), ()), ()), ((), (a1, a2, ()), ())))
 (.ret (((false, ()), ()), ((), (a1, a2, ()), ())))
def k88 : Con := { f := 88, lend := true, its := [⟨false, false, [.i .i64]⟩, ⟨true, false, [.i .i64, .i .i64, .ro (.sl tyN), .ro tyP, .ro tyO, .ro tyF, .ro tyF, .ro (.int .i64), .ro (.int .i64)]⟩], lay := [none, none], rs := [⟨false, false, [.b]⟩], F := fun x => .ret ((((fdBadC x.1.1 x.2.1.1 x.2.1.2.1 x.2.1.2.2.2.2.1).1, ()), ()), ((), ((fdBadC x.1.1 x.2.1.1 x.2.1.2.1 x.2.1.2.2.2.2.1).2.1, (fdBadC x.1.1 x.2.1.1 x.2.1.2.1 x.2.1.2.2.2.2.1).2.2, ()), ())) }
theorem f88_eq (x : itemsD k88.its) : bo [k89] (fun _ => none) Tryz.f88 k88 [.tmp 3] x = f88_tree x.1.1 x.2.1.1 x.2.1.2.1 x.2.1.2.2.1 x.2.1.2.2.2.1 x.2.1.2.2.2.2.1 x.2.1.2.2.2.2.2.1 x.2.1.2.2.2.2.2.2.1 x.2.1.2.2.2.2.2.2.2.1 x.2.1.2.2.2.2.2.2.2.2.1 := by kernel_rfl
theorem f88_ok (hr : ∀ x : (Int × Unit) × UnixD × Unit, itemsWF k88.its x → (f88_tree x.1.1 x.2.1.1 x.2.1.2.1 x.2.1.2.2.1 x.2.1.2.2.2.1 x.2.1.2.2.2.2.1 x.2.1.2.2.2.2.2.1 x.2.1.2.2.2.2.2.2.1 x.2.1.2.2.2.2.2.2.2.1 x.2.1.2.2.2.2.2.2.2.2.1).eval = (k88.F x).eval) : k88.Ok Tryz.prog := con_fn [k89] ⟨k89_ok, trivial⟩ f88_eq fun x hw _ hy => (hr x hw).trans hy
theorem k88_ok : k88.Ok Tryz.prog := by
  refine f88_ok fun x hw => ?_
  obtain ⟨⟨a0, _⟩, ⟨a1, a2, a3, a4, a5, a6, a7, a8, a9, _⟩, _⟩ := x
  have l3 : List.length a3 ≤ BIG := hw.2.1.1.1
  have l4 : List.length a4 ≤ BIG := hw.2.1.2.1.1
  have l5 : List.length a5 ≤ BIG := hw.2.1.2.2.1.1
  have l6 : List.length a6 ≤ BIG := hw.2.1.2.2.2.1.1
  have l7 : List.length a7 ≤ BIG := hw.2.1.2.2.2.2.1.1
  have l8 : List.length a8 ≤ BIG := hw.2.1.2.2.2.2.2.1.1
  have l9 : List.length a9 ≤ BIG := hw.2.1.2.2.2.2.2.2.1.1
  show (f88_tree a0 a1 a2 a3 a4 a5 a6 a7 a8 a9).eval = some ((((fdBadC a0 a1 a2 a5).1, ()), ()), ((), ((fdBadC a0 a1 a2 a5).2.1, (fdBadC a0 a1 a2 a5).2.2, ()), ()))
  unfold f88_tree fdBadC
  simp only [Out.eval, cond_eq_ite]
  all_goals ((repeat' split) <;> simp_all)
def fdOpenV (f : Int) : Bool := !(f == -1)
def f90_tree (a0 : Int) : Out (((Bool × Unit) × Unit) × (Unit × Unit)) :=
 .ret (((((a0 != (-1 : Int))), ()), ()), ((), ()))
def k90 : Con := { f := 90, lend := true, its := [⟨false, false, [.i .i64]⟩], lay := [none], rs := [⟨false, false, [.b]⟩], F := fun x => .ret ((((fdOpenV x.1.1), ()), ()), ((), ())) }
theorem f90_eq (x : itemsD k90.its) : bo [] (fun _ => none) Tryz.f90 k90 [.tmp 2] x = f90_tree x.1.1 := by kernel_rfl
theorem f90_ok (hr : ∀ x : (Int × Unit) × Unit, itemsWF k90.its x → (f90_tree x.1.1).eval = (k90.F x).eval) : k90.Ok Tryz.prog := con_fn [] trivial f90_eq fun x hw _ hy => (hr x hw).trans hy
theorem k90_ok : k90.Ok Tryz.prog := by
  refine f90_ok fun x hw => ?_
  obtain ⟨⟨a0, _⟩, _⟩ := x
  show (f90_tree a0).eval = some ((((fdOpenV a0), ()), ()), ((), ()))
  rfl
def fdBadIdxC (a : List Int) (nx tk : Int) (os : List OpenD) : Int × Int × Int := (idxV (a.findIdx? fun f => (fdBadC f nx tk os).1), nx, tk)
abbrev f106p_S0 := (List Int × Int × Int × Unit) × (UnixD × Unit)
def f106p_L0 : f106p_S0 → Out (Round f106p_S0 ((Unit) × (UnixD × Unit)) ((Int × Unit) × (UnixD × Unit)))
| ((p0, p1, p2, _), (p3, p4, p5, p6, p7, p8, p9, p10, p11, _), _) =>
 .ite (decide (p2 < p1))
 (.ite (decide (0 ≤ p2))
 (.get (nth p0 (Int.toNat p2)) fun y1 =>
 .ite ((fdBadC y1 p3 p4 p7).1)
 (.ret (.ret ((p2, ()), (((fdBadC y1 p3 p4 p7).2.1, (fdBadC y1 p3 p4 p7).2.2, p5, p6, p7, p8, p9, p10, p11, ()), ()))))
 (.ret (.again ((p0, p1, (IntKind.i64.wrap (p2 + (1 : Int))), ()), (((fdBadC y1 p3 p4 p7).2.1, (fdBadC y1 p3 p4 p7).2.2, p5, p6, p7, p8, p9, p10, p11, ()), ())))))
 .fail)
 (.ret (.out ((), ((p3, p4, p5, p6, p7, p8, p9, p10, p11, ()), ()))))
def f106p_tree (a0 : List Int) (a1 : Int) (a2 : Int) (a3 : List (List InsD)) (a4 : List ProcD) (a5 : List OpenD) (a6 : List CpuD) (a7 : List CpuD) (a8 : List Int) (a9 : List Int) : Out (((Int × Unit) × Unit) × (Unit × (Int × Int × Unit) × Unit)) :=
 .get (iter f106p_L0 FUEL ((a0, ((List.length a0 : Nat) : Int), (0 : Int), ()), ((a1, a2, a3, a4, a5, a6, a7, a8, a9, ()), ()))) fun y1 => .alt y1 (fun y2 =>
 .ret ((((-1 : Int), ()), ()), ((), (y2.2.1.1, y2.2.1.2.1, ()), ()))) (fun y3 =>
 .ret (((y3.1.1, ()), ()), ((), (y3.2.1.1, y3.2.1.2.1, ()), ())))
def f106p_A : Nat → Option LoopAnn := fun n => annOf [(0, { head := { t := [.ro (.int .i64) (some 0), .fn 88 [1]] ++ dd 5 ++ [.i .i64, .i .i64] ++ dd 10, v := [(1, .var [.i .i64, .i .i64, .ro (.sl tyN) (some 2), .ro tyP (some 3), .ro tyO (some 4), .ro tyF (some 5), .ro tyF (some 6), .ro (.int .i64) (some 7), .ro (.int .i64) (some 8)])] }, out := { t := [.dead, .fn 88 [1]] ++ dd 17, v := [(1, .var [.i .i64, .i .i64, .ro (.sl tyN) (some 2), .ro tyP (some 3), .ro tyO (some 4), .ro tyF (some 5), .ro tyF (some 6), .ro (.int .i64) (some 7), .ro (.int .i64) (some 8)])] }, ret := some { t := [.dead, .fn 88 [1], .dead, .dead, .i .i64] ++ dd 14, v := [(1, .var [.i .i64, .i .i64, .ro (.sl tyN) (some 2), .ro tyP (some 3), .ro tyO (some 4), .ro tyF (some 5), .ro tyF (some 6), .ro (.int .i64) (some 7), .ro (.int .i64) (some 8)])] } })] n
def k106p : Con := { f := 106, lend := true, its := [⟨false, false, [.ro (.int .i64)]⟩, ⟨true, false, [.i .i64, .i .i64, .ro (.sl tyN), .ro tyP, .ro tyO, .ro tyF, .ro tyF, .ro (.int .i64), .ro (.int .i64)]⟩], lay := [none, some (88, 1)], rs := [⟨false, false, [.i .i64]⟩], F := fun x => .ret ((((fdBadIdxC x.1.1 x.2.1.1 x.2.1.2.1 x.2.1.2.2.2.2.1).1, ()), ()), ((), ((fdBadIdxC x.1.1 x.2.1.1 x.2.1.2.1 x.2.1.2.2.2.2.1).2.1, (fdBadIdxC x.1.1 x.2.1.1 x.2.1.2.1 x.2.1.2.2.2.2.1).2.2, ()), ())) }
theorem f106p_eq (x : itemsD k106p.its) : bo [k88] f106p_A Tryz.f106 k106p [.tmp 4] x = f106p_tree x.1.1 x.2.1.1 x.2.1.2.1 x.2.1.2.2.1 x.2.1.2.2.2.1 x.2.1.2.2.2.2.1 x.2.1.2.2.2.2.2.1 x.2.1.2.2.2.2.2.2.1 x.2.1.2.2.2.2.2.2.2.1 x.2.1.2.2.2.2.2.2.2.2.1 := by kernel_rfl
theorem f106p_ok (hr : ∀ x : (List Int × Unit) × UnixD × Unit, itemsWF k106p.its x → (f106p_tree x.1.1 x.2.1.1 x.2.1.2.1 x.2.1.2.2.1 x.2.1.2.2.2.1 x.2.1.2.2.2.2.1 x.2.1.2.2.2.2.2.1 x.2.1.2.2.2.2.2.2.1 x.2.1.2.2.2.2.2.2.2.1 x.2.1.2.2.2.2.2.2.2.2.1).eval = (k106p.F x).eval) : k106p.Ok Tryz.prog := con_fn [k88] ⟨k88_ok, trivial⟩ f106p_eq fun x hw _ hy => (hr x hw).trans hy
theorem k106p_ok : k106p.Ok Tryz.prog := by
  refine f106p_ok fun x hw => ?_
  obtain ⟨⟨a0, _⟩, ⟨a1, a2, a3, a4, a5, a6, a7, a8, a9, _⟩, _⟩ := x
  have l0 : List.length a0 ≤ BIG := hw.1.1.1
  have l3 : List.length a3 ≤ BIG := hw.2.1.1.1
  have l4 : List.length a4 ≤ BIG := hw.2.1.2.1.1
  have l5 : List.length a5 ≤ BIG := hw.2.1.2.2.1.1
  have l6 : List.length a6 ≤ BIG := hw.2.1.2.2.2.1.1
  have l7 : List.length a7 ≤ BIG := hw.2.1.2.2.2.2.1.1
  have l8 : List.length a8 ≤ BIG := hw.2.1.2.2.2.2.2.1.1
  have l9 : List.length a9 ≤ BIG := hw.2.1.2.2.2.2.2.2.1.1
  show (f106p_tree a0 a1 a2 a3 a4 a5 a6 a7 a8 a9).eval = some ((((fdBadIdxC a0 a1 a2 a5).1, ()), ()), ((), ((fdBadIdxC a0 a1 a2 a5).2.1, (fdBadIdxC a0 a1 a2 a5).2.2, ()), ()))
  unfold f106p_tree fdBadIdxC
  have h : iter f106p_L0 FUEL ((a0, ((List.length a0 : Nat) : Int), (0 : Int), ()), ((a1, a2, a3, a4, a5, a6, a7, a8, a9, ()), ())) = some (match List.findIdx? (fun f => (fdBadC f a1 a2 a5).1) a0 with | some i => .inr ((((i : Nat) : Int), ()), ((a1, a2, a3, a4, a5, a6, a7, a8, a9, ()), ())) | none => .inl ((), ((a1, a2, a3, a4, a5, a6, a7, a8, a9, ()), ()))) := idx_loop (f := f106p_L0) a0 (fun f => (fdBadC f a1 a2 a5).1) (fun i => ((a0, ((List.length a0 : Nat) : Int), ((i : Nat) : Int), ()), ((a1, a2, a3, a4, a5, a6, a7, a8, a9, ()), ()))) (y := ((), ((a1, a2, a3, a4, a5, a6, a7, a8, a9, ()), ()))) (z := fun i => ((((i : Nat) : Int), ()), ((a1, a2, a3, a4, a5, a6, a7, a8, a9, ()), ())))
      (fun i hi hp => by
        have h1 := wrap_succ (i := i) (by omega)
        simp [f106p_L0, Out.eval, hi, h1, cond_eq_ite, fdBadC] at hp ⊢ <;> (try simp_all) <;> (try (rcases hp with h | h <;> simp_all)))
      (fun i hi hp => by simp [f106p_L0, Out.eval, hi, cond_eq_ite, fdBadC] at hp ⊢ <;> (try simp_all) <;> (try (rcases hp with h | h <;> simp_all)))
      (by simp [f106p_L0, Out.eval]) l0
  refine (eval_get_some h).trans ?_
  cases List.findIdx? (fun f => (fdBadC f a1 a2 a5).1) a0 <;> rfl
def anyFdBadC (a : List Int) (nx tk : Int) (os : List OpenD) : Bool × Int × Int := (a.any fun f => (fdBadC f nx tk os).1, nx, tk)
def f78p_tree (a0 : List Int) (a1 : Int) (a2 : Int) (a3 : List (List InsD)) (a4 : List ProcD) (a5 : List OpenD) (a6 : List CpuD) (a7 : List CpuD) (a8 : List Int) (a9 : List Int) : Out (((Bool × Unit) × Unit) × (Unit × (Int × Int × Unit) × Unit)) :=
 .ret ((((decide ((fdBadIdxC a0 a1 a2 a5).1 ≥ (0 : Int))), ()), ()), ((), ((fdBadIdxC a0 a1 a2 a5).2.1, (fdBadIdxC a0 a1 a2 a5).2.2, ()), ()))
def k78p : Con := { f := 78, lend := true, its := [⟨false, false, [.ro (.int .i64)]⟩, ⟨true, false, [.i .i64, .i .i64, .ro (.sl tyN), .ro tyP, .ro tyO, .ro tyF, .ro tyF, .ro (.int .i64), .ro (.int .i64)]⟩], lay := [none, some (88, 1)], rs := [⟨false, false, [.b]⟩], F := fun x => .ret ((((anyFdBadC x.1.1 x.2.1.1 x.2.1.2.1 x.2.1.2.2.2.2.1).1, ()), ()), ((), ((anyFdBadC x.1.1 x.2.1.1 x.2.1.2.1 x.2.1.2.2.2.2.1).2.1, (anyFdBadC x.1.1 x.2.1.1 x.2.1.2.1 x.2.1.2.2.2.2.1).2.2, ()), ())) }
theorem f78p_eq (x : itemsD k78p.its) : bo [k106p] (fun _ => none) Tryz.f78 k78p [.tmp 4] x = f78p_tree x.1.1 x.2.1.1 x.2.1.2.1 x.2.1.2.2.1 x.2.1.2.2.2.1 x.2.1.2.2.2.2.1 x.2.1.2.2.2.2.2.1 x.2.1.2.2.2.2.2.2.1 x.2.1.2.2.2.2.2.2.2.1 x.2.1.2.2.2.2.2.2.2.2.1 := by kernel_rfl
theorem f78p_ok (hr : ∀ x : (List Int × Unit) × UnixD × Unit, itemsWF k78p.its x → (f78p_tree x.1.1 x.2.1.1 x.2.1.2.1 x.2.1.2.2.1 x.2.1.2.2.2.1 x.2.1.2.2.2.2.1 x.2.1.2.2.2.2.2.1 x.2.1.2.2.2.2.2.2.1 x.2.1.2.2.2.2.2.2.2.1 x.2.1.2.2.2.2.2.2.2.2.1).eval = (k78p.F x).eval) : k78p.Ok Tryz.prog := con_fn [k106p] ⟨k106p_ok, trivial⟩ f78p_eq fun x hw _ hy => (hr x hw).trans hy
theorem k78p_ok : k78p.Ok Tryz.prog := by
  refine f78p_ok fun x hw => ?_
  obtain ⟨⟨a0, _⟩, ⟨a1, a2, a3, a4, a5, a6, a7, a8, a9, _⟩, _⟩ := x
  have l0 : List.length a0 ≤ BIG := hw.1.1.1
  have l3 : List.length a3 ≤ BIG := hw.2.1.1.1
  have l4 : List.length a4 ≤ BIG := hw.2.1.2.1.1
  have l5 : List.length a5 ≤ BIG := hw.2.1.2.2.1.1
  have l6 : List.length a6 ≤ BIG := hw.2.1.2.2.2.1.1
  have l7 : List.length a7 ≤ BIG := hw.2.1.2.2.2.2.1.1
  have l8 : List.length a8 ≤ BIG := hw.2.1.2.2.2.2.2.1.1
  have l9 : List.length a9 ≤ BIG := hw.2.1.2.2.2.2.2.2.1.1
  show (f78p_tree a0 a1 a2 a3 a4 a5 a6 a7 a8 a9).eval = some ((((anyFdBadC a0 a1 a2 a5).1, ()), ()), ((), ((anyFdBadC a0 a1 a2 a5).2.1, (anyFdBadC a0 a1 a2 a5).2.2, ()), ()))
  unfold f78p_tree anyFdBadC fdBadIdxC
  rw [idxV_ge]
  rfl
def fdOpenIdxV (a : List Int) : Int := idxV (a.findIdx? fdOpenV)
abbrev f106q_S0 := (List Int × Int × Int × Unit) × (Unit)
def f106q_L0 : f106q_S0 → Out (Round f106q_S0 ((Unit) × (Unit)) ((Int × Unit) × (Unit)))
| ((p0, p1, p2, _), _) =>
 .ite (decide (p2 < p1))
 (.ite (decide (0 ≤ p2))
 (.get (nth p0 (Int.toNat p2)) fun y1 =>
 .ite (fdOpenV y1)
 (.ret (.ret ((p2, ()), ())))
 (.ret (.again ((p0, p1, (IntKind.i64.wrap (p2 + (1 : Int))), ()), ()))))
 .fail)
 (.ret (.out ((), ())))
def f106q_tree (a0 : List Int) : Out (((Int × Unit) × Unit) × (Unit × Unit)) :=
 .get (iter f106q_L0 FUEL ((a0, ((List.length a0 : Nat) : Int), (0 : Int), ()), ())) fun y1 => .alt y1 (fun y2 =>
 .ret ((((-1 : Int), ()), ()), ((), ()))) (fun y3 =>
 .ret (((y3.1.1, ()), ()), ((), ())))
def f106q_A : Nat → Option LoopAnn := fun n => annOf [(0, { head := { t := [.ro (.int .i64) (some 0), .fn 90 []] ++ dd 5 ++ [.i .i64, .i .i64] ++ dd 10, v := [] }, out := { t := dd 19, v := [] }, ret := some { t := dd 4 ++ [.i .i64] ++ dd 14, v := [] } })] n
def k106q : Con := { f := 106, lend := true, its := [⟨false, false, [.ro (.int .i64)]⟩], lay := [none, some (90, 0)], rs := [⟨false, false, [.i .i64]⟩], F := fun x => .ret ((((fdOpenIdxV x.1.1), ()), ()), ((), ())) }
theorem f106q_eq (x : itemsD k106q.its) : bo [k90] f106q_A Tryz.f106 k106q [.tmp 4] x = f106q_tree x.1.1 := by kernel_rfl
theorem f106q_ok (hr : ∀ x : (List Int × Unit) × Unit, itemsWF k106q.its x → (f106q_tree x.1.1).eval = (k106q.F x).eval) : k106q.Ok Tryz.prog := con_fn [k90] ⟨k90_ok, trivial⟩ f106q_eq fun x hw _ hy => (hr x hw).trans hy
theorem k106q_ok : k106q.Ok Tryz.prog := by
  refine f106q_ok fun x hw => ?_
  obtain ⟨⟨a0, _⟩, _⟩ := x
  have l0 : List.length a0 ≤ BIG := hw.1.1.1
  show (f106q_tree a0).eval = some ((((fdOpenIdxV a0), ()), ()), ((), ()))
  unfold f106q_tree fdOpenIdxV
  have h : iter f106q_L0 FUEL ((a0, ((List.length a0 : Nat) : Int), (0 : Int), ()), ()) = some (match List.findIdx? fdOpenV a0 with | some i => .inr ((((i : Nat) : Int), ()), ()) | none => .inl ((), ())) := idx_loop (f := f106q_L0) a0 fdOpenV (fun i => ((a0, ((List.length a0 : Nat) : Int), ((i : Nat) : Int), ()), ())) (y := ((), ())) (z := fun i => ((((i : Nat) : Int), ()), ()))
      (fun i hi hp => by
        have h1 := wrap_succ (i := i) (by omega)
        simp [f106q_L0, Out.eval, hi, h1, cond_eq_ite] at hp ⊢ <;> (try simp_all) <;> (try (rcases hp with h | h <;> simp_all)))
      (fun i hi hp => by simp [f106q_L0, Out.eval, hi, cond_eq_ite] at hp ⊢ <;> (try simp_all) <;> (try (rcases hp with h | h <;> simp_all)))
      (by simp [f106q_L0, Out.eval]) l0
  refine (eval_get_some h).trans ?_
  cases List.findIdx? fdOpenV a0 <;> rfl
def anyFdOpenV (a : List Int) : Bool := a.any fdOpenV
def f78q_tree (a0 : List Int) : Out (((Bool × Unit) × Unit) × (Unit × Unit)) :=
 .ret ((((decide ((fdOpenIdxV a0) ≥ (0 : Int))), ()), ()), ((), ()))
def k78q : Con := { f := 78, lend := true, its := [⟨false, false, [.ro (.int .i64)]⟩], lay := [none, some (90, 0)], rs := [⟨false, false, [.b]⟩], F := fun x => .ret ((((anyFdOpenV x.1.1), ()), ()), ((), ())) }
theorem f78q_eq (x : itemsD k78q.its) : bo [k106q] (fun _ => none) Tryz.f78 k78q [.tmp 4] x = f78q_tree x.1.1 := by kernel_rfl
theorem f78q_ok (hr : ∀ x : (List Int × Unit) × Unit, itemsWF k78q.its x → (f78q_tree x.1.1).eval = (k78q.F x).eval) : k78q.Ok Tryz.prog := con_fn [k106q] ⟨k106q_ok, trivial⟩ f78q_eq fun x hw _ hy => (hr x hw).trans hy
theorem k78q_ok : k78q.Ok Tryz.prog := by
  refine f78q_ok fun x hw => ?_
  obtain ⟨⟨a0, _⟩, _⟩ := x
  have l0 : List.length a0 ≤ BIG := hw.1.1.1
  show (f78q_tree a0).eval = some ((((anyFdOpenV a0), ()), ()), ((), ()))
  unfold f78q_tree anyFdOpenV fdOpenIdxV
  rw [idxV_ge]
  rfl
theorem fdBad_all {os : List OpenD} {nx tk : Int} (a : List Int) : (a.any fun f => (fdBadC f nx tk os).1) = !(a.all fun f => f == -1 || decide (0 ≤ openAtV os f)) := by
  rw [Bool.eq_iff_iff]
  simp only [fdBadC, List.any_eq_true, Bool.and_eq_true, Bool.not_eq_true', beq_eq_false_iff_ne, decide_eq_true_eq, Bool.not_eq_eq_eq_not, Bool.not_true, List.all_eq_false, Bool.or_eq_true, beq_iff_eq, not_or, Int.not_le]
theorem fds_same (os : List OpenD) (st : Int) (a : List Int) : a.all (fdOkV os st) = ((a.all fun f => f == -1 || decide (0 ≤ openAtV os f)) && (!(st == 6) || !a.any fdOpenV)) := by
  induction a with
  | nil => cases (st == 6) <;> rfl
  | cons f r ih =>
    rw [List.all_cons, ih, List.all_cons, List.any_cons]
    unfold fdOkV fdOpenV
    cases f == -1 <;> cases decide (0 ≤ openAtV os f) <;> cases (st == 6) <;> cases (r.all fun f => f == -1 || decide (0 ≤ openAtV os f)) <;> cases (r.any fun f => !(f == -1)) <;> rfl
end Go.Proofs.YtcpjdjgipmjhdaaGreatDoor.Dm
