/- Functions of the program, and what they compute. -/
import Derived.Test.YtcpjdjgipmjhdaaGreatQ43
namespace Go.Proofs.YtcpjdjgipmjhdaaGreat.Dm
open Go Go.ChangeShapes Go.WideShapes Go.ChangeAt Go.RowKit
def procIsC (pid v : Int) : Bool × Int := (pid == v, v)
def f145_tree (a0 : Int) (a1 : Int) (a2 : Int) (a3 : Int) (a4 : Int) (a5 : List Int) (a6 : List Int) (a7 : List Int) (a8 : Int) (a9 : Int) (a10 : Int) : Out (((Bool × Unit) × Unit) × (Unit × (Int × Unit) × Unit)) :=
 .ret (((((a0 == a10)), ()), ()), ((), (a10, ()), ()))
def k145 : Con := { f := 145, lend := true, its := [⟨false, true, [.i .i64, .i .i64, .i .i64, .i .i64, .i .i64, .ro (.int .i64), .ro (.int .i64), .ro (.int .i64), .i .i64, .i .i64]⟩, ⟨true, false, [.i .i64]⟩], lay := [none, none], rs := [⟨false, false, [.b]⟩], F := fun x => .ret ((((procIsC x.1.1 x.2.1.1).1, ()), ()), ((), ((procIsC x.1.1 x.2.1.1).2, ()), ())) }
theorem f145_eq (x : itemsD k145.its) : bo [] (fun _ => none) Tryz.f145 k145 [.tmp 3] x = f145_tree x.1.1 x.1.2.1 x.1.2.2.1 x.1.2.2.2.1 x.1.2.2.2.2.1 x.1.2.2.2.2.2.1 x.1.2.2.2.2.2.2.1 x.1.2.2.2.2.2.2.2.1 x.1.2.2.2.2.2.2.2.2.1 x.1.2.2.2.2.2.2.2.2.2.1 x.2.1.1 := by kernel_rfl
theorem f145_ok (hr : ∀ x : (Int × Int × Int × Int × Int × List Int × List Int × List Int × Int × Int × Unit) × (Int × Unit) × Unit, itemsWF k145.its x → (f145_tree x.1.1 x.1.2.1 x.1.2.2.1 x.1.2.2.2.1 x.1.2.2.2.2.1 x.1.2.2.2.2.2.1 x.1.2.2.2.2.2.2.1 x.1.2.2.2.2.2.2.2.1 x.1.2.2.2.2.2.2.2.2.1 x.1.2.2.2.2.2.2.2.2.2.1 x.2.1.1).eval = (k145.F x).eval) : k145.Ok Tryz.prog := con_fn [] trivial f145_eq fun x hw _ hy => (hr x hw).trans hy
theorem k145_ok : k145.Ok Tryz.prog := by
  refine f145_ok fun x hw => ?_
  obtain ⟨⟨a0, a1, a2, a3, a4, a5, a6, a7, a8, a9, _⟩, ⟨a10, _⟩, _⟩ := x
  have l5 : List.length a5 ≤ BIG := hw.1.1.1
  have l6 : List.length a6 ≤ BIG := hw.1.2.1.1
  have l7 : List.length a7 ≤ BIG := hw.1.2.2.1.1
  show (f145_tree a0 a1 a2 a3 a4 a5 a6 a7 a8 a9 a10).eval = some ((((procIsC a0 a10).1, ()), ()), ((), ((procIsC a0 a10).2, ()), ()))
  unfold f145_tree procIsC
  simp only [Out.eval, cond_eq_ite]
  all_goals ((repeat' split) <;> simp_all)
def procIdxC (a : List ProcD) (v : Int) : Int × Int := (procAtV a v, v)
abbrev f144a_S0 := (List ProcD × Int × Int × Unit) × ((Int × Unit) × Unit)
def f144a_L0 : f144a_S0 → Out (Round f144a_S0 ((Unit) × ((Int × Unit) × Unit)) ((Int × Unit) × ((Int × Unit) × Unit)))
| ((p0, p1, p2, _), (p3, _), _) =>
 .ite (decide (p2 < p1))
 (.ite (decide (0 ≤ p2))
 (.get (nth p0 (Int.toNat p2)) fun y1 =>
 .ite ((procIsC y1.1 p3).1)
 (.ret (.ret ((p2, ()), (((procIsC y1.1 p3).2, ()), ()))))
 (.ret (.again ((p0, p1, (IntKind.i64.wrap (p2 + (1 : Int))), ()), (((procIsC y1.1 p3).2, ()), ())))))
 .fail)
 (.ret (.out ((), ((p3, ()), ()))))
def f144a_tree (a0 : List ProcD) (a1 : Int) : Out (((Int × Unit) × Unit) × (Unit × (Int × Unit) × Unit)) :=
 .get (iter f144a_L0 FUEL ((a0, ((List.length a0 : Nat) : Int), (0 : Int), ()), ((a1, ()), ()))) fun y1 => .alt y1 (fun y2 =>
 .ret ((((-1 : Int), ()), ()), ((), (y2.2.1.1, ()), ()))) (fun y3 =>
 .ret (((y3.1.1, ()), ()), ((), (y3.2.1.1, ()), ())))
def f144a_A : Nat → Option LoopAnn := fun n => annOf [(0, { head := { t := [.ro tyP (some 0), .fn 145 [1]] ++ dd 5 ++ [.i .i64, .i .i64] ++ dd 10, v := [(1, .var [.i .i64])] }, out := { t := [.dead, .fn 145 [1]] ++ dd 17, v := [(1, .var [.i .i64])] }, ret := some { t := [.dead, .fn 145 [1], .dead, .dead, .i .i64] ++ dd 14, v := [(1, .var [.i .i64])] } })] n
def k144a : Con := { f := 144, lend := true, its := [⟨false, false, [.ro tyP]⟩, ⟨true, false, [.i .i64]⟩], lay := [none, some (145, 1)], rs := [⟨false, false, [.i .i64]⟩], F := fun x => .ret ((((procIdxC x.1.1 x.2.1.1).1, ()), ()), ((), ((procIdxC x.1.1 x.2.1.1).2, ()), ())) }
theorem f144a_eq (x : itemsD k144a.its) : bo [k145] f144a_A Tryz.f144 k144a [.tmp 4] x = f144a_tree x.1.1 x.2.1.1 := by kernel_rfl
theorem f144a_ok (hr : ∀ x : (List ProcD × Unit) × (Int × Unit) × Unit, itemsWF k144a.its x → (f144a_tree x.1.1 x.2.1.1).eval = (k144a.F x).eval) : k144a.Ok Tryz.prog := con_fn [k145] ⟨k145_ok, trivial⟩ f144a_eq fun x hw _ hy => (hr x hw).trans hy
theorem k144a_ok : k144a.Ok Tryz.prog := by
  refine f144a_ok fun x hw => ?_
  obtain ⟨⟨a0, _⟩, ⟨a1, _⟩, _⟩ := x
  have l0 : List.length a0 ≤ BIG := hw.1.1.1
  show (f144a_tree a0 a1).eval = some ((((procIdxC a0 a1).1, ()), ()), ((), ((procIdxC a0 a1).2, ()), ()))
  unfold f144a_tree procIdxC procAtV placeBy idxBy
  have h : iter f144a_L0 FUEL ((a0, ((List.length a0 : Nat) : Int), (0 : Int), ()), ((a1, ()), ())) = some (match List.findIdx? (fun x => procKey x == a1) a0 with | some i => .inr ((((i : Nat) : Int), ()), ((a1, ()), ())) | none => .inl ((), ((a1, ()), ()))) := idx_loop (f := f144a_L0) a0 (fun x => procKey x == a1) (fun i => ((a0, ((List.length a0 : Nat) : Int), ((i : Nat) : Int), ()), ((a1, ()), ()))) (y := ((), ((a1, ()), ()))) (z := fun i => ((((i : Nat) : Int), ()), ((a1, ()), ())))
      (fun i hi hp => by
        have h1 := wrap_succ (i := i) (by omega)
        simp [f144a_L0, Out.eval, hi, h1, cond_eq_ite, procKey, procIsC] at hp ⊢ <;> (try simp_all) <;> (try (rcases hp with h | h <;> simp_all)))
      (fun i hi hp => by simp [f144a_L0, Out.eval, hi, cond_eq_ite, procKey, procIsC] at hp ⊢ <;> (try simp_all) <;> (try (rcases hp with h | h <;> simp_all)))
      (by simp [f144a_L0, Out.eval]) l0
  refine (eval_get_some h).trans ?_
  cases List.findIdx? (fun x => procKey x == a1) a0 <;> rfl
def f122_tree (a0 : Int) (a1 : Int) (a2 : List (List InsD)) (a3 : List ProcD) (a4 : List OpenD) (a5 : List CpuD) (a6 : List CpuD) (a7 : List Int) (a8 : List Int) (a9 : Int) : Out (((Int × Unit) × Unit) × (Unit × Unit × Unit)) :=
 .ret ((((procIdxC a3 a9).1, ()), ()), ((), (), ()))
def k122 : Con := { f := 122, lend := true, its := [⟨false, true, [.i .i64, .i .i64, .ro (.sl tyN), .ro tyP, .ro tyO, .ro tyF, .ro tyF, .ro (.int .i64), .ro (.int .i64)]⟩, ⟨false, false, [.i .i64]⟩], lay := [none, none], rs := [⟨false, false, [.i .i64]⟩], F := fun x => .ret ((((procAtV x.1.2.2.2.1 x.2.1.1), ()), ()), ((), (), ())) }
theorem f122_eq (x : itemsD k122.its) : bo [k144a] (fun _ => none) Tryz.f122 k122 [.tmp 4] x = f122_tree x.1.1 x.1.2.1 x.1.2.2.1 x.1.2.2.2.1 x.1.2.2.2.2.1 x.1.2.2.2.2.2.1 x.1.2.2.2.2.2.2.1 x.1.2.2.2.2.2.2.2.1 x.1.2.2.2.2.2.2.2.2.1 x.2.1.1 := by kernel_rfl
theorem f122_ok (hr : ∀ x : UnixD × (Int × Unit) × Unit, itemsWF k122.its x → (f122_tree x.1.1 x.1.2.1 x.1.2.2.1 x.1.2.2.2.1 x.1.2.2.2.2.1 x.1.2.2.2.2.2.1 x.1.2.2.2.2.2.2.1 x.1.2.2.2.2.2.2.2.1 x.1.2.2.2.2.2.2.2.2.1 x.2.1.1).eval = (k122.F x).eval) : k122.Ok Tryz.prog := con_fn [k144a] ⟨k144a_ok, trivial⟩ f122_eq fun x hw _ hy => (hr x hw).trans hy
theorem k122_ok : k122.Ok Tryz.prog := by
  refine f122_ok fun x hw => ?_
  obtain ⟨⟨a0, a1, a2, a3, a4, a5, a6, a7, a8, _⟩, ⟨a9, _⟩, _⟩ := x
  have l2 : List.length a2 ≤ BIG := hw.1.1.1
  have l3 : List.length a3 ≤ BIG := hw.1.2.1.1
  have l4 : List.length a4 ≤ BIG := hw.1.2.2.1.1
  have l5 : List.length a5 ≤ BIG := hw.1.2.2.2.1.1
  have l6 : List.length a6 ≤ BIG := hw.1.2.2.2.2.1.1
  have l7 : List.length a7 ≤ BIG := hw.1.2.2.2.2.2.1.1
  have l8 : List.length a8 ≤ BIG := hw.1.2.2.2.2.2.2.1.1
  show (f122_tree a0 a1 a2 a3 a4 a5 a6 a7 a8 a9).eval = some ((((procAtV a3 a9), ()), ()), ((), (), ()))
  unfold f122_tree procIdxC
  simp only [Out.eval, cond_eq_ite]
  all_goals ((repeat' split) <;> simp_all)
def openIsC (id v : Int) : Bool × Int := (id == v, v)
def f148_tree (a0 : Int) (a1 : Int) (a2 : Int) (a3 : Int) (a4 : Int) (a5 : Int) : Out (((Bool × Unit) × Unit) × (Unit × (Int × Unit) × Unit)) :=
 .ret (((((a0 == a5)), ()), ()), ((), (a5, ()), ()))
def k148 : Con := { f := 148, lend := true, its := [⟨false, true, [.i .i64, .i .i64, .i .i64, .i .i64, .i .i64]⟩, ⟨true, false, [.i .i64]⟩], lay := [none, none], rs := [⟨false, false, [.b]⟩], F := fun x => .ret ((((openIsC x.1.1 x.2.1.1).1, ()), ()), ((), ((openIsC x.1.1 x.2.1.1).2, ()), ())) }
theorem f148_eq (x : itemsD k148.its) : bo [] (fun _ => none) Tryz.f148 k148 [.tmp 3] x = f148_tree x.1.1 x.1.2.1 x.1.2.2.1 x.1.2.2.2.1 x.1.2.2.2.2.1 x.2.1.1 := by kernel_rfl
theorem f148_ok (hr : ∀ x : OpenD × (Int × Unit) × Unit, itemsWF k148.its x → (f148_tree x.1.1 x.1.2.1 x.1.2.2.1 x.1.2.2.2.1 x.1.2.2.2.2.1 x.2.1.1).eval = (k148.F x).eval) : k148.Ok Tryz.prog := con_fn [] trivial f148_eq fun x hw _ hy => (hr x hw).trans hy
theorem k148_ok : k148.Ok Tryz.prog := by
  refine f148_ok fun x hw => ?_
  obtain ⟨⟨a0, a1, a2, a3, a4, _⟩, ⟨a5, _⟩, _⟩ := x
  show (f148_tree a0 a1 a2 a3 a4 a5).eval = some ((((openIsC a0 a5).1, ()), ()), ((), ((openIsC a0 a5).2, ()), ()))
  unfold f148_tree openIsC
  simp only [Out.eval, cond_eq_ite]
  all_goals ((repeat' split) <;> simp_all)
def openIdxC (a : List OpenD) (v : Int) : Int × Int := (openAtV a v, v)
abbrev f147a_S0 := (List OpenD × Int × Int × Unit) × ((Int × Unit) × Unit)
def f147a_L0 : f147a_S0 → Out (Round f147a_S0 ((Unit) × ((Int × Unit) × Unit)) ((Int × Unit) × ((Int × Unit) × Unit)))
| ((p0, p1, p2, _), (p3, _), _) =>
 .ite (decide (p2 < p1))
 (.ite (decide (0 ≤ p2))
 (.get (nth p0 (Int.toNat p2)) fun y1 =>
 .ite ((openIsC y1.1 p3).1)
 (.ret (.ret ((p2, ()), (((openIsC y1.1 p3).2, ()), ()))))
 (.ret (.again ((p0, p1, (IntKind.i64.wrap (p2 + (1 : Int))), ()), (((openIsC y1.1 p3).2, ()), ())))))
 .fail)
 (.ret (.out ((), ((p3, ()), ()))))
def f147a_tree (a0 : List OpenD) (a1 : Int) : Out (((Int × Unit) × Unit) × (Unit × (Int × Unit) × Unit)) :=
 .get (iter f147a_L0 FUEL ((a0, ((List.length a0 : Nat) : Int), (0 : Int), ()), ((a1, ()), ()))) fun y1 => .alt y1 (fun y2 =>
 .ret ((((-1 : Int), ()), ()), ((), (y2.2.1.1, ()), ()))) (fun y3 =>
 .ret (((y3.1.1, ()), ()), ((), (y3.2.1.1, ()), ())))
def f147a_A : Nat → Option LoopAnn := fun n => annOf [(0, { head := { t := [.ro tyO (some 0), .fn 148 [1]] ++ dd 5 ++ [.i .i64, .i .i64] ++ dd 10, v := [(1, .var [.i .i64])] }, out := { t := [.dead, .fn 148 [1]] ++ dd 17, v := [(1, .var [.i .i64])] }, ret := some { t := [.dead, .fn 148 [1], .dead, .dead, .i .i64] ++ dd 14, v := [(1, .var [.i .i64])] } })] n
def k147a : Con := { f := 147, lend := true, its := [⟨false, false, [.ro tyO]⟩, ⟨true, false, [.i .i64]⟩], lay := [none, some (148, 1)], rs := [⟨false, false, [.i .i64]⟩], F := fun x => .ret ((((openIdxC x.1.1 x.2.1.1).1, ()), ()), ((), ((openIdxC x.1.1 x.2.1.1).2, ()), ())) }
theorem f147a_eq (x : itemsD k147a.its) : bo [k148] f147a_A Tryz.f147 k147a [.tmp 4] x = f147a_tree x.1.1 x.2.1.1 := by kernel_rfl
theorem f147a_ok (hr : ∀ x : (List OpenD × Unit) × (Int × Unit) × Unit, itemsWF k147a.its x → (f147a_tree x.1.1 x.2.1.1).eval = (k147a.F x).eval) : k147a.Ok Tryz.prog := con_fn [k148] ⟨k148_ok, trivial⟩ f147a_eq fun x hw _ hy => (hr x hw).trans hy
theorem k147a_ok : k147a.Ok Tryz.prog := by
  refine f147a_ok fun x hw => ?_
  obtain ⟨⟨a0, _⟩, ⟨a1, _⟩, _⟩ := x
  have l0 : List.length a0 ≤ BIG := hw.1.1.1
  show (f147a_tree a0 a1).eval = some ((((openIdxC a0 a1).1, ()), ()), ((), ((openIdxC a0 a1).2, ()), ()))
  unfold f147a_tree openIdxC openAtV placeBy idxBy
  have h : iter f147a_L0 FUEL ((a0, ((List.length a0 : Nat) : Int), (0 : Int), ()), ((a1, ()), ())) = some (match List.findIdx? (fun x => openKey x == a1) a0 with | some i => .inr ((((i : Nat) : Int), ()), ((a1, ()), ())) | none => .inl ((), ((a1, ()), ()))) := idx_loop (f := f147a_L0) a0 (fun x => openKey x == a1) (fun i => ((a0, ((List.length a0 : Nat) : Int), ((i : Nat) : Int), ()), ((a1, ()), ()))) (y := ((), ((a1, ()), ()))) (z := fun i => ((((i : Nat) : Int), ()), ((a1, ()), ())))
      (fun i hi hp => by
        have h1 := wrap_succ (i := i) (by omega)
        simp [f147a_L0, Out.eval, hi, h1, cond_eq_ite, openKey, openIsC] at hp ⊢ <;> (try simp_all) <;> (try (rcases hp with h | h <;> simp_all)))
      (fun i hi hp => by simp [f147a_L0, Out.eval, hi, cond_eq_ite, openKey, openIsC] at hp ⊢ <;> (try simp_all) <;> (try (rcases hp with h | h <;> simp_all)))
      (by simp [f147a_L0, Out.eval]) l0
  refine (eval_get_some h).trans ?_
  cases List.findIdx? (fun x => openKey x == a1) a0 <;> rfl
def f125_tree (a0 : Int) (a1 : Int) (a2 : List (List InsD)) (a3 : List ProcD) (a4 : List OpenD) (a5 : List CpuD) (a6 : List CpuD) (a7 : List Int) (a8 : List Int) (a9 : Int) : Out (((Int × Unit) × Unit) × (Unit × Unit × Unit)) :=
 .ret ((((openIdxC a4 a9).1, ()), ()), ((), (), ()))
def k125 : Con := { f := 125, lend := true, its := [⟨false, true, [.i .i64, .i .i64, .ro (.sl tyN), .ro tyP, .ro tyO, .ro tyF, .ro tyF, .ro (.int .i64), .ro (.int .i64)]⟩, ⟨false, false, [.i .i64]⟩], lay := [none, none], rs := [⟨false, false, [.i .i64]⟩], F := fun x => .ret ((((openAtV x.1.2.2.2.2.1 x.2.1.1), ()), ()), ((), (), ())) }
theorem f125_eq (x : itemsD k125.its) : bo [k147a] (fun _ => none) Tryz.f125 k125 [.tmp 4] x = f125_tree x.1.1 x.1.2.1 x.1.2.2.1 x.1.2.2.2.1 x.1.2.2.2.2.1 x.1.2.2.2.2.2.1 x.1.2.2.2.2.2.2.1 x.1.2.2.2.2.2.2.2.1 x.1.2.2.2.2.2.2.2.2.1 x.2.1.1 := by kernel_rfl
theorem f125_ok (hr : ∀ x : UnixD × (Int × Unit) × Unit, itemsWF k125.its x → (f125_tree x.1.1 x.1.2.1 x.1.2.2.1 x.1.2.2.2.1 x.1.2.2.2.2.1 x.1.2.2.2.2.2.1 x.1.2.2.2.2.2.2.1 x.1.2.2.2.2.2.2.2.1 x.1.2.2.2.2.2.2.2.2.1 x.2.1.1).eval = (k125.F x).eval) : k125.Ok Tryz.prog := con_fn [k147a] ⟨k147a_ok, trivial⟩ f125_eq fun x hw _ hy => (hr x hw).trans hy
theorem k125_ok : k125.Ok Tryz.prog := by
  refine f125_ok fun x hw => ?_
  obtain ⟨⟨a0, a1, a2, a3, a4, a5, a6, a7, a8, _⟩, ⟨a9, _⟩, _⟩ := x
  have l2 : List.length a2 ≤ BIG := hw.1.1.1
  have l3 : List.length a3 ≤ BIG := hw.1.2.1.1
  have l4 : List.length a4 ≤ BIG := hw.1.2.2.1.1
  have l5 : List.length a5 ≤ BIG := hw.1.2.2.2.1.1
  have l6 : List.length a6 ≤ BIG := hw.1.2.2.2.2.1.1
  have l7 : List.length a7 ≤ BIG := hw.1.2.2.2.2.2.1.1
  have l8 : List.length a8 ≤ BIG := hw.1.2.2.2.2.2.2.1.1
  show (f125_tree a0 a1 a2 a3 a4 a5 a6 a7 a8 a9).eval = some ((((openAtV a4 a9), ()), ()), ((), (), ()))
  unfold f125_tree openIdxC
  simp only [Out.eval, cond_eq_ite]
  all_goals ((repeat' split) <;> simp_all)
def pipeIsC (id v : Int) : Bool × Int := (id == v, v)
def f152_tree (a0 : Int) (a1 : List Int) (a2 : Int) : Out (((Bool × Unit) × Unit) × (Unit × (Int × Unit) × Unit)) :=
 .ret (((((a0 == a2)), ()), ()), ((), (a2, ()), ()))
def k152 : Con := { f := 152, lend := true, its := [⟨false, true, [.i .i64, .ro (.int .i64)]⟩, ⟨true, false, [.i .i64]⟩], lay := [none, none], rs := [⟨false, false, [.b]⟩], F := fun x => .ret ((((pipeIsC x.1.1 x.2.1.1).1, ()), ()), ((), ((pipeIsC x.1.1 x.2.1.1).2, ()), ())) }
theorem f152_eq (x : itemsD k152.its) : bo [] (fun _ => none) Tryz.f152 k152 [.tmp 3] x = f152_tree x.1.1 x.1.2.1 x.2.1.1 := by kernel_rfl
theorem f152_ok (hr : ∀ x : CpuD × (Int × Unit) × Unit, itemsWF k152.its x → (f152_tree x.1.1 x.1.2.1 x.2.1.1).eval = (k152.F x).eval) : k152.Ok Tryz.prog := con_fn [] trivial f152_eq fun x hw _ hy => (hr x hw).trans hy
theorem k152_ok : k152.Ok Tryz.prog := by
  refine f152_ok fun x hw => ?_
  obtain ⟨⟨a0, a1, _⟩, ⟨a2, _⟩, _⟩ := x
  have l1 : List.length a1 ≤ BIG := hw.1.1.1
  show (f152_tree a0 a1 a2).eval = some ((((pipeIsC a0 a2).1, ()), ()), ((), ((pipeIsC a0 a2).2, ()), ()))
  unfold f152_tree pipeIsC
  simp only [Out.eval, cond_eq_ite]
  all_goals ((repeat' split) <;> simp_all)
def pipeIdxC (a : List PipeD) (v : Int) : Int × Int := (pipeAtV a v, v)
abbrev f151a_S0 := (List CpuD × Int × Int × Unit) × ((Int × Unit) × Unit)
def f151a_L0 : f151a_S0 → Out (Round f151a_S0 ((Unit) × ((Int × Unit) × Unit)) ((Int × Unit) × ((Int × Unit) × Unit)))
| ((p0, p1, p2, _), (p3, _), _) =>
 .ite (decide (p2 < p1))
 (.ite (decide (0 ≤ p2))
 (.get (nth p0 (Int.toNat p2)) fun y1 =>
 .ite ((pipeIsC y1.1 p3).1)
 (.ret (.ret ((p2, ()), (((pipeIsC y1.1 p3).2, ()), ()))))
 (.ret (.again ((p0, p1, (IntKind.i64.wrap (p2 + (1 : Int))), ()), (((pipeIsC y1.1 p3).2, ()), ())))))
 .fail)
 (.ret (.out ((), ((p3, ()), ()))))
def f151a_tree (a0 : List CpuD) (a1 : Int) : Out (((Int × Unit) × Unit) × (Unit × (Int × Unit) × Unit)) :=
 .get (iter f151a_L0 FUEL ((a0, ((List.length a0 : Nat) : Int), (0 : Int), ()), ((a1, ()), ()))) fun y1 => .alt y1 (fun y2 =>
 .ret ((((-1 : Int), ()), ()), ((), (y2.2.1.1, ()), ()))) (fun y3 =>
 .ret (((y3.1.1, ()), ()), ((), (y3.2.1.1, ()), ())))
def f151a_A : Nat → Option LoopAnn := fun n => annOf [(0, { head := { t := [.ro tyF (some 0), .fn 152 [1]] ++ dd 5 ++ [.i .i64, .i .i64] ++ dd 10, v := [(1, .var [.i .i64])] }, out := { t := [.dead, .fn 152 [1]] ++ dd 17, v := [(1, .var [.i .i64])] }, ret := some { t := [.dead, .fn 152 [1], .dead, .dead, .i .i64] ++ dd 14, v := [(1, .var [.i .i64])] } })] n
def k151a : Con := { f := 151, lend := true, its := [⟨false, false, [.ro tyF]⟩, ⟨true, false, [.i .i64]⟩], lay := [none, some (152, 1)], rs := [⟨false, false, [.i .i64]⟩], F := fun x => .ret ((((pipeIdxC x.1.1 x.2.1.1).1, ()), ()), ((), ((pipeIdxC x.1.1 x.2.1.1).2, ()), ())) }
theorem f151a_eq (x : itemsD k151a.its) : bo [k152] f151a_A Tryz.f151 k151a [.tmp 4] x = f151a_tree x.1.1 x.2.1.1 := by kernel_rfl
theorem f151a_ok (hr : ∀ x : (List CpuD × Unit) × (Int × Unit) × Unit, itemsWF k151a.its x → (f151a_tree x.1.1 x.2.1.1).eval = (k151a.F x).eval) : k151a.Ok Tryz.prog := con_fn [k152] ⟨k152_ok, trivial⟩ f151a_eq fun x hw _ hy => (hr x hw).trans hy
theorem k151a_ok : k151a.Ok Tryz.prog := by
  refine f151a_ok fun x hw => ?_
  obtain ⟨⟨a0, _⟩, ⟨a1, _⟩, _⟩ := x
  have l0 : List.length a0 ≤ BIG := hw.1.1.1
  show (f151a_tree a0 a1).eval = some ((((pipeIdxC a0 a1).1, ()), ()), ((), ((pipeIdxC a0 a1).2, ()), ()))
  unfold f151a_tree pipeIdxC pipeAtV placeBy idxBy
  have h : iter f151a_L0 FUEL ((a0, ((List.length a0 : Nat) : Int), (0 : Int), ()), ((a1, ()), ())) = some (match List.findIdx? (fun x => pipeKey x == a1) a0 with | some i => .inr ((((i : Nat) : Int), ()), ((a1, ()), ())) | none => .inl ((), ((a1, ()), ()))) := idx_loop (f := f151a_L0) a0 (fun x => pipeKey x == a1) (fun i => ((a0, ((List.length a0 : Nat) : Int), ((i : Nat) : Int), ()), ((a1, ()), ()))) (y := ((), ((a1, ()), ()))) (z := fun i => ((((i : Nat) : Int), ()), ((a1, ()), ())))
      (fun i hi hp => by
        have h1 := wrap_succ (i := i) (by omega)
        simp [f151a_L0, Out.eval, hi, h1, cond_eq_ite, pipeKey, pipeIsC] at hp ⊢ <;> (try simp_all) <;> (try (rcases hp with h | h <;> simp_all)))
      (fun i hi hp => by simp [f151a_L0, Out.eval, hi, cond_eq_ite, pipeKey, pipeIsC] at hp ⊢ <;> (try simp_all) <;> (try (rcases hp with h | h <;> simp_all)))
      (by simp [f151a_L0, Out.eval]) l0
  refine (eval_get_some h).trans ?_
  cases List.findIdx? (fun x => pipeKey x == a1) a0 <;> rfl
def f129_tree (a0 : Int) (a1 : Int) (a2 : List (List InsD)) (a3 : List ProcD) (a4 : List OpenD) (a5 : List CpuD) (a6 : List CpuD) (a7 : List Int) (a8 : List Int) (a9 : Int) : Out (((Int × Unit) × Unit) × (Unit × Unit × Unit)) :=
 .ret ((((pipeIdxC a5 a9).1, ()), ()), ((), (), ()))
def k129 : Con := { f := 129, lend := true, its := [⟨false, true, [.i .i64, .i .i64, .ro (.sl tyN), .ro tyP, .ro tyO, .ro tyF, .ro tyF, .ro (.int .i64), .ro (.int .i64)]⟩, ⟨false, false, [.i .i64]⟩], lay := [none, none], rs := [⟨false, false, [.i .i64]⟩], F := fun x => .ret ((((pipeAtV x.1.2.2.2.2.2.1 x.2.1.1), ()), ()), ((), (), ())) }
theorem f129_eq (x : itemsD k129.its) : bo [k151a] (fun _ => none) Tryz.f129 k129 [.tmp 4] x = f129_tree x.1.1 x.1.2.1 x.1.2.2.1 x.1.2.2.2.1 x.1.2.2.2.2.1 x.1.2.2.2.2.2.1 x.1.2.2.2.2.2.2.1 x.1.2.2.2.2.2.2.2.1 x.1.2.2.2.2.2.2.2.2.1 x.2.1.1 := by kernel_rfl
theorem f129_ok (hr : ∀ x : UnixD × (Int × Unit) × Unit, itemsWF k129.its x → (f129_tree x.1.1 x.1.2.1 x.1.2.2.1 x.1.2.2.2.1 x.1.2.2.2.2.1 x.1.2.2.2.2.2.1 x.1.2.2.2.2.2.2.1 x.1.2.2.2.2.2.2.2.1 x.1.2.2.2.2.2.2.2.2.1 x.2.1.1).eval = (k129.F x).eval) : k129.Ok Tryz.prog := con_fn [k151a] ⟨k151a_ok, trivial⟩ f129_eq fun x hw _ hy => (hr x hw).trans hy
theorem k129_ok : k129.Ok Tryz.prog := by
  refine f129_ok fun x hw => ?_
  obtain ⟨⟨a0, a1, a2, a3, a4, a5, a6, a7, a8, _⟩, ⟨a9, _⟩, _⟩ := x
  have l2 : List.length a2 ≤ BIG := hw.1.1.1
  have l3 : List.length a3 ≤ BIG := hw.1.2.1.1
  have l4 : List.length a4 ≤ BIG := hw.1.2.2.1.1
  have l5 : List.length a5 ≤ BIG := hw.1.2.2.2.1.1
  have l6 : List.length a6 ≤ BIG := hw.1.2.2.2.2.1.1
  have l7 : List.length a7 ≤ BIG := hw.1.2.2.2.2.2.1.1
  have l8 : List.length a8 ≤ BIG := hw.1.2.2.2.2.2.2.1.1
  show (f129_tree a0 a1 a2 a3 a4 a5 a6 a7 a8 a9).eval = some ((((pipeAtV a5 a9), ()), ()), ((), (), ()))
  unfold f129_tree pipeIdxC
  simp only [Out.eval, cond_eq_ite]
  all_goals ((repeat' split) <;> simp_all)
def fileIsC (id v : Int) : Bool × Int := (id == v, v)
def f150_tree (a0 : Int) (a1 : List Int) (a2 : Int) : Out (((Bool × Unit) × Unit) × (Unit × (Int × Unit) × Unit)) :=
 .ret (((((a0 == a2)), ()), ()), ((), (a2, ()), ()))
def k150 : Con := { f := 150, lend := true, its := [⟨false, true, [.i .i64, .ro (.int .i64)]⟩, ⟨true, false, [.i .i64]⟩], lay := [none, none], rs := [⟨false, false, [.b]⟩], F := fun x => .ret ((((fileIsC x.1.1 x.2.1.1).1, ()), ()), ((), ((fileIsC x.1.1 x.2.1.1).2, ()), ())) }
theorem f150_eq (x : itemsD k150.its) : bo [] (fun _ => none) Tryz.f150 k150 [.tmp 3] x = f150_tree x.1.1 x.1.2.1 x.2.1.1 := by kernel_rfl
theorem f150_ok (hr : ∀ x : CpuD × (Int × Unit) × Unit, itemsWF k150.its x → (f150_tree x.1.1 x.1.2.1 x.2.1.1).eval = (k150.F x).eval) : k150.Ok Tryz.prog := con_fn [] trivial f150_eq fun x hw _ hy => (hr x hw).trans hy
theorem k150_ok : k150.Ok Tryz.prog := by
  refine f150_ok fun x hw => ?_
  obtain ⟨⟨a0, a1, _⟩, ⟨a2, _⟩, _⟩ := x
  have l1 : List.length a1 ≤ BIG := hw.1.1.1
  show (f150_tree a0 a1 a2).eval = some ((((fileIsC a0 a2).1, ()), ()), ((), ((fileIsC a0 a2).2, ()), ()))
  unfold f150_tree fileIsC
  simp only [Out.eval, cond_eq_ite]
  all_goals ((repeat' split) <;> simp_all)
def fileIdxC (a : List FileD) (v : Int) : Int × Int := (fileAtV a v, v)
abbrev f149a_S0 := (List CpuD × Int × Int × Unit) × ((Int × Unit) × Unit)
def f149a_L0 : f149a_S0 → Out (Round f149a_S0 ((Unit) × ((Int × Unit) × Unit)) ((Int × Unit) × ((Int × Unit) × Unit)))
| ((p0, p1, p2, _), (p3, _), _) =>
 .ite (decide (p2 < p1))
 (.ite (decide (0 ≤ p2))
 (.get (nth p0 (Int.toNat p2)) fun y1 =>
 .ite ((fileIsC y1.1 p3).1)
 (.ret (.ret ((p2, ()), (((fileIsC y1.1 p3).2, ()), ()))))
 (.ret (.again ((p0, p1, (IntKind.i64.wrap (p2 + (1 : Int))), ()), (((fileIsC y1.1 p3).2, ()), ())))))
 .fail)
 (.ret (.out ((), ((p3, ()), ()))))
def f149a_tree (a0 : List CpuD) (a1 : Int) : Out (((Int × Unit) × Unit) × (Unit × (Int × Unit) × Unit)) :=
 .get (iter f149a_L0 FUEL ((a0, ((List.length a0 : Nat) : Int), (0 : Int), ()), ((a1, ()), ()))) fun y1 => .alt y1 (fun y2 =>
 .ret ((((-1 : Int), ()), ()), ((), (y2.2.1.1, ()), ()))) (fun y3 =>
 .ret (((y3.1.1, ()), ()), ((), (y3.2.1.1, ()), ())))
def f149a_A : Nat → Option LoopAnn := fun n => annOf [(0, { head := { t := [.ro tyF (some 0), .fn 150 [1]] ++ dd 5 ++ [.i .i64, .i .i64] ++ dd 10, v := [(1, .var [.i .i64])] }, out := { t := [.dead, .fn 150 [1]] ++ dd 17, v := [(1, .var [.i .i64])] }, ret := some { t := [.dead, .fn 150 [1], .dead, .dead, .i .i64] ++ dd 14, v := [(1, .var [.i .i64])] } })] n
def k149a : Con := { f := 149, lend := true, its := [⟨false, false, [.ro tyF]⟩, ⟨true, false, [.i .i64]⟩], lay := [none, some (150, 1)], rs := [⟨false, false, [.i .i64]⟩], F := fun x => .ret ((((fileIdxC x.1.1 x.2.1.1).1, ()), ()), ((), ((fileIdxC x.1.1 x.2.1.1).2, ()), ())) }
theorem f149a_eq (x : itemsD k149a.its) : bo [k150] f149a_A Tryz.f149 k149a [.tmp 4] x = f149a_tree x.1.1 x.2.1.1 := by kernel_rfl
theorem f149a_ok (hr : ∀ x : (List CpuD × Unit) × (Int × Unit) × Unit, itemsWF k149a.its x → (f149a_tree x.1.1 x.2.1.1).eval = (k149a.F x).eval) : k149a.Ok Tryz.prog := con_fn [k150] ⟨k150_ok, trivial⟩ f149a_eq fun x hw _ hy => (hr x hw).trans hy
theorem k149a_ok : k149a.Ok Tryz.prog := by
  refine f149a_ok fun x hw => ?_
  obtain ⟨⟨a0, _⟩, ⟨a1, _⟩, _⟩ := x
  have l0 : List.length a0 ≤ BIG := hw.1.1.1
  show (f149a_tree a0 a1).eval = some ((((fileIdxC a0 a1).1, ()), ()), ((), ((fileIdxC a0 a1).2, ()), ()))
  unfold f149a_tree fileIdxC fileAtV placeBy idxBy
  have h : iter f149a_L0 FUEL ((a0, ((List.length a0 : Nat) : Int), (0 : Int), ()), ((a1, ()), ())) = some (match List.findIdx? (fun x => fileKey x == a1) a0 with | some i => .inr ((((i : Nat) : Int), ()), ((a1, ()), ())) | none => .inl ((), ((a1, ()), ()))) := idx_loop (f := f149a_L0) a0 (fun x => fileKey x == a1) (fun i => ((a0, ((List.length a0 : Nat) : Int), ((i : Nat) : Int), ()), ((a1, ()), ()))) (y := ((), ((a1, ()), ()))) (z := fun i => ((((i : Nat) : Int), ()), ((a1, ()), ())))
      (fun i hi hp => by
        have h1 := wrap_succ (i := i) (by omega)
        simp [f149a_L0, Out.eval, hi, h1, cond_eq_ite, fileKey, fileIsC] at hp ⊢ <;> (try simp_all) <;> (try (rcases hp with h | h <;> simp_all)))
      (fun i hi hp => by simp [f149a_L0, Out.eval, hi, cond_eq_ite, fileKey, fileIsC] at hp ⊢ <;> (try simp_all) <;> (try (rcases hp with h | h <;> simp_all)))
      (by simp [f149a_L0, Out.eval]) l0
  refine (eval_get_some h).trans ?_
  cases List.findIdx? (fun x => fileKey x == a1) a0 <;> rfl
def f128_tree (a0 : Int) (a1 : Int) (a2 : List (List InsD)) (a3 : List ProcD) (a4 : List OpenD) (a5 : List CpuD) (a6 : List CpuD) (a7 : List Int) (a8 : List Int) (a9 : Int) : Out (((Int × Unit) × Unit) × (Unit × Unit × Unit)) :=
 .ret ((((fileIdxC a6 a9).1, ()), ()), ((), (), ()))
def k128 : Con := { f := 128, lend := true, its := [⟨false, true, [.i .i64, .i .i64, .ro (.sl tyN), .ro tyP, .ro tyO, .ro tyF, .ro tyF, .ro (.int .i64), .ro (.int .i64)]⟩, ⟨false, false, [.i .i64]⟩], lay := [none, none], rs := [⟨false, false, [.i .i64]⟩], F := fun x => .ret ((((fileAtV x.1.2.2.2.2.2.2.1 x.2.1.1), ()), ()), ((), (), ())) }
theorem f128_eq (x : itemsD k128.its) : bo [k149a] (fun _ => none) Tryz.f128 k128 [.tmp 4] x = f128_tree x.1.1 x.1.2.1 x.1.2.2.1 x.1.2.2.2.1 x.1.2.2.2.2.1 x.1.2.2.2.2.2.1 x.1.2.2.2.2.2.2.1 x.1.2.2.2.2.2.2.2.1 x.1.2.2.2.2.2.2.2.2.1 x.2.1.1 := by kernel_rfl
theorem f128_ok (hr : ∀ x : UnixD × (Int × Unit) × Unit, itemsWF k128.its x → (f128_tree x.1.1 x.1.2.1 x.1.2.2.1 x.1.2.2.2.1 x.1.2.2.2.2.1 x.1.2.2.2.2.2.1 x.1.2.2.2.2.2.2.1 x.1.2.2.2.2.2.2.2.1 x.1.2.2.2.2.2.2.2.2.1 x.2.1.1).eval = (k128.F x).eval) : k128.Ok Tryz.prog := con_fn [k149a] ⟨k149a_ok, trivial⟩ f128_eq fun x hw _ hy => (hr x hw).trans hy
theorem k128_ok : k128.Ok Tryz.prog := by
  refine f128_ok fun x hw => ?_
  obtain ⟨⟨a0, a1, a2, a3, a4, a5, a6, a7, a8, _⟩, ⟨a9, _⟩, _⟩ := x
  have l2 : List.length a2 ≤ BIG := hw.1.1.1
  have l3 : List.length a3 ≤ BIG := hw.1.2.1.1
  have l4 : List.length a4 ≤ BIG := hw.1.2.2.1.1
  have l5 : List.length a5 ≤ BIG := hw.1.2.2.2.1.1
  have l6 : List.length a6 ≤ BIG := hw.1.2.2.2.2.1.1
  have l7 : List.length a7 ≤ BIG := hw.1.2.2.2.2.2.1.1
  have l8 : List.length a8 ≤ BIG := hw.1.2.2.2.2.2.2.1.1
  show (f128_tree a0 a1 a2 a3 a4 a5 a6 a7 a8 a9).eval = some ((((fileAtV a6 a9), ()), ()), ((), (), ()))
  unfold f128_tree fileIdxC
  simp only [Out.eval, cond_eq_ite]
  all_goals ((repeat' split) <;> simp_all)
def f121_tree (a0 : Int) (a1 : List Int) : Out (((Bool × Unit) × Unit) × (Unit × Unit)) :=
 .ite ((placeV a0) == true)
 (.ite (((((List.length a1 : Nat) : Int) == (4 : Int))) == true)
 (.ret ((((wordsOkV a1), ()), ()), ((), ())))
 (.ret (((false, ()), ()), ((), ()))))
 (.ret (((false, ()), ()), ((), ())))
def k121 : Con := { f := 121, lend := true, its := [⟨false, true, [.i .i64, .ro (.int .i64)]⟩], lay := [none], rs := [⟨false, false, [.b]⟩], F := fun x => .ret ((((cpuOkV x.1.1 x.1.2.1), ()), ()), ((), ())) }
theorem f121_eq (x : itemsD k121.its) : bo [k142, k89] (fun _ => none) Tryz.f121 k121 [.tmp 2] x = f121_tree x.1.1 x.1.2.1 := by kernel_rfl
theorem f121_ok (hr : ∀ x : CpuD × Unit, itemsWF k121.its x → (f121_tree x.1.1 x.1.2.1).eval = (k121.F x).eval) : k121.Ok Tryz.prog := con_fn [k142, k89] ⟨k142_ok, k89_ok, trivial⟩ f121_eq fun x hw _ hy => (hr x hw).trans hy
theorem k121_ok : k121.Ok Tryz.prog := by
  refine f121_ok fun x hw => ?_
  obtain ⟨⟨a0, a1, _⟩, _⟩ := x
  have l1 : List.length a1 ≤ BIG := hw.1.1.1
  show (f121_tree a0 a1).eval = some ((((cpuOkV a0 a1), ()), ()), ((), ()))
  unfold f121_tree cpuOkV
  simp only [eq4, beq_true']
  cases placeV a0 <;> cases decide (List.length a1 = 4) <;> rfl
abbrev f157_S0 := (List Int × Int × Int × Int × Unit) × (Unit)
def f157_L0 : f157_S0 → Out (Round f157_S0 ((Unit) × (Unit)) ((Int × Unit) × (Unit)))
| ((p0, p1, p2, p3, _), _) =>
 .ite (decide (p3 < p2))
 (.ite (decide (0 ≤ p3))
 (.get (nth p0 (Int.toNat p3)) fun y1 =>
 .ite ((p1 == y1))
 (.ret (.ret ((p3, ()), ())))
 (.ret (.again ((p0, p1, p2, (IntKind.i64.wrap (p3 + (1 : Int))), ()), ()))))
 .fail)
 (.ret (.out ((), ())))
def f157_tree (a0 : List Int) (a1 : Int) : Out (((Int × Unit) × Unit) × (Unit × Unit × Unit)) :=
 .get (iter f157_L0 FUEL ((a0, a1, ((List.length a0 : Nat) : Int), (0 : Int), ()), ())) fun y1 => .alt y1 (fun y2 =>
 .ret ((((-1 : Int), ()), ()), ((), (), ()))) (fun y3 =>
 .ret (((y3.1.1, ()), ()), ((), (), ())))
def f157_A : Nat → Option LoopAnn := fun n => annOf [(0, { head := { t := [.ro (.int .i64) (some 0), .i .i64] ++ dd 5 ++ [.i .i64, .i .i64] ++ dd 10, v := [] }, out := { t := dd 19, v := [] }, ret := some { t := dd 4 ++ [.i .i64] ++ dd 14, v := [] } })] n
def indexIntV (a : List Int) (v : Int) : Int := idxV (a.findIdx? fun y => v == y)
def k157 : Con := { f := 157, lend := true, its := [⟨false, false, [.ro (.int .i64)]⟩, ⟨false, false, [.i .i64]⟩], lay := [none, none], rs := [⟨false, false, [.i .i64]⟩], F := fun x => .ret ((((indexIntV x.1.1 x.2.1.1), ()), ()), ((), (), ())) }
theorem f157_eq (x : itemsD k157.its) : bo [] f157_A Tryz.f157 k157 [.tmp 4] x = f157_tree x.1.1 x.2.1.1 := by kernel_rfl
theorem f157_ok (hr : ∀ x : (List Int × Unit) × (Int × Unit) × Unit, itemsWF k157.its x → (f157_tree x.1.1 x.2.1.1).eval = (k157.F x).eval) : k157.Ok Tryz.prog := con_fn [] trivial f157_eq fun x hw _ hy => (hr x hw).trans hy
theorem k157_ok : k157.Ok Tryz.prog := by
  refine f157_ok fun x hw => ?_
  obtain ⟨⟨a0, _⟩, ⟨a1, _⟩, _⟩ := x
  have l0 : List.length a0 ≤ BIG := hw.1.1.1
  show (f157_tree a0 a1).eval = some ((((indexIntV a0 a1), ()), ()), ((), (), ()))
  unfold f157_tree indexIntV
  have h : iter f157_L0 FUEL ((a0, a1, ((List.length a0 : Nat) : Int), (0 : Int), ()), ()) = some (match List.findIdx? (fun y => a1 == y) a0 with | some i => .inr ((((i : Nat) : Int), ()), ()) | none => .inl ((), ())) := idx_loop (f := f157_L0) a0 (fun y => a1 == y) (fun i => ((a0, a1, ((List.length a0 : Nat) : Int), ((i : Nat) : Int), ()), ())) (y := ((), ())) (z := fun i => ((((i : Nat) : Int), ()), ()))
      (fun i hi hp => by
        have h1 := wrap_succ (i := i) (by omega)
        simp [f157_L0, Out.eval, hi, h1, cond_eq_ite] at hp ⊢ <;> (try simp_all) <;> (try (rcases hp with h | h <;> simp_all)))
      (fun i hi hp => by simp [f157_L0, Out.eval, hi, cond_eq_ite] at hp ⊢ <;> (try simp_all) <;> (try (rcases hp with h | h <;> simp_all)))
      (by simp [f157_L0, Out.eval]) l0
  refine (eval_get_some h).trans ?_
  cases List.findIdx? (fun y => a1 == y) a0 <;> rfl
def f146_tree (a0 : List Int) (a1 : Int) : Out (((Bool × Unit) × Unit) × (Unit × Unit × Unit)) :=
 .ret ((((decide ((indexIntV a0 a1) ≥ (0 : Int))), ()), ()), ((), (), ()))
def k146 : Con := { f := 146, lend := true, its := [⟨false, false, [.ro (.int .i64)]⟩, ⟨false, false, [.i .i64]⟩], lay := [none, none], rs := [⟨false, false, [.b]⟩], F := fun x => .ret ((((hasV x.1.1 x.2.1.1), ()), ()), ((), (), ())) }
theorem f146_eq (x : itemsD k146.its) : bo [k157] (fun _ => none) Tryz.f146 k146 [.tmp 4] x = f146_tree x.1.1 x.2.1.1 := by kernel_rfl
theorem f146_ok (hr : ∀ x : (List Int × Unit) × (Int × Unit) × Unit, itemsWF k146.its x → (f146_tree x.1.1 x.2.1.1).eval = (k146.F x).eval) : k146.Ok Tryz.prog := con_fn [k157] ⟨k157_ok, trivial⟩ f146_eq fun x hw _ hy => (hr x hw).trans hy
theorem k146_ok : k146.Ok Tryz.prog := by
  refine f146_ok fun x hw => ?_
  obtain ⟨⟨a0, _⟩, ⟨a1, _⟩, _⟩ := x
  have l0 : List.length a0 ≤ BIG := hw.1.1.1
  show (f146_tree a0 a1).eval = some ((((hasV a0 a1), ()), ()), ((), (), ()))
  unfold f146_tree indexIntV hasV
  have e : (fun y : Int => a1 == y) = fun y => decide (y = a1) := by
    funext y
    rw [Bool.eq_iff_iff, beq_iff_eq, decide_eq_true_iff]
    exact ⟨Eq.symm, Eq.symm⟩
  rw [idxV_ge, e]
  rfl
def f123_tree (a0 : Int) (a1 : Int) (a2 : List (List InsD)) (a3 : List ProcD) (a4 : List OpenD) (a5 : List CpuD) (a6 : List CpuD) (a7 : List Int) (a8 : List Int) (a9 : Int) (a10 : Int) (a11 : Int) (a12 : Int) (a13 : Int) (a14 : List Int) (a15 : List Int) (a16 : List Int) (a17 : Int) (a18 : Int) : Out (((Bool × Unit) × Unit) × (Unit × Unit × Unit)) :=
 .ite ((a11 == (2 : Int)))
 (.ret ((((decide (a17 > a1)), ()), ()), ((), (), ())))
 (.ite ((a11 == (4 : Int)))
 (.ite ((hasV a16 a17) == true)
 (.ret ((((decide ((openAtV a4 a17) ≥ (0 : Int))), ()), ()), ((), (), ())))
 (.ret (((false, ()), ()), ((), (), ()))))
 (.ite ((a11 == (5 : Int)))
 (.ite ((hasV a16 a17) == true)
 (.ret ((((decide ((openAtV a4 a17) ≥ (0 : Int))), ()), ()), ((), (), ())))
 (.ret (((false, ()), ()), ((), (), ()))))
 (.ret (((((a17 == (0 : Int))), ()), ()), ((), (), ())))))
def k123 : Con := { f := 123, lend := true, its := [⟨false, true, [.i .i64, .i .i64, .ro (.sl tyN), .ro tyP, .ro tyO, .ro tyF, .ro tyF, .ro (.int .i64), .ro (.int .i64)]⟩, ⟨false, true, [.i .i64, .i .i64, .i .i64, .i .i64, .i .i64, .ro (.int .i64), .ro (.int .i64), .ro (.int .i64), .i .i64, .i .i64]⟩], lay := [none, none], rs := [⟨false, false, [.b]⟩], F := fun x => .ret ((((untilOkV x.1.2.1 x.1.2.2.2.2.1 x.2.1.2.2.1 x.2.1.2.2.2.2.2.2.2.1 x.2.1.2.2.2.2.2.2.2.2.1), ()), ()), ((), (), ())) }
theorem f123_eq (x : itemsD k123.its) : bo [k146, k125] (fun _ => none) Tryz.f123 k123 [.tmp 4] x = f123_tree x.1.1 x.1.2.1 x.1.2.2.1 x.1.2.2.2.1 x.1.2.2.2.2.1 x.1.2.2.2.2.2.1 x.1.2.2.2.2.2.2.1 x.1.2.2.2.2.2.2.2.1 x.1.2.2.2.2.2.2.2.2.1 x.2.1.1 x.2.1.2.1 x.2.1.2.2.1 x.2.1.2.2.2.1 x.2.1.2.2.2.2.1 x.2.1.2.2.2.2.2.1 x.2.1.2.2.2.2.2.2.1 x.2.1.2.2.2.2.2.2.2.1 x.2.1.2.2.2.2.2.2.2.2.1 x.2.1.2.2.2.2.2.2.2.2.2.1 := by kernel_rfl
theorem f123_ok (hr : ∀ x : UnixD × (Int × Int × Int × Int × Int × List Int × List Int × List Int × Int × Int × Unit) × Unit, itemsWF k123.its x → (f123_tree x.1.1 x.1.2.1 x.1.2.2.1 x.1.2.2.2.1 x.1.2.2.2.2.1 x.1.2.2.2.2.2.1 x.1.2.2.2.2.2.2.1 x.1.2.2.2.2.2.2.2.1 x.1.2.2.2.2.2.2.2.2.1 x.2.1.1 x.2.1.2.1 x.2.1.2.2.1 x.2.1.2.2.2.1 x.2.1.2.2.2.2.1 x.2.1.2.2.2.2.2.1 x.2.1.2.2.2.2.2.2.1 x.2.1.2.2.2.2.2.2.2.1 x.2.1.2.2.2.2.2.2.2.2.1 x.2.1.2.2.2.2.2.2.2.2.2.1).eval = (k123.F x).eval) : k123.Ok Tryz.prog := con_fn [k146, k125] ⟨k146_ok, k125_ok, trivial⟩ f123_eq fun x hw _ hy => (hr x hw).trans hy
theorem k123_ok : k123.Ok Tryz.prog := by
  refine f123_ok fun x hw => ?_
  obtain ⟨⟨a0, a1, a2, a3, a4, a5, a6, a7, a8, _⟩, ⟨a9, a10, a11, a12, a13, a14, a15, a16, a17, a18, _⟩, _⟩ := x
  have l2 : List.length a2 ≤ BIG := hw.1.1.1
  have l3 : List.length a3 ≤ BIG := hw.1.2.1.1
  have l4 : List.length a4 ≤ BIG := hw.1.2.2.1.1
  have l5 : List.length a5 ≤ BIG := hw.1.2.2.2.1.1
  have l6 : List.length a6 ≤ BIG := hw.1.2.2.2.2.1.1
  have l7 : List.length a7 ≤ BIG := hw.1.2.2.2.2.2.1.1
  have l8 : List.length a8 ≤ BIG := hw.1.2.2.2.2.2.2.1.1
  have l14 : List.length a14 ≤ BIG := hw.2.1.1.1
  have l15 : List.length a15 ≤ BIG := hw.2.1.2.1.1
  have l16 : List.length a16 ≤ BIG := hw.2.1.2.2.1.1
  show (f123_tree a0 a1 a2 a3 a4 a5 a6 a7 a8 a9 a10 a11 a12 a13 a14 a15 a16 a17 a18).eval = some ((((untilOkV a1 a4 a11 a16 a17), ()), ()), ((), (), ()))
  unfold f123_tree untilOkV
  simp only [Out.eval, cond_eq_ite]
  all_goals ((repeat' split) <;> simp_all)
def fdBadC (f nx tk : Int) (os : List OpenD) : Bool × Int × Int := (!(f == -1) && decide (openAtV os f < 0), nx, tk)
def f124_tree (a0 : Int) (a1 : Int) (a2 : Int) (a3 : List (List InsD)) (a4 : List ProcD) (a5 : List OpenD) (a6 : List CpuD) (a7 : List CpuD) (a8 : List Int) (a9 : List Int) : Out (((Bool × Unit) × Unit) × (Unit × (Int × Int × Unit) × Unit)) :=
 .ite (((a0 != (-1 : Int))) == true)
 (.ret ((((decide ((openAtV a5 a0) < (0 : Int))), ()), ()), ((), (a1, a2, ()), ())))
 (.ret (((false, ()), ()), ((), (a1, a2, ()), ())))
def k124 : Con := { f := 124, lend := true, its := [⟨false, false, [.i .i64]⟩, ⟨true, false, [.i .i64, .i .i64, .ro (.sl tyN), .ro tyP, .ro tyO, .ro tyF, .ro tyF, .ro (.int .i64), .ro (.int .i64)]⟩], lay := [none, none], rs := [⟨false, false, [.b]⟩], F := fun x => .ret ((((fdBadC x.1.1 x.2.1.1 x.2.1.2.1 x.2.1.2.2.2.2.1).1, ()), ()), ((), ((fdBadC x.1.1 x.2.1.1 x.2.1.2.1 x.2.1.2.2.2.2.1).2.1, (fdBadC x.1.1 x.2.1.1 x.2.1.2.1 x.2.1.2.2.2.2.1).2.2, ()), ())) }
theorem f124_eq (x : itemsD k124.its) : bo [k125] (fun _ => none) Tryz.f124 k124 [.tmp 3] x = f124_tree x.1.1 x.2.1.1 x.2.1.2.1 x.2.1.2.2.1 x.2.1.2.2.2.1 x.2.1.2.2.2.2.1 x.2.1.2.2.2.2.2.1 x.2.1.2.2.2.2.2.2.1 x.2.1.2.2.2.2.2.2.2.1 x.2.1.2.2.2.2.2.2.2.2.1 := by kernel_rfl
theorem f124_ok (hr : ∀ x : (Int × Unit) × UnixD × Unit, itemsWF k124.its x → (f124_tree x.1.1 x.2.1.1 x.2.1.2.1 x.2.1.2.2.1 x.2.1.2.2.2.1 x.2.1.2.2.2.2.1 x.2.1.2.2.2.2.2.1 x.2.1.2.2.2.2.2.2.1 x.2.1.2.2.2.2.2.2.2.1 x.2.1.2.2.2.2.2.2.2.2.1).eval = (k124.F x).eval) : k124.Ok Tryz.prog := con_fn [k125] ⟨k125_ok, trivial⟩ f124_eq fun x hw _ hy => (hr x hw).trans hy
theorem k124_ok : k124.Ok Tryz.prog := by
  refine f124_ok fun x hw => ?_
  obtain ⟨⟨a0, _⟩, ⟨a1, a2, a3, a4, a5, a6, a7, a8, a9, _⟩, _⟩ := x
  have l3 : List.length a3 ≤ BIG := hw.2.1.1.1
  have l4 : List.length a4 ≤ BIG := hw.2.1.2.1.1
  have l5 : List.length a5 ≤ BIG := hw.2.1.2.2.1.1
  have l6 : List.length a6 ≤ BIG := hw.2.1.2.2.2.1.1
  have l7 : List.length a7 ≤ BIG := hw.2.1.2.2.2.2.1.1
  have l8 : List.length a8 ≤ BIG := hw.2.1.2.2.2.2.2.1.1
  have l9 : List.length a9 ≤ BIG := hw.2.1.2.2.2.2.2.2.1.1
  show (f124_tree a0 a1 a2 a3 a4 a5 a6 a7 a8 a9).eval = some ((((fdBadC a0 a1 a2 a5).1, ()), ()), ((), ((fdBadC a0 a1 a2 a5).2.1, (fdBadC a0 a1 a2 a5).2.2, ()), ()))
  unfold f124_tree fdBadC
  simp only [Out.eval, cond_eq_ite]
  all_goals ((repeat' split) <;> simp_all)
def fdOpenV (f : Int) : Bool := !(f == -1)
def f126_tree (a0 : Int) : Out (((Bool × Unit) × Unit) × (Unit × Unit)) :=
 .ret (((((a0 != (-1 : Int))), ()), ()), ((), ()))
def k126 : Con := { f := 126, lend := true, its := [⟨false, false, [.i .i64]⟩], lay := [none], rs := [⟨false, false, [.b]⟩], F := fun x => .ret ((((fdOpenV x.1.1), ()), ()), ((), ())) }
theorem f126_eq (x : itemsD k126.its) : bo [] (fun _ => none) Tryz.f126 k126 [.tmp 2] x = f126_tree x.1.1 := by kernel_rfl
theorem f126_ok (hr : ∀ x : (Int × Unit) × Unit, itemsWF k126.its x → (f126_tree x.1.1).eval = (k126.F x).eval) : k126.Ok Tryz.prog := con_fn [] trivial f126_eq fun x hw _ hy => (hr x hw).trans hy
theorem k126_ok : k126.Ok Tryz.prog := by
  refine f126_ok fun x hw => ?_
  obtain ⟨⟨a0, _⟩, _⟩ := x
  show (f126_tree a0).eval = some ((((fdOpenV a0), ()), ()), ((), ()))
  rfl
def fdBadIdxC (a : List Int) (nx tk : Int) (os : List OpenD) : Int × Int × Int := (idxV (a.findIdx? fun f => (fdBadC f nx tk os).1), nx, tk)
abbrev f143p_S0 := (List Int × Int × Int × Unit) × (UnixD × Unit)
def f143p_L0 : f143p_S0 → Out (Round f143p_S0 ((Unit) × (UnixD × Unit)) ((Int × Unit) × (UnixD × Unit)))
| ((p0, p1, p2, _), (p3, p4, p5, p6, p7, p8, p9, p10, p11, _), _) =>
 .ite (decide (p2 < p1))
 (.ite (decide (0 ≤ p2))
 (.get (nth p0 (Int.toNat p2)) fun y1 =>
 .ite ((fdBadC y1 p3 p4 p7).1)
 (.ret (.ret ((p2, ()), (((fdBadC y1 p3 p4 p7).2.1, (fdBadC y1 p3 p4 p7).2.2, p5, p6, p7, p8, p9, p10, p11, ()), ()))))
 (.ret (.again ((p0, p1, (IntKind.i64.wrap (p2 + (1 : Int))), ()), (((fdBadC y1 p3 p4 p7).2.1, (fdBadC y1 p3 p4 p7).2.2, p5, p6, p7, p8, p9, p10, p11, ()), ())))))
 .fail)
 (.ret (.out ((), ((p3, p4, p5, p6, p7, p8, p9, p10, p11, ()), ()))))
def f143p_tree (a0 : List Int) (a1 : Int) (a2 : Int) (a3 : List (List InsD)) (a4 : List ProcD) (a5 : List OpenD) (a6 : List CpuD) (a7 : List CpuD) (a8 : List Int) (a9 : List Int) : Out (((Int × Unit) × Unit) × (Unit × (Int × Int × Unit) × Unit)) :=
 .get (iter f143p_L0 FUEL ((a0, ((List.length a0 : Nat) : Int), (0 : Int), ()), ((a1, a2, a3, a4, a5, a6, a7, a8, a9, ()), ()))) fun y1 => .alt y1 (fun y2 =>
 .ret ((((-1 : Int), ()), ()), ((), (y2.2.1.1, y2.2.1.2.1, ()), ()))) (fun y3 =>
 .ret (((y3.1.1, ()), ()), ((), (y3.2.1.1, y3.2.1.2.1, ()), ())))
def f143p_A : Nat → Option LoopAnn := fun n => annOf [(0, { head := { t := [.ro (.int .i64) (some 0), .fn 124 [1]] ++ dd 5 ++ [.i .i64, .i .i64] ++ dd 10, v := [(1, .var [.i .i64, .i .i64, .ro (.sl tyN) (some 2), .ro tyP (some 3), .ro tyO (some 4), .ro tyF (some 5), .ro tyF (some 6), .ro (.int .i64) (some 7), .ro (.int .i64) (some 8)])] }, out := { t := [.dead, .fn 124 [1]] ++ dd 17, v := [(1, .var [.i .i64, .i .i64, .ro (.sl tyN) (some 2), .ro tyP (some 3), .ro tyO (some 4), .ro tyF (some 5), .ro tyF (some 6), .ro (.int .i64) (some 7), .ro (.int .i64) (some 8)])] }, ret := some { t := [.dead, .fn 124 [1], .dead, .dead, .i .i64] ++ dd 14, v := [(1, .var [.i .i64, .i .i64, .ro (.sl tyN) (some 2), .ro tyP (some 3), .ro tyO (some 4), .ro tyF (some 5), .ro tyF (some 6), .ro (.int .i64) (some 7), .ro (.int .i64) (some 8)])] } })] n
def k143p : Con := { f := 143, lend := true, its := [⟨false, false, [.ro (.int .i64)]⟩, ⟨true, false, [.i .i64, .i .i64, .ro (.sl tyN), .ro tyP, .ro tyO, .ro tyF, .ro tyF, .ro (.int .i64), .ro (.int .i64)]⟩], lay := [none, some (124, 1)], rs := [⟨false, false, [.i .i64]⟩], F := fun x => .ret ((((fdBadIdxC x.1.1 x.2.1.1 x.2.1.2.1 x.2.1.2.2.2.2.1).1, ()), ()), ((), ((fdBadIdxC x.1.1 x.2.1.1 x.2.1.2.1 x.2.1.2.2.2.2.1).2.1, (fdBadIdxC x.1.1 x.2.1.1 x.2.1.2.1 x.2.1.2.2.2.2.1).2.2, ()), ())) }
theorem f143p_eq (x : itemsD k143p.its) : bo [k124] f143p_A Tryz.f143 k143p [.tmp 4] x = f143p_tree x.1.1 x.2.1.1 x.2.1.2.1 x.2.1.2.2.1 x.2.1.2.2.2.1 x.2.1.2.2.2.2.1 x.2.1.2.2.2.2.2.1 x.2.1.2.2.2.2.2.2.1 x.2.1.2.2.2.2.2.2.2.1 x.2.1.2.2.2.2.2.2.2.2.1 := by kernel_rfl
theorem f143p_ok (hr : ∀ x : (List Int × Unit) × UnixD × Unit, itemsWF k143p.its x → (f143p_tree x.1.1 x.2.1.1 x.2.1.2.1 x.2.1.2.2.1 x.2.1.2.2.2.1 x.2.1.2.2.2.2.1 x.2.1.2.2.2.2.2.1 x.2.1.2.2.2.2.2.2.1 x.2.1.2.2.2.2.2.2.2.1 x.2.1.2.2.2.2.2.2.2.2.1).eval = (k143p.F x).eval) : k143p.Ok Tryz.prog := con_fn [k124] ⟨k124_ok, trivial⟩ f143p_eq fun x hw _ hy => (hr x hw).trans hy
theorem k143p_ok : k143p.Ok Tryz.prog := by
  refine f143p_ok fun x hw => ?_
  obtain ⟨⟨a0, _⟩, ⟨a1, a2, a3, a4, a5, a6, a7, a8, a9, _⟩, _⟩ := x
  have l0 : List.length a0 ≤ BIG := hw.1.1.1
  have l3 : List.length a3 ≤ BIG := hw.2.1.1.1
  have l4 : List.length a4 ≤ BIG := hw.2.1.2.1.1
  have l5 : List.length a5 ≤ BIG := hw.2.1.2.2.1.1
  have l6 : List.length a6 ≤ BIG := hw.2.1.2.2.2.1.1
  have l7 : List.length a7 ≤ BIG := hw.2.1.2.2.2.2.1.1
  have l8 : List.length a8 ≤ BIG := hw.2.1.2.2.2.2.2.1.1
  have l9 : List.length a9 ≤ BIG := hw.2.1.2.2.2.2.2.2.1.1
  show (f143p_tree a0 a1 a2 a3 a4 a5 a6 a7 a8 a9).eval = some ((((fdBadIdxC a0 a1 a2 a5).1, ()), ()), ((), ((fdBadIdxC a0 a1 a2 a5).2.1, (fdBadIdxC a0 a1 a2 a5).2.2, ()), ()))
  unfold f143p_tree fdBadIdxC
  have h : iter f143p_L0 FUEL ((a0, ((List.length a0 : Nat) : Int), (0 : Int), ()), ((a1, a2, a3, a4, a5, a6, a7, a8, a9, ()), ())) = some (match List.findIdx? (fun f => (fdBadC f a1 a2 a5).1) a0 with | some i => .inr ((((i : Nat) : Int), ()), ((a1, a2, a3, a4, a5, a6, a7, a8, a9, ()), ())) | none => .inl ((), ((a1, a2, a3, a4, a5, a6, a7, a8, a9, ()), ()))) := idx_loop (f := f143p_L0) a0 (fun f => (fdBadC f a1 a2 a5).1) (fun i => ((a0, ((List.length a0 : Nat) : Int), ((i : Nat) : Int), ()), ((a1, a2, a3, a4, a5, a6, a7, a8, a9, ()), ()))) (y := ((), ((a1, a2, a3, a4, a5, a6, a7, a8, a9, ()), ()))) (z := fun i => ((((i : Nat) : Int), ()), ((a1, a2, a3, a4, a5, a6, a7, a8, a9, ()), ())))
      (fun i hi hp => by
        have h1 := wrap_succ (i := i) (by omega)
        simp [f143p_L0, Out.eval, hi, h1, cond_eq_ite, fdBadC] at hp ⊢ <;> (try simp_all) <;> (try (rcases hp with h | h <;> simp_all)))
      (fun i hi hp => by simp [f143p_L0, Out.eval, hi, cond_eq_ite, fdBadC] at hp ⊢ <;> (try simp_all) <;> (try (rcases hp with h | h <;> simp_all)))
      (by simp [f143p_L0, Out.eval]) l0
  refine (eval_get_some h).trans ?_
  cases List.findIdx? (fun f => (fdBadC f a1 a2 a5).1) a0 <;> rfl
def anyFdBadC (a : List Int) (nx tk : Int) (os : List OpenD) : Bool × Int × Int := (a.any fun f => (fdBadC f nx tk os).1, nx, tk)
def f117p_tree (a0 : List Int) (a1 : Int) (a2 : Int) (a3 : List (List InsD)) (a4 : List ProcD) (a5 : List OpenD) (a6 : List CpuD) (a7 : List CpuD) (a8 : List Int) (a9 : List Int) : Out (((Bool × Unit) × Unit) × (Unit × (Int × Int × Unit) × Unit)) :=
 .ret ((((decide ((fdBadIdxC a0 a1 a2 a5).1 ≥ (0 : Int))), ()), ()), ((), ((fdBadIdxC a0 a1 a2 a5).2.1, (fdBadIdxC a0 a1 a2 a5).2.2, ()), ()))
def k117p : Con := { f := 117, lend := true, its := [⟨false, false, [.ro (.int .i64)]⟩, ⟨true, false, [.i .i64, .i .i64, .ro (.sl tyN), .ro tyP, .ro tyO, .ro tyF, .ro tyF, .ro (.int .i64), .ro (.int .i64)]⟩], lay := [none, some (124, 1)], rs := [⟨false, false, [.b]⟩], F := fun x => .ret ((((anyFdBadC x.1.1 x.2.1.1 x.2.1.2.1 x.2.1.2.2.2.2.1).1, ()), ()), ((), ((anyFdBadC x.1.1 x.2.1.1 x.2.1.2.1 x.2.1.2.2.2.2.1).2.1, (anyFdBadC x.1.1 x.2.1.1 x.2.1.2.1 x.2.1.2.2.2.2.1).2.2, ()), ())) }
theorem f117p_eq (x : itemsD k117p.its) : bo [k143p] (fun _ => none) Tryz.f117 k117p [.tmp 4] x = f117p_tree x.1.1 x.2.1.1 x.2.1.2.1 x.2.1.2.2.1 x.2.1.2.2.2.1 x.2.1.2.2.2.2.1 x.2.1.2.2.2.2.2.1 x.2.1.2.2.2.2.2.2.1 x.2.1.2.2.2.2.2.2.2.1 x.2.1.2.2.2.2.2.2.2.2.1 := by kernel_rfl
theorem f117p_ok (hr : ∀ x : (List Int × Unit) × UnixD × Unit, itemsWF k117p.its x → (f117p_tree x.1.1 x.2.1.1 x.2.1.2.1 x.2.1.2.2.1 x.2.1.2.2.2.1 x.2.1.2.2.2.2.1 x.2.1.2.2.2.2.2.1 x.2.1.2.2.2.2.2.2.1 x.2.1.2.2.2.2.2.2.2.1 x.2.1.2.2.2.2.2.2.2.2.1).eval = (k117p.F x).eval) : k117p.Ok Tryz.prog := con_fn [k143p] ⟨k143p_ok, trivial⟩ f117p_eq fun x hw _ hy => (hr x hw).trans hy
theorem k117p_ok : k117p.Ok Tryz.prog := by
  refine f117p_ok fun x hw => ?_
  obtain ⟨⟨a0, _⟩, ⟨a1, a2, a3, a4, a5, a6, a7, a8, a9, _⟩, _⟩ := x
  have l0 : List.length a0 ≤ BIG := hw.1.1.1
  have l3 : List.length a3 ≤ BIG := hw.2.1.1.1
  have l4 : List.length a4 ≤ BIG := hw.2.1.2.1.1
  have l5 : List.length a5 ≤ BIG := hw.2.1.2.2.1.1
  have l6 : List.length a6 ≤ BIG := hw.2.1.2.2.2.1.1
  have l7 : List.length a7 ≤ BIG := hw.2.1.2.2.2.2.1.1
  have l8 : List.length a8 ≤ BIG := hw.2.1.2.2.2.2.2.1.1
  have l9 : List.length a9 ≤ BIG := hw.2.1.2.2.2.2.2.2.1.1
  show (f117p_tree a0 a1 a2 a3 a4 a5 a6 a7 a8 a9).eval = some ((((anyFdBadC a0 a1 a2 a5).1, ()), ()), ((), ((anyFdBadC a0 a1 a2 a5).2.1, (anyFdBadC a0 a1 a2 a5).2.2, ()), ()))
  unfold f117p_tree anyFdBadC fdBadIdxC
  rw [idxV_ge]
  rfl
def fdOpenIdxV (a : List Int) : Int := idxV (a.findIdx? fdOpenV)
abbrev f143q_S0 := (List Int × Int × Int × Unit) × (Unit)
def f143q_L0 : f143q_S0 → Out (Round f143q_S0 ((Unit) × (Unit)) ((Int × Unit) × (Unit)))
| ((p0, p1, p2, _), _) =>
 .ite (decide (p2 < p1))
 (.ite (decide (0 ≤ p2))
 (.get (nth p0 (Int.toNat p2)) fun y1 =>
 .ite (fdOpenV y1)
 (.ret (.ret ((p2, ()), ())))
 (.ret (.again ((p0, p1, (IntKind.i64.wrap (p2 + (1 : Int))), ()), ()))))
 .fail)
 (.ret (.out ((), ())))
def f143q_tree (a0 : List Int) : Out (((Int × Unit) × Unit) × (Unit × Unit)) :=
 .get (iter f143q_L0 FUEL ((a0, ((List.length a0 : Nat) : Int), (0 : Int), ()), ())) fun y1 => .alt y1 (fun y2 =>
 .ret ((((-1 : Int), ()), ()), ((), ()))) (fun y3 =>
 .ret (((y3.1.1, ()), ()), ((), ())))
def f143q_A : Nat → Option LoopAnn := fun n => annOf [(0, { head := { t := [.ro (.int .i64) (some 0), .fn 126 []] ++ dd 5 ++ [.i .i64, .i .i64] ++ dd 10, v := [] }, out := { t := dd 19, v := [] }, ret := some { t := dd 4 ++ [.i .i64] ++ dd 14, v := [] } })] n
def k143q : Con := { f := 143, lend := true, its := [⟨false, false, [.ro (.int .i64)]⟩], lay := [none, some (126, 0)], rs := [⟨false, false, [.i .i64]⟩], F := fun x => .ret ((((fdOpenIdxV x.1.1), ()), ()), ((), ())) }
theorem f143q_eq (x : itemsD k143q.its) : bo [k126] f143q_A Tryz.f143 k143q [.tmp 4] x = f143q_tree x.1.1 := by kernel_rfl
theorem f143q_ok (hr : ∀ x : (List Int × Unit) × Unit, itemsWF k143q.its x → (f143q_tree x.1.1).eval = (k143q.F x).eval) : k143q.Ok Tryz.prog := con_fn [k126] ⟨k126_ok, trivial⟩ f143q_eq fun x hw _ hy => (hr x hw).trans hy
theorem k143q_ok : k143q.Ok Tryz.prog := by
  refine f143q_ok fun x hw => ?_
  obtain ⟨⟨a0, _⟩, _⟩ := x
  have l0 : List.length a0 ≤ BIG := hw.1.1.1
  show (f143q_tree a0).eval = some ((((fdOpenIdxV a0), ()), ()), ((), ()))
  unfold f143q_tree fdOpenIdxV
  have h : iter f143q_L0 FUEL ((a0, ((List.length a0 : Nat) : Int), (0 : Int), ()), ()) = some (match List.findIdx? fdOpenV a0 with | some i => .inr ((((i : Nat) : Int), ()), ()) | none => .inl ((), ())) := idx_loop (f := f143q_L0) a0 fdOpenV (fun i => ((a0, ((List.length a0 : Nat) : Int), ((i : Nat) : Int), ()), ())) (y := ((), ())) (z := fun i => ((((i : Nat) : Int), ()), ()))
      (fun i hi hp => by
        have h1 := wrap_succ (i := i) (by omega)
        simp [f143q_L0, Out.eval, hi, h1, cond_eq_ite] at hp ⊢ <;> (try simp_all) <;> (try (rcases hp with h | h <;> simp_all)))
      (fun i hi hp => by simp [f143q_L0, Out.eval, hi, cond_eq_ite] at hp ⊢ <;> (try simp_all) <;> (try (rcases hp with h | h <;> simp_all)))
      (by simp [f143q_L0, Out.eval]) l0
  refine (eval_get_some h).trans ?_
  cases List.findIdx? fdOpenV a0 <;> rfl
def anyFdOpenV (a : List Int) : Bool := a.any fdOpenV
def f117q_tree (a0 : List Int) : Out (((Bool × Unit) × Unit) × (Unit × Unit)) :=
 .ret ((((decide ((fdOpenIdxV a0) ≥ (0 : Int))), ()), ()), ((), ()))
def k117q : Con := { f := 117, lend := true, its := [⟨false, false, [.ro (.int .i64)]⟩], lay := [none, some (126, 0)], rs := [⟨false, false, [.b]⟩], F := fun x => .ret ((((anyFdOpenV x.1.1), ()), ()), ((), ())) }
theorem f117q_eq (x : itemsD k117q.its) : bo [k143q] (fun _ => none) Tryz.f117 k117q [.tmp 4] x = f117q_tree x.1.1 := by kernel_rfl
theorem f117q_ok (hr : ∀ x : (List Int × Unit) × Unit, itemsWF k117q.its x → (f117q_tree x.1.1).eval = (k117q.F x).eval) : k117q.Ok Tryz.prog := con_fn [k143q] ⟨k143q_ok, trivial⟩ f117q_eq fun x hw _ hy => (hr x hw).trans hy
theorem k117q_ok : k117q.Ok Tryz.prog := by
  refine f117q_ok fun x hw => ?_
  obtain ⟨⟨a0, _⟩, _⟩ := x
  have l0 : List.length a0 ≤ BIG := hw.1.1.1
  show (f117q_tree a0).eval = some ((((anyFdOpenV a0), ()), ()), ((), ()))
  unfold f117q_tree anyFdOpenV fdOpenIdxV
  rw [idxV_ge]
  rfl
theorem fdBad_all {os : List OpenD} {nx tk : Int} (a : List Int) : (a.any fun f => (fdBadC f nx tk os).1) = !(a.all fun f => f == -1 || decide (0 ≤ openAtV os f)) := by
  rw [Bool.eq_iff_iff]
  simp only [fdBadC, List.any_eq_true, Bool.and_eq_true, Bool.not_eq_true', beq_eq_false_iff_ne, decide_eq_true_eq, Bool.not_eq_eq_eq_not, Bool.not_true, List.all_eq_false, Bool.or_eq_true, beq_iff_eq, not_or, Int.not_le]
theorem fds_same (os : List OpenD) (st : Int) (a : List Int) : a.all (fdOkV os st) = ((a.all fun f => f == -1 || decide (0 ≤ openAtV os f)) && (!(st == 6) || !a.any fdOpenV)) := by
  induction a with
  | nil => cases (st == 6) <;> rfl
  | cons f r ih =>
    rw [List.all_cons, ih, List.all_cons, List.any_cons]
    unfold fdOkV fdOpenV
    cases f == -1 <;> cases decide (0 ≤ openAtV os f) <;> cases (st == 6) <;> cases (r.all fun f => f == -1 || decide (0 ≤ openAtV os f)) <;> cases (r.any fun f => !(f == -1)) <;> rfl
end Go.Proofs.YtcpjdjgipmjhdaaGreat.Dm
