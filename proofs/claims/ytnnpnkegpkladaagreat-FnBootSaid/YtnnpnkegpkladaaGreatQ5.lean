/- Functions of the program, and what they compute. -/
import Derived.Test.YtnnpnkegpkladaaGreatQ43
namespace Go.Proofs.YtnnpnkegpkladaaGreat.Dm
open Go Go.ChangeShapes Go.WideShapes Go.ChangeAt Go.RowKit
def procIsC (pid v : Int) : Bool × Int := (pid == v, v)
def f298_tree (a0 : Int) (a1 : Int) (a2 : Int) (a3 : Int) (a4 : Int) (a5 : List Int) (a6 : List Int) (a7 : List Int) (a8 : Int) (a9 : Int) (a10 : Int) : Out (((Bool × Unit) × Unit) × (Unit × (Int × Unit) × Unit)) :=
 .ret (((((a0 == a10)), ()), ()), ((), (a10, ()), ()))
def k298 : Con := { f := 298, lend := true, its := [⟨false, true, [.i .i64, .i .i64, .i .i64, .i .i64, .i .i64, .ro (.int .i64), .ro (.int .i64), .ro (.int .i64), .i .i64, .i .i64]⟩, ⟨true, false, [.i .i64]⟩], lay := [none, none], rs := [⟨false, false, [.b]⟩], F := fun x => .ret ((((procIsC x.1.1 x.2.1.1).1, ()), ()), ((), ((procIsC x.1.1 x.2.1.1).2, ()), ())) }
theorem f298_eq (x : itemsD k298.its) : bo [] (fun _ => none) Tryz.f298 k298 [.tmp 3] x = f298_tree x.1.1 x.1.2.1 x.1.2.2.1 x.1.2.2.2.1 x.1.2.2.2.2.1 x.1.2.2.2.2.2.1 x.1.2.2.2.2.2.2.1 x.1.2.2.2.2.2.2.2.1 x.1.2.2.2.2.2.2.2.2.1 x.1.2.2.2.2.2.2.2.2.2.1 x.2.1.1 := by kernel_rfl
theorem f298_ok (hr : ∀ x : XM × (Int × Unit) × Unit, itemsWF k298.its x → (f298_tree x.1.1 x.1.2.1 x.1.2.2.1 x.1.2.2.2.1 x.1.2.2.2.2.1 x.1.2.2.2.2.2.1 x.1.2.2.2.2.2.2.1 x.1.2.2.2.2.2.2.2.1 x.1.2.2.2.2.2.2.2.2.1 x.1.2.2.2.2.2.2.2.2.2.1 x.2.1.1).eval = (k298.F x).eval) : k298.Ok Tryz.prog := con_fn [] trivial f298_eq fun x hw _ hy => (hr x hw).trans hy
theorem k298_ok : k298.Ok Tryz.prog := by
  refine f298_ok fun x hw => ?_
  obtain ⟨⟨a0, a1, a2, a3, a4, a5, a6, a7, a8, a9, _⟩, ⟨a10, _⟩, _⟩ := x
  have l5 : List.length a5 ≤ BIG := hw.1.1.1
  have l6 : List.length a6 ≤ BIG := hw.1.2.1.1
  have l7 : List.length a7 ≤ BIG := hw.1.2.2.1.1
  show (f298_tree a0 a1 a2 a3 a4 a5 a6 a7 a8 a9 a10).eval = some ((((procIsC a0 a10).1, ()), ()), ((), ((procIsC a0 a10).2, ()), ()))
  unfold f298_tree procIsC
  simp only [Out.eval, cond_eq_ite]
  all_goals ((repeat' split) <;> simp_all)
def procIdxC (a : List ProcD) (v : Int) : Int × Int := (procAtV a v, v)
abbrev f297a_S0 := XS × ((Int × Unit) × Unit)
def f297a_L0 : f297a_S0 → Out (Round f297a_S0 ((Unit) × ((Int × Unit) × Unit)) ((Int × Unit) × ((Int × Unit) × Unit)))
| ((p0, p1, p2, _), (p3, _), _) =>
 .ite (decide (p2 < p1))
 (.ite (decide (0 ≤ p2))
 (.get (nth p0 (Int.toNat p2)) fun y1 =>
 .ite ((procIsC y1.1 p3).1)
 (.ret (.ret ((p2, ()), (((procIsC y1.1 p3).2, ()), ()))))
 (.ret (.again ((p0, p1, (IntKind.i64.wrap (p2 + (1 : Int))), ()), (((procIsC y1.1 p3).2, ()), ())))))
 .fail)
 (.ret (.out ((), ((p3, ()), ()))))
def f297a_tree (a0 : List ProcD) (a1 : Int) : Out (((Int × Unit) × Unit) × (Unit × (Int × Unit) × Unit)) :=
 .get (iter f297a_L0 FUEL ((a0, ((List.length a0 : Nat) : Int), (0 : Int), ()), ((a1, ()), ()))) fun y1 => .alt y1 (fun y2 =>
 .ret ((((-1 : Int), ()), ()), ((), (y2.2.1.1, ()), ()))) (fun y3 =>
 .ret (((y3.1.1, ()), ()), ((), (y3.2.1.1, ()), ())))
def f297a_A : Nat → Option LoopAnn := fun n => annOf [(0, ⟨⟨[.ro tyP (some 0), .fn 298 [1]] ++ dd 5 ++ [.i .i64, .i .i64] ++ dd 10, [(1, .var [.i .i64])]⟩, ⟨[.dead, .fn 298 [1]] ++ dd 17, [(1, .var [.i .i64])]⟩, some ⟨[.dead, .fn 298 [1], .dead, .dead, .i .i64] ++ dd 14, [(1, .var [.i .i64])]⟩, false⟩)] n
def k297a : Con := { f := 297, lend := true, its := [⟨false, false, [.ro tyP]⟩, ⟨true, false, [.i .i64]⟩], lay := [none, some (298, 1)], rs := [⟨false, false, [.i .i64]⟩], F := fun x => .ret ((((procIdxC x.1.1 x.2.1.1).1, ()), ()), ((), ((procIdxC x.1.1 x.2.1.1).2, ()), ())) }
theorem f297a_eq (x : itemsD k297a.its) : bo [k298] f297a_A Tryz.f297 k297a [.tmp 4] x = f297a_tree x.1.1 x.2.1.1 := by kernel_rfl
theorem f297a_ok (hr : ∀ x : (List ProcD × Unit) × (Int × Unit) × Unit, itemsWF k297a.its x → (f297a_tree x.1.1 x.2.1.1).eval = (k297a.F x).eval) : k297a.Ok Tryz.prog := con_fn [k298] ⟨k298_ok, trivial⟩ f297a_eq fun x hw _ hy => (hr x hw).trans hy
theorem k297a_ok : k297a.Ok Tryz.prog := by
  refine f297a_ok fun x hw => ?_
  obtain ⟨⟨a0, _⟩, ⟨a1, _⟩, _⟩ := x
  have l0 : List.length a0 ≤ BIG := hw.1.1.1
  show (f297a_tree a0 a1).eval = some ((((procIdxC a0 a1).1, ()), ()), ((), ((procIdxC a0 a1).2, ()), ()))
  unfold f297a_tree procIdxC procAtV placeBy idxBy
  have h : iter f297a_L0 FUEL ((a0, ((List.length a0 : Nat) : Int), (0 : Int), ()), ((a1, ()), ())) = some (match List.findIdx? (fun x => procKey x == a1) a0 with | some i => .inr ((((i : Nat) : Int), ()), ((a1, ()), ())) | none => .inl ((), ((a1, ()), ()))) := idx_loop (f := f297a_L0) a0 (fun x => procKey x == a1) (fun i => ((a0, ((List.length a0 : Nat) : Int), ((i : Nat) : Int), ()), ((a1, ()), ()))) (y := ((), ((a1, ()), ()))) (z := fun i => ((((i : Nat) : Int), ()), ((a1, ()), ())))
      (fun i hi hp => by
        have h1 := wrap_succ (i := i) (by omega)
        simp [f297a_L0, Out.eval, hi, h1, cond_eq_ite, procKey, procIsC] at hp ⊢ <;> (try simp_all) <;> (try (rcases hp with h | h <;> simp_all)))
      (fun i hi hp => by simp [f297a_L0, Out.eval, hi, cond_eq_ite, procKey, procIsC] at hp ⊢ <;> (try simp_all) <;> (try (rcases hp with h | h <;> simp_all)))
      (by simp [f297a_L0, Out.eval]) l0
  refine (eval_get_some h).trans ?_
  cases List.findIdx? (fun x => procKey x == a1) a0 <;> rfl
def f266_tree (a0 : Int) (a1 : Int) (a2 : List (List InsD)) (a3 : List ProcD) (a4 : List OpenD) (a5 : List CpuD) (a6 : List CpuD) (a7 : List Int) (a8 : List Int) (a9 : Int) : Out (((Int × Unit) × Unit) × XI) :=
 .ret ((((procIdxC a3 a9).1, ()), ()), ((), (), ()))
def k266 : Con := { f := 266, lend := true, its := [⟨false, true, [.i .i64, .i .i64, .ro (.sl tyN), .ro tyP, .ro tyO, .ro tyF, .ro tyF, .ro (.int .i64), .ro (.int .i64)]⟩, ⟨false, false, [.i .i64]⟩], lay := [none, none], rs := [⟨false, false, [.i .i64]⟩], F := fun x => .ret ((((procAtV x.1.2.2.2.1 x.2.1.1), ()), ()), ((), (), ())) }
theorem f266_eq (x : itemsD k266.its) : bo [k297a] (fun _ => none) Tryz.f266 k266 [.tmp 4] x = f266_tree x.1.1 x.1.2.1 x.1.2.2.1 x.1.2.2.2.1 x.1.2.2.2.2.1 x.1.2.2.2.2.2.1 x.1.2.2.2.2.2.2.1 x.1.2.2.2.2.2.2.2.1 x.1.2.2.2.2.2.2.2.2.1 x.2.1.1 := by kernel_rfl
theorem f266_ok (hr : ∀ x : UnixD × (Int × Unit) × Unit, itemsWF k266.its x → (f266_tree x.1.1 x.1.2.1 x.1.2.2.1 x.1.2.2.2.1 x.1.2.2.2.2.1 x.1.2.2.2.2.2.1 x.1.2.2.2.2.2.2.1 x.1.2.2.2.2.2.2.2.1 x.1.2.2.2.2.2.2.2.2.1 x.2.1.1).eval = (k266.F x).eval) : k266.Ok Tryz.prog := con_fn [k297a] ⟨k297a_ok, trivial⟩ f266_eq fun x hw _ hy => (hr x hw).trans hy
theorem k266_ok : k266.Ok Tryz.prog := by
  refine f266_ok fun x hw => ?_
  obtain ⟨⟨a0, a1, a2, a3, a4, a5, a6, a7, a8, _⟩, ⟨a9, _⟩, _⟩ := x
  have l2 : List.length a2 ≤ BIG := hw.1.1.1
  have l3 : List.length a3 ≤ BIG := hw.1.2.1.1
  have l4 : List.length a4 ≤ BIG := hw.1.2.2.1.1
  have l5 : List.length a5 ≤ BIG := hw.1.2.2.2.1.1
  have l6 : List.length a6 ≤ BIG := hw.1.2.2.2.2.1.1
  have l7 : List.length a7 ≤ BIG := hw.1.2.2.2.2.2.1.1
  have l8 : List.length a8 ≤ BIG := hw.1.2.2.2.2.2.2.1.1
  show (f266_tree a0 a1 a2 a3 a4 a5 a6 a7 a8 a9).eval = some ((((procAtV a3 a9), ()), ()), ((), (), ()))
  unfold f266_tree procIdxC
  simp only [Out.eval, cond_eq_ite]
  all_goals ((repeat' split) <;> simp_all)
def openIsC (id v : Int) : Bool × Int := (id == v, v)
def f300_tree (a0 : Int) (a1 : Int) (a2 : Int) (a3 : Int) (a4 : Int) (a5 : Int) : Out (((Bool × Unit) × Unit) × (Unit × (Int × Unit) × Unit)) :=
 .ret (((((a0 == a5)), ()), ()), ((), (a5, ()), ()))
def k300 : Con := { f := 300, lend := true, its := [⟨false, true, [.i .i64, .i .i64, .i .i64, .i .i64, .i .i64]⟩, ⟨true, false, [.i .i64]⟩], lay := [none, none], rs := [⟨false, false, [.b]⟩], F := fun x => .ret ((((openIsC x.1.1 x.2.1.1).1, ()), ()), ((), ((openIsC x.1.1 x.2.1.1).2, ()), ())) }
theorem f300_eq (x : itemsD k300.its) : bo [] (fun _ => none) Tryz.f300 k300 [.tmp 3] x = f300_tree x.1.1 x.1.2.1 x.1.2.2.1 x.1.2.2.2.1 x.1.2.2.2.2.1 x.2.1.1 := by kernel_rfl
theorem f300_ok (hr : ∀ x : OpenD × (Int × Unit) × Unit, itemsWF k300.its x → (f300_tree x.1.1 x.1.2.1 x.1.2.2.1 x.1.2.2.2.1 x.1.2.2.2.2.1 x.2.1.1).eval = (k300.F x).eval) : k300.Ok Tryz.prog := con_fn [] trivial f300_eq fun x hw _ hy => (hr x hw).trans hy
theorem k300_ok : k300.Ok Tryz.prog := by
  refine f300_ok fun x hw => ?_
  obtain ⟨⟨a0, a1, a2, a3, a4, _⟩, ⟨a5, _⟩, _⟩ := x
  show (f300_tree a0 a1 a2 a3 a4 a5).eval = some ((((openIsC a0 a5).1, ()), ()), ((), ((openIsC a0 a5).2, ()), ()))
  unfold f300_tree openIsC
  simp only [Out.eval, cond_eq_ite]
  all_goals ((repeat' split) <;> simp_all)
def openIdxC (a : List OpenD) (v : Int) : Int × Int := (openAtV a v, v)
abbrev f299a_S0 := (List OpenD × Int × Int × Unit) × ((Int × Unit) × Unit)
def f299a_L0 : f299a_S0 → Out (Round f299a_S0 ((Unit) × ((Int × Unit) × Unit)) ((Int × Unit) × ((Int × Unit) × Unit)))
| ((p0, p1, p2, _), (p3, _), _) =>
 .ite (decide (p2 < p1))
 (.ite (decide (0 ≤ p2))
 (.get (nth p0 (Int.toNat p2)) fun y1 =>
 .ite ((openIsC y1.1 p3).1)
 (.ret (.ret ((p2, ()), (((openIsC y1.1 p3).2, ()), ()))))
 (.ret (.again ((p0, p1, (IntKind.i64.wrap (p2 + (1 : Int))), ()), (((openIsC y1.1 p3).2, ()), ())))))
 .fail)
 (.ret (.out ((), ((p3, ()), ()))))
def f299a_tree (a0 : List OpenD) (a1 : Int) : Out (((Int × Unit) × Unit) × (Unit × (Int × Unit) × Unit)) :=
 .get (iter f299a_L0 FUEL ((a0, ((List.length a0 : Nat) : Int), (0 : Int), ()), ((a1, ()), ()))) fun y1 => .alt y1 (fun y2 =>
 .ret ((((-1 : Int), ()), ()), ((), (y2.2.1.1, ()), ()))) (fun y3 =>
 .ret (((y3.1.1, ()), ()), ((), (y3.2.1.1, ()), ())))
def f299a_A : Nat → Option LoopAnn := fun n => annOf [(0, ⟨⟨[.ro tyO (some 0), .fn 300 [1]] ++ dd 5 ++ [.i .i64, .i .i64] ++ dd 10, [(1, .var [.i .i64])]⟩, ⟨[.dead, .fn 300 [1]] ++ dd 17, [(1, .var [.i .i64])]⟩, some ⟨[.dead, .fn 300 [1], .dead, .dead, .i .i64] ++ dd 14, [(1, .var [.i .i64])]⟩, false⟩)] n
def k299a : Con := { f := 299, lend := true, its := [⟨false, false, [.ro tyO]⟩, ⟨true, false, [.i .i64]⟩], lay := [none, some (300, 1)], rs := [⟨false, false, [.i .i64]⟩], F := fun x => .ret ((((openIdxC x.1.1 x.2.1.1).1, ()), ()), ((), ((openIdxC x.1.1 x.2.1.1).2, ()), ())) }
theorem f299a_eq (x : itemsD k299a.its) : bo [k300] f299a_A Tryz.f299 k299a [.tmp 4] x = f299a_tree x.1.1 x.2.1.1 := by kernel_rfl
theorem f299a_ok (hr : ∀ x : (List OpenD × Unit) × (Int × Unit) × Unit, itemsWF k299a.its x → (f299a_tree x.1.1 x.2.1.1).eval = (k299a.F x).eval) : k299a.Ok Tryz.prog := con_fn [k300] ⟨k300_ok, trivial⟩ f299a_eq fun x hw _ hy => (hr x hw).trans hy
theorem k299a_ok : k299a.Ok Tryz.prog := by
  refine f299a_ok fun x hw => ?_
  obtain ⟨⟨a0, _⟩, ⟨a1, _⟩, _⟩ := x
  have l0 : List.length a0 ≤ BIG := hw.1.1.1
  show (f299a_tree a0 a1).eval = some ((((openIdxC a0 a1).1, ()), ()), ((), ((openIdxC a0 a1).2, ()), ()))
  unfold f299a_tree openIdxC openAtV placeBy idxBy
  have h : iter f299a_L0 FUEL ((a0, ((List.length a0 : Nat) : Int), (0 : Int), ()), ((a1, ()), ())) = some (match List.findIdx? (fun x => openKey x == a1) a0 with | some i => .inr ((((i : Nat) : Int), ()), ((a1, ()), ())) | none => .inl ((), ((a1, ()), ()))) := idx_loop (f := f299a_L0) a0 (fun x => openKey x == a1) (fun i => ((a0, ((List.length a0 : Nat) : Int), ((i : Nat) : Int), ()), ((a1, ()), ()))) (y := ((), ((a1, ()), ()))) (z := fun i => ((((i : Nat) : Int), ()), ((a1, ()), ())))
      (fun i hi hp => by
        have h1 := wrap_succ (i := i) (by omega)
        simp [f299a_L0, Out.eval, hi, h1, cond_eq_ite, openKey, openIsC] at hp ⊢ <;> (try simp_all) <;> (try (rcases hp with h | h <;> simp_all)))
      (fun i hi hp => by simp [f299a_L0, Out.eval, hi, cond_eq_ite, openKey, openIsC] at hp ⊢ <;> (try simp_all) <;> (try (rcases hp with h | h <;> simp_all)))
      (by simp [f299a_L0, Out.eval]) l0
  refine (eval_get_some h).trans ?_
  cases List.findIdx? (fun x => openKey x == a1) a0 <;> rfl
def f269_tree (a0 : Int) (a1 : Int) (a2 : List (List InsD)) (a3 : List ProcD) (a4 : List OpenD) (a5 : List CpuD) (a6 : List CpuD) (a7 : List Int) (a8 : List Int) (a9 : Int) : Out (((Int × Unit) × Unit) × XI) :=
 .ret ((((openIdxC a4 a9).1, ()), ()), ((), (), ()))
def k269 : Con := { f := 269, lend := true, its := [⟨false, true, [.i .i64, .i .i64, .ro (.sl tyN), .ro tyP, .ro tyO, .ro tyF, .ro tyF, .ro (.int .i64), .ro (.int .i64)]⟩, ⟨false, false, [.i .i64]⟩], lay := [none, none], rs := [⟨false, false, [.i .i64]⟩], F := fun x => .ret ((((openAtV x.1.2.2.2.2.1 x.2.1.1), ()), ()), ((), (), ())) }
theorem f269_eq (x : itemsD k269.its) : bo [k299a] (fun _ => none) Tryz.f269 k269 [.tmp 4] x = f269_tree x.1.1 x.1.2.1 x.1.2.2.1 x.1.2.2.2.1 x.1.2.2.2.2.1 x.1.2.2.2.2.2.1 x.1.2.2.2.2.2.2.1 x.1.2.2.2.2.2.2.2.1 x.1.2.2.2.2.2.2.2.2.1 x.2.1.1 := by kernel_rfl
theorem f269_ok (hr : ∀ x : UnixD × (Int × Unit) × Unit, itemsWF k269.its x → (f269_tree x.1.1 x.1.2.1 x.1.2.2.1 x.1.2.2.2.1 x.1.2.2.2.2.1 x.1.2.2.2.2.2.1 x.1.2.2.2.2.2.2.1 x.1.2.2.2.2.2.2.2.1 x.1.2.2.2.2.2.2.2.2.1 x.2.1.1).eval = (k269.F x).eval) : k269.Ok Tryz.prog := con_fn [k299a] ⟨k299a_ok, trivial⟩ f269_eq fun x hw _ hy => (hr x hw).trans hy
theorem k269_ok : k269.Ok Tryz.prog := by
  refine f269_ok fun x hw => ?_
  obtain ⟨⟨a0, a1, a2, a3, a4, a5, a6, a7, a8, _⟩, ⟨a9, _⟩, _⟩ := x
  have l2 : List.length a2 ≤ BIG := hw.1.1.1
  have l3 : List.length a3 ≤ BIG := hw.1.2.1.1
  have l4 : List.length a4 ≤ BIG := hw.1.2.2.1.1
  have l5 : List.length a5 ≤ BIG := hw.1.2.2.2.1.1
  have l6 : List.length a6 ≤ BIG := hw.1.2.2.2.2.1.1
  have l7 : List.length a7 ≤ BIG := hw.1.2.2.2.2.2.1.1
  have l8 : List.length a8 ≤ BIG := hw.1.2.2.2.2.2.2.1.1
  show (f269_tree a0 a1 a2 a3 a4 a5 a6 a7 a8 a9).eval = some ((((openAtV a4 a9), ()), ()), ((), (), ()))
  unfold f269_tree openIdxC
  simp only [Out.eval, cond_eq_ite]
  all_goals ((repeat' split) <;> simp_all)
def pipeIsC (id v : Int) : Bool × Int := (id == v, v)
def f304_tree (a0 : Int) (a1 : List Int) (a2 : Int) : Out (((Bool × Unit) × Unit) × (Unit × (Int × Unit) × Unit)) :=
 .ret (((((a0 == a2)), ()), ()), ((), (a2, ()), ()))
def k304 : Con := { f := 304, lend := true, its := [⟨false, true, [.i .i64, .ro (.int .i64)]⟩, ⟨true, false, [.i .i64]⟩], lay := [none, none], rs := [⟨false, false, [.b]⟩], F := fun x => .ret ((((pipeIsC x.1.1 x.2.1.1).1, ()), ()), ((), ((pipeIsC x.1.1 x.2.1.1).2, ()), ())) }
theorem f304_eq (x : itemsD k304.its) : bo [] (fun _ => none) Tryz.f304 k304 [.tmp 3] x = f304_tree x.1.1 x.1.2.1 x.2.1.1 := by kernel_rfl
theorem f304_ok (hr : ∀ x : CpuD × (Int × Unit) × Unit, itemsWF k304.its x → (f304_tree x.1.1 x.1.2.1 x.2.1.1).eval = (k304.F x).eval) : k304.Ok Tryz.prog := con_fn [] trivial f304_eq fun x hw _ hy => (hr x hw).trans hy
theorem k304_ok : k304.Ok Tryz.prog := by
  refine f304_ok fun x hw => ?_
  obtain ⟨⟨a0, a1, _⟩, ⟨a2, _⟩, _⟩ := x
  have l1 : List.length a1 ≤ BIG := hw.1.1.1
  show (f304_tree a0 a1 a2).eval = some ((((pipeIsC a0 a2).1, ()), ()), ((), ((pipeIsC a0 a2).2, ()), ()))
  unfold f304_tree pipeIsC
  simp only [Out.eval, cond_eq_ite]
  all_goals ((repeat' split) <;> simp_all)
def pipeIdxC (a : List PipeD) (v : Int) : Int × Int := (pipeAtV a v, v)
abbrev f303a_S0 := (List CpuD × Int × Int × Unit) × ((Int × Unit) × Unit)
def f303a_L0 : f303a_S0 → Out (Round f303a_S0 ((Unit) × ((Int × Unit) × Unit)) ((Int × Unit) × ((Int × Unit) × Unit)))
| ((p0, p1, p2, _), (p3, _), _) =>
 .ite (decide (p2 < p1))
 (.ite (decide (0 ≤ p2))
 (.get (nth p0 (Int.toNat p2)) fun y1 =>
 .ite ((pipeIsC y1.1 p3).1)
 (.ret (.ret ((p2, ()), (((pipeIsC y1.1 p3).2, ()), ()))))
 (.ret (.again ((p0, p1, (IntKind.i64.wrap (p2 + (1 : Int))), ()), (((pipeIsC y1.1 p3).2, ()), ())))))
 .fail)
 (.ret (.out ((), ((p3, ()), ()))))
def f303a_tree (a0 : List CpuD) (a1 : Int) : Out (((Int × Unit) × Unit) × (Unit × (Int × Unit) × Unit)) :=
 .get (iter f303a_L0 FUEL ((a0, ((List.length a0 : Nat) : Int), (0 : Int), ()), ((a1, ()), ()))) fun y1 => .alt y1 (fun y2 =>
 .ret ((((-1 : Int), ()), ()), ((), (y2.2.1.1, ()), ()))) (fun y3 =>
 .ret (((y3.1.1, ()), ()), ((), (y3.2.1.1, ()), ())))
def f303a_A : Nat → Option LoopAnn := fun n => annOf [(0, ⟨⟨[.ro tyF (some 0), .fn 304 [1]] ++ dd 5 ++ [.i .i64, .i .i64] ++ dd 10, [(1, .var [.i .i64])]⟩, ⟨[.dead, .fn 304 [1]] ++ dd 17, [(1, .var [.i .i64])]⟩, some ⟨[.dead, .fn 304 [1], .dead, .dead, .i .i64] ++ dd 14, [(1, .var [.i .i64])]⟩, false⟩)] n
def k303a : Con := { f := 303, lend := true, its := [⟨false, false, [.ro tyF]⟩, ⟨true, false, [.i .i64]⟩], lay := [none, some (304, 1)], rs := [⟨false, false, [.i .i64]⟩], F := fun x => .ret ((((pipeIdxC x.1.1 x.2.1.1).1, ()), ()), ((), ((pipeIdxC x.1.1 x.2.1.1).2, ()), ())) }
theorem f303a_eq (x : itemsD k303a.its) : bo [k304] f303a_A Tryz.f303 k303a [.tmp 4] x = f303a_tree x.1.1 x.2.1.1 := by kernel_rfl
theorem f303a_ok (hr : ∀ x : (List CpuD × Unit) × (Int × Unit) × Unit, itemsWF k303a.its x → (f303a_tree x.1.1 x.2.1.1).eval = (k303a.F x).eval) : k303a.Ok Tryz.prog := con_fn [k304] ⟨k304_ok, trivial⟩ f303a_eq fun x hw _ hy => (hr x hw).trans hy
theorem k303a_ok : k303a.Ok Tryz.prog := by
  refine f303a_ok fun x hw => ?_
  obtain ⟨⟨a0, _⟩, ⟨a1, _⟩, _⟩ := x
  have l0 : List.length a0 ≤ BIG := hw.1.1.1
  show (f303a_tree a0 a1).eval = some ((((pipeIdxC a0 a1).1, ()), ()), ((), ((pipeIdxC a0 a1).2, ()), ()))
  unfold f303a_tree pipeIdxC pipeAtV placeBy idxBy
  have h : iter f303a_L0 FUEL ((a0, ((List.length a0 : Nat) : Int), (0 : Int), ()), ((a1, ()), ())) = some (match List.findIdx? (fun x => pipeKey x == a1) a0 with | some i => .inr ((((i : Nat) : Int), ()), ((a1, ()), ())) | none => .inl ((), ((a1, ()), ()))) := idx_loop (f := f303a_L0) a0 (fun x => pipeKey x == a1) (fun i => ((a0, ((List.length a0 : Nat) : Int), ((i : Nat) : Int), ()), ((a1, ()), ()))) (y := ((), ((a1, ()), ()))) (z := fun i => ((((i : Nat) : Int), ()), ((a1, ()), ())))
      (fun i hi hp => by
        have h1 := wrap_succ (i := i) (by omega)
        simp [f303a_L0, Out.eval, hi, h1, cond_eq_ite, pipeKey, pipeIsC] at hp ⊢ <;> (try simp_all) <;> (try (rcases hp with h | h <;> simp_all)))
      (fun i hi hp => by simp [f303a_L0, Out.eval, hi, cond_eq_ite, pipeKey, pipeIsC] at hp ⊢ <;> (try simp_all) <;> (try (rcases hp with h | h <;> simp_all)))
      (by simp [f303a_L0, Out.eval]) l0
  refine (eval_get_some h).trans ?_
  cases List.findIdx? (fun x => pipeKey x == a1) a0 <;> rfl
def f273_tree (a0 : Int) (a1 : Int) (a2 : List (List InsD)) (a3 : List ProcD) (a4 : List OpenD) (a5 : List CpuD) (a6 : List CpuD) (a7 : List Int) (a8 : List Int) (a9 : Int) : Out (((Int × Unit) × Unit) × XI) :=
 .ret ((((pipeIdxC a5 a9).1, ()), ()), ((), (), ()))
def k273 : Con := { f := 273, lend := true, its := [⟨false, true, [.i .i64, .i .i64, .ro (.sl tyN), .ro tyP, .ro tyO, .ro tyF, .ro tyF, .ro (.int .i64), .ro (.int .i64)]⟩, ⟨false, false, [.i .i64]⟩], lay := [none, none], rs := [⟨false, false, [.i .i64]⟩], F := fun x => .ret ((((pipeAtV x.1.2.2.2.2.2.1 x.2.1.1), ()), ()), ((), (), ())) }
theorem f273_eq (x : itemsD k273.its) : bo [k303a] (fun _ => none) Tryz.f273 k273 [.tmp 4] x = f273_tree x.1.1 x.1.2.1 x.1.2.2.1 x.1.2.2.2.1 x.1.2.2.2.2.1 x.1.2.2.2.2.2.1 x.1.2.2.2.2.2.2.1 x.1.2.2.2.2.2.2.2.1 x.1.2.2.2.2.2.2.2.2.1 x.2.1.1 := by kernel_rfl
theorem f273_ok (hr : ∀ x : UnixD × (Int × Unit) × Unit, itemsWF k273.its x → (f273_tree x.1.1 x.1.2.1 x.1.2.2.1 x.1.2.2.2.1 x.1.2.2.2.2.1 x.1.2.2.2.2.2.1 x.1.2.2.2.2.2.2.1 x.1.2.2.2.2.2.2.2.1 x.1.2.2.2.2.2.2.2.2.1 x.2.1.1).eval = (k273.F x).eval) : k273.Ok Tryz.prog := con_fn [k303a] ⟨k303a_ok, trivial⟩ f273_eq fun x hw _ hy => (hr x hw).trans hy
theorem k273_ok : k273.Ok Tryz.prog := by
  refine f273_ok fun x hw => ?_
  obtain ⟨⟨a0, a1, a2, a3, a4, a5, a6, a7, a8, _⟩, ⟨a9, _⟩, _⟩ := x
  have l2 : List.length a2 ≤ BIG := hw.1.1.1
  have l3 : List.length a3 ≤ BIG := hw.1.2.1.1
  have l4 : List.length a4 ≤ BIG := hw.1.2.2.1.1
  have l5 : List.length a5 ≤ BIG := hw.1.2.2.2.1.1
  have l6 : List.length a6 ≤ BIG := hw.1.2.2.2.2.1.1
  have l7 : List.length a7 ≤ BIG := hw.1.2.2.2.2.2.1.1
  have l8 : List.length a8 ≤ BIG := hw.1.2.2.2.2.2.2.1.1
  show (f273_tree a0 a1 a2 a3 a4 a5 a6 a7 a8 a9).eval = some ((((pipeAtV a5 a9), ()), ()), ((), (), ()))
  unfold f273_tree pipeIdxC
  simp only [Out.eval, cond_eq_ite]
  all_goals ((repeat' split) <;> simp_all)
def fileIsC (id v : Int) : Bool × Int := (id == v, v)
def f302_tree (a0 : Int) (a1 : List Int) (a2 : Int) : Out (((Bool × Unit) × Unit) × (Unit × (Int × Unit) × Unit)) :=
 .ret (((((a0 == a2)), ()), ()), ((), (a2, ()), ()))
def k302 : Con := { f := 302, lend := true, its := [⟨false, true, [.i .i64, .ro (.int .i64)]⟩, ⟨true, false, [.i .i64]⟩], lay := [none, none], rs := [⟨false, false, [.b]⟩], F := fun x => .ret ((((fileIsC x.1.1 x.2.1.1).1, ()), ()), ((), ((fileIsC x.1.1 x.2.1.1).2, ()), ())) }
theorem f302_eq (x : itemsD k302.its) : bo [] (fun _ => none) Tryz.f302 k302 [.tmp 3] x = f302_tree x.1.1 x.1.2.1 x.2.1.1 := by kernel_rfl
theorem f302_ok (hr : ∀ x : CpuD × (Int × Unit) × Unit, itemsWF k302.its x → (f302_tree x.1.1 x.1.2.1 x.2.1.1).eval = (k302.F x).eval) : k302.Ok Tryz.prog := con_fn [] trivial f302_eq fun x hw _ hy => (hr x hw).trans hy
theorem k302_ok : k302.Ok Tryz.prog := by
  refine f302_ok fun x hw => ?_
  obtain ⟨⟨a0, a1, _⟩, ⟨a2, _⟩, _⟩ := x
  have l1 : List.length a1 ≤ BIG := hw.1.1.1
  show (f302_tree a0 a1 a2).eval = some ((((fileIsC a0 a2).1, ()), ()), ((), ((fileIsC a0 a2).2, ()), ()))
  unfold f302_tree fileIsC
  simp only [Out.eval, cond_eq_ite]
  all_goals ((repeat' split) <;> simp_all)
def fileIdxC (a : List FileD) (v : Int) : Int × Int := (fileAtV a v, v)
abbrev f301a_S0 := (List CpuD × Int × Int × Unit) × ((Int × Unit) × Unit)
def f301a_L0 : f301a_S0 → Out (Round f301a_S0 ((Unit) × ((Int × Unit) × Unit)) ((Int × Unit) × ((Int × Unit) × Unit)))
| ((p0, p1, p2, _), (p3, _), _) =>
 .ite (decide (p2 < p1))
 (.ite (decide (0 ≤ p2))
 (.get (nth p0 (Int.toNat p2)) fun y1 =>
 .ite ((fileIsC y1.1 p3).1)
 (.ret (.ret ((p2, ()), (((fileIsC y1.1 p3).2, ()), ()))))
 (.ret (.again ((p0, p1, (IntKind.i64.wrap (p2 + (1 : Int))), ()), (((fileIsC y1.1 p3).2, ()), ())))))
 .fail)
 (.ret (.out ((), ((p3, ()), ()))))
def f301a_tree (a0 : List CpuD) (a1 : Int) : Out (((Int × Unit) × Unit) × (Unit × (Int × Unit) × Unit)) :=
 .get (iter f301a_L0 FUEL ((a0, ((List.length a0 : Nat) : Int), (0 : Int), ()), ((a1, ()), ()))) fun y1 => .alt y1 (fun y2 =>
 .ret ((((-1 : Int), ()), ()), ((), (y2.2.1.1, ()), ()))) (fun y3 =>
 .ret (((y3.1.1, ()), ()), ((), (y3.2.1.1, ()), ())))
def f301a_A : Nat → Option LoopAnn := fun n => annOf [(0, ⟨⟨[.ro tyF (some 0), .fn 302 [1]] ++ dd 5 ++ [.i .i64, .i .i64] ++ dd 10, [(1, .var [.i .i64])]⟩, ⟨[.dead, .fn 302 [1]] ++ dd 17, [(1, .var [.i .i64])]⟩, some ⟨[.dead, .fn 302 [1], .dead, .dead, .i .i64] ++ dd 14, [(1, .var [.i .i64])]⟩, false⟩)] n
def k301a : Con := { f := 301, lend := true, its := [⟨false, false, [.ro tyF]⟩, ⟨true, false, [.i .i64]⟩], lay := [none, some (302, 1)], rs := [⟨false, false, [.i .i64]⟩], F := fun x => .ret ((((fileIdxC x.1.1 x.2.1.1).1, ()), ()), ((), ((fileIdxC x.1.1 x.2.1.1).2, ()), ())) }
theorem f301a_eq (x : itemsD k301a.its) : bo [k302] f301a_A Tryz.f301 k301a [.tmp 4] x = f301a_tree x.1.1 x.2.1.1 := by kernel_rfl
theorem f301a_ok (hr : ∀ x : (List CpuD × Unit) × (Int × Unit) × Unit, itemsWF k301a.its x → (f301a_tree x.1.1 x.2.1.1).eval = (k301a.F x).eval) : k301a.Ok Tryz.prog := con_fn [k302] ⟨k302_ok, trivial⟩ f301a_eq fun x hw _ hy => (hr x hw).trans hy
theorem k301a_ok : k301a.Ok Tryz.prog := by
  refine f301a_ok fun x hw => ?_
  obtain ⟨⟨a0, _⟩, ⟨a1, _⟩, _⟩ := x
  have l0 : List.length a0 ≤ BIG := hw.1.1.1
  show (f301a_tree a0 a1).eval = some ((((fileIdxC a0 a1).1, ()), ()), ((), ((fileIdxC a0 a1).2, ()), ()))
  unfold f301a_tree fileIdxC fileAtV placeBy idxBy
  have h : iter f301a_L0 FUEL ((a0, ((List.length a0 : Nat) : Int), (0 : Int), ()), ((a1, ()), ())) = some (match List.findIdx? (fun x => fileKey x == a1) a0 with | some i => .inr ((((i : Nat) : Int), ()), ((a1, ()), ())) | none => .inl ((), ((a1, ()), ()))) := idx_loop (f := f301a_L0) a0 (fun x => fileKey x == a1) (fun i => ((a0, ((List.length a0 : Nat) : Int), ((i : Nat) : Int), ()), ((a1, ()), ()))) (y := ((), ((a1, ()), ()))) (z := fun i => ((((i : Nat) : Int), ()), ((a1, ()), ())))
      (fun i hi hp => by
        have h1 := wrap_succ (i := i) (by omega)
        simp [f301a_L0, Out.eval, hi, h1, cond_eq_ite, fileKey, fileIsC] at hp ⊢ <;> (try simp_all) <;> (try (rcases hp with h | h <;> simp_all)))
      (fun i hi hp => by simp [f301a_L0, Out.eval, hi, cond_eq_ite, fileKey, fileIsC] at hp ⊢ <;> (try simp_all) <;> (try (rcases hp with h | h <;> simp_all)))
      (by simp [f301a_L0, Out.eval]) l0
  refine (eval_get_some h).trans ?_
  cases List.findIdx? (fun x => fileKey x == a1) a0 <;> rfl
def f272_tree (a0 : Int) (a1 : Int) (a2 : List (List InsD)) (a3 : List ProcD) (a4 : List OpenD) (a5 : List CpuD) (a6 : List CpuD) (a7 : List Int) (a8 : List Int) (a9 : Int) : Out (((Int × Unit) × Unit) × XI) :=
 .ret ((((fileIdxC a6 a9).1, ()), ()), ((), (), ()))
def k272 : Con := { f := 272, lend := true, its := [⟨false, true, [.i .i64, .i .i64, .ro (.sl tyN), .ro tyP, .ro tyO, .ro tyF, .ro tyF, .ro (.int .i64), .ro (.int .i64)]⟩, ⟨false, false, [.i .i64]⟩], lay := [none, none], rs := [⟨false, false, [.i .i64]⟩], F := fun x => .ret ((((fileAtV x.1.2.2.2.2.2.2.1 x.2.1.1), ()), ()), ((), (), ())) }
theorem f272_eq (x : itemsD k272.its) : bo [k301a] (fun _ => none) Tryz.f272 k272 [.tmp 4] x = f272_tree x.1.1 x.1.2.1 x.1.2.2.1 x.1.2.2.2.1 x.1.2.2.2.2.1 x.1.2.2.2.2.2.1 x.1.2.2.2.2.2.2.1 x.1.2.2.2.2.2.2.2.1 x.1.2.2.2.2.2.2.2.2.1 x.2.1.1 := by kernel_rfl
theorem f272_ok (hr : ∀ x : UnixD × (Int × Unit) × Unit, itemsWF k272.its x → (f272_tree x.1.1 x.1.2.1 x.1.2.2.1 x.1.2.2.2.1 x.1.2.2.2.2.1 x.1.2.2.2.2.2.1 x.1.2.2.2.2.2.2.1 x.1.2.2.2.2.2.2.2.1 x.1.2.2.2.2.2.2.2.2.1 x.2.1.1).eval = (k272.F x).eval) : k272.Ok Tryz.prog := con_fn [k301a] ⟨k301a_ok, trivial⟩ f272_eq fun x hw _ hy => (hr x hw).trans hy
theorem k272_ok : k272.Ok Tryz.prog := by
  refine f272_ok fun x hw => ?_
  obtain ⟨⟨a0, a1, a2, a3, a4, a5, a6, a7, a8, _⟩, ⟨a9, _⟩, _⟩ := x
  have l2 : List.length a2 ≤ BIG := hw.1.1.1
  have l3 : List.length a3 ≤ BIG := hw.1.2.1.1
  have l4 : List.length a4 ≤ BIG := hw.1.2.2.1.1
  have l5 : List.length a5 ≤ BIG := hw.1.2.2.2.1.1
  have l6 : List.length a6 ≤ BIG := hw.1.2.2.2.2.1.1
  have l7 : List.length a7 ≤ BIG := hw.1.2.2.2.2.2.1.1
  have l8 : List.length a8 ≤ BIG := hw.1.2.2.2.2.2.2.1.1
  show (f272_tree a0 a1 a2 a3 a4 a5 a6 a7 a8 a9).eval = some ((((fileAtV a6 a9), ()), ()), ((), (), ()))
  unfold f272_tree fileIdxC
  simp only [Out.eval, cond_eq_ite]
  all_goals ((repeat' split) <;> simp_all)
def f265_tree (a0 : Int) (a1 : List Int) : Out (((Bool × Unit) × Unit) × (Unit × Unit)) :=
 .ite ((placeV a0) == true)
 (.ite (((((List.length a1 : Nat) : Int) == (4 : Int))) == true)
 (.ret ((((wordsOkV a1), ()), ()), ((), ())))
 (.ret (((false, ()), ()), ((), ()))))
 (.ret (((false, ()), ()), ((), ())))
def k265 : Con := { f := 265, lend := true, its := [⟨false, true, [.i .i64, .ro (.int .i64)]⟩], lay := [none], rs := [⟨false, false, [.b]⟩], F := fun x => .ret ((((cpuOkV x.1.1 x.1.2.1), ()), ()), ((), ())) }
theorem f265_eq (x : itemsD k265.its) : bo [k146, k223] (fun _ => none) Tryz.f265 k265 [.tmp 2] x = f265_tree x.1.1 x.1.2.1 := by kernel_rfl
theorem f265_ok (hr : ∀ x : CpuD × Unit, itemsWF k265.its x → (f265_tree x.1.1 x.1.2.1).eval = (k265.F x).eval) : k265.Ok Tryz.prog := con_fn [k146, k223] ⟨k146_ok, k223_ok, trivial⟩ f265_eq fun x hw _ hy => (hr x hw).trans hy
theorem k265_ok : k265.Ok Tryz.prog := by
  refine f265_ok fun x hw => ?_
  obtain ⟨⟨a0, a1, _⟩, _⟩ := x
  have l1 : List.length a1 ≤ BIG := hw.1.1.1
  show (f265_tree a0 a1).eval = some ((((cpuOkV a0 a1), ()), ()), ((), ()))
  unfold f265_tree cpuOkV
  simp only [eq4, beq_true']
  cases placeV a0 <;> cases decide (List.length a1 = 4) <;> rfl
abbrev f288_S0 := (List Int × Int × Int × Int × Unit) × (Unit)
def f288_L0 : f288_S0 → Out (Round f288_S0 ((Unit) × (Unit)) ((Int × Unit) × (Unit)))
| ((p0, p1, p2, p3, _), _) =>
 .ite (decide (p3 < p2))
 (.ite (decide (0 ≤ p3))
 (.get (nth p0 (Int.toNat p3)) fun y1 =>
 .ite ((p1 == y1))
 (.ret (.ret ((p3, ()), ())))
 (.ret (.again ((p0, p1, p2, (IntKind.i64.wrap (p3 + (1 : Int))), ()), ()))))
 .fail)
 (.ret (.out ((), ())))
def f288_tree (a0 : List Int) (a1 : Int) : Out (((Int × Unit) × Unit) × XI) :=
 .get (iter f288_L0 FUEL ((a0, a1, ((List.length a0 : Nat) : Int), (0 : Int), ()), ())) fun y1 => .alt y1 (fun y2 =>
 .ret ((((-1 : Int), ()), ()), ((), (), ()))) (fun y3 =>
 .ret (((y3.1.1, ()), ()), ((), (), ())))
def f288_A : Nat → Option LoopAnn := fun n => annOf [(0, ⟨⟨[.ro (.int .i64) (some 0), .i .i64] ++ dd 5 ++ [.i .i64, .i .i64] ++ dd 10, []⟩, ⟨dd 19, []⟩, some ⟨dd 4 ++ [.i .i64] ++ dd 14, []⟩, false⟩)] n
def indexIntV (a : List Int) (v : Int) : Int := idxV (a.findIdx? fun y => v == y)
def k288 : Con := { f := 288, lend := true, its := [⟨false, false, [.ro (.int .i64)]⟩, ⟨false, false, [.i .i64]⟩], lay := [none, none], rs := [⟨false, false, [.i .i64]⟩], F := fun x => .ret ((((indexIntV x.1.1 x.2.1.1), ()), ()), ((), (), ())) }
theorem f288_eq (x : itemsD k288.its) : bo [] f288_A Tryz.f288 k288 [.tmp 4] x = f288_tree x.1.1 x.2.1.1 := by kernel_rfl
theorem f288_ok (hr : ∀ x : (List Int × Unit) × (Int × Unit) × Unit, itemsWF k288.its x → (f288_tree x.1.1 x.2.1.1).eval = (k288.F x).eval) : k288.Ok Tryz.prog := con_fn [] trivial f288_eq fun x hw _ hy => (hr x hw).trans hy
theorem k288_ok : k288.Ok Tryz.prog := by
  refine f288_ok fun x hw => ?_
  obtain ⟨⟨a0, _⟩, ⟨a1, _⟩, _⟩ := x
  have l0 : List.length a0 ≤ BIG := hw.1.1.1
  show (f288_tree a0 a1).eval = some ((((indexIntV a0 a1), ()), ()), ((), (), ()))
  unfold f288_tree indexIntV
  have h : iter f288_L0 FUEL ((a0, a1, ((List.length a0 : Nat) : Int), (0 : Int), ()), ()) = some (match List.findIdx? (fun y => a1 == y) a0 with | some i => .inr ((((i : Nat) : Int), ()), ()) | none => .inl ((), ())) := idx_loop (f := f288_L0) a0 (fun y => a1 == y) (fun i => ((a0, a1, ((List.length a0 : Nat) : Int), ((i : Nat) : Int), ()), ())) (y := ((), ())) (z := fun i => ((((i : Nat) : Int), ()), ()))
      (fun i hi hp => by
        have h1 := wrap_succ (i := i) (by omega)
        simp [f288_L0, Out.eval, hi, h1, cond_eq_ite] at hp ⊢ <;> (try simp_all) <;> (try (rcases hp with h | h <;> simp_all)))
      (fun i hi hp => by simp [f288_L0, Out.eval, hi, cond_eq_ite] at hp ⊢ <;> (try simp_all) <;> (try (rcases hp with h | h <;> simp_all)))
      (by simp [f288_L0, Out.eval]) l0
  refine (eval_get_some h).trans ?_
  cases List.findIdx? (fun y => a1 == y) a0 <;> rfl
def f242_tree (a0 : List Int) (a1 : Int) : Out (((Bool × Unit) × Unit) × XI) :=
 .ret ((((decide ((indexIntV a0 a1) ≥ (0 : Int))), ()), ()), ((), (), ()))
def k242 : Con := { f := 242, lend := true, its := [⟨false, false, [.ro (.int .i64)]⟩, ⟨false, false, [.i .i64]⟩], lay := [none, none], rs := [⟨false, false, [.b]⟩], F := fun x => .ret ((((hasV x.1.1 x.2.1.1), ()), ()), ((), (), ())) }
theorem f242_eq (x : itemsD k242.its) : bo [k288] (fun _ => none) Tryz.f242 k242 [.tmp 4] x = f242_tree x.1.1 x.2.1.1 := by kernel_rfl
theorem f242_ok (hr : ∀ x : (List Int × Unit) × (Int × Unit) × Unit, itemsWF k242.its x → (f242_tree x.1.1 x.2.1.1).eval = (k242.F x).eval) : k242.Ok Tryz.prog := con_fn [k288] ⟨k288_ok, trivial⟩ f242_eq fun x hw _ hy => (hr x hw).trans hy
theorem k242_ok : k242.Ok Tryz.prog := by
  refine f242_ok fun x hw => ?_
  obtain ⟨⟨a0, _⟩, ⟨a1, _⟩, _⟩ := x
  have l0 : List.length a0 ≤ BIG := hw.1.1.1
  show (f242_tree a0 a1).eval = some ((((hasV a0 a1), ()), ()), ((), (), ()))
  unfold f242_tree indexIntV hasV
  have e : (fun y : Int => a1 == y) = fun y => decide (y = a1) := by
    funext y
    rw [Bool.eq_iff_iff, beq_iff_eq, decide_eq_true_iff]
    exact ⟨Eq.symm, Eq.symm⟩
  rw [idxV_ge, e]
  rfl
def f267_tree (a0 : Int) (a1 : Int) (a2 : List (List InsD)) (a3 : List ProcD) (a4 : List OpenD) (a5 : List CpuD) (a6 : List CpuD) (a7 : List Int) (a8 : List Int) (a9 : Int) (a10 : Int) (a11 : Int) (a12 : Int) (a13 : Int) (a14 : List Int) (a15 : List Int) (a16 : List Int) (a17 : Int) (a18 : Int) : Out (((Bool × Unit) × Unit) × XI) :=
 .ite ((a11 == (2 : Int)))
 (.ret ((((decide (a17 > a1)), ()), ()), ((), (), ())))
 (.ite ((a11 == (4 : Int)))
 (.ite ((hasV a16 a17) == true)
 (.ret ((((decide ((openAtV a4 a17) ≥ (0 : Int))), ()), ()), ((), (), ())))
 (.ret (((false, ()), ()), ((), (), ()))))
 (.ite ((a11 == (5 : Int)))
 (.ite ((hasV a16 a17) == true)
 (.ret ((((decide ((openAtV a4 a17) ≥ (0 : Int))), ()), ()), ((), (), ())))
 (.ret (((false, ()), ()), ((), (), ()))))
 (.ret (((((a17 == (0 : Int))), ()), ()), ((), (), ())))))
def k267 : Con := { f := 267, lend := true, its := [⟨false, true, [.i .i64, .i .i64, .ro (.sl tyN), .ro tyP, .ro tyO, .ro tyF, .ro tyF, .ro (.int .i64), .ro (.int .i64)]⟩, ⟨false, true, [.i .i64, .i .i64, .i .i64, .i .i64, .i .i64, .ro (.int .i64), .ro (.int .i64), .ro (.int .i64), .i .i64, .i .i64]⟩], lay := [none, none], rs := [⟨false, false, [.b]⟩], F := fun x => .ret ((((untilOkV x.1.2.1 x.1.2.2.2.2.1 x.2.1.2.2.1 x.2.1.2.2.2.2.2.2.2.1 x.2.1.2.2.2.2.2.2.2.2.1), ()), ()), ((), (), ())) }
theorem f267_eq (x : itemsD k267.its) : bo [k242, k269] (fun _ => none) Tryz.f267 k267 [.tmp 4] x = f267_tree x.1.1 x.1.2.1 x.1.2.2.1 x.1.2.2.2.1 x.1.2.2.2.2.1 x.1.2.2.2.2.2.1 x.1.2.2.2.2.2.2.1 x.1.2.2.2.2.2.2.2.1 x.1.2.2.2.2.2.2.2.2.1 x.2.1.1 x.2.1.2.1 x.2.1.2.2.1 x.2.1.2.2.2.1 x.2.1.2.2.2.2.1 x.2.1.2.2.2.2.2.1 x.2.1.2.2.2.2.2.2.1 x.2.1.2.2.2.2.2.2.2.1 x.2.1.2.2.2.2.2.2.2.2.1 x.2.1.2.2.2.2.2.2.2.2.2.1 := by kernel_rfl
theorem f267_ok (hr : ∀ x : UnixD × XM × Unit, itemsWF k267.its x → (f267_tree x.1.1 x.1.2.1 x.1.2.2.1 x.1.2.2.2.1 x.1.2.2.2.2.1 x.1.2.2.2.2.2.1 x.1.2.2.2.2.2.2.1 x.1.2.2.2.2.2.2.2.1 x.1.2.2.2.2.2.2.2.2.1 x.2.1.1 x.2.1.2.1 x.2.1.2.2.1 x.2.1.2.2.2.1 x.2.1.2.2.2.2.1 x.2.1.2.2.2.2.2.1 x.2.1.2.2.2.2.2.2.1 x.2.1.2.2.2.2.2.2.2.1 x.2.1.2.2.2.2.2.2.2.2.1 x.2.1.2.2.2.2.2.2.2.2.2.1).eval = (k267.F x).eval) : k267.Ok Tryz.prog := con_fn [k242, k269] ⟨k242_ok, k269_ok, trivial⟩ f267_eq fun x hw _ hy => (hr x hw).trans hy
theorem k267_ok : k267.Ok Tryz.prog := by
  refine f267_ok fun x hw => ?_
  obtain ⟨⟨a0, a1, a2, a3, a4, a5, a6, a7, a8, _⟩, ⟨a9, a10, a11, a12, a13, a14, a15, a16, a17, a18, _⟩, _⟩ := x
  have l2 : List.length a2 ≤ BIG := hw.1.1.1
  have l3 : List.length a3 ≤ BIG := hw.1.2.1.1
  have l4 : List.length a4 ≤ BIG := hw.1.2.2.1.1
  have l5 : List.length a5 ≤ BIG := hw.1.2.2.2.1.1
  have l6 : List.length a6 ≤ BIG := hw.1.2.2.2.2.1.1
  have l7 : List.length a7 ≤ BIG := hw.1.2.2.2.2.2.1.1
  have l8 : List.length a8 ≤ BIG := hw.1.2.2.2.2.2.2.1.1
  have l14 : List.length a14 ≤ BIG := hw.2.1.1.1
  have l15 : List.length a15 ≤ BIG := hw.2.1.2.1.1
  have l16 : List.length a16 ≤ BIG := hw.2.1.2.2.1.1
  show (f267_tree a0 a1 a2 a3 a4 a5 a6 a7 a8 a9 a10 a11 a12 a13 a14 a15 a16 a17 a18).eval = some ((((untilOkV a1 a4 a11 a16 a17), ()), ()), ((), (), ()))
  unfold f267_tree untilOkV
  simp only [Out.eval, cond_eq_ite]
  all_goals ((repeat' split) <;> simp_all)
def fdBadC (f nx tk : Int) (os : List OpenD) : Bool × Int × Int := (!(f == -1) && decide (openAtV os f < 0), nx, tk)
def f268_tree (a0 : Int) (a1 : Int) (a2 : Int) (a3 : List (List InsD)) (a4 : List ProcD) (a5 : List OpenD) (a6 : List CpuD) (a7 : List CpuD) (a8 : List Int) (a9 : List Int) : Out (((Bool × Unit) × Unit) × (Unit × (Int × Int × Unit) × Unit)) :=
 .ite (((a0 != (-1 : Int))) == true)
 (.ret ((((decide ((openAtV a5 a0) < (0 : Int))), ()), ()), ((), (a1, a2, ()), ())))
 (.ret (((false, ()), ()), ((), (a1, a2, ()), ())))
def k268 : Con := { f := 268, lend := true, its := [⟨false, false, [.i .i64]⟩, ⟨true, false, [.i .i64, .i .i64, .ro (.sl tyN), .ro tyP, .ro tyO, .ro tyF, .ro tyF, .ro (.int .i64), .ro (.int .i64)]⟩], lay := [none, none], rs := [⟨false, false, [.b]⟩], F := fun x => .ret ((((fdBadC x.1.1 x.2.1.1 x.2.1.2.1 x.2.1.2.2.2.2.1).1, ()), ()), ((), ((fdBadC x.1.1 x.2.1.1 x.2.1.2.1 x.2.1.2.2.2.2.1).2.1, (fdBadC x.1.1 x.2.1.1 x.2.1.2.1 x.2.1.2.2.2.2.1).2.2, ()), ())) }
theorem f268_eq (x : itemsD k268.its) : bo [k269] (fun _ => none) Tryz.f268 k268 [.tmp 3] x = f268_tree x.1.1 x.2.1.1 x.2.1.2.1 x.2.1.2.2.1 x.2.1.2.2.2.1 x.2.1.2.2.2.2.1 x.2.1.2.2.2.2.2.1 x.2.1.2.2.2.2.2.2.1 x.2.1.2.2.2.2.2.2.2.1 x.2.1.2.2.2.2.2.2.2.2.1 := by kernel_rfl
theorem f268_ok (hr : ∀ x : (Int × Unit) × UnixD × Unit, itemsWF k268.its x → (f268_tree x.1.1 x.2.1.1 x.2.1.2.1 x.2.1.2.2.1 x.2.1.2.2.2.1 x.2.1.2.2.2.2.1 x.2.1.2.2.2.2.2.1 x.2.1.2.2.2.2.2.2.1 x.2.1.2.2.2.2.2.2.2.1 x.2.1.2.2.2.2.2.2.2.2.1).eval = (k268.F x).eval) : k268.Ok Tryz.prog := con_fn [k269] ⟨k269_ok, trivial⟩ f268_eq fun x hw _ hy => (hr x hw).trans hy
theorem k268_ok : k268.Ok Tryz.prog := by
  refine f268_ok fun x hw => ?_
  obtain ⟨⟨a0, _⟩, ⟨a1, a2, a3, a4, a5, a6, a7, a8, a9, _⟩, _⟩ := x
  have l3 : List.length a3 ≤ BIG := hw.2.1.1.1
  have l4 : List.length a4 ≤ BIG := hw.2.1.2.1.1
  have l5 : List.length a5 ≤ BIG := hw.2.1.2.2.1.1
  have l6 : List.length a6 ≤ BIG := hw.2.1.2.2.2.1.1
  have l7 : List.length a7 ≤ BIG := hw.2.1.2.2.2.2.1.1
  have l8 : List.length a8 ≤ BIG := hw.2.1.2.2.2.2.2.1.1
  have l9 : List.length a9 ≤ BIG := hw.2.1.2.2.2.2.2.2.1.1
  show (f268_tree a0 a1 a2 a3 a4 a5 a6 a7 a8 a9).eval = some ((((fdBadC a0 a1 a2 a5).1, ()), ()), ((), ((fdBadC a0 a1 a2 a5).2.1, (fdBadC a0 a1 a2 a5).2.2, ()), ()))
  unfold f268_tree fdBadC
  simp only [Out.eval, cond_eq_ite]
  all_goals ((repeat' split) <;> simp_all)
def fdOpenV (f : Int) : Bool := !(f == -1)
def f270_tree (a0 : Int) : Out (((Bool × Unit) × Unit) × (Unit × Unit)) :=
 .ret (((((a0 != (-1 : Int))), ()), ()), ((), ()))
def k270 : Con := { f := 270, lend := true, its := [⟨false, false, [.i .i64]⟩], lay := [none], rs := [⟨false, false, [.b]⟩], F := fun x => .ret ((((fdOpenV x.1.1), ()), ()), ((), ())) }
theorem f270_eq (x : itemsD k270.its) : bo [] (fun _ => none) Tryz.f270 k270 [.tmp 2] x = f270_tree x.1.1 := by kernel_rfl
theorem f270_ok (hr : ∀ x : (Int × Unit) × Unit, itemsWF k270.its x → (f270_tree x.1.1).eval = (k270.F x).eval) : k270.Ok Tryz.prog := con_fn [] trivial f270_eq fun x hw _ hy => (hr x hw).trans hy
theorem k270_ok : k270.Ok Tryz.prog := by
  refine f270_ok fun x hw => ?_
  obtain ⟨⟨a0, _⟩, _⟩ := x
  show (f270_tree a0).eval = some ((((fdOpenV a0), ()), ()), ((), ()))
  rfl
def fdBadIdxC (a : List Int) (nx tk : Int) (os : List OpenD) : Int × Int × Int := (idxV (a.findIdx? fun f => (fdBadC f nx tk os).1), nx, tk)
abbrev f185p_S0 := XE × (UnixD × Unit)
def f185p_L0 : f185p_S0 → Out (Round f185p_S0 ((Unit) × (UnixD × Unit)) ((Int × Unit) × (UnixD × Unit)))
| ((p0, p1, p2, _), (p3, p4, p5, p6, p7, p8, p9, p10, p11, _), _) =>
 .ite (decide (p2 < p1))
 (.ite (decide (0 ≤ p2))
 (.get (nth p0 (Int.toNat p2)) fun y1 =>
 .ite ((fdBadC y1 p3 p4 p7).1)
 (.ret (.ret ((p2, ()), (((fdBadC y1 p3 p4 p7).2.1, (fdBadC y1 p3 p4 p7).2.2, p5, p6, p7, p8, p9, p10, p11, ()), ()))))
 (.ret (.again ((p0, p1, (IntKind.i64.wrap (p2 + (1 : Int))), ()), (((fdBadC y1 p3 p4 p7).2.1, (fdBadC y1 p3 p4 p7).2.2, p5, p6, p7, p8, p9, p10, p11, ()), ())))))
 .fail)
 (.ret (.out ((), ((p3, p4, p5, p6, p7, p8, p9, p10, p11, ()), ()))))
def f185p_tree (a0 : List Int) (a1 : Int) (a2 : Int) (a3 : List (List InsD)) (a4 : List ProcD) (a5 : List OpenD) (a6 : List CpuD) (a7 : List CpuD) (a8 : List Int) (a9 : List Int) : Out (((Int × Unit) × Unit) × (Unit × (Int × Int × Unit) × Unit)) :=
 .get (iter f185p_L0 FUEL ((a0, ((List.length a0 : Nat) : Int), (0 : Int), ()), ((a1, a2, a3, a4, a5, a6, a7, a8, a9, ()), ()))) fun y1 => .alt y1 (fun y2 =>
 .ret ((((-1 : Int), ()), ()), ((), (y2.2.1.1, y2.2.1.2.1, ()), ()))) (fun y3 =>
 .ret (((y3.1.1, ()), ()), ((), (y3.2.1.1, y3.2.1.2.1, ()), ())))
abbrev f185p_s0 : List (Nat × VSlot) := [(1, .var [.i .i64, .i .i64, .ro (.sl tyN) (some 2), .ro tyP (some 3), .ro tyO (some 4), .ro tyF (some 5), .ro tyF (some 6), .ro (.int .i64) (some 7), .ro (.int .i64) (some 8)])]
def f185p_A : Nat → Option LoopAnn := fun n => annOf [(0, ⟨⟨[.ro (.int .i64) (some 0), .fn 268 [1]] ++ dd 5 ++ [.i .i64, .i .i64] ++ dd 10, f185p_s0⟩, ⟨[.dead, .fn 268 [1]] ++ dd 17, f185p_s0⟩, some ⟨[.dead, .fn 268 [1], .dead, .dead, .i .i64] ++ dd 14, f185p_s0⟩, false⟩)] n
def k185p : Con := { f := 185, lend := true, its := [⟨false, false, [.ro (.int .i64)]⟩, ⟨true, false, [.i .i64, .i .i64, .ro (.sl tyN), .ro tyP, .ro tyO, .ro tyF, .ro tyF, .ro (.int .i64), .ro (.int .i64)]⟩], lay := [none, some (268, 1)], rs := [⟨false, false, [.i .i64]⟩], F := fun x => .ret ((((fdBadIdxC x.1.1 x.2.1.1 x.2.1.2.1 x.2.1.2.2.2.2.1).1, ()), ()), ((), ((fdBadIdxC x.1.1 x.2.1.1 x.2.1.2.1 x.2.1.2.2.2.2.1).2.1, (fdBadIdxC x.1.1 x.2.1.1 x.2.1.2.1 x.2.1.2.2.2.2.1).2.2, ()), ())) }
theorem f185p_eq (x : itemsD k185p.its) : bo [k268] f185p_A Tryz.f185 k185p [.tmp 4] x = f185p_tree x.1.1 x.2.1.1 x.2.1.2.1 x.2.1.2.2.1 x.2.1.2.2.2.1 x.2.1.2.2.2.2.1 x.2.1.2.2.2.2.2.1 x.2.1.2.2.2.2.2.2.1 x.2.1.2.2.2.2.2.2.2.1 x.2.1.2.2.2.2.2.2.2.2.1 := by kernel_rfl
theorem f185p_ok (hr : ∀ x : (List Int × Unit) × UnixD × Unit, itemsWF k185p.its x → (f185p_tree x.1.1 x.2.1.1 x.2.1.2.1 x.2.1.2.2.1 x.2.1.2.2.2.1 x.2.1.2.2.2.2.1 x.2.1.2.2.2.2.2.1 x.2.1.2.2.2.2.2.2.1 x.2.1.2.2.2.2.2.2.2.1 x.2.1.2.2.2.2.2.2.2.2.1).eval = (k185p.F x).eval) : k185p.Ok Tryz.prog := con_fn [k268] ⟨k268_ok, trivial⟩ f185p_eq fun x hw _ hy => (hr x hw).trans hy
theorem k185p_ok : k185p.Ok Tryz.prog := by
  refine f185p_ok fun x hw => ?_
  obtain ⟨⟨a0, _⟩, ⟨a1, a2, a3, a4, a5, a6, a7, a8, a9, _⟩, _⟩ := x
  have l0 : List.length a0 ≤ BIG := hw.1.1.1
  have l3 : List.length a3 ≤ BIG := hw.2.1.1.1
  have l4 : List.length a4 ≤ BIG := hw.2.1.2.1.1
  have l5 : List.length a5 ≤ BIG := hw.2.1.2.2.1.1
  have l6 : List.length a6 ≤ BIG := hw.2.1.2.2.2.1.1
  have l7 : List.length a7 ≤ BIG := hw.2.1.2.2.2.2.1.1
  have l8 : List.length a8 ≤ BIG := hw.2.1.2.2.2.2.2.1.1
  have l9 : List.length a9 ≤ BIG := hw.2.1.2.2.2.2.2.2.1.1
  show (f185p_tree a0 a1 a2 a3 a4 a5 a6 a7 a8 a9).eval = some ((((fdBadIdxC a0 a1 a2 a5).1, ()), ()), ((), ((fdBadIdxC a0 a1 a2 a5).2.1, (fdBadIdxC a0 a1 a2 a5).2.2, ()), ()))
  unfold f185p_tree fdBadIdxC
  have h : iter f185p_L0 FUEL ((a0, ((List.length a0 : Nat) : Int), (0 : Int), ()), ((a1, a2, a3, a4, a5, a6, a7, a8, a9, ()), ())) = some (match List.findIdx? (fun f => (fdBadC f a1 a2 a5).1) a0 with | some i => .inr ((((i : Nat) : Int), ()), ((a1, a2, a3, a4, a5, a6, a7, a8, a9, ()), ())) | none => .inl ((), ((a1, a2, a3, a4, a5, a6, a7, a8, a9, ()), ()))) := idx_loop (f := f185p_L0) a0 (fun f => (fdBadC f a1 a2 a5).1) (fun i => ((a0, ((List.length a0 : Nat) : Int), ((i : Nat) : Int), ()), ((a1, a2, a3, a4, a5, a6, a7, a8, a9, ()), ()))) (y := ((), ((a1, a2, a3, a4, a5, a6, a7, a8, a9, ()), ()))) (z := fun i => ((((i : Nat) : Int), ()), ((a1, a2, a3, a4, a5, a6, a7, a8, a9, ()), ())))
      (fun i hi hp => by
        have h1 := wrap_succ (i := i) (by omega)
        simp [f185p_L0, Out.eval, hi, h1, cond_eq_ite, fdBadC] at hp ⊢ <;> (try simp_all) <;> (try (rcases hp with h | h <;> simp_all)))
      (fun i hi hp => by simp [f185p_L0, Out.eval, hi, cond_eq_ite, fdBadC] at hp ⊢ <;> (try simp_all) <;> (try (rcases hp with h | h <;> simp_all)))
      (by simp [f185p_L0, Out.eval]) l0
  refine (eval_get_some h).trans ?_
  cases List.findIdx? (fun f => (fdBadC f a1 a2 a5).1) a0 <;> rfl
def anyFdBadC (a : List Int) (nx tk : Int) (os : List OpenD) : Bool × Int × Int := (a.any fun f => (fdBadC f nx tk os).1, nx, tk)
def f191p_tree (a0 : List Int) (a1 : Int) (a2 : Int) (a3 : List (List InsD)) (a4 : List ProcD) (a5 : List OpenD) (a6 : List CpuD) (a7 : List CpuD) (a8 : List Int) (a9 : List Int) : Out (((Bool × Unit) × Unit) × (Unit × (Int × Int × Unit) × Unit)) :=
 .ret ((((decide ((fdBadIdxC a0 a1 a2 a5).1 ≥ (0 : Int))), ()), ()), ((), ((fdBadIdxC a0 a1 a2 a5).2.1, (fdBadIdxC a0 a1 a2 a5).2.2, ()), ()))
def k191p : Con := { f := 191, lend := true, its := [⟨false, false, [.ro (.int .i64)]⟩, ⟨true, false, [.i .i64, .i .i64, .ro (.sl tyN), .ro tyP, .ro tyO, .ro tyF, .ro tyF, .ro (.int .i64), .ro (.int .i64)]⟩], lay := [none, some (268, 1)], rs := [⟨false, false, [.b]⟩], F := fun x => .ret ((((anyFdBadC x.1.1 x.2.1.1 x.2.1.2.1 x.2.1.2.2.2.2.1).1, ()), ()), ((), ((anyFdBadC x.1.1 x.2.1.1 x.2.1.2.1 x.2.1.2.2.2.2.1).2.1, (anyFdBadC x.1.1 x.2.1.1 x.2.1.2.1 x.2.1.2.2.2.2.1).2.2, ()), ())) }
theorem f191p_eq (x : itemsD k191p.its) : bo [k185p] (fun _ => none) Tryz.f191 k191p [.tmp 4] x = f191p_tree x.1.1 x.2.1.1 x.2.1.2.1 x.2.1.2.2.1 x.2.1.2.2.2.1 x.2.1.2.2.2.2.1 x.2.1.2.2.2.2.2.1 x.2.1.2.2.2.2.2.2.1 x.2.1.2.2.2.2.2.2.2.1 x.2.1.2.2.2.2.2.2.2.2.1 := by kernel_rfl
theorem f191p_ok (hr : ∀ x : (List Int × Unit) × UnixD × Unit, itemsWF k191p.its x → (f191p_tree x.1.1 x.2.1.1 x.2.1.2.1 x.2.1.2.2.1 x.2.1.2.2.2.1 x.2.1.2.2.2.2.1 x.2.1.2.2.2.2.2.1 x.2.1.2.2.2.2.2.2.1 x.2.1.2.2.2.2.2.2.2.1 x.2.1.2.2.2.2.2.2.2.2.1).eval = (k191p.F x).eval) : k191p.Ok Tryz.prog := con_fn [k185p] ⟨k185p_ok, trivial⟩ f191p_eq fun x hw _ hy => (hr x hw).trans hy
theorem k191p_ok : k191p.Ok Tryz.prog := by
  refine f191p_ok fun x hw => ?_
  obtain ⟨⟨a0, _⟩, ⟨a1, a2, a3, a4, a5, a6, a7, a8, a9, _⟩, _⟩ := x
  have l0 : List.length a0 ≤ BIG := hw.1.1.1
  have l3 : List.length a3 ≤ BIG := hw.2.1.1.1
  have l4 : List.length a4 ≤ BIG := hw.2.1.2.1.1
  have l5 : List.length a5 ≤ BIG := hw.2.1.2.2.1.1
  have l6 : List.length a6 ≤ BIG := hw.2.1.2.2.2.1.1
  have l7 : List.length a7 ≤ BIG := hw.2.1.2.2.2.2.1.1
  have l8 : List.length a8 ≤ BIG := hw.2.1.2.2.2.2.2.1.1
  have l9 : List.length a9 ≤ BIG := hw.2.1.2.2.2.2.2.2.1.1
  show (f191p_tree a0 a1 a2 a3 a4 a5 a6 a7 a8 a9).eval = some ((((anyFdBadC a0 a1 a2 a5).1, ()), ()), ((), ((anyFdBadC a0 a1 a2 a5).2.1, (anyFdBadC a0 a1 a2 a5).2.2, ()), ()))
  unfold f191p_tree anyFdBadC fdBadIdxC
  rw [idxV_ge]
  rfl
def fdOpenIdxV (a : List Int) : Int := idxV (a.findIdx? fdOpenV)
abbrev f185q_S0 := XE × (Unit)
def f185q_L0 : f185q_S0 → Out (Round f185q_S0 ((Unit) × (Unit)) ((Int × Unit) × (Unit)))
| ((p0, p1, p2, _), _) =>
 .ite (decide (p2 < p1))
 (.ite (decide (0 ≤ p2))
 (.get (nth p0 (Int.toNat p2)) fun y1 =>
 .ite (fdOpenV y1)
 (.ret (.ret ((p2, ()), ())))
 (.ret (.again ((p0, p1, (IntKind.i64.wrap (p2 + (1 : Int))), ()), ()))))
 .fail)
 (.ret (.out ((), ())))
def f185q_tree (a0 : List Int) : Out (((Int × Unit) × Unit) × (Unit × Unit)) :=
 .get (iter f185q_L0 FUEL ((a0, ((List.length a0 : Nat) : Int), (0 : Int), ()), ())) fun y1 => .alt y1 (fun y2 =>
 .ret ((((-1 : Int), ()), ()), ((), ()))) (fun y3 =>
 .ret (((y3.1.1, ()), ()), ((), ())))
def f185q_A : Nat → Option LoopAnn := fun n => annOf [(0, ⟨⟨[.ro (.int .i64) (some 0), .fn 270 []] ++ dd 5 ++ [.i .i64, .i .i64] ++ dd 10, []⟩, ⟨dd 19, []⟩, some ⟨dd 4 ++ [.i .i64] ++ dd 14, []⟩, false⟩)] n
def k185q : Con := { f := 185, lend := true, its := [⟨false, false, [.ro (.int .i64)]⟩], lay := [none, some (270, 0)], rs := [⟨false, false, [.i .i64]⟩], F := fun x => .ret ((((fdOpenIdxV x.1.1), ()), ()), ((), ())) }
theorem f185q_eq (x : itemsD k185q.its) : bo [k270] f185q_A Tryz.f185 k185q [.tmp 4] x = f185q_tree x.1.1 := by kernel_rfl
theorem f185q_ok (hr : ∀ x : (List Int × Unit) × Unit, itemsWF k185q.its x → (f185q_tree x.1.1).eval = (k185q.F x).eval) : k185q.Ok Tryz.prog := con_fn [k270] ⟨k270_ok, trivial⟩ f185q_eq fun x hw _ hy => (hr x hw).trans hy
theorem k185q_ok : k185q.Ok Tryz.prog := by
  refine f185q_ok fun x hw => ?_
  obtain ⟨⟨a0, _⟩, _⟩ := x
  have l0 : List.length a0 ≤ BIG := hw.1.1.1
  show (f185q_tree a0).eval = some ((((fdOpenIdxV a0), ()), ()), ((), ()))
  unfold f185q_tree fdOpenIdxV
  have h : iter f185q_L0 FUEL ((a0, ((List.length a0 : Nat) : Int), (0 : Int), ()), ()) = some (match List.findIdx? fdOpenV a0 with | some i => .inr ((((i : Nat) : Int), ()), ()) | none => .inl ((), ())) := idx_loop (f := f185q_L0) a0 fdOpenV (fun i => ((a0, ((List.length a0 : Nat) : Int), ((i : Nat) : Int), ()), ())) (y := ((), ())) (z := fun i => ((((i : Nat) : Int), ()), ()))
      (fun i hi hp => by
        have h1 := wrap_succ (i := i) (by omega)
        simp [f185q_L0, Out.eval, hi, h1, cond_eq_ite] at hp ⊢ <;> (try simp_all) <;> (try (rcases hp with h | h <;> simp_all)))
      (fun i hi hp => by simp [f185q_L0, Out.eval, hi, cond_eq_ite] at hp ⊢ <;> (try simp_all) <;> (try (rcases hp with h | h <;> simp_all)))
      (by simp [f185q_L0, Out.eval]) l0
  refine (eval_get_some h).trans ?_
  cases List.findIdx? fdOpenV a0 <;> rfl
def anyFdOpenV (a : List Int) : Bool := a.any fdOpenV
def f191q_tree (a0 : List Int) : Out (((Bool × Unit) × Unit) × (Unit × Unit)) :=
 .ret ((((decide ((fdOpenIdxV a0) ≥ (0 : Int))), ()), ()), ((), ()))
def k191q : Con := { f := 191, lend := true, its := [⟨false, false, [.ro (.int .i64)]⟩], lay := [none, some (270, 0)], rs := [⟨false, false, [.b]⟩], F := fun x => .ret ((((anyFdOpenV x.1.1), ()), ()), ((), ())) }
theorem f191q_eq (x : itemsD k191q.its) : bo [k185q] (fun _ => none) Tryz.f191 k191q [.tmp 4] x = f191q_tree x.1.1 := by kernel_rfl
theorem f191q_ok (hr : ∀ x : (List Int × Unit) × Unit, itemsWF k191q.its x → (f191q_tree x.1.1).eval = (k191q.F x).eval) : k191q.Ok Tryz.prog := con_fn [k185q] ⟨k185q_ok, trivial⟩ f191q_eq fun x hw _ hy => (hr x hw).trans hy
theorem k191q_ok : k191q.Ok Tryz.prog := by
  refine f191q_ok fun x hw => ?_
  obtain ⟨⟨a0, _⟩, _⟩ := x
  have l0 : List.length a0 ≤ BIG := hw.1.1.1
  show (f191q_tree a0).eval = some ((((anyFdOpenV a0), ()), ()), ((), ()))
  unfold f191q_tree anyFdOpenV fdOpenIdxV
  rw [idxV_ge]
  rfl
theorem fdBad_all {os : List OpenD} {nx tk : Int} (a : List Int) : (a.any fun f => (fdBadC f nx tk os).1) = !(a.all fun f => f == -1 || decide (0 ≤ openAtV os f)) := by
  rw [Bool.eq_iff_iff]
  simp only [fdBadC, List.any_eq_true, Bool.and_eq_true, Bool.not_eq_true', beq_eq_false_iff_ne, decide_eq_true_eq, Bool.not_eq_eq_eq_not, Bool.not_true, List.all_eq_false, Bool.or_eq_true, beq_iff_eq, not_or, Int.not_le]
theorem fds_same (os : List OpenD) (st : Int) (a : List Int) : a.all (fdOkV os st) = ((a.all fun f => f == -1 || decide (0 ≤ openAtV os f)) && (!(st == 6) || !a.any fdOpenV)) := by
  induction a with
  | nil => cases (st == 6) <;> rfl
  | cons f r ih =>
    rw [List.all_cons, ih, List.all_cons, List.any_cons]
    unfold fdOkV fdOpenV
    cases f == -1 <;> cases decide (0 ≤ openAtV os f) <;> cases (st == 6) <;> cases (r.all fun f => f == -1 || decide (0 ≤ openAtV os f)) <;> cases (r.any fun f => !(f == -1)) <;> rfl
end Go.Proofs.YtnnpnkegpkladaaGreat.Dm
