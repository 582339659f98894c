/- Functions of the program, and what they compute. -/
import Derived.Test.YtcinpcncclhejaaGreatQ43
namespace Go.Proofs.YtcinpcncclhejaaGreat.Dm
open Go Go.ChangeShapes Go.WideShapes Go.ChangeAt Go.RowKit

/-! ## The program: places -/
def procIsC (pid v : Int) : Bool × Int := (pid == v, v)
def f95_tree (a0 : Int) (a1 : Int) (a2 : Int) (a3 : Int) (a4 : Int) (a5 : List Int) (a6 : List Int) (a7 : List Int) (a8 : Int) (a9 : Int) (a10 : Int) : Out (((Bool × Unit) × Unit) × (Unit × (Int × Unit) × Unit)) :=
 .ret (((((a0 == a10)), ()), ()), ((), (a10, ()), ()))
def k95 : Con := { f := 95, lend := true, its := [⟨false, true, [.i .i64, .i .i64, .i .i64, .i .i64, .i .i64, .ro (.int .i64), .ro (.int .i64), .ro (.int .i64), .i .i64, .i .i64]⟩, ⟨true, false, [.i .i64]⟩], lay := [none, none], rs := [⟨false, false, [.b]⟩], F := fun x => .ret ((((procIsC x.1.1 x.2.1.1).1, ()), ()), ((), ((procIsC x.1.1 x.2.1.1).2, ()), ())) }
theorem f95_eq (x : itemsD k95.its) : bodyOut (cxOf []) (fun _ => none) (codeOf Tryz.f95) k95.its k95.lay Tryz.f95.ntmps k95.rs [.tmp 3] x = f95_tree x.1.1 x.1.2.1 x.1.2.2.1 x.1.2.2.2.1 x.1.2.2.2.2.1 x.1.2.2.2.2.2.1 x.1.2.2.2.2.2.2.1 x.1.2.2.2.2.2.2.2.1 x.1.2.2.2.2.2.2.2.2.1 x.1.2.2.2.2.2.2.2.2.2.1 x.2.1.1 := by kernel_rfl
theorem f95_ok (hr : ∀ x : (Int × Int × Int × Int × Int × List Int × List Int × List Int × Int × Int × Unit) × (Int × Unit) × Unit, itemsWF k95.its x → (f95_tree x.1.1 x.1.2.1 x.1.2.2.1 x.1.2.2.2.1 x.1.2.2.2.2.1 x.1.2.2.2.2.2.1 x.1.2.2.2.2.2.2.1 x.1.2.2.2.2.2.2.2.1 x.1.2.2.2.2.2.2.2.2.1 x.1.2.2.2.2.2.2.2.2.2.1 x.2.1.1).eval = (k95.F x).eval) : k95.Ok Tryz.prog :=
  con_fn [] trivial (by kernel_rfl) (codeOf_eq (by kernel_rfl)) (by kernel_rfl) (by kernel_rfl) (by kernel_rfl) f95_eq fun x hw _ hy => (hr x hw).trans hy
theorem k95_ok : k95.Ok Tryz.prog := by
  refine f95_ok fun x hw => ?_
  obtain ⟨⟨a0, a1, a2, a3, a4, a5, a6, a7, a8, a9, _⟩, ⟨a10, _⟩, _⟩ := x
  have l5 : List.length a5 ≤ BIG := hw.1.1.1
  have l6 : List.length a6 ≤ BIG := hw.1.2.1.1
  have l7 : List.length a7 ≤ BIG := hw.1.2.2.1.1
  show (f95_tree a0 a1 a2 a3 a4 a5 a6 a7 a8 a9 a10).eval = some ((((procIsC a0 a10).1, ()), ()), ((), ((procIsC a0 a10).2, ()), ()))
  unfold f95_tree procIsC
  simp only [Out.eval, cond_eq_ite]
  all_goals ((repeat' split) <;> simp_all)
def procIdxC (a : List ProcD) (v : Int) : Int × Int := (procAtV a v, v)
abbrev f94a_S0 := (List ProcD × Int × Int × Unit) × ((Int × Unit) × Unit)
def f94a_L0 (x : f94a_S0) : Out (Round f94a_S0 ((Unit) × ((Int × Unit) × Unit)) ((Int × Unit) × ((Int × Unit) × Unit))) :=
 .ite (decide (x.1.2.2.1 < x.1.2.1))
 (.ite (decide (0 ≤ x.1.2.2.1))
 (.get (nth x.1.1 (Int.toNat x.1.2.2.1)) fun y1 =>
 .ite ((procIsC y1.1 x.2.1.1).1)
 (.ret (.ret ((x.1.2.2.1, ()), (((procIsC y1.1 x.2.1.1).2, ()), ()))))
 (.ret (.again ((x.1.1, x.1.2.1, (IntKind.i64.wrap (x.1.2.2.1 + (1 : Int))), ()), (((procIsC y1.1 x.2.1.1).2, ()), ())))))
 .fail)
 (.ret (.out ((), ((x.2.1.1, ()), ()))))
def f94a_tree (a0 : List ProcD) (a1 : Int) : Out (((Int × Unit) × Unit) × (Unit × (Int × Unit) × Unit)) :=
 .get (iter f94a_L0 FUEL ((a0, ((List.length a0 : Nat) : Int), (0 : Int), ()), ((a1, ()), ()))) fun y1 => .alt y1 (fun y2 =>
 .ret ((((-1 : Int), ()), ()), ((), (y2.2.1.1, ()), ()))) (fun y3 =>
 .ret (((y3.1.1, ()), ()), ((), (y3.2.1.1, ()), ())))
def f94a_A : Nat → Option LoopAnn := fun n => annOf [(0, { head := { t := [.ro (.st (.cons (.int .i64) (.cons (.int .i64) (.cons (.int .i64) (.cons (.int .i64) (.cons (.st (.cons (.int .i64) (.cons (.sl (.int .i64)) .nil))) (.cons (.sl (.int .i64)) (.cons (.sl (.int .i64)) (.cons (.int .i64) (.cons (.int .i64) .nil)))))))))) (some 0), .fn 95 [1]] ++ dd 5 ++ [.i .i64, .i .i64] ++ dd 10, v := [(1, .var [.i .i64])] }, out := { t := [.dead, .fn 95 [1]] ++ dd 17, v := [(1, .var [.i .i64])] }, ret := some { t := [.dead, .fn 95 [1], .dead, .dead, .i .i64] ++ dd 14, v := [(1, .var [.i .i64])] } })] n
def k94a : Con := { f := 94, lend := true, its := [⟨false, false, [.ro (.st (.cons (.int .i64) (.cons (.int .i64) (.cons (.int .i64) (.cons (.int .i64) (.cons (.st (.cons (.int .i64) (.cons (.sl (.int .i64)) .nil))) (.cons (.sl (.int .i64)) (.cons (.sl (.int .i64)) (.cons (.int .i64) (.cons (.int .i64) .nil))))))))))]⟩, ⟨true, false, [.i .i64]⟩], lay := [none, some (95, 1)], rs := [⟨false, false, [.i .i64]⟩], F := fun x => .ret ((((procIdxC x.1.1 x.2.1.1).1, ()), ()), ((), ((procIdxC x.1.1 x.2.1.1).2, ()), ())) }
theorem f94a_eq (x : itemsD k94a.its) : bodyOut (cxOf [k95]) (f94a_A) (codeOf Tryz.f94) k94a.its k94a.lay Tryz.f94.ntmps k94a.rs [.tmp 4] x = f94a_tree x.1.1 x.2.1.1 := by kernel_rfl
theorem f94a_ok (hr : ∀ x : (List ProcD × Unit) × (Int × Unit) × Unit, itemsWF k94a.its x → (f94a_tree x.1.1 x.2.1.1).eval = (k94a.F x).eval) : k94a.Ok Tryz.prog :=
  con_fn [k95] ⟨k95_ok, trivial⟩ (by kernel_rfl) (codeOf_eq (by kernel_rfl)) (by kernel_rfl) (by kernel_rfl) (by kernel_rfl) f94a_eq fun x hw _ hy => (hr x hw).trans hy
theorem k94a_ok : k94a.Ok Tryz.prog := by
  refine f94a_ok fun x hw => ?_
  obtain ⟨⟨a0, _⟩, ⟨a1, _⟩, _⟩ := x
  have l0 : List.length a0 ≤ BIG := hw.1.1.1
  show (f94a_tree a0 a1).eval = some ((((procIdxC a0 a1).1, ()), ()), ((), ((procIdxC a0 a1).2, ()), ()))
  unfold f94a_tree procIdxC procAtV placeBy idxBy
  have h : iter f94a_L0 FUEL ((a0, ((List.length a0 : Nat) : Int), (0 : Int), ()), ((a1, ()), ())) = some (match List.findIdx? (fun x => procKey x == a1) a0 with | some i => .inr ((((i : Nat) : Int), ()), ((a1, ()), ())) | none => .inl ((), ((a1, ()), ()))) := idx_loop (f := f94a_L0) a0 (fun x => procKey x == a1) (fun i => ((a0, ((List.length a0 : Nat) : Int), ((i : Nat) : Int), ()), ((a1, ()), ()))) (y := ((), ((a1, ()), ()))) (z := fun i => ((((i : Nat) : Int), ()), ((a1, ()), ())))
      (fun i hi hp => by
        have h1 := wrap_succ (i := i) (by omega)
        simp [f94a_L0, Out.eval, hi, h1, cond_eq_ite, procKey, procIsC] at hp ⊢ <;> (try simp_all) <;> (try (rcases hp with h | h <;> simp_all)))
      (fun i hi hp => by simp [f94a_L0, Out.eval, hi, cond_eq_ite, procKey, procIsC] at hp ⊢ <;> (try simp_all) <;> (try (rcases hp with h | h <;> simp_all)))
      (by simp [f94a_L0, Out.eval]) l0
  refine (eval_get_some h).trans ?_
  cases List.findIdx? (fun x => procKey x == a1) a0 <;> rfl
def f38_tree (a0 : Int) (a1 : Int) (a2 : List (List InsD)) (a3 : List ProcD) (a4 : List OpenD) (a5 : List CpuD) (a6 : List CpuD) (a7 : List Int) (a8 : List Int) (a9 : Int) : Out (((Int × Unit) × Unit) × (Unit × Unit × Unit)) :=
 .ret ((((procIdxC a3 a9).1, ()), ()), ((), (), ()))
def k38 : Con := { f := 38, lend := true, its := [⟨false, true, [.i .i64, .i .i64, .ro (.sl (.st (.cons (.int .i64) (.cons (.int .i64) (.cons (.int .i64) (.cons (.int .i64) .nil)))))), .ro (.st (.cons (.int .i64) (.cons (.int .i64) (.cons (.int .i64) (.cons (.int .i64) (.cons (.st (.cons (.int .i64) (.cons (.sl (.int .i64)) .nil))) (.cons (.sl (.int .i64)) (.cons (.sl (.int .i64)) (.cons (.int .i64) (.cons (.int .i64) .nil)))))))))), .ro (.st (.cons (.int .i64) (.cons (.int .i64) (.cons (.int .i64) (.cons (.int .i64) (.cons (.int .i64) .nil)))))), .ro (.st (.cons (.int .i64) (.cons (.sl (.int .i64)) .nil))), .ro (.st (.cons (.int .i64) (.cons (.sl (.int .i64)) .nil))), .ro (.int .i64), .ro (.int .i64)]⟩, ⟨false, false, [.i .i64]⟩], lay := [none, none], rs := [⟨false, false, [.i .i64]⟩], F := fun x => .ret ((((procAtV x.1.2.2.2.1 x.2.1.1), ()), ()), ((), (), ())) }
theorem f38_eq (x : itemsD k38.its) : bodyOut (cxOf [k94a]) (fun _ => none) (codeOf Tryz.f38) k38.its k38.lay Tryz.f38.ntmps k38.rs [.tmp 4] x = f38_tree x.1.1 x.1.2.1 x.1.2.2.1 x.1.2.2.2.1 x.1.2.2.2.2.1 x.1.2.2.2.2.2.1 x.1.2.2.2.2.2.2.1 x.1.2.2.2.2.2.2.2.1 x.1.2.2.2.2.2.2.2.2.1 x.2.1.1 := by kernel_rfl
theorem f38_ok (hr : ∀ x : UnixD × (Int × Unit) × Unit, itemsWF k38.its x → (f38_tree x.1.1 x.1.2.1 x.1.2.2.1 x.1.2.2.2.1 x.1.2.2.2.2.1 x.1.2.2.2.2.2.1 x.1.2.2.2.2.2.2.1 x.1.2.2.2.2.2.2.2.1 x.1.2.2.2.2.2.2.2.2.1 x.2.1.1).eval = (k38.F x).eval) : k38.Ok Tryz.prog :=
  con_fn [k94a] ⟨k94a_ok, trivial⟩ (by kernel_rfl) (codeOf_eq (by kernel_rfl)) (by kernel_rfl) (by kernel_rfl) (by kernel_rfl) f38_eq fun x hw _ hy => (hr x hw).trans hy
theorem k38_ok : k38.Ok Tryz.prog := by
  refine f38_ok fun x hw => ?_
  obtain ⟨⟨a0, a1, a2, a3, a4, a5, a6, a7, a8, _⟩, ⟨a9, _⟩, _⟩ := x
  have l2 : List.length a2 ≤ BIG := hw.1.1.1
  have l3 : List.length a3 ≤ BIG := hw.1.2.1.1
  have l4 : List.length a4 ≤ BIG := hw.1.2.2.1.1
  have l5 : List.length a5 ≤ BIG := hw.1.2.2.2.1.1
  have l6 : List.length a6 ≤ BIG := hw.1.2.2.2.2.1.1
  have l7 : List.length a7 ≤ BIG := hw.1.2.2.2.2.2.1.1
  have l8 : List.length a8 ≤ BIG := hw.1.2.2.2.2.2.2.1.1
  show (f38_tree a0 a1 a2 a3 a4 a5 a6 a7 a8 a9).eval = some ((((procAtV a3 a9), ()), ()), ((), (), ()))
  unfold f38_tree procIdxC
  simp only [Out.eval, cond_eq_ite]
  all_goals ((repeat' split) <;> simp_all)
def openIsC (id v : Int) : Bool × Int := (id == v, v)
def f185_tree (a0 : Int) (a1 : Int) (a2 : Int) (a3 : Int) (a4 : Int) (a5 : Int) : Out (((Bool × Unit) × Unit) × (Unit × (Int × Unit) × Unit)) :=
 .ret (((((a0 == a5)), ()), ()), ((), (a5, ()), ()))
def k185 : Con := { f := 185, lend := true, its := [⟨false, true, [.i .i64, .i .i64, .i .i64, .i .i64, .i .i64]⟩, ⟨true, false, [.i .i64]⟩], lay := [none, none], rs := [⟨false, false, [.b]⟩], F := fun x => .ret ((((openIsC x.1.1 x.2.1.1).1, ()), ()), ((), ((openIsC x.1.1 x.2.1.1).2, ()), ())) }
theorem f185_eq (x : itemsD k185.its) : bodyOut (cxOf []) (fun _ => none) (codeOf Tryz.f185) k185.its k185.lay Tryz.f185.ntmps k185.rs [.tmp 3] x = f185_tree x.1.1 x.1.2.1 x.1.2.2.1 x.1.2.2.2.1 x.1.2.2.2.2.1 x.2.1.1 := by kernel_rfl
theorem f185_ok (hr : ∀ x : OpenD × (Int × Unit) × Unit, itemsWF k185.its x → (f185_tree x.1.1 x.1.2.1 x.1.2.2.1 x.1.2.2.2.1 x.1.2.2.2.2.1 x.2.1.1).eval = (k185.F x).eval) : k185.Ok Tryz.prog :=
  con_fn [] trivial (by kernel_rfl) (codeOf_eq (by kernel_rfl)) (by kernel_rfl) (by kernel_rfl) (by kernel_rfl) f185_eq fun x hw _ hy => (hr x hw).trans hy
theorem k185_ok : k185.Ok Tryz.prog := by
  refine f185_ok fun x hw => ?_
  obtain ⟨⟨a0, a1, a2, a3, a4, _⟩, ⟨a5, _⟩, _⟩ := x
  show (f185_tree a0 a1 a2 a3 a4 a5).eval = some ((((openIsC a0 a5).1, ()), ()), ((), ((openIsC a0 a5).2, ()), ()))
  unfold f185_tree openIsC
  simp only [Out.eval, cond_eq_ite]
  all_goals ((repeat' split) <;> simp_all)
def openIdxC (a : List OpenD) (v : Int) : Int × Int := (openAtV a v, v)
abbrev f184a_S0 := (List OpenD × Int × Int × Unit) × ((Int × Unit) × Unit)
def f184a_L0 (x : f184a_S0) : Out (Round f184a_S0 ((Unit) × ((Int × Unit) × Unit)) ((Int × Unit) × ((Int × Unit) × Unit))) :=
 .ite (decide (x.1.2.2.1 < x.1.2.1))
 (.ite (decide (0 ≤ x.1.2.2.1))
 (.get (nth x.1.1 (Int.toNat x.1.2.2.1)) fun y1 =>
 .ite ((openIsC y1.1 x.2.1.1).1)
 (.ret (.ret ((x.1.2.2.1, ()), (((openIsC y1.1 x.2.1.1).2, ()), ()))))
 (.ret (.again ((x.1.1, x.1.2.1, (IntKind.i64.wrap (x.1.2.2.1 + (1 : Int))), ()), (((openIsC y1.1 x.2.1.1).2, ()), ())))))
 .fail)
 (.ret (.out ((), ((x.2.1.1, ()), ()))))
def f184a_tree (a0 : List OpenD) (a1 : Int) : Out (((Int × Unit) × Unit) × (Unit × (Int × Unit) × Unit)) :=
 .get (iter f184a_L0 FUEL ((a0, ((List.length a0 : Nat) : Int), (0 : Int), ()), ((a1, ()), ()))) fun y1 => .alt y1 (fun y2 =>
 .ret ((((-1 : Int), ()), ()), ((), (y2.2.1.1, ()), ()))) (fun y3 =>
 .ret (((y3.1.1, ()), ()), ((), (y3.2.1.1, ()), ())))
def f184a_A : Nat → Option LoopAnn := fun n => annOf [(0, { head := { t := [.ro (.st (.cons (.int .i64) (.cons (.int .i64) (.cons (.int .i64) (.cons (.int .i64) (.cons (.int .i64) .nil)))))) (some 0), .fn 185 [1]] ++ dd 5 ++ [.i .i64, .i .i64] ++ dd 10, v := [(1, .var [.i .i64])] }, out := { t := [.dead, .fn 185 [1]] ++ dd 17, v := [(1, .var [.i .i64])] }, ret := some { t := [.dead, .fn 185 [1], .dead, .dead, .i .i64] ++ dd 14, v := [(1, .var [.i .i64])] } })] n
def k184a : Con := { f := 184, lend := true, its := [⟨false, false, [.ro (.st (.cons (.int .i64) (.cons (.int .i64) (.cons (.int .i64) (.cons (.int .i64) (.cons (.int .i64) .nil))))))]⟩, ⟨true, false, [.i .i64]⟩], lay := [none, some (185, 1)], rs := [⟨false, false, [.i .i64]⟩], F := fun x => .ret ((((openIdxC x.1.1 x.2.1.1).1, ()), ()), ((), ((openIdxC x.1.1 x.2.1.1).2, ()), ())) }
theorem f184a_eq (x : itemsD k184a.its) : bodyOut (cxOf [k185]) (f184a_A) (codeOf Tryz.f184) k184a.its k184a.lay Tryz.f184.ntmps k184a.rs [.tmp 4] x = f184a_tree x.1.1 x.2.1.1 := by kernel_rfl
theorem f184a_ok (hr : ∀ x : (List OpenD × Unit) × (Int × Unit) × Unit, itemsWF k184a.its x → (f184a_tree x.1.1 x.2.1.1).eval = (k184a.F x).eval) : k184a.Ok Tryz.prog :=
  con_fn [k185] ⟨k185_ok, trivial⟩ (by kernel_rfl) (codeOf_eq (by kernel_rfl)) (by kernel_rfl) (by kernel_rfl) (by kernel_rfl) f184a_eq fun x hw _ hy => (hr x hw).trans hy
theorem k184a_ok : k184a.Ok Tryz.prog := by
  refine f184a_ok fun x hw => ?_
  obtain ⟨⟨a0, _⟩, ⟨a1, _⟩, _⟩ := x
  have l0 : List.length a0 ≤ BIG := hw.1.1.1
  show (f184a_tree a0 a1).eval = some ((((openIdxC a0 a1).1, ()), ()), ((), ((openIdxC a0 a1).2, ()), ()))
  unfold f184a_tree openIdxC openAtV placeBy idxBy
  have h : iter f184a_L0 FUEL ((a0, ((List.length a0 : Nat) : Int), (0 : Int), ()), ((a1, ()), ())) = some (match List.findIdx? (fun x => openKey x == a1) a0 with | some i => .inr ((((i : Nat) : Int), ()), ((a1, ()), ())) | none => .inl ((), ((a1, ()), ()))) := idx_loop (f := f184a_L0) a0 (fun x => openKey x == a1) (fun i => ((a0, ((List.length a0 : Nat) : Int), ((i : Nat) : Int), ()), ((a1, ()), ()))) (y := ((), ((a1, ()), ()))) (z := fun i => ((((i : Nat) : Int), ()), ((a1, ()), ())))
      (fun i hi hp => by
        have h1 := wrap_succ (i := i) (by omega)
        simp [f184a_L0, Out.eval, hi, h1, cond_eq_ite, openKey, openIsC] at hp ⊢ <;> (try simp_all) <;> (try (rcases hp with h | h <;> simp_all)))
      (fun i hi hp => by simp [f184a_L0, Out.eval, hi, cond_eq_ite, openKey, openIsC] at hp ⊢ <;> (try simp_all) <;> (try (rcases hp with h | h <;> simp_all)))
      (by simp [f184a_L0, Out.eval]) l0
  refine (eval_get_some h).trans ?_
  cases List.findIdx? (fun x => openKey x == a1) a0 <;> rfl
def f156_tree (a0 : Int) (a1 : Int) (a2 : List (List InsD)) (a3 : List ProcD) (a4 : List OpenD) (a5 : List CpuD) (a6 : List CpuD) (a7 : List Int) (a8 : List Int) (a9 : Int) : Out (((Int × Unit) × Unit) × (Unit × Unit × Unit)) :=
 .ret ((((openIdxC a4 a9).1, ()), ()), ((), (), ()))
def k156 : Con := { f := 156, lend := true, its := [⟨false, true, [.i .i64, .i .i64, .ro (.sl (.st (.cons (.int .i64) (.cons (.int .i64) (.cons (.int .i64) (.cons (.int .i64) .nil)))))), .ro (.st (.cons (.int .i64) (.cons (.int .i64) (.cons (.int .i64) (.cons (.int .i64) (.cons (.st (.cons (.int .i64) (.cons (.sl (.int .i64)) .nil))) (.cons (.sl (.int .i64)) (.cons (.sl (.int .i64)) (.cons (.int .i64) (.cons (.int .i64) .nil)))))))))), .ro (.st (.cons (.int .i64) (.cons (.int .i64) (.cons (.int .i64) (.cons (.int .i64) (.cons (.int .i64) .nil)))))), .ro (.st (.cons (.int .i64) (.cons (.sl (.int .i64)) .nil))), .ro (.st (.cons (.int .i64) (.cons (.sl (.int .i64)) .nil))), .ro (.int .i64), .ro (.int .i64)]⟩, ⟨false, false, [.i .i64]⟩], lay := [none, none], rs := [⟨false, false, [.i .i64]⟩], F := fun x => .ret ((((openAtV x.1.2.2.2.2.1 x.2.1.1), ()), ()), ((), (), ())) }
theorem f156_eq (x : itemsD k156.its) : bodyOut (cxOf [k184a]) (fun _ => none) (codeOf Tryz.f156) k156.its k156.lay Tryz.f156.ntmps k156.rs [.tmp 4] x = f156_tree x.1.1 x.1.2.1 x.1.2.2.1 x.1.2.2.2.1 x.1.2.2.2.2.1 x.1.2.2.2.2.2.1 x.1.2.2.2.2.2.2.1 x.1.2.2.2.2.2.2.2.1 x.1.2.2.2.2.2.2.2.2.1 x.2.1.1 := by kernel_rfl
theorem f156_ok (hr : ∀ x : UnixD × (Int × Unit) × Unit, itemsWF k156.its x → (f156_tree x.1.1 x.1.2.1 x.1.2.2.1 x.1.2.2.2.1 x.1.2.2.2.2.1 x.1.2.2.2.2.2.1 x.1.2.2.2.2.2.2.1 x.1.2.2.2.2.2.2.2.1 x.1.2.2.2.2.2.2.2.2.1 x.2.1.1).eval = (k156.F x).eval) : k156.Ok Tryz.prog :=
  con_fn [k184a] ⟨k184a_ok, trivial⟩ (by kernel_rfl) (codeOf_eq (by kernel_rfl)) (by kernel_rfl) (by kernel_rfl) (by kernel_rfl) f156_eq fun x hw _ hy => (hr x hw).trans hy
theorem k156_ok : k156.Ok Tryz.prog := by
  refine f156_ok fun x hw => ?_
  obtain ⟨⟨a0, a1, a2, a3, a4, a5, a6, a7, a8, _⟩, ⟨a9, _⟩, _⟩ := x
  have l2 : List.length a2 ≤ BIG := hw.1.1.1
  have l3 : List.length a3 ≤ BIG := hw.1.2.1.1
  have l4 : List.length a4 ≤ BIG := hw.1.2.2.1.1
  have l5 : List.length a5 ≤ BIG := hw.1.2.2.2.1.1
  have l6 : List.length a6 ≤ BIG := hw.1.2.2.2.2.1.1
  have l7 : List.length a7 ≤ BIG := hw.1.2.2.2.2.2.1.1
  have l8 : List.length a8 ≤ BIG := hw.1.2.2.2.2.2.2.1.1
  show (f156_tree a0 a1 a2 a3 a4 a5 a6 a7 a8 a9).eval = some ((((openAtV a4 a9), ()), ()), ((), (), ()))
  unfold f156_tree openIdxC
  simp only [Out.eval, cond_eq_ite]
  all_goals ((repeat' split) <;> simp_all)
def pipeIsC (id v : Int) : Bool × Int := (id == v, v)
def f189_tree (a0 : Int) (a1 : List Int) (a2 : Int) : Out (((Bool × Unit) × Unit) × (Unit × (Int × Unit) × Unit)) :=
 .ret (((((a0 == a2)), ()), ()), ((), (a2, ()), ()))
def k189 : Con := { f := 189, lend := true, its := [⟨false, true, [.i .i64, .ro (.int .i64)]⟩, ⟨true, false, [.i .i64]⟩], lay := [none, none], rs := [⟨false, false, [.b]⟩], F := fun x => .ret ((((pipeIsC x.1.1 x.2.1.1).1, ()), ()), ((), ((pipeIsC x.1.1 x.2.1.1).2, ()), ())) }
theorem f189_eq (x : itemsD k189.its) : bodyOut (cxOf []) (fun _ => none) (codeOf Tryz.f189) k189.its k189.lay Tryz.f189.ntmps k189.rs [.tmp 3] x = f189_tree x.1.1 x.1.2.1 x.2.1.1 := by kernel_rfl
theorem f189_ok (hr : ∀ x : CpuD × (Int × Unit) × Unit, itemsWF k189.its x → (f189_tree x.1.1 x.1.2.1 x.2.1.1).eval = (k189.F x).eval) : k189.Ok Tryz.prog :=
  con_fn [] trivial (by kernel_rfl) (codeOf_eq (by kernel_rfl)) (by kernel_rfl) (by kernel_rfl) (by kernel_rfl) f189_eq fun x hw _ hy => (hr x hw).trans hy
theorem k189_ok : k189.Ok Tryz.prog := by
  refine f189_ok fun x hw => ?_
  obtain ⟨⟨a0, a1, _⟩, ⟨a2, _⟩, _⟩ := x
  have l1 : List.length a1 ≤ BIG := hw.1.1.1
  show (f189_tree a0 a1 a2).eval = some ((((pipeIsC a0 a2).1, ()), ()), ((), ((pipeIsC a0 a2).2, ()), ()))
  unfold f189_tree pipeIsC
  simp only [Out.eval, cond_eq_ite]
  all_goals ((repeat' split) <;> simp_all)
def pipeIdxC (a : List PipeD) (v : Int) : Int × Int := (pipeAtV a v, v)
abbrev f188a_S0 := (List CpuD × Int × Int × Unit) × ((Int × Unit) × Unit)
def f188a_L0 (x : f188a_S0) : Out (Round f188a_S0 ((Unit) × ((Int × Unit) × Unit)) ((Int × Unit) × ((Int × Unit) × Unit))) :=
 .ite (decide (x.1.2.2.1 < x.1.2.1))
 (.ite (decide (0 ≤ x.1.2.2.1))
 (.get (nth x.1.1 (Int.toNat x.1.2.2.1)) fun y1 =>
 .ite ((pipeIsC y1.1 x.2.1.1).1)
 (.ret (.ret ((x.1.2.2.1, ()), (((pipeIsC y1.1 x.2.1.1).2, ()), ()))))
 (.ret (.again ((x.1.1, x.1.2.1, (IntKind.i64.wrap (x.1.2.2.1 + (1 : Int))), ()), (((pipeIsC y1.1 x.2.1.1).2, ()), ())))))
 .fail)
 (.ret (.out ((), ((x.2.1.1, ()), ()))))
def f188a_tree (a0 : List CpuD) (a1 : Int) : Out (((Int × Unit) × Unit) × (Unit × (Int × Unit) × Unit)) :=
 .get (iter f188a_L0 FUEL ((a0, ((List.length a0 : Nat) : Int), (0 : Int), ()), ((a1, ()), ()))) fun y1 => .alt y1 (fun y2 =>
 .ret ((((-1 : Int), ()), ()), ((), (y2.2.1.1, ()), ()))) (fun y3 =>
 .ret (((y3.1.1, ()), ()), ((), (y3.2.1.1, ()), ())))
def f188a_A : Nat → Option LoopAnn := fun n => annOf [(0, { head := { t := [.ro (.st (.cons (.int .i64) (.cons (.sl (.int .i64)) .nil))) (some 0), .fn 189 [1]] ++ dd 5 ++ [.i .i64, .i .i64] ++ dd 10, v := [(1, .var [.i .i64])] }, out := { t := [.dead, .fn 189 [1]] ++ dd 17, v := [(1, .var [.i .i64])] }, ret := some { t := [.dead, .fn 189 [1], .dead, .dead, .i .i64] ++ dd 14, v := [(1, .var [.i .i64])] } })] n
def k188a : Con := { f := 188, lend := true, its := [⟨false, false, [.ro (.st (.cons (.int .i64) (.cons (.sl (.int .i64)) .nil)))]⟩, ⟨true, false, [.i .i64]⟩], lay := [none, some (189, 1)], rs := [⟨false, false, [.i .i64]⟩], F := fun x => .ret ((((pipeIdxC x.1.1 x.2.1.1).1, ()), ()), ((), ((pipeIdxC x.1.1 x.2.1.1).2, ()), ())) }
theorem f188a_eq (x : itemsD k188a.its) : bodyOut (cxOf [k189]) (f188a_A) (codeOf Tryz.f188) k188a.its k188a.lay Tryz.f188.ntmps k188a.rs [.tmp 4] x = f188a_tree x.1.1 x.2.1.1 := by kernel_rfl
theorem f188a_ok (hr : ∀ x : (List CpuD × Unit) × (Int × Unit) × Unit, itemsWF k188a.its x → (f188a_tree x.1.1 x.2.1.1).eval = (k188a.F x).eval) : k188a.Ok Tryz.prog :=
  con_fn [k189] ⟨k189_ok, trivial⟩ (by kernel_rfl) (codeOf_eq (by kernel_rfl)) (by kernel_rfl) (by kernel_rfl) (by kernel_rfl) f188a_eq fun x hw _ hy => (hr x hw).trans hy
theorem k188a_ok : k188a.Ok Tryz.prog := by
  refine f188a_ok fun x hw => ?_
  obtain ⟨⟨a0, _⟩, ⟨a1, _⟩, _⟩ := x
  have l0 : List.length a0 ≤ BIG := hw.1.1.1
  show (f188a_tree a0 a1).eval = some ((((pipeIdxC a0 a1).1, ()), ()), ((), ((pipeIdxC a0 a1).2, ()), ()))
  unfold f188a_tree pipeIdxC pipeAtV placeBy idxBy
  have h : iter f188a_L0 FUEL ((a0, ((List.length a0 : Nat) : Int), (0 : Int), ()), ((a1, ()), ())) = some (match List.findIdx? (fun x => pipeKey x == a1) a0 with | some i => .inr ((((i : Nat) : Int), ()), ((a1, ()), ())) | none => .inl ((), ((a1, ()), ()))) := idx_loop (f := f188a_L0) a0 (fun x => pipeKey x == a1) (fun i => ((a0, ((List.length a0 : Nat) : Int), ((i : Nat) : Int), ()), ((a1, ()), ()))) (y := ((), ((a1, ()), ()))) (z := fun i => ((((i : Nat) : Int), ()), ((a1, ()), ())))
      (fun i hi hp => by
        have h1 := wrap_succ (i := i) (by omega)
        simp [f188a_L0, Out.eval, hi, h1, cond_eq_ite, pipeKey, pipeIsC] at hp ⊢ <;> (try simp_all) <;> (try (rcases hp with h | h <;> simp_all)))
      (fun i hi hp => by simp [f188a_L0, Out.eval, hi, cond_eq_ite, pipeKey, pipeIsC] at hp ⊢ <;> (try simp_all) <;> (try (rcases hp with h | h <;> simp_all)))
      (by simp [f188a_L0, Out.eval]) l0
  refine (eval_get_some h).trans ?_
  cases List.findIdx? (fun x => pipeKey x == a1) a0 <;> rfl
def f160_tree (a0 : Int) (a1 : Int) (a2 : List (List InsD)) (a3 : List ProcD) (a4 : List OpenD) (a5 : List CpuD) (a6 : List CpuD) (a7 : List Int) (a8 : List Int) (a9 : Int) : Out (((Int × Unit) × Unit) × (Unit × Unit × Unit)) :=
 .ret ((((pipeIdxC a5 a9).1, ()), ()), ((), (), ()))
def k160 : Con := { f := 160, lend := true, its := [⟨false, true, [.i .i64, .i .i64, .ro (.sl (.st (.cons (.int .i64) (.cons (.int .i64) (.cons (.int .i64) (.cons (.int .i64) .nil)))))), .ro (.st (.cons (.int .i64) (.cons (.int .i64) (.cons (.int .i64) (.cons (.int .i64) (.cons (.st (.cons (.int .i64) (.cons (.sl (.int .i64)) .nil))) (.cons (.sl (.int .i64)) (.cons (.sl (.int .i64)) (.cons (.int .i64) (.cons (.int .i64) .nil)))))))))), .ro (.st (.cons (.int .i64) (.cons (.int .i64) (.cons (.int .i64) (.cons (.int .i64) (.cons (.int .i64) .nil)))))), .ro (.st (.cons (.int .i64) (.cons (.sl (.int .i64)) .nil))), .ro (.st (.cons (.int .i64) (.cons (.sl (.int .i64)) .nil))), .ro (.int .i64), .ro (.int .i64)]⟩, ⟨false, false, [.i .i64]⟩], lay := [none, none], rs := [⟨false, false, [.i .i64]⟩], F := fun x => .ret ((((pipeAtV x.1.2.2.2.2.2.1 x.2.1.1), ()), ()), ((), (), ())) }
theorem f160_eq (x : itemsD k160.its) : bodyOut (cxOf [k188a]) (fun _ => none) (codeOf Tryz.f160) k160.its k160.lay Tryz.f160.ntmps k160.rs [.tmp 4] x = f160_tree x.1.1 x.1.2.1 x.1.2.2.1 x.1.2.2.2.1 x.1.2.2.2.2.1 x.1.2.2.2.2.2.1 x.1.2.2.2.2.2.2.1 x.1.2.2.2.2.2.2.2.1 x.1.2.2.2.2.2.2.2.2.1 x.2.1.1 := by kernel_rfl
theorem f160_ok (hr : ∀ x : UnixD × (Int × Unit) × Unit, itemsWF k160.its x → (f160_tree x.1.1 x.1.2.1 x.1.2.2.1 x.1.2.2.2.1 x.1.2.2.2.2.1 x.1.2.2.2.2.2.1 x.1.2.2.2.2.2.2.1 x.1.2.2.2.2.2.2.2.1 x.1.2.2.2.2.2.2.2.2.1 x.2.1.1).eval = (k160.F x).eval) : k160.Ok Tryz.prog :=
  con_fn [k188a] ⟨k188a_ok, trivial⟩ (by kernel_rfl) (codeOf_eq (by kernel_rfl)) (by kernel_rfl) (by kernel_rfl) (by kernel_rfl) f160_eq fun x hw _ hy => (hr x hw).trans hy
theorem k160_ok : k160.Ok Tryz.prog := by
  refine f160_ok fun x hw => ?_
  obtain ⟨⟨a0, a1, a2, a3, a4, a5, a6, a7, a8, _⟩, ⟨a9, _⟩, _⟩ := x
  have l2 : List.length a2 ≤ BIG := hw.1.1.1
  have l3 : List.length a3 ≤ BIG := hw.1.2.1.1
  have l4 : List.length a4 ≤ BIG := hw.1.2.2.1.1
  have l5 : List.length a5 ≤ BIG := hw.1.2.2.2.1.1
  have l6 : List.length a6 ≤ BIG := hw.1.2.2.2.2.1.1
  have l7 : List.length a7 ≤ BIG := hw.1.2.2.2.2.2.1.1
  have l8 : List.length a8 ≤ BIG := hw.1.2.2.2.2.2.2.1.1
  show (f160_tree a0 a1 a2 a3 a4 a5 a6 a7 a8 a9).eval = some ((((pipeAtV a5 a9), ()), ()), ((), (), ()))
  unfold f160_tree pipeIdxC
  simp only [Out.eval, cond_eq_ite]
  all_goals ((repeat' split) <;> simp_all)
def fileIsC (id v : Int) : Bool × Int := (id == v, v)
def f187_tree (a0 : Int) (a1 : List Int) (a2 : Int) : Out (((Bool × Unit) × Unit) × (Unit × (Int × Unit) × Unit)) :=
 .ret (((((a0 == a2)), ()), ()), ((), (a2, ()), ()))
def k187 : Con := { f := 187, lend := true, its := [⟨false, true, [.i .i64, .ro (.int .i64)]⟩, ⟨true, false, [.i .i64]⟩], lay := [none, none], rs := [⟨false, false, [.b]⟩], F := fun x => .ret ((((fileIsC x.1.1 x.2.1.1).1, ()), ()), ((), ((fileIsC x.1.1 x.2.1.1).2, ()), ())) }
theorem f187_eq (x : itemsD k187.its) : bodyOut (cxOf []) (fun _ => none) (codeOf Tryz.f187) k187.its k187.lay Tryz.f187.ntmps k187.rs [.tmp 3] x = f187_tree x.1.1 x.1.2.1 x.2.1.1 := by kernel_rfl
theorem f187_ok (hr : ∀ x : CpuD × (Int × Unit) × Unit, itemsWF k187.its x → (f187_tree x.1.1 x.1.2.1 x.2.1.1).eval = (k187.F x).eval) : k187.Ok Tryz.prog :=
  con_fn [] trivial (by kernel_rfl) (codeOf_eq (by kernel_rfl)) (by kernel_rfl) (by kernel_rfl) (by kernel_rfl) f187_eq fun x hw _ hy => (hr x hw).trans hy
theorem k187_ok : k187.Ok Tryz.prog := by
  refine f187_ok fun x hw => ?_
  obtain ⟨⟨a0, a1, _⟩, ⟨a2, _⟩, _⟩ := x
  have l1 : List.length a1 ≤ BIG := hw.1.1.1
  show (f187_tree a0 a1 a2).eval = some ((((fileIsC a0 a2).1, ()), ()), ((), ((fileIsC a0 a2).2, ()), ()))
  unfold f187_tree fileIsC
  simp only [Out.eval, cond_eq_ite]
  all_goals ((repeat' split) <;> simp_all)
def fileIdxC (a : List FileD) (v : Int) : Int × Int := (fileAtV a v, v)
abbrev f186a_S0 := (List CpuD × Int × Int × Unit) × ((Int × Unit) × Unit)
def f186a_L0 (x : f186a_S0) : Out (Round f186a_S0 ((Unit) × ((Int × Unit) × Unit)) ((Int × Unit) × ((Int × Unit) × Unit))) :=
 .ite (decide (x.1.2.2.1 < x.1.2.1))
 (.ite (decide (0 ≤ x.1.2.2.1))
 (.get (nth x.1.1 (Int.toNat x.1.2.2.1)) fun y1 =>
 .ite ((fileIsC y1.1 x.2.1.1).1)
 (.ret (.ret ((x.1.2.2.1, ()), (((fileIsC y1.1 x.2.1.1).2, ()), ()))))
 (.ret (.again ((x.1.1, x.1.2.1, (IntKind.i64.wrap (x.1.2.2.1 + (1 : Int))), ()), (((fileIsC y1.1 x.2.1.1).2, ()), ())))))
 .fail)
 (.ret (.out ((), ((x.2.1.1, ()), ()))))
def f186a_tree (a0 : List CpuD) (a1 : Int) : Out (((Int × Unit) × Unit) × (Unit × (Int × Unit) × Unit)) :=
 .get (iter f186a_L0 FUEL ((a0, ((List.length a0 : Nat) : Int), (0 : Int), ()), ((a1, ()), ()))) fun y1 => .alt y1 (fun y2 =>
 .ret ((((-1 : Int), ()), ()), ((), (y2.2.1.1, ()), ()))) (fun y3 =>
 .ret (((y3.1.1, ()), ()), ((), (y3.2.1.1, ()), ())))
def f186a_A : Nat → Option LoopAnn := fun n => annOf [(0, { head := { t := [.ro (.st (.cons (.int .i64) (.cons (.sl (.int .i64)) .nil))) (some 0), .fn 187 [1]] ++ dd 5 ++ [.i .i64, .i .i64] ++ dd 10, v := [(1, .var [.i .i64])] }, out := { t := [.dead, .fn 187 [1]] ++ dd 17, v := [(1, .var [.i .i64])] }, ret := some { t := [.dead, .fn 187 [1], .dead, .dead, .i .i64] ++ dd 14, v := [(1, .var [.i .i64])] } })] n
def k186a : Con := { f := 186, lend := true, its := [⟨false, false, [.ro (.st (.cons (.int .i64) (.cons (.sl (.int .i64)) .nil)))]⟩, ⟨true, false, [.i .i64]⟩], lay := [none, some (187, 1)], rs := [⟨false, false, [.i .i64]⟩], F := fun x => .ret ((((fileIdxC x.1.1 x.2.1.1).1, ()), ()), ((), ((fileIdxC x.1.1 x.2.1.1).2, ()), ())) }
theorem f186a_eq (x : itemsD k186a.its) : bodyOut (cxOf [k187]) (f186a_A) (codeOf Tryz.f186) k186a.its k186a.lay Tryz.f186.ntmps k186a.rs [.tmp 4] x = f186a_tree x.1.1 x.2.1.1 := by kernel_rfl
theorem f186a_ok (hr : ∀ x : (List CpuD × Unit) × (Int × Unit) × Unit, itemsWF k186a.its x → (f186a_tree x.1.1 x.2.1.1).eval = (k186a.F x).eval) : k186a.Ok Tryz.prog :=
  con_fn [k187] ⟨k187_ok, trivial⟩ (by kernel_rfl) (codeOf_eq (by kernel_rfl)) (by kernel_rfl) (by kernel_rfl) (by kernel_rfl) f186a_eq fun x hw _ hy => (hr x hw).trans hy
theorem k186a_ok : k186a.Ok Tryz.prog := by
  refine f186a_ok fun x hw => ?_
  obtain ⟨⟨a0, _⟩, ⟨a1, _⟩, _⟩ := x
  have l0 : List.length a0 ≤ BIG := hw.1.1.1
  show (f186a_tree a0 a1).eval = some ((((fileIdxC a0 a1).1, ()), ()), ((), ((fileIdxC a0 a1).2, ()), ()))
  unfold f186a_tree fileIdxC fileAtV placeBy idxBy
  have h : iter f186a_L0 FUEL ((a0, ((List.length a0 : Nat) : Int), (0 : Int), ()), ((a1, ()), ())) = some (match List.findIdx? (fun x => fileKey x == a1) a0 with | some i => .inr ((((i : Nat) : Int), ()), ((a1, ()), ())) | none => .inl ((), ((a1, ()), ()))) := idx_loop (f := f186a_L0) a0 (fun x => fileKey x == a1) (fun i => ((a0, ((List.length a0 : Nat) : Int), ((i : Nat) : Int), ()), ((a1, ()), ()))) (y := ((), ((a1, ()), ()))) (z := fun i => ((((i : Nat) : Int), ()), ((a1, ()), ())))
      (fun i hi hp => by
        have h1 := wrap_succ (i := i) (by omega)
        simp [f186a_L0, Out.eval, hi, h1, cond_eq_ite, fileKey, fileIsC] at hp ⊢ <;> (try simp_all) <;> (try (rcases hp with h | h <;> simp_all)))
      (fun i hi hp => by simp [f186a_L0, Out.eval, hi, cond_eq_ite, fileKey, fileIsC] at hp ⊢ <;> (try simp_all) <;> (try (rcases hp with h | h <;> simp_all)))
      (by simp [f186a_L0, Out.eval]) l0
  refine (eval_get_some h).trans ?_
  cases List.findIdx? (fun x => fileKey x == a1) a0 <;> rfl
def f159_tree (a0 : Int) (a1 : Int) (a2 : List (List InsD)) (a3 : List ProcD) (a4 : List OpenD) (a5 : List CpuD) (a6 : List CpuD) (a7 : List Int) (a8 : List Int) (a9 : Int) : Out (((Int × Unit) × Unit) × (Unit × Unit × Unit)) :=
 .ret ((((fileIdxC a6 a9).1, ()), ()), ((), (), ()))
def k159 : Con := { f := 159, lend := true, its := [⟨false, true, [.i .i64, .i .i64, .ro (.sl (.st (.cons (.int .i64) (.cons (.int .i64) (.cons (.int .i64) (.cons (.int .i64) .nil)))))), .ro (.st (.cons (.int .i64) (.cons (.int .i64) (.cons (.int .i64) (.cons (.int .i64) (.cons (.st (.cons (.int .i64) (.cons (.sl (.int .i64)) .nil))) (.cons (.sl (.int .i64)) (.cons (.sl (.int .i64)) (.cons (.int .i64) (.cons (.int .i64) .nil)))))))))), .ro (.st (.cons (.int .i64) (.cons (.int .i64) (.cons (.int .i64) (.cons (.int .i64) (.cons (.int .i64) .nil)))))), .ro (.st (.cons (.int .i64) (.cons (.sl (.int .i64)) .nil))), .ro (.st (.cons (.int .i64) (.cons (.sl (.int .i64)) .nil))), .ro (.int .i64), .ro (.int .i64)]⟩, ⟨false, false, [.i .i64]⟩], lay := [none, none], rs := [⟨false, false, [.i .i64]⟩], F := fun x => .ret ((((fileAtV x.1.2.2.2.2.2.2.1 x.2.1.1), ()), ()), ((), (), ())) }
theorem f159_eq (x : itemsD k159.its) : bodyOut (cxOf [k186a]) (fun _ => none) (codeOf Tryz.f159) k159.its k159.lay Tryz.f159.ntmps k159.rs [.tmp 4] x = f159_tree x.1.1 x.1.2.1 x.1.2.2.1 x.1.2.2.2.1 x.1.2.2.2.2.1 x.1.2.2.2.2.2.1 x.1.2.2.2.2.2.2.1 x.1.2.2.2.2.2.2.2.1 x.1.2.2.2.2.2.2.2.2.1 x.2.1.1 := by kernel_rfl
theorem f159_ok (hr : ∀ x : UnixD × (Int × Unit) × Unit, itemsWF k159.its x → (f159_tree x.1.1 x.1.2.1 x.1.2.2.1 x.1.2.2.2.1 x.1.2.2.2.2.1 x.1.2.2.2.2.2.1 x.1.2.2.2.2.2.2.1 x.1.2.2.2.2.2.2.2.1 x.1.2.2.2.2.2.2.2.2.1 x.2.1.1).eval = (k159.F x).eval) : k159.Ok Tryz.prog :=
  con_fn [k186a] ⟨k186a_ok, trivial⟩ (by kernel_rfl) (codeOf_eq (by kernel_rfl)) (by kernel_rfl) (by kernel_rfl) (by kernel_rfl) f159_eq fun x hw _ hy => (hr x hw).trans hy
theorem k159_ok : k159.Ok Tryz.prog := by
  refine f159_ok fun x hw => ?_
  obtain ⟨⟨a0, a1, a2, a3, a4, a5, a6, a7, a8, _⟩, ⟨a9, _⟩, _⟩ := x
  have l2 : List.length a2 ≤ BIG := hw.1.1.1
  have l3 : List.length a3 ≤ BIG := hw.1.2.1.1
  have l4 : List.length a4 ≤ BIG := hw.1.2.2.1.1
  have l5 : List.length a5 ≤ BIG := hw.1.2.2.2.1.1
  have l6 : List.length a6 ≤ BIG := hw.1.2.2.2.2.1.1
  have l7 : List.length a7 ≤ BIG := hw.1.2.2.2.2.2.1.1
  have l8 : List.length a8 ≤ BIG := hw.1.2.2.2.2.2.2.1.1
  show (f159_tree a0 a1 a2 a3 a4 a5 a6 a7 a8 a9).eval = some ((((fileAtV a6 a9), ()), ()), ((), (), ()))
  unfold f159_tree fileIdxC
  simp only [Out.eval, cond_eq_ite]
  all_goals ((repeat' split) <;> simp_all)
/-! ## The program: is all right? -/
def f153_tree (a0 : Int) (a1 : List Int) : Out (((Bool × Unit) × Unit) × (Unit × Unit)) :=
 .ite ((placeV a0) == true)
 (.ite (((((List.length a1 : Nat) : Int) == (4 : Int))) == true)
 (.ret ((((wordsOkV a1), ()), ()), ((), ())))
 (.ret (((false, ()), ()), ((), ()))))
 (.ret (((false, ()), ()), ((), ())))
def k153 : Con := { f := 153, lend := true, its := [⟨false, true, [.i .i64, .ro (.int .i64)]⟩], lay := [none], rs := [⟨false, false, [.b]⟩], F := fun x => .ret ((((cpuOkV x.1.1 x.1.2.1), ()), ()), ((), ())) }
theorem f153_eq (x : itemsD k153.its) : bodyOut (cxOf [k182, k97]) (fun _ => none) (codeOf Tryz.f153) k153.its k153.lay Tryz.f153.ntmps k153.rs [.tmp 2] x = f153_tree x.1.1 x.1.2.1 := by kernel_rfl
theorem f153_ok (hr : ∀ x : CpuD × Unit, itemsWF k153.its x → (f153_tree x.1.1 x.1.2.1).eval = (k153.F x).eval) : k153.Ok Tryz.prog :=
  con_fn [k182, k97] ⟨k182_ok, k97_ok, trivial⟩ (by kernel_rfl) (codeOf_eq (by kernel_rfl)) (by kernel_rfl) (by kernel_rfl) (by kernel_rfl) f153_eq fun x hw _ hy => (hr x hw).trans hy
theorem k153_ok : k153.Ok Tryz.prog := by
  refine f153_ok fun x hw => ?_
  obtain ⟨⟨a0, a1, _⟩, _⟩ := x
  have l1 : List.length a1 ≤ BIG := hw.1.1.1
  show (f153_tree a0 a1).eval = some ((((cpuOkV a0 a1), ()), ()), ((), ()))
  unfold f153_tree cpuOkV
  simp only [eq4, beq_true']
  cases placeV a0 <;> cases decide (List.length a1 = 4) <;> rfl
abbrev f195_S0 := (List Int × Int × Int × Int × Unit) × (Unit)
def f195_L0 (x : f195_S0) : Out (Round f195_S0 ((Unit) × (Unit)) ((Int × Unit) × (Unit))) :=
 .ite (decide (x.1.2.2.2.1 < x.1.2.2.1))
 (.ite (decide (0 ≤ x.1.2.2.2.1))
 (.get (nth x.1.1 (Int.toNat x.1.2.2.2.1)) fun y1 =>
 .ite ((x.1.2.1 == y1))
 (.ret (.ret ((x.1.2.2.2.1, ()), ())))
 (.ret (.again ((x.1.1, x.1.2.1, x.1.2.2.1, (IntKind.i64.wrap (x.1.2.2.2.1 + (1 : Int))), ()), ()))))
 .fail)
 (.ret (.out ((), ())))
def f195_tree (a0 : List Int) (a1 : Int) : Out (((Int × Unit) × Unit) × (Unit × Unit × Unit)) :=
 .get (iter f195_L0 FUEL ((a0, a1, ((List.length a0 : Nat) : Int), (0 : Int), ()), ())) fun y1 => .alt y1 (fun y2 =>
 .ret ((((-1 : Int), ()), ()), ((), (), ()))) (fun y3 =>
 .ret (((y3.1.1, ()), ()), ((), (), ())))
def f195_A : Nat → Option LoopAnn := fun n => annOf [(0, { head := { t := [.ro (.int .i64) (some 0), .i .i64] ++ dd 5 ++ [.i .i64, .i .i64] ++ dd 10, v := [] }, out := { t := dd 19, v := [] }, ret := some { t := dd 4 ++ [.i .i64] ++ dd 14, v := [] } })] n
def indexIntV (a : List Int) (v : Int) : Int := idxV (a.findIdx? fun y => v == y)
def k195 : Con := { f := 195, lend := true, its := [⟨false, false, [.ro (.int .i64)]⟩, ⟨false, false, [.i .i64]⟩], lay := [none, none], rs := [⟨false, false, [.i .i64]⟩], F := fun x => .ret ((((indexIntV x.1.1 x.2.1.1), ()), ()), ((), (), ())) }
theorem f195_eq (x : itemsD k195.its) : bodyOut (cxOf []) (f195_A) (codeOf Tryz.f195) k195.its k195.lay Tryz.f195.ntmps k195.rs [.tmp 4] x = f195_tree x.1.1 x.2.1.1 := by kernel_rfl
theorem f195_ok (hr : ∀ x : (List Int × Unit) × (Int × Unit) × Unit, itemsWF k195.its x → (f195_tree x.1.1 x.2.1.1).eval = (k195.F x).eval) : k195.Ok Tryz.prog :=
  con_fn [] trivial (by kernel_rfl) (codeOf_eq (by kernel_rfl)) (by kernel_rfl) (by kernel_rfl) (by kernel_rfl) f195_eq fun x hw _ hy => (hr x hw).trans hy
theorem k195_ok : k195.Ok Tryz.prog := by
  refine f195_ok fun x hw => ?_
  obtain ⟨⟨a0, _⟩, ⟨a1, _⟩, _⟩ := x
  have l0 : List.length a0 ≤ BIG := hw.1.1.1
  show (f195_tree a0 a1).eval = some ((((indexIntV a0 a1), ()), ()), ((), (), ()))
  unfold f195_tree indexIntV
  have h : iter f195_L0 FUEL ((a0, a1, ((List.length a0 : Nat) : Int), (0 : Int), ()), ()) = some (match List.findIdx? (fun y => a1 == y) a0 with | some i => .inr ((((i : Nat) : Int), ()), ()) | none => .inl ((), ())) := idx_loop (f := f195_L0) a0 (fun y => a1 == y) (fun i => ((a0, a1, ((List.length a0 : Nat) : Int), ((i : Nat) : Int), ()), ())) (y := ((), ())) (z := fun i => ((((i : Nat) : Int), ()), ()))
      (fun i hi hp => by
        have h1 := wrap_succ (i := i) (by omega)
        simp [f195_L0, Out.eval, hi, h1, cond_eq_ite] at hp ⊢ <;> (try simp_all) <;> (try (rcases hp with h | h <;> simp_all)))
      (fun i hi hp => by simp [f195_L0, Out.eval, hi, cond_eq_ite] at hp ⊢ <;> (try simp_all) <;> (try (rcases hp with h | h <;> simp_all)))
      (by simp [f195_L0, Out.eval]) l0
  refine (eval_get_some h).trans ?_
  cases List.findIdx? (fun y => a1 == y) a0 <;> rfl
def f183_tree (a0 : List Int) (a1 : Int) : Out (((Bool × Unit) × Unit) × (Unit × Unit × Unit)) :=
 .ret ((((decide ((indexIntV a0 a1) ≥ (0 : Int))), ()), ()), ((), (), ()))
def k183 : Con := { f := 183, lend := true, its := [⟨false, false, [.ro (.int .i64)]⟩, ⟨false, false, [.i .i64]⟩], lay := [none, none], rs := [⟨false, false, [.b]⟩], F := fun x => .ret ((((hasV x.1.1 x.2.1.1), ()), ()), ((), (), ())) }
theorem f183_eq (x : itemsD k183.its) : bodyOut (cxOf [k195]) (fun _ => none) (codeOf Tryz.f183) k183.its k183.lay Tryz.f183.ntmps k183.rs [.tmp 4] x = f183_tree x.1.1 x.2.1.1 := by kernel_rfl
theorem f183_ok (hr : ∀ x : (List Int × Unit) × (Int × Unit) × Unit, itemsWF k183.its x → (f183_tree x.1.1 x.2.1.1).eval = (k183.F x).eval) : k183.Ok Tryz.prog :=
  con_fn [k195] ⟨k195_ok, trivial⟩ (by kernel_rfl) (codeOf_eq (by kernel_rfl)) (by kernel_rfl) (by kernel_rfl) (by kernel_rfl) f183_eq fun x hw _ hy => (hr x hw).trans hy
theorem k183_ok : k183.Ok Tryz.prog := by
  refine f183_ok fun x hw => ?_
  obtain ⟨⟨a0, _⟩, ⟨a1, _⟩, _⟩ := x
  have l0 : List.length a0 ≤ BIG := hw.1.1.1
  show (f183_tree a0 a1).eval = some ((((hasV a0 a1), ()), ()), ((), (), ()))
  unfold f183_tree indexIntV hasV
  have e : (fun y : Int => a1 == y) = fun y => decide (y = a1) := by
    funext y
    rw [Bool.eq_iff_iff, beq_iff_eq, decide_eq_true_iff]
    exact ⟨Eq.symm, Eq.symm⟩
  rw [idxV_ge, e]
  rfl
def f154_tree (a0 : Int) (a1 : Int) (a2 : List (List InsD)) (a3 : List ProcD) (a4 : List OpenD) (a5 : List CpuD) (a6 : List CpuD) (a7 : List Int) (a8 : List Int) (a9 : Int) (a10 : Int) (a11 : Int) (a12 : Int) (a13 : Int) (a14 : List Int) (a15 : List Int) (a16 : List Int) (a17 : Int) (a18 : Int) : Out (((Bool × Unit) × Unit) × (Unit × Unit × Unit)) :=
 .ite ((a11 == (2 : Int)))
 (.ret ((((decide (a17 > a1)), ()), ()), ((), (), ())))
 (.ite ((a11 == (4 : Int)))
 (.ite ((hasV a16 a17) == true)
 (.ret ((((decide ((openAtV a4 a17) ≥ (0 : Int))), ()), ()), ((), (), ())))
 (.ret (((false, ()), ()), ((), (), ()))))
 (.ite ((a11 == (5 : Int)))
 (.ite ((hasV a16 a17) == true)
 (.ret ((((decide ((openAtV a4 a17) ≥ (0 : Int))), ()), ()), ((), (), ())))
 (.ret (((false, ()), ()), ((), (), ()))))
 (.ret (((((a17 == (0 : Int))), ()), ()), ((), (), ())))))
def k154 : Con := { f := 154, lend := true, its := [⟨false, true, [.i .i64, .i .i64, .ro (.sl (.st (.cons (.int .i64) (.cons (.int .i64) (.cons (.int .i64) (.cons (.int .i64) .nil)))))), .ro (.st (.cons (.int .i64) (.cons (.int .i64) (.cons (.int .i64) (.cons (.int .i64) (.cons (.st (.cons (.int .i64) (.cons (.sl (.int .i64)) .nil))) (.cons (.sl (.int .i64)) (.cons (.sl (.int .i64)) (.cons (.int .i64) (.cons (.int .i64) .nil)))))))))), .ro (.st (.cons (.int .i64) (.cons (.int .i64) (.cons (.int .i64) (.cons (.int .i64) (.cons (.int .i64) .nil)))))), .ro (.st (.cons (.int .i64) (.cons (.sl (.int .i64)) .nil))), .ro (.st (.cons (.int .i64) (.cons (.sl (.int .i64)) .nil))), .ro (.int .i64), .ro (.int .i64)]⟩, ⟨false, true, [.i .i64, .i .i64, .i .i64, .i .i64, .i .i64, .ro (.int .i64), .ro (.int .i64), .ro (.int .i64), .i .i64, .i .i64]⟩], lay := [none, none], rs := [⟨false, false, [.b]⟩], F := fun x => .ret ((((untilOkV x.1.2.1 x.1.2.2.2.2.1 x.2.1.2.2.1 x.2.1.2.2.2.2.2.2.2.1 x.2.1.2.2.2.2.2.2.2.2.1), ()), ()), ((), (), ())) }
theorem f154_eq (x : itemsD k154.its) : bodyOut (cxOf [k183, k156]) (fun _ => none) (codeOf Tryz.f154) k154.its k154.lay Tryz.f154.ntmps k154.rs [.tmp 4] x = f154_tree x.1.1 x.1.2.1 x.1.2.2.1 x.1.2.2.2.1 x.1.2.2.2.2.1 x.1.2.2.2.2.2.1 x.1.2.2.2.2.2.2.1 x.1.2.2.2.2.2.2.2.1 x.1.2.2.2.2.2.2.2.2.1 x.2.1.1 x.2.1.2.1 x.2.1.2.2.1 x.2.1.2.2.2.1 x.2.1.2.2.2.2.1 x.2.1.2.2.2.2.2.1 x.2.1.2.2.2.2.2.2.1 x.2.1.2.2.2.2.2.2.2.1 x.2.1.2.2.2.2.2.2.2.2.1 x.2.1.2.2.2.2.2.2.2.2.2.1 := by kernel_rfl
theorem f154_ok (hr : ∀ x : UnixD × (Int × Int × Int × Int × Int × List Int × List Int × List Int × Int × Int × Unit) × Unit, itemsWF k154.its x → (f154_tree x.1.1 x.1.2.1 x.1.2.2.1 x.1.2.2.2.1 x.1.2.2.2.2.1 x.1.2.2.2.2.2.1 x.1.2.2.2.2.2.2.1 x.1.2.2.2.2.2.2.2.1 x.1.2.2.2.2.2.2.2.2.1 x.2.1.1 x.2.1.2.1 x.2.1.2.2.1 x.2.1.2.2.2.1 x.2.1.2.2.2.2.1 x.2.1.2.2.2.2.2.1 x.2.1.2.2.2.2.2.2.1 x.2.1.2.2.2.2.2.2.2.1 x.2.1.2.2.2.2.2.2.2.2.1 x.2.1.2.2.2.2.2.2.2.2.2.1).eval = (k154.F x).eval) : k154.Ok Tryz.prog :=
  con_fn [k183, k156] ⟨k183_ok, k156_ok, trivial⟩ (by kernel_rfl) (codeOf_eq (by kernel_rfl)) (by kernel_rfl) (by kernel_rfl) (by kernel_rfl) f154_eq fun x hw _ hy => (hr x hw).trans hy
theorem k154_ok : k154.Ok Tryz.prog := by
  refine f154_ok fun x hw => ?_
  obtain ⟨⟨a0, a1, a2, a3, a4, a5, a6, a7, a8, _⟩, ⟨a9, a10, a11, a12, a13, a14, a15, a16, a17, a18, _⟩, _⟩ := x
  have l2 : List.length a2 ≤ BIG := hw.1.1.1
  have l3 : List.length a3 ≤ BIG := hw.1.2.1.1
  have l4 : List.length a4 ≤ BIG := hw.1.2.2.1.1
  have l5 : List.length a5 ≤ BIG := hw.1.2.2.2.1.1
  have l6 : List.length a6 ≤ BIG := hw.1.2.2.2.2.1.1
  have l7 : List.length a7 ≤ BIG := hw.1.2.2.2.2.2.1.1
  have l8 : List.length a8 ≤ BIG := hw.1.2.2.2.2.2.2.1.1
  have l14 : List.length a14 ≤ BIG := hw.2.1.1.1
  have l15 : List.length a15 ≤ BIG := hw.2.1.2.1.1
  have l16 : List.length a16 ≤ BIG := hw.2.1.2.2.1.1
  show (f154_tree a0 a1 a2 a3 a4 a5 a6 a7 a8 a9 a10 a11 a12 a13 a14 a15 a16 a17 a18).eval = some ((((untilOkV a1 a4 a11 a16 a17), ()), ()), ((), (), ()))
  unfold f154_tree untilOkV
  simp only [Out.eval, cond_eq_ite]
  all_goals ((repeat' split) <;> simp_all)
def fdBadC (f nx tk : Int) (os : List OpenD) : Bool × Int × Int := (!(f == -1) && decide (openAtV os f < 0), nx, tk)
def f155_tree (a0 : Int) (a1 : Int) (a2 : Int) (a3 : List (List InsD)) (a4 : List ProcD) (a5 : List OpenD) (a6 : List CpuD) (a7 : List CpuD) (a8 : List Int) (a9 : List Int) : Out (((Bool × Unit) × Unit) × (Unit × (Int × Int × Unit) × Unit)) :=
 .ite (((a0 != (-1 : Int))) == true)
 (.ret ((((decide ((openAtV a5 a0) < (0 : Int))), ()), ()), ((), (a1, a2, ()), ())))
 (.ret (((false, ()), ()), ((), (a1, a2, ()), ())))
def k155 : Con := { f := 155, lend := true, its := [⟨false, false, [.i .i64]⟩, ⟨true, false, [.i .i64, .i .i64, .ro (.sl (.st (.cons (.int .i64) (.cons (.int .i64) (.cons (.int .i64) (.cons (.int .i64) .nil)))))), .ro (.st (.cons (.int .i64) (.cons (.int .i64) (.cons (.int .i64) (.cons (.int .i64) (.cons (.st (.cons (.int .i64) (.cons (.sl (.int .i64)) .nil))) (.cons (.sl (.int .i64)) (.cons (.sl (.int .i64)) (.cons (.int .i64) (.cons (.int .i64) .nil)))))))))), .ro (.st (.cons (.int .i64) (.cons (.int .i64) (.cons (.int .i64) (.cons (.int .i64) (.cons (.int .i64) .nil)))))), .ro (.st (.cons (.int .i64) (.cons (.sl (.int .i64)) .nil))), .ro (.st (.cons (.int .i64) (.cons (.sl (.int .i64)) .nil))), .ro (.int .i64), .ro (.int .i64)]⟩], lay := [none, none], rs := [⟨false, false, [.b]⟩], F := fun x => .ret ((((fdBadC x.1.1 x.2.1.1 x.2.1.2.1 x.2.1.2.2.2.2.1).1, ()), ()), ((), ((fdBadC x.1.1 x.2.1.1 x.2.1.2.1 x.2.1.2.2.2.2.1).2.1, (fdBadC x.1.1 x.2.1.1 x.2.1.2.1 x.2.1.2.2.2.2.1).2.2, ()), ())) }
theorem f155_eq (x : itemsD k155.its) : bodyOut (cxOf [k156]) (fun _ => none) (codeOf Tryz.f155) k155.its k155.lay Tryz.f155.ntmps k155.rs [.tmp 3] x = f155_tree x.1.1 x.2.1.1 x.2.1.2.1 x.2.1.2.2.1 x.2.1.2.2.2.1 x.2.1.2.2.2.2.1 x.2.1.2.2.2.2.2.1 x.2.1.2.2.2.2.2.2.1 x.2.1.2.2.2.2.2.2.2.1 x.2.1.2.2.2.2.2.2.2.2.1 := by kernel_rfl
theorem f155_ok (hr : ∀ x : (Int × Unit) × UnixD × Unit, itemsWF k155.its x → (f155_tree x.1.1 x.2.1.1 x.2.1.2.1 x.2.1.2.2.1 x.2.1.2.2.2.1 x.2.1.2.2.2.2.1 x.2.1.2.2.2.2.2.1 x.2.1.2.2.2.2.2.2.1 x.2.1.2.2.2.2.2.2.2.1 x.2.1.2.2.2.2.2.2.2.2.1).eval = (k155.F x).eval) : k155.Ok Tryz.prog :=
  con_fn [k156] ⟨k156_ok, trivial⟩ (by kernel_rfl) (codeOf_eq (by kernel_rfl)) (by kernel_rfl) (by kernel_rfl) (by kernel_rfl) f155_eq fun x hw _ hy => (hr x hw).trans hy
theorem k155_ok : k155.Ok Tryz.prog := by
  refine f155_ok fun x hw => ?_
  obtain ⟨⟨a0, _⟩, ⟨a1, a2, a3, a4, a5, a6, a7, a8, a9, _⟩, _⟩ := x
  have l3 : List.length a3 ≤ BIG := hw.2.1.1.1
  have l4 : List.length a4 ≤ BIG := hw.2.1.2.1.1
  have l5 : List.length a5 ≤ BIG := hw.2.1.2.2.1.1
  have l6 : List.length a6 ≤ BIG := hw.2.1.2.2.2.1.1
  have l7 : List.length a7 ≤ BIG := hw.2.1.2.2.2.2.1.1
  have l8 : List.length a8 ≤ BIG := hw.2.1.2.2.2.2.2.1.1
  have l9 : List.length a9 ≤ BIG := hw.2.1.2.2.2.2.2.2.1.1
  show (f155_tree a0 a1 a2 a3 a4 a5 a6 a7 a8 a9).eval = some ((((fdBadC a0 a1 a2 a5).1, ()), ()), ((), ((fdBadC a0 a1 a2 a5).2.1, (fdBadC a0 a1 a2 a5).2.2, ()), ()))
  unfold f155_tree fdBadC
  simp only [Out.eval, cond_eq_ite]
  all_goals ((repeat' split) <;> simp_all)
def fdOpenV (f : Int) : Bool := !(f == -1)
def f157_tree (a0 : Int) : Out (((Bool × Unit) × Unit) × (Unit × Unit)) :=
 .ret (((((a0 != (-1 : Int))), ()), ()), ((), ()))
def k157 : Con := { f := 157, lend := true, its := [⟨false, false, [.i .i64]⟩], lay := [none], rs := [⟨false, false, [.b]⟩], F := fun x => .ret ((((fdOpenV x.1.1), ()), ()), ((), ())) }
theorem f157_eq (x : itemsD k157.its) : bodyOut (cxOf []) (fun _ => none) (codeOf Tryz.f157) k157.its k157.lay Tryz.f157.ntmps k157.rs [.tmp 2] x = f157_tree x.1.1 := by kernel_rfl
theorem f157_ok (hr : ∀ x : (Int × Unit) × Unit, itemsWF k157.its x → (f157_tree x.1.1).eval = (k157.F x).eval) : k157.Ok Tryz.prog :=
  con_fn [] trivial (by kernel_rfl) (codeOf_eq (by kernel_rfl)) (by kernel_rfl) (by kernel_rfl) (by kernel_rfl) f157_eq fun x hw _ hy => (hr x hw).trans hy
theorem k157_ok : k157.Ok Tryz.prog := by
  refine f157_ok fun x hw => ?_
  obtain ⟨⟨a0, _⟩, _⟩ := x
  show (f157_tree a0).eval = some ((((fdOpenV a0), ()), ()), ((), ()))
  rfl
def fdBadIdxC (a : List Int) (nx tk : Int) (os : List OpenD) : Int × Int × Int := (idxV (a.findIdx? fun f => (fdBadC f nx tk os).1), nx, tk)
abbrev f179p_S0 := (List Int × Int × Int × Unit) × (UnixD × Unit)
def f179p_L0 (x : f179p_S0) : Out (Round f179p_S0 ((Unit) × (UnixD × Unit)) ((Int × Unit) × (UnixD × Unit))) :=
 .ite (decide (x.1.2.2.1 < x.1.2.1))
 (.ite (decide (0 ≤ x.1.2.2.1))
 (.get (nth x.1.1 (Int.toNat x.1.2.2.1)) fun y1 =>
 .ite ((fdBadC y1 x.2.1.1 x.2.1.2.1 x.2.1.2.2.2.2.1).1)
 (.ret (.ret ((x.1.2.2.1, ()), (((fdBadC y1 x.2.1.1 x.2.1.2.1 x.2.1.2.2.2.2.1).2.1, (fdBadC y1 x.2.1.1 x.2.1.2.1 x.2.1.2.2.2.2.1).2.2, x.2.1.2.2.1, x.2.1.2.2.2.1, x.2.1.2.2.2.2.1, x.2.1.2.2.2.2.2.1, x.2.1.2.2.2.2.2.2.1, x.2.1.2.2.2.2.2.2.2.1, x.2.1.2.2.2.2.2.2.2.2.1, ()), ()))))
 (.ret (.again ((x.1.1, x.1.2.1, (IntKind.i64.wrap (x.1.2.2.1 + (1 : Int))), ()), (((fdBadC y1 x.2.1.1 x.2.1.2.1 x.2.1.2.2.2.2.1).2.1, (fdBadC y1 x.2.1.1 x.2.1.2.1 x.2.1.2.2.2.2.1).2.2, x.2.1.2.2.1, x.2.1.2.2.2.1, x.2.1.2.2.2.2.1, x.2.1.2.2.2.2.2.1, x.2.1.2.2.2.2.2.2.1, x.2.1.2.2.2.2.2.2.2.1, x.2.1.2.2.2.2.2.2.2.2.1, ()), ())))))
 .fail)
 (.ret (.out ((), ((x.2.1.1, x.2.1.2.1, x.2.1.2.2.1, x.2.1.2.2.2.1, x.2.1.2.2.2.2.1, x.2.1.2.2.2.2.2.1, x.2.1.2.2.2.2.2.2.1, x.2.1.2.2.2.2.2.2.2.1, x.2.1.2.2.2.2.2.2.2.2.1, ()), ()))))
def f179p_tree (a0 : List Int) (a1 : Int) (a2 : Int) (a3 : List (List InsD)) (a4 : List ProcD) (a5 : List OpenD) (a6 : List CpuD) (a7 : List CpuD) (a8 : List Int) (a9 : List Int) : Out (((Int × Unit) × Unit) × (Unit × (Int × Int × Unit) × Unit)) :=
 .get (iter f179p_L0 FUEL ((a0, ((List.length a0 : Nat) : Int), (0 : Int), ()), ((a1, a2, a3, a4, a5, a6, a7, a8, a9, ()), ()))) fun y1 => .alt y1 (fun y2 =>
 .ret ((((-1 : Int), ()), ()), ((), (y2.2.1.1, y2.2.1.2.1, ()), ()))) (fun y3 =>
 .ret (((y3.1.1, ()), ()), ((), (y3.2.1.1, y3.2.1.2.1, ()), ())))
def f179p_A : Nat → Option LoopAnn := fun n => annOf [(0, { head := { t := [.ro (.int .i64) (some 0), .fn 155 [1]] ++ dd 5 ++ [.i .i64, .i .i64] ++ dd 10, v := [(1, .var [.i .i64, .i .i64, .ro (.sl (.st (.cons (.int .i64) (.cons (.int .i64) (.cons (.int .i64) (.cons (.int .i64) .nil)))))) (some 2), .ro (.st (.cons (.int .i64) (.cons (.int .i64) (.cons (.int .i64) (.cons (.int .i64) (.cons (.st (.cons (.int .i64) (.cons (.sl (.int .i64)) .nil))) (.cons (.sl (.int .i64)) (.cons (.sl (.int .i64)) (.cons (.int .i64) (.cons (.int .i64) .nil)))))))))) (some 3), .ro (.st (.cons (.int .i64) (.cons (.int .i64) (.cons (.int .i64) (.cons (.int .i64) (.cons (.int .i64) .nil)))))) (some 4), .ro (.st (.cons (.int .i64) (.cons (.sl (.int .i64)) .nil))) (some 5), .ro (.st (.cons (.int .i64) (.cons (.sl (.int .i64)) .nil))) (some 6), .ro (.int .i64) (some 7), .ro (.int .i64) (some 8)])] }, out := { t := [.dead, .fn 155 [1]] ++ dd 17, v := [(1, .var [.i .i64, .i .i64, .ro (.sl (.st (.cons (.int .i64) (.cons (.int .i64) (.cons (.int .i64) (.cons (.int .i64) .nil)))))) (some 2), .ro (.st (.cons (.int .i64) (.cons (.int .i64) (.cons (.int .i64) (.cons (.int .i64) (.cons (.st (.cons (.int .i64) (.cons (.sl (.int .i64)) .nil))) (.cons (.sl (.int .i64)) (.cons (.sl (.int .i64)) (.cons (.int .i64) (.cons (.int .i64) .nil)))))))))) (some 3), .ro (.st (.cons (.int .i64) (.cons (.int .i64) (.cons (.int .i64) (.cons (.int .i64) (.cons (.int .i64) .nil)))))) (some 4), .ro (.st (.cons (.int .i64) (.cons (.sl (.int .i64)) .nil))) (some 5), .ro (.st (.cons (.int .i64) (.cons (.sl (.int .i64)) .nil))) (some 6), .ro (.int .i64) (some 7), .ro (.int .i64) (some 8)])] }, ret := some { t := [.dead, .fn 155 [1], .dead, .dead, .i .i64] ++ dd 14, v := [(1, .var [.i .i64, .i .i64, .ro (.sl (.st (.cons (.int .i64) (.cons (.int .i64) (.cons (.int .i64) (.cons (.int .i64) .nil)))))) (some 2), .ro (.st (.cons (.int .i64) (.cons (.int .i64) (.cons (.int .i64) (.cons (.int .i64) (.cons (.st (.cons (.int .i64) (.cons (.sl (.int .i64)) .nil))) (.cons (.sl (.int .i64)) (.cons (.sl (.int .i64)) (.cons (.int .i64) (.cons (.int .i64) .nil)))))))))) (some 3), .ro (.st (.cons (.int .i64) (.cons (.int .i64) (.cons (.int .i64) (.cons (.int .i64) (.cons (.int .i64) .nil)))))) (some 4), .ro (.st (.cons (.int .i64) (.cons (.sl (.int .i64)) .nil))) (some 5), .ro (.st (.cons (.int .i64) (.cons (.sl (.int .i64)) .nil))) (some 6), .ro (.int .i64) (some 7), .ro (.int .i64) (some 8)])] } })] n
def k179p : Con := { f := 179, lend := true, its := [⟨false, false, [.ro (.int .i64)]⟩, ⟨true, false, [.i .i64, .i .i64, .ro (.sl (.st (.cons (.int .i64) (.cons (.int .i64) (.cons (.int .i64) (.cons (.int .i64) .nil)))))), .ro (.st (.cons (.int .i64) (.cons (.int .i64) (.cons (.int .i64) (.cons (.int .i64) (.cons (.st (.cons (.int .i64) (.cons (.sl (.int .i64)) .nil))) (.cons (.sl (.int .i64)) (.cons (.sl (.int .i64)) (.cons (.int .i64) (.cons (.int .i64) .nil)))))))))), .ro (.st (.cons (.int .i64) (.cons (.int .i64) (.cons (.int .i64) (.cons (.int .i64) (.cons (.int .i64) .nil)))))), .ro (.st (.cons (.int .i64) (.cons (.sl (.int .i64)) .nil))), .ro (.st (.cons (.int .i64) (.cons (.sl (.int .i64)) .nil))), .ro (.int .i64), .ro (.int .i64)]⟩], lay := [none, some (155, 1)], rs := [⟨false, false, [.i .i64]⟩], F := fun x => .ret ((((fdBadIdxC x.1.1 x.2.1.1 x.2.1.2.1 x.2.1.2.2.2.2.1).1, ()), ()), ((), ((fdBadIdxC x.1.1 x.2.1.1 x.2.1.2.1 x.2.1.2.2.2.2.1).2.1, (fdBadIdxC x.1.1 x.2.1.1 x.2.1.2.1 x.2.1.2.2.2.2.1).2.2, ()), ())) }
theorem f179p_eq (x : itemsD k179p.its) : bodyOut (cxOf [k155]) (f179p_A) (codeOf Tryz.f179) k179p.its k179p.lay Tryz.f179.ntmps k179p.rs [.tmp 4] x = f179p_tree x.1.1 x.2.1.1 x.2.1.2.1 x.2.1.2.2.1 x.2.1.2.2.2.1 x.2.1.2.2.2.2.1 x.2.1.2.2.2.2.2.1 x.2.1.2.2.2.2.2.2.1 x.2.1.2.2.2.2.2.2.2.1 x.2.1.2.2.2.2.2.2.2.2.1 := by kernel_rfl
theorem f179p_ok (hr : ∀ x : (List Int × Unit) × UnixD × Unit, itemsWF k179p.its x → (f179p_tree x.1.1 x.2.1.1 x.2.1.2.1 x.2.1.2.2.1 x.2.1.2.2.2.1 x.2.1.2.2.2.2.1 x.2.1.2.2.2.2.2.1 x.2.1.2.2.2.2.2.2.1 x.2.1.2.2.2.2.2.2.2.1 x.2.1.2.2.2.2.2.2.2.2.1).eval = (k179p.F x).eval) : k179p.Ok Tryz.prog :=
  con_fn [k155] ⟨k155_ok, trivial⟩ (by kernel_rfl) (codeOf_eq (by kernel_rfl)) (by kernel_rfl) (by kernel_rfl) (by kernel_rfl) f179p_eq fun x hw _ hy => (hr x hw).trans hy
theorem k179p_ok : k179p.Ok Tryz.prog := by
  refine f179p_ok fun x hw => ?_
  obtain ⟨⟨a0, _⟩, ⟨a1, a2, a3, a4, a5, a6, a7, a8, a9, _⟩, _⟩ := x
  have l0 : List.length a0 ≤ BIG := hw.1.1.1
  have l3 : List.length a3 ≤ BIG := hw.2.1.1.1
  have l4 : List.length a4 ≤ BIG := hw.2.1.2.1.1
  have l5 : List.length a5 ≤ BIG := hw.2.1.2.2.1.1
  have l6 : List.length a6 ≤ BIG := hw.2.1.2.2.2.1.1
  have l7 : List.length a7 ≤ BIG := hw.2.1.2.2.2.2.1.1
  have l8 : List.length a8 ≤ BIG := hw.2.1.2.2.2.2.2.1.1
  have l9 : List.length a9 ≤ BIG := hw.2.1.2.2.2.2.2.2.1.1
  show (f179p_tree a0 a1 a2 a3 a4 a5 a6 a7 a8 a9).eval = some ((((fdBadIdxC a0 a1 a2 a5).1, ()), ()), ((), ((fdBadIdxC a0 a1 a2 a5).2.1, (fdBadIdxC a0 a1 a2 a5).2.2, ()), ()))
  unfold f179p_tree fdBadIdxC
  have h : iter f179p_L0 FUEL ((a0, ((List.length a0 : Nat) : Int), (0 : Int), ()), ((a1, a2, a3, a4, a5, a6, a7, a8, a9, ()), ())) = some (match List.findIdx? (fun f => (fdBadC f a1 a2 a5).1) a0 with | some i => .inr ((((i : Nat) : Int), ()), ((a1, a2, a3, a4, a5, a6, a7, a8, a9, ()), ())) | none => .inl ((), ((a1, a2, a3, a4, a5, a6, a7, a8, a9, ()), ()))) := idx_loop (f := f179p_L0) a0 (fun f => (fdBadC f a1 a2 a5).1) (fun i => ((a0, ((List.length a0 : Nat) : Int), ((i : Nat) : Int), ()), ((a1, a2, a3, a4, a5, a6, a7, a8, a9, ()), ()))) (y := ((), ((a1, a2, a3, a4, a5, a6, a7, a8, a9, ()), ()))) (z := fun i => ((((i : Nat) : Int), ()), ((a1, a2, a3, a4, a5, a6, a7, a8, a9, ()), ())))
      (fun i hi hp => by
        have h1 := wrap_succ (i := i) (by omega)
        simp [f179p_L0, Out.eval, hi, h1, cond_eq_ite, fdBadC] at hp ⊢ <;> (try simp_all) <;> (try (rcases hp with h | h <;> simp_all)))
      (fun i hi hp => by simp [f179p_L0, Out.eval, hi, cond_eq_ite, fdBadC] at hp ⊢ <;> (try simp_all) <;> (try (rcases hp with h | h <;> simp_all)))
      (by simp [f179p_L0, Out.eval]) l0
  refine (eval_get_some h).trans ?_
  cases List.findIdx? (fun f => (fdBadC f a1 a2 a5).1) a0 <;> rfl
def anyFdBadC (a : List Int) (nx tk : Int) (os : List OpenD) : Bool × Int × Int := (a.any fun f => (fdBadC f nx tk os).1, nx, tk)
def f146p_tree (a0 : List Int) (a1 : Int) (a2 : Int) (a3 : List (List InsD)) (a4 : List ProcD) (a5 : List OpenD) (a6 : List CpuD) (a7 : List CpuD) (a8 : List Int) (a9 : List Int) : Out (((Bool × Unit) × Unit) × (Unit × (Int × Int × Unit) × Unit)) :=
 .ret ((((decide ((fdBadIdxC a0 a1 a2 a5).1 ≥ (0 : Int))), ()), ()), ((), ((fdBadIdxC a0 a1 a2 a5).2.1, (fdBadIdxC a0 a1 a2 a5).2.2, ()), ()))
def k146p : Con := { f := 146, lend := true, its := [⟨false, false, [.ro (.int .i64)]⟩, ⟨true, false, [.i .i64, .i .i64, .ro (.sl (.st (.cons (.int .i64) (.cons (.int .i64) (.cons (.int .i64) (.cons (.int .i64) .nil)))))), .ro (.st (.cons (.int .i64) (.cons (.int .i64) (.cons (.int .i64) (.cons (.int .i64) (.cons (.st (.cons (.int .i64) (.cons (.sl (.int .i64)) .nil))) (.cons (.sl (.int .i64)) (.cons (.sl (.int .i64)) (.cons (.int .i64) (.cons (.int .i64) .nil)))))))))), .ro (.st (.cons (.int .i64) (.cons (.int .i64) (.cons (.int .i64) (.cons (.int .i64) (.cons (.int .i64) .nil)))))), .ro (.st (.cons (.int .i64) (.cons (.sl (.int .i64)) .nil))), .ro (.st (.cons (.int .i64) (.cons (.sl (.int .i64)) .nil))), .ro (.int .i64), .ro (.int .i64)]⟩], lay := [none, some (155, 1)], rs := [⟨false, false, [.b]⟩], F := fun x => .ret ((((anyFdBadC x.1.1 x.2.1.1 x.2.1.2.1 x.2.1.2.2.2.2.1).1, ()), ()), ((), ((anyFdBadC x.1.1 x.2.1.1 x.2.1.2.1 x.2.1.2.2.2.2.1).2.1, (anyFdBadC x.1.1 x.2.1.1 x.2.1.2.1 x.2.1.2.2.2.2.1).2.2, ()), ())) }
theorem f146p_eq (x : itemsD k146p.its) : bodyOut (cxOf [k179p]) (fun _ => none) (codeOf Tryz.f146) k146p.its k146p.lay Tryz.f146.ntmps k146p.rs [.tmp 4] x = f146p_tree x.1.1 x.2.1.1 x.2.1.2.1 x.2.1.2.2.1 x.2.1.2.2.2.1 x.2.1.2.2.2.2.1 x.2.1.2.2.2.2.2.1 x.2.1.2.2.2.2.2.2.1 x.2.1.2.2.2.2.2.2.2.1 x.2.1.2.2.2.2.2.2.2.2.1 := by kernel_rfl
theorem f146p_ok (hr : ∀ x : (List Int × Unit) × UnixD × Unit, itemsWF k146p.its x → (f146p_tree x.1.1 x.2.1.1 x.2.1.2.1 x.2.1.2.2.1 x.2.1.2.2.2.1 x.2.1.2.2.2.2.1 x.2.1.2.2.2.2.2.1 x.2.1.2.2.2.2.2.2.1 x.2.1.2.2.2.2.2.2.2.1 x.2.1.2.2.2.2.2.2.2.2.1).eval = (k146p.F x).eval) : k146p.Ok Tryz.prog :=
  con_fn [k179p] ⟨k179p_ok, trivial⟩ (by kernel_rfl) (codeOf_eq (by kernel_rfl)) (by kernel_rfl) (by kernel_rfl) (by kernel_rfl) f146p_eq fun x hw _ hy => (hr x hw).trans hy
theorem k146p_ok : k146p.Ok Tryz.prog := by
  refine f146p_ok fun x hw => ?_
  obtain ⟨⟨a0, _⟩, ⟨a1, a2, a3, a4, a5, a6, a7, a8, a9, _⟩, _⟩ := x
  have l0 : List.length a0 ≤ BIG := hw.1.1.1
  have l3 : List.length a3 ≤ BIG := hw.2.1.1.1
  have l4 : List.length a4 ≤ BIG := hw.2.1.2.1.1
  have l5 : List.length a5 ≤ BIG := hw.2.1.2.2.1.1
  have l6 : List.length a6 ≤ BIG := hw.2.1.2.2.2.1.1
  have l7 : List.length a7 ≤ BIG := hw.2.1.2.2.2.2.1.1
  have l8 : List.length a8 ≤ BIG := hw.2.1.2.2.2.2.2.1.1
  have l9 : List.length a9 ≤ BIG := hw.2.1.2.2.2.2.2.2.1.1
  show (f146p_tree a0 a1 a2 a3 a4 a5 a6 a7 a8 a9).eval = some ((((anyFdBadC a0 a1 a2 a5).1, ()), ()), ((), ((anyFdBadC a0 a1 a2 a5).2.1, (anyFdBadC a0 a1 a2 a5).2.2, ()), ()))
  unfold f146p_tree anyFdBadC fdBadIdxC
  rw [idxV_ge]
  rfl
def fdOpenIdxV (a : List Int) : Int := idxV (a.findIdx? fdOpenV)
abbrev f179q_S0 := (List Int × Int × Int × Unit) × (Unit)
def f179q_L0 (x : f179q_S0) : Out (Round f179q_S0 ((Unit) × (Unit)) ((Int × Unit) × (Unit))) :=
 .ite (decide (x.1.2.2.1 < x.1.2.1))
 (.ite (decide (0 ≤ x.1.2.2.1))
 (.get (nth x.1.1 (Int.toNat x.1.2.2.1)) fun y1 =>
 .ite (fdOpenV y1)
 (.ret (.ret ((x.1.2.2.1, ()), ())))
 (.ret (.again ((x.1.1, x.1.2.1, (IntKind.i64.wrap (x.1.2.2.1 + (1 : Int))), ()), ()))))
 .fail)
 (.ret (.out ((), ())))
def f179q_tree (a0 : List Int) : Out (((Int × Unit) × Unit) × (Unit × Unit)) :=
 .get (iter f179q_L0 FUEL ((a0, ((List.length a0 : Nat) : Int), (0 : Int), ()), ())) fun y1 => .alt y1 (fun y2 =>
 .ret ((((-1 : Int), ()), ()), ((), ()))) (fun y3 =>
 .ret (((y3.1.1, ()), ()), ((), ())))
def f179q_A : Nat → Option LoopAnn := fun n => annOf [(0, { head := { t := [.ro (.int .i64) (some 0), .fn 157 []] ++ dd 5 ++ [.i .i64, .i .i64] ++ dd 10, v := [] }, out := { t := dd 19, v := [] }, ret := some { t := dd 4 ++ [.i .i64] ++ dd 14, v := [] } })] n
def k179q : Con := { f := 179, lend := true, its := [⟨false, false, [.ro (.int .i64)]⟩], lay := [none, some (157, 0)], rs := [⟨false, false, [.i .i64]⟩], F := fun x => .ret ((((fdOpenIdxV x.1.1), ()), ()), ((), ())) }
theorem f179q_eq (x : itemsD k179q.its) : bodyOut (cxOf [k157]) (f179q_A) (codeOf Tryz.f179) k179q.its k179q.lay Tryz.f179.ntmps k179q.rs [.tmp 4] x = f179q_tree x.1.1 := by kernel_rfl
theorem f179q_ok (hr : ∀ x : (List Int × Unit) × Unit, itemsWF k179q.its x → (f179q_tree x.1.1).eval = (k179q.F x).eval) : k179q.Ok Tryz.prog :=
  con_fn [k157] ⟨k157_ok, trivial⟩ (by kernel_rfl) (codeOf_eq (by kernel_rfl)) (by kernel_rfl) (by kernel_rfl) (by kernel_rfl) f179q_eq fun x hw _ hy => (hr x hw).trans hy
theorem k179q_ok : k179q.Ok Tryz.prog := by
  refine f179q_ok fun x hw => ?_
  obtain ⟨⟨a0, _⟩, _⟩ := x
  have l0 : List.length a0 ≤ BIG := hw.1.1.1
  show (f179q_tree a0).eval = some ((((fdOpenIdxV a0), ()), ()), ((), ()))
  unfold f179q_tree fdOpenIdxV
  have h : iter f179q_L0 FUEL ((a0, ((List.length a0 : Nat) : Int), (0 : Int), ()), ()) = some (match List.findIdx? fdOpenV a0 with | some i => .inr ((((i : Nat) : Int), ()), ()) | none => .inl ((), ())) := idx_loop (f := f179q_L0) a0 fdOpenV (fun i => ((a0, ((List.length a0 : Nat) : Int), ((i : Nat) : Int), ()), ())) (y := ((), ())) (z := fun i => ((((i : Nat) : Int), ()), ()))
      (fun i hi hp => by
        have h1 := wrap_succ (i := i) (by omega)
        simp [f179q_L0, Out.eval, hi, h1, cond_eq_ite] at hp ⊢ <;> (try simp_all) <;> (try (rcases hp with h | h <;> simp_all)))
      (fun i hi hp => by simp [f179q_L0, Out.eval, hi, cond_eq_ite] at hp ⊢ <;> (try simp_all) <;> (try (rcases hp with h | h <;> simp_all)))
      (by simp [f179q_L0, Out.eval]) l0
  refine (eval_get_some h).trans ?_
  cases List.findIdx? fdOpenV a0 <;> rfl
def anyFdOpenV (a : List Int) : Bool := a.any fdOpenV
def f146q_tree (a0 : List Int) : Out (((Bool × Unit) × Unit) × (Unit × Unit)) :=
 .ret ((((decide ((fdOpenIdxV a0) ≥ (0 : Int))), ()), ()), ((), ()))
def k146q : Con := { f := 146, lend := true, its := [⟨false, false, [.ro (.int .i64)]⟩], lay := [none, some (157, 0)], rs := [⟨false, false, [.b]⟩], F := fun x => .ret ((((anyFdOpenV x.1.1), ()), ()), ((), ())) }
theorem f146q_eq (x : itemsD k146q.its) : bodyOut (cxOf [k179q]) (fun _ => none) (codeOf Tryz.f146) k146q.its k146q.lay Tryz.f146.ntmps k146q.rs [.tmp 4] x = f146q_tree x.1.1 := by kernel_rfl
theorem f146q_ok (hr : ∀ x : (List Int × Unit) × Unit, itemsWF k146q.its x → (f146q_tree x.1.1).eval = (k146q.F x).eval) : k146q.Ok Tryz.prog :=
  con_fn [k179q] ⟨k179q_ok, trivial⟩ (by kernel_rfl) (codeOf_eq (by kernel_rfl)) (by kernel_rfl) (by kernel_rfl) (by kernel_rfl) f146q_eq fun x hw _ hy => (hr x hw).trans hy
theorem k146q_ok : k146q.Ok Tryz.prog := by
  refine f146q_ok fun x hw => ?_
  obtain ⟨⟨a0, _⟩, _⟩ := x
  have l0 : List.length a0 ≤ BIG := hw.1.1.1
  show (f146q_tree a0).eval = some ((((anyFdOpenV a0), ()), ()), ((), ()))
  unfold f146q_tree anyFdOpenV fdOpenIdxV
  rw [idxV_ge]
  rfl
theorem fdBad_all {os : List OpenD} {nx tk : Int} (a : List Int) : (a.any fun f => (fdBadC f nx tk os).1) = !(a.all fun f => f == -1 || decide (0 ≤ openAtV os f)) := by
  rw [Bool.eq_iff_iff]
  simp only [fdBadC, List.any_eq_true, Bool.and_eq_true, Bool.not_eq_true', beq_eq_false_iff_ne, decide_eq_true_eq, Bool.not_eq_eq_eq_not, Bool.not_true, List.all_eq_false, Bool.or_eq_true, beq_iff_eq, not_or, Int.not_le]
/-- What is said of the Fds, by both. -/
theorem fds_same (os : List OpenD) (st : Int) (a : List Int) : a.all (fdOkV os st) = ((a.all fun f => f == -1 || decide (0 ≤ openAtV os f)) && (!(st == 6) || !a.any fdOpenV)) := by
  induction a with
  | nil => cases (st == 6) <;> rfl
  | cons f r ih =>
    rw [List.all_cons, ih, List.all_cons, List.any_cons]
    unfold fdOkV fdOpenV
    cases f == -1 <;> cases decide (0 ≤ openAtV os f) <;> cases (st == 6) <;> cases (r.all fun f => f == -1 || decide (0 ≤ openAtV os f)) <;> cases (r.any fun f => !(f == -1)) <;> rfl
end Go.Proofs.YtcinpcncclhejaaGreat.Dm
