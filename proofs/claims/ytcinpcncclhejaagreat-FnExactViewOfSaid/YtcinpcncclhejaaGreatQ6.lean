/- Functions of the program, and what they compute. -/
import Derived.Test.YtcinpcncclhejaaGreatQ53
namespace Go.Proofs.YtcinpcncclhejaaGreat.Dm
open Go Go.ChangeShapes Go.WideShapes Go.ChangeAt Go.RowKit

/-! ## What a process sees -/
def f31_tree (a0 : Int) (a1 : Int) (a2 : Int) (a3 : Int) (a4 : Int) (a5 : List Int) (a6 : List Int) (a7 : List Int) (a8 : Int) (a9 : Int) : Out (((Int × Int × Int × Int × Int × List Int × List Int × List Int × Int × Int × Unit) × Unit) × (Unit × Unit)) :=
 .ite (decide (List.length ([] : List Int) + List.length a5 ≤ LIM))
 (.ite (decide (List.length ([] : List Int) + List.length a6 ≤ LIM))
 (.ite (decide (List.length ([] : List Int) + List.length a7 ≤ LIM))
 (.ret (((a0, a1, a2, a3, a4, (([] : List Int) ++ a5), (([] : List Int) ++ a6), (([] : List Int) ++ a7), a8, a9, ()), ()), ((), ())))
 .fail)
 .fail)
 .fail
def copyProcV (pid par st pg pc : Int) (regs mem fds : List Int) (unt code : Int) : Option (Int × Int × Int × Int × Int × List Int × List Int × List Int × Int × Int) :=
  if regs.length ≤ LIM ∧ mem.length ≤ LIM ∧ fds.length ≤ LIM then some (pid, par, st, pg, pc, regs, mem, fds, unt, code) else none
def k31 : Con := { f := 31, lend := true, its := [⟨false, true, [.i .i64, .i .i64, .i .i64, .i .i64, .i .i64, .ro (.int .i64), .ro (.int .i64), .ro (.int .i64), .i .i64, .i .i64]⟩], lay := [none], rs := [⟨false, true, [.i .i64, .i .i64, .i .i64, .i .i64, .i .i64, .own (.int .i64), .own (.int .i64), .own (.int .i64), .i .i64, .i .i64]⟩], F := fun x => .get (copyProcV x.1.1 x.1.2.1 x.1.2.2.1 x.1.2.2.2.1 x.1.2.2.2.2.1 x.1.2.2.2.2.2.1 x.1.2.2.2.2.2.2.1 x.1.2.2.2.2.2.2.2.1 x.1.2.2.2.2.2.2.2.2.1 x.1.2.2.2.2.2.2.2.2.2.1) fun y => .ret (((y.1, y.2.1, y.2.2.1, y.2.2.2.1, y.2.2.2.2.1, y.2.2.2.2.2.1, y.2.2.2.2.2.2.1, y.2.2.2.2.2.2.2.1, y.2.2.2.2.2.2.2.2.1, y.2.2.2.2.2.2.2.2.2, ()), ()), ((), ())) }
theorem f31_eq (x : itemsD k31.its) : bodyOut (cxOf []) (fun _ => none) (codeOf Tryz.f31) k31.its k31.lay Tryz.f31.ntmps k31.rs [.cell 2 65] x = f31_tree x.1.1 x.1.2.1 x.1.2.2.1 x.1.2.2.2.1 x.1.2.2.2.2.1 x.1.2.2.2.2.2.1 x.1.2.2.2.2.2.2.1 x.1.2.2.2.2.2.2.2.1 x.1.2.2.2.2.2.2.2.2.1 x.1.2.2.2.2.2.2.2.2.2.1 := by kernel_rfl
theorem f31_okp (hr : ∀ x : (Int × Int × Int × Int × Int × List Int × List Int × List Int × Int × Int × Unit) × Unit, itemsWF k31.its x → ∀ y, (k31.F x).eval = some y → (f31_tree x.1.1 x.1.2.1 x.1.2.2.1 x.1.2.2.2.1 x.1.2.2.2.2.1 x.1.2.2.2.2.2.1 x.1.2.2.2.2.2.2.1 x.1.2.2.2.2.2.2.2.1 x.1.2.2.2.2.2.2.2.2.1 x.1.2.2.2.2.2.2.2.2.2.1).eval = some y) : k31.Ok Tryz.prog :=
  con_fn [] trivial (by kernel_rfl) (codeOf_eq (by kernel_rfl)) (by kernel_rfl) (by kernel_rfl) (by kernel_rfl) f31_eq hr
theorem k31_ok : k31.Ok Tryz.prog := by
  refine f31_okp fun x hw y hy => ?_
  obtain ⟨⟨a0, a1, a2, a3, a4, a5, a6, a7, a8, a9, _⟩, _⟩ := x
  have l5 : List.length a5 ≤ BIG := hw.1.1.1
  have l6 : List.length a6 ≤ BIG := hw.1.2.1.1
  have l7 : List.length a7 ≤ BIG := hw.1.2.2.1.1
  change (Out.get (copyProcV a0 a1 a2 a3 a4 a5 a6 a7 a8 a9) fun y => Out.ret (((y.1, y.2.1, y.2.2.1, y.2.2.2.1, y.2.2.2.2.1, y.2.2.2.2.2.1, y.2.2.2.2.2.2.1, y.2.2.2.2.2.2.2.1, y.2.2.2.2.2.2.2.2.1, y.2.2.2.2.2.2.2.2.2, ()), ()), ((), ()))).eval = some y at hy
  show (f31_tree a0 a1 a2 a3 a4 a5 a6 a7 a8 a9).eval = some y
  unfold copyProcV at hy
  by_cases hl : List.length a5 ≤ LIM ∧ List.length a6 ≤ LIM ∧ List.length a7 ≤ LIM
  case neg => rw [if_neg hl] at hy; exact nomatch hy
  rw [if_pos hl] at hy
  refine Eq.trans ?_ hy
  unfold f31_tree
  have e : ∀ (l : List Int), l.length ≤ LIM → decide (List.length ([] : List Int) + List.length l ≤ LIM) = true := fun l h => decide_eq_true (by rw [List.length_nil, Nat.zero_add]; exact h)
  rw [eval_ite_t (e _ hl.1), eval_ite_t (e _ hl.2.1), eval_ite_t (e _ hl.2.2)]
  rfl
def f107_tree (a0 : Int) (a1 : List Int) : Out ((CpuD × Unit) × (Unit × Unit)) :=
 .get (cloneV a1) fun y1 =>
 .ret (((a0, y1, ()), ()), ((), ()))
def cloneCpuV (pc : Int) (regs : List Int) : Option (Int × List Int) := if regs.length ≤ LIM then some (pc, regs) else none
def k107 : Con := { f := 107, lend := true, its := [⟨false, true, [.i .i64, .ro (.int .i64)]⟩], lay := [none], rs := [⟨false, true, [.i .i64, .own (.int .i64)]⟩], F := fun x => .get (cloneCpuV x.1.1 x.1.2.1) fun y => .ret (((y.1, y.2, ()), ()), ((), ())) }
theorem f107_eq (x : itemsD k107.its) : bodyOut (cxOf [k108]) (fun _ => none) (codeOf Tryz.f107) k107.its k107.lay Tryz.f107.ntmps k107.rs [.cell 2 32] x = f107_tree x.1.1 x.1.2.1 := by kernel_rfl
theorem f107_okp (hr : ∀ x : CpuD × Unit, itemsWF k107.its x → ∀ y, (k107.F x).eval = some y → (f107_tree x.1.1 x.1.2.1).eval = some y) : k107.Ok Tryz.prog :=
  con_fn [k108] ⟨k108_ok, trivial⟩ (by kernel_rfl) (codeOf_eq (by kernel_rfl)) (by kernel_rfl) (by kernel_rfl) (by kernel_rfl) f107_eq hr
theorem k107_ok : k107.Ok Tryz.prog := by
  refine f107_okp fun x hw y hy => ?_
  obtain ⟨⟨a0, a1, _⟩, _⟩ := x
  have l1 : List.length a1 ≤ BIG := hw.1.1.1
  change (Out.get (cloneCpuV a0 a1) fun y => Out.ret (((y.1, y.2, ()), ()), ((), ()))).eval = some y at hy
  show (f107_tree a0 a1).eval = some y
  unfold cloneCpuV at hy
  by_cases hl : List.length a1 ≤ LIM
  case neg => rw [if_neg hl] at hy; exact nomatch hy
  rw [if_pos hl] at hy
  refine Eq.trans ?_ hy
  unfold f107_tree
  have e1 : cloneV a1 = some a1 := lim_some hl
  exact eval_get_some e1
def f40_tree (a0 : Int) (a1 : Int) (a2 : Int) (a3 : Int) (a4 : Int) (a5 : List Int) (a6 : List Int) (a7 : List Int) (a8 : Int) (a9 : Int) : Out (((Int × Int × Int × Int × Int × List Int × List Int × List Int × Int × Int × Unit) × Unit) × (Unit × Unit)) :=
 .get (cloneCpuV a4 a5) fun y1 =>
 .get (cloneV a6) fun y2 =>
 .get (cloneV a7) fun y3 =>
 .ret (((a0, a1, a2, a3, y1.1, y1.2, y2, y3, a8, a9, ()), ()), ((), ()))
def k40 : Con := { f := 40, lend := true, its := [⟨false, true, [.i .i64, .i .i64, .i .i64, .i .i64, .i .i64, .ro (.int .i64), .ro (.int .i64), .ro (.int .i64), .i .i64, .i .i64]⟩], lay := [none], rs := [⟨false, true, [.i .i64, .i .i64, .i .i64, .i .i64, .i .i64, .own (.int .i64), .own (.int .i64), .own (.int .i64), .i .i64, .i .i64]⟩], F := fun x => .get (copyProcV x.1.1 x.1.2.1 x.1.2.2.1 x.1.2.2.2.1 x.1.2.2.2.2.1 x.1.2.2.2.2.2.1 x.1.2.2.2.2.2.2.1 x.1.2.2.2.2.2.2.2.1 x.1.2.2.2.2.2.2.2.2.1 x.1.2.2.2.2.2.2.2.2.2.1) fun y => .ret (((y.1, y.2.1, y.2.2.1, y.2.2.2.1, y.2.2.2.2.1, y.2.2.2.2.2.1, y.2.2.2.2.2.2.1, y.2.2.2.2.2.2.2.1, y.2.2.2.2.2.2.2.2.1, y.2.2.2.2.2.2.2.2.2, ()), ()), ((), ())) }
theorem f40_eq (x : itemsD k40.its) : bodyOut (cxOf [k107, k108]) (fun _ => none) (codeOf Tryz.f40) k40.its k40.lay Tryz.f40.ntmps k40.rs [.cell 2 65] x = f40_tree x.1.1 x.1.2.1 x.1.2.2.1 x.1.2.2.2.1 x.1.2.2.2.2.1 x.1.2.2.2.2.2.1 x.1.2.2.2.2.2.2.1 x.1.2.2.2.2.2.2.2.1 x.1.2.2.2.2.2.2.2.2.1 x.1.2.2.2.2.2.2.2.2.2.1 := by kernel_rfl
theorem f40_okp (hr : ∀ x : (Int × Int × Int × Int × Int × List Int × List Int × List Int × Int × Int × Unit) × Unit, itemsWF k40.its x → ∀ y, (k40.F x).eval = some y → (f40_tree x.1.1 x.1.2.1 x.1.2.2.1 x.1.2.2.2.1 x.1.2.2.2.2.1 x.1.2.2.2.2.2.1 x.1.2.2.2.2.2.2.1 x.1.2.2.2.2.2.2.2.1 x.1.2.2.2.2.2.2.2.2.1 x.1.2.2.2.2.2.2.2.2.2.1).eval = some y) : k40.Ok Tryz.prog :=
  con_fn [k107, k108] ⟨k107_ok, k108_ok, trivial⟩ (by kernel_rfl) (codeOf_eq (by kernel_rfl)) (by kernel_rfl) (by kernel_rfl) (by kernel_rfl) f40_eq hr
theorem k40_ok : k40.Ok Tryz.prog := by
  refine f40_okp fun x hw y hy => ?_
  obtain ⟨⟨a0, a1, a2, a3, a4, a5, a6, a7, a8, a9, _⟩, _⟩ := x
  have l5 : List.length a5 ≤ BIG := hw.1.1.1
  have l6 : List.length a6 ≤ BIG := hw.1.2.1.1
  have l7 : List.length a7 ≤ BIG := hw.1.2.2.1.1
  change (Out.get (copyProcV a0 a1 a2 a3 a4 a5 a6 a7 a8 a9) fun y => Out.ret (((y.1, y.2.1, y.2.2.1, y.2.2.2.1, y.2.2.2.2.1, y.2.2.2.2.2.1, y.2.2.2.2.2.2.1, y.2.2.2.2.2.2.2.1, y.2.2.2.2.2.2.2.2.1, y.2.2.2.2.2.2.2.2.2, ()), ()), ((), ()))).eval = some y at hy
  show (f40_tree a0 a1 a2 a3 a4 a5 a6 a7 a8 a9).eval = some y
  unfold copyProcV at hy
  by_cases hl : List.length a5 ≤ LIM ∧ List.length a6 ≤ LIM ∧ List.length a7 ≤ LIM
  case neg => rw [if_neg hl] at hy; exact nomatch hy
  rw [if_pos hl] at hy
  refine Eq.trans ?_ hy
  unfold f40_tree
  have e1 : cloneCpuV a4 a5 = some (a4, a5) := if_pos hl.1
  have e2 : cloneV a6 = some a6 := lim_some hl.2.1
  have e3 : cloneV a7 = some a7 := lim_some hl.2.2
  refine (eval_get_some e1).trans ((eval_get_some e2).trans ((eval_get_some e3).trans ?_))
  rfl
def f8_tree (a0 : Int) (a1 : Int) (a2 : List (List InsD)) (a3 : List ProcD) (a4 : List OpenD) (a5 : List CpuD) (a6 : List CpuD) (a7 : List Int) (a8 : List Int) (a9 : Int) : Out (((Int × List Int × List Int × List Int × Unit) × (Bool × Unit) × Unit) × (Unit × Unit × Unit)) :=
 .ite ((!(unixOkV a0 a1 a2 a3 a4 a5 a6 a7 a8)) == false)
 (.ite (decide ((procAtV a3 a9) < (0 : Int)))
 (.ret ((((0 : Int), ([] : List Int), ([] : List Int), ([] : List Int), ()), (false, ()), ()), ((), (), ())))
 (.ite (decide (0 ≤ (procAtV a3 a9)))
 (.get (nth a3 (Int.toNat (procAtV a3 a9))) fun y1 =>
 .get (copyProcV y1.1 y1.2.1 y1.2.2.1 y1.2.2.2.1 y1.2.2.2.2.1.1 y1.2.2.2.2.1.2.1 y1.2.2.2.2.2.1 y1.2.2.2.2.2.2.1 y1.2.2.2.2.2.2.2.1 y1.2.2.2.2.2.2.2.2.1) fun y2 =>
 .ret (((y2.2.2.2.2.1, y2.2.2.2.2.2.1, y2.2.2.2.2.2.2.1, y2.2.2.2.2.2.2.2.1, ()), (true, ()), ()), ((), (), ())))
 .fail))
 (.ret ((((0 : Int), ([] : List Int), ([] : List Int), ([] : List Int), ()), (false, ()), ()), ((), (), ())))
def viewU (ps : List ProcD) (v : Int) : Int × List Int × List Int × List Int × Bool := match idxBy procKey ps v with
  | none => (0, [], [], [], false)
  | some i => match ps[i]? with
    | none => (0, [], [], [], false)
    | some p => (p.2.2.2.2.1.1, p.2.2.2.2.1.2.1, p.2.2.2.2.2.1, p.2.2.2.2.2.2.1, true)
def viewV (next tick : Int) (progs : List (List InsD)) (ps : List ProcD) (os : List OpenD) (pipes : List PipeD) (files : List FileD) (rd out : List Int) (v : Int) : Int × List Int × List Int × List Int × Bool :=
  if unixOkV next tick progs ps os pipes files rd out = true then viewU ps v else (0, [], [], [], false)
def viewOfV (next tick : Int) (progs : List (List InsD)) (ps : List ProcD) (os : List OpenD) (pipes : List PipeD) (files : List FileD) (rd out : List Int) (v : Int) : Option (Int × List Int × List Int × List Int × Bool) :=
  if rd.length ≤ LIM then some (viewV next tick progs ps os pipes files rd out v) else none
def k8 : Con := { f := 8, lend := true, its := [⟨false, true, [.i .i64, .i .i64, .ro (.sl (.st (.cons (.int .i64) (.cons (.int .i64) (.cons (.int .i64) (.cons (.int .i64) .nil)))))), .ro (.st (.cons (.int .i64) (.cons (.int .i64) (.cons (.int .i64) (.cons (.int .i64) (.cons (.st (.cons (.int .i64) (.cons (.sl (.int .i64)) .nil))) (.cons (.sl (.int .i64)) (.cons (.sl (.int .i64)) (.cons (.int .i64) (.cons (.int .i64) .nil)))))))))), .ro (.st (.cons (.int .i64) (.cons (.int .i64) (.cons (.int .i64) (.cons (.int .i64) (.cons (.int .i64) .nil)))))), .ro (.st (.cons (.int .i64) (.cons (.sl (.int .i64)) .nil))), .ro (.st (.cons (.int .i64) (.cons (.sl (.int .i64)) .nil))), .ro (.int .i64), .ro (.int .i64)]⟩, ⟨false, false, [.i .i64]⟩], lay := [none, none], rs := [⟨false, true, [.i .i64, .own (.int .i64), .own (.int .i64), .own (.int .i64)]⟩, ⟨false, false, [.b]⟩], F := fun x => .get (viewOfV x.1.1 x.1.2.1 x.1.2.2.1 x.1.2.2.2.1 x.1.2.2.2.2.1 x.1.2.2.2.2.2.1 x.1.2.2.2.2.2.2.1 x.1.2.2.2.2.2.2.2.1 x.1.2.2.2.2.2.2.2.2.1 x.2.1.1) fun y => .ret (((y.1, y.2.1, y.2.2.1, y.2.2.2.1, ()), (y.2.2.2.2, ()), ()), ((), (), ())) }
theorem f8_eq (x : itemsD k8.its) : bodyOut (cxOf [k29, k30, k31]) (fun _ => none) (codeOf Tryz.f8) k8.its k8.lay Tryz.f8.ntmps k8.rs [.cell 4 34, .tmp 5] x = f8_tree x.1.1 x.1.2.1 x.1.2.2.1 x.1.2.2.2.1 x.1.2.2.2.2.1 x.1.2.2.2.2.2.1 x.1.2.2.2.2.2.2.1 x.1.2.2.2.2.2.2.2.1 x.1.2.2.2.2.2.2.2.2.1 x.2.1.1 := by kernel_rfl
theorem f8_okp (hr : ∀ x : UnixD × (Int × Unit) × Unit, itemsWF k8.its x → ∀ y, (k8.F x).eval = some y → (f8_tree x.1.1 x.1.2.1 x.1.2.2.1 x.1.2.2.2.1 x.1.2.2.2.2.1 x.1.2.2.2.2.2.1 x.1.2.2.2.2.2.2.1 x.1.2.2.2.2.2.2.2.1 x.1.2.2.2.2.2.2.2.2.1 x.2.1.1).eval = some y) : k8.Ok Tryz.prog :=
  con_fn [k29, k30, k31] ⟨k29_ok, k30_ok, k31_ok, trivial⟩ (by kernel_rfl) (codeOf_eq (by kernel_rfl)) (by kernel_rfl) (by kernel_rfl) (by kernel_rfl) f8_eq hr
/-- A right process is small. -/
theorem proc_small {next tick : Int} {progs : List (List InsD)} {ps : List ProcD} {os : List OpenD} {pipes : List PipeD} {files : List FileD} {rd out : List Int} (h : unixOkV next tick progs ps os pipes files rd out = true) {p : ProcD} (hp : p ∈ ps) :
    p.2.2.2.2.1.2.1.length = 4 ∧ p.2.2.2.2.2.1.length ≤ 12 ∧ p.2.2.2.2.2.2.1.length = 4 := by
  unfold unixOkV at h
  simp only [Bool.and_eq_true] at h
  have := List.all_eq_true.1 (rows_all h.1.1.2) p hp
  unfold procInV proc1V procOkV cpuOkV at this
  simp only [Bool.and_eq_true, decide_eq_true_eq] at this
  exact ⟨this.2.1.1.1.1.1.1.1.1.1.2.1.2, this.2.1.1.1.1.1.1.1.1.2, this.2.1.1.1.1.1.2⟩
theorem copy_small {next tick : Int} {progs : List (List InsD)} {ps : List ProcD} {os : List OpenD} {pipes : List PipeD} {files : List FileD} {rd out : List Int} (h : unixOkV next tick progs ps os pipes files rd out = true) {p : ProcD} (hp : p ∈ ps) :
    copyProcV p.1 p.2.1 p.2.2.1 p.2.2.2.1 p.2.2.2.2.1.1 p.2.2.2.2.1.2.1 p.2.2.2.2.2.1 p.2.2.2.2.2.2.1 p.2.2.2.2.2.2.2.1 p.2.2.2.2.2.2.2.2.1 = some (p.1, p.2.1, p.2.2.1, p.2.2.2.1, p.2.2.2.2.1.1, p.2.2.2.2.1.2.1, p.2.2.2.2.2.1, p.2.2.2.2.2.2.1, p.2.2.2.2.2.2.2.1, p.2.2.2.2.2.2.2.2.1) := by
  have := proc_small h hp
  exact if_pos (by rw [LIM_eq]; omega)
theorem k8_ok : k8.Ok Tryz.prog := by
  refine f8_okp fun x hw y hy => ?_
  obtain ⟨⟨a0, a1, a2, a3, a4, a5, a6, a7, a8, _⟩, ⟨a9, _⟩, _⟩ := x
  have l2 : List.length a2 ≤ BIG := hw.1.1.1
  have l3 : List.length a3 ≤ BIG := hw.1.2.1.1
  have l4 : List.length a4 ≤ BIG := hw.1.2.2.1.1
  have l5 : List.length a5 ≤ BIG := hw.1.2.2.2.1.1
  have l6 : List.length a6 ≤ BIG := hw.1.2.2.2.2.1.1
  have l7 : List.length a7 ≤ BIG := hw.1.2.2.2.2.2.1.1
  have l8 : List.length a8 ≤ BIG := hw.1.2.2.2.2.2.2.1.1
  change (Out.get (viewOfV a0 a1 a2 a3 a4 a5 a6 a7 a8 a9) fun y => Out.ret (((y.1, y.2.1, y.2.2.1, y.2.2.2.1, ()), (y.2.2.2.2, ()), ()), ((), (), ()))).eval = some y at hy
  show (f8_tree a0 a1 a2 a3 a4 a5 a6 a7 a8 a9).eval = some y
  unfold viewOfV at hy
  by_cases hl : List.length a7 ≤ LIM
  case neg => rw [if_neg hl] at hy; exact nomatch hy
  rw [if_pos hl] at hy
  refine Eq.trans ?_ hy
  unfold f8_tree viewV
  by_cases hu : unixOkV a0 a1 a2 a3 a4 a5 a6 a7 a8 = true
  case neg => rw [if_neg hu, eval_ite_f (by simp [hu])]; rfl
  rw [if_pos hu, eval_ite_t (by simp [hu])]
  unfold viewU
  cases hx : idxBy procKey a3 a9 with
  | none =>
    have e3 : procAtV a3 a9 = -1 := placeBy_none hx
    rw [e3]; rfl
  | some i =>
    have hi := idxBy_lt hx
    have e3 : procAtV a3 a9 = ((i : Nat) : Int) := placeBy_some hx
    rw [e3, eval_ite_f (decide_eq_false (by omega)), eval_ite_t (ge0 i), Int.toNat_natCast]
    refine (eval_get_some (x := a3[i]) (by simp [nth, hi])).trans ((eval_get_some (copy_small hu (List.getElem_mem hi))).trans ?_)
    simp only [List.getElem?_eq_getElem hi]
    rfl
def f10_tree (a0 : Int) (a1 : Int) (a2 : List (List InsD)) (a3 : List ProcD) (a4 : List OpenD) (a5 : List CpuD) (a6 : List CpuD) (a7 : List Int) (a8 : List Int) (a9 : Int) : Out (((Int × List Int × List Int × List Int × Unit) × (Bool × Unit) × Unit) × (Unit × Unit × Unit)) :=
 .ite ((decide ((procAtV a3 a9) < (0 : Int))) == false)
 (.get (unixOkP a0 a1 a2 a3 a4 a5 a6 a7 a8) fun y1 =>
 .ite (!y1)
 (.ret ((((0 : Int), ([] : List Int), ([] : List Int), ([] : List Int), ()), (false, ()), ()), ((), (), ())))
 (.ite (decide (0 ≤ (procAtV a3 a9)))
 (.get (nth a3 (Int.toNat (procAtV a3 a9))) fun y2 =>
 .get (copyProcV y2.1 y2.2.1 y2.2.2.1 y2.2.2.2.1 y2.2.2.2.2.1.1 y2.2.2.2.2.1.2.1 y2.2.2.2.2.2.1 y2.2.2.2.2.2.2.1 y2.2.2.2.2.2.2.2.1 y2.2.2.2.2.2.2.2.2.1) fun y3 =>
 .ret (((y3.2.2.2.2.1, y3.2.2.2.2.2.1, y3.2.2.2.2.2.2.1, y3.2.2.2.2.2.2.2.1, ()), (true, ()), ()), ((), (), ())))
 .fail))
 (.ret ((((0 : Int), ([] : List Int), ([] : List Int), ([] : List Int), ()), (false, ()), ()), ((), (), ())))
def k10 : Con := { f := 10, lend := true, its := [⟨false, true, [.i .i64, .i .i64, .ro (.sl (.st (.cons (.int .i64) (.cons (.int .i64) (.cons (.int .i64) (.cons (.int .i64) .nil)))))), .ro (.st (.cons (.int .i64) (.cons (.int .i64) (.cons (.int .i64) (.cons (.int .i64) (.cons (.st (.cons (.int .i64) (.cons (.sl (.int .i64)) .nil))) (.cons (.sl (.int .i64)) (.cons (.sl (.int .i64)) (.cons (.int .i64) (.cons (.int .i64) .nil)))))))))), .ro (.st (.cons (.int .i64) (.cons (.int .i64) (.cons (.int .i64) (.cons (.int .i64) (.cons (.int .i64) .nil)))))), .ro (.st (.cons (.int .i64) (.cons (.sl (.int .i64)) .nil))), .ro (.st (.cons (.int .i64) (.cons (.sl (.int .i64)) .nil))), .ro (.int .i64), .ro (.int .i64)]⟩, ⟨false, false, [.i .i64]⟩], lay := [none, none], rs := [⟨false, true, [.i .i64, .own (.int .i64), .own (.int .i64), .own (.int .i64)]⟩, ⟨false, false, [.b]⟩], F := fun x => .get (viewOfV x.1.1 x.1.2.1 x.1.2.2.1 x.1.2.2.2.1 x.1.2.2.2.2.1 x.1.2.2.2.2.2.1 x.1.2.2.2.2.2.2.1 x.1.2.2.2.2.2.2.2.1 x.1.2.2.2.2.2.2.2.2.1 x.2.1.1) fun y => .ret (((y.1, y.2.1, y.2.2.1, y.2.2.2.1, ()), (y.2.2.2.2, ()), ()), ((), (), ())) }
theorem f10_eq (x : itemsD k10.its) : bodyOut (cxOf [k38, k39, k40]) (fun _ => none) (codeOf Tryz.f10) k10.its k10.lay Tryz.f10.ntmps k10.rs [.cell 4 34, .tmp 5] x = f10_tree x.1.1 x.1.2.1 x.1.2.2.1 x.1.2.2.2.1 x.1.2.2.2.2.1 x.1.2.2.2.2.2.1 x.1.2.2.2.2.2.2.1 x.1.2.2.2.2.2.2.2.1 x.1.2.2.2.2.2.2.2.2.1 x.2.1.1 := by kernel_rfl
theorem f10_okp (hr : ∀ x : UnixD × (Int × Unit) × Unit, itemsWF k10.its x → ∀ y, (k10.F x).eval = some y → (f10_tree x.1.1 x.1.2.1 x.1.2.2.1 x.1.2.2.2.1 x.1.2.2.2.2.1 x.1.2.2.2.2.2.1 x.1.2.2.2.2.2.2.1 x.1.2.2.2.2.2.2.2.1 x.1.2.2.2.2.2.2.2.2.1 x.2.1.1).eval = some y) : k10.Ok Tryz.prog :=
  con_fn [k38, k39, k40] ⟨k38_ok, k39_ok, k40_ok, trivial⟩ (by kernel_rfl) (codeOf_eq (by kernel_rfl)) (by kernel_rfl) (by kernel_rfl) (by kernel_rfl) f10_eq hr
theorem k10_ok : k10.Ok Tryz.prog := by
  refine f10_okp fun x hw y hy => ?_
  obtain ⟨⟨a0, a1, a2, a3, a4, a5, a6, a7, a8, _⟩, ⟨a9, _⟩, _⟩ := x
  have l2 : List.length a2 ≤ BIG := hw.1.1.1
  have l3 : List.length a3 ≤ BIG := hw.1.2.1.1
  have l4 : List.length a4 ≤ BIG := hw.1.2.2.1.1
  have l5 : List.length a5 ≤ BIG := hw.1.2.2.2.1.1
  have l6 : List.length a6 ≤ BIG := hw.1.2.2.2.2.1.1
  have l7 : List.length a7 ≤ BIG := hw.1.2.2.2.2.2.1.1
  have l8 : List.length a8 ≤ BIG := hw.1.2.2.2.2.2.2.1.1
  change (Out.get (viewOfV a0 a1 a2 a3 a4 a5 a6 a7 a8 a9) fun y => Out.ret (((y.1, y.2.1, y.2.2.1, y.2.2.2.1, ()), (y.2.2.2.2, ()), ()), ((), (), ()))).eval = some y at hy
  show (f10_tree a0 a1 a2 a3 a4 a5 a6 a7 a8 a9).eval = some y
  unfold viewOfV at hy
  by_cases hl : List.length a7 ≤ LIM
  case neg => rw [if_neg hl] at hy; exact nomatch hy
  rw [if_pos hl] at hy
  refine Eq.trans ?_ hy
  unfold f10_tree viewV
  have e1 : unixOkP a0 a1 a2 a3 a4 a5 a6 a7 a8 = some (unixOkV a0 a1 a2 a3 a4 a5 a6 a7 a8) := by
    unfold unixOkP
    rw [if_pos hl, unix_same]
  cases hx : idxBy procKey a3 a9 with
  | none =>
    have e3 : procAtV a3 a9 = -1 := placeBy_none hx
    have e4 : viewU a3 a9 = (0, [], [], [], false) := by unfold viewU; rw [hx]
    rw [e3, e4]
    refine Eq.trans (b := some (((0, [], [], [], ()), (false, ()), ()), ((), (), ()))) rfl ?_
    split <;> rfl
  | some i =>
    have hi := idxBy_lt hx
    have e3 : procAtV a3 a9 = ((i : Nat) : Int) := placeBy_some hx
    rw [e3, eval_ite_t (by rw [decide_eq_false (by omega)]; rfl)]
    refine (eval_get_some e1).trans ?_
    by_cases hu : unixOkV a0 a1 a2 a3 a4 a5 a6 a7 a8 = true
    case neg => rw [if_neg hu, eval_ite_t (by simp [hu])]; rfl
    rw [if_pos hu, eval_ite_f (by simp [hu]), eval_ite_t (ge0 i), Int.toNat_natCast]
    unfold viewU
    refine (eval_get_some (x := a3[i]) (by simp [nth, hi])).trans ((eval_get_some (copy_small hu (List.getElem_mem hi))).trans ?_)
    simp only [hx, List.getElem?_eq_getElem hi]
    rfl

end Go.Proofs.YtcinpcncclhejaaGreat.Dm
