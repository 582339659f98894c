/- Functions of the program, and what they compute. -/
import Derived.Test.YtcinpcncclhejaaGreatQ1
namespace Go.Proofs.YtcinpcncclhejaaGreat.Dm
open Go Go.ChangeShapes Go.WideShapes Go.ChangeAt Go.RowKit

def szcIntS (a : List Int) : Nat := a.length
def f28_tree (a0 : List Int) (a1 : Int) : Out (((Int × Unit) × Unit) × (Unit × Unit × Unit)) :=
 .ite (decide ((IntKind.i64.wrap (a1 - ((List.length a0 : Nat) : Int))) < (0 : Int)))
 (.ret ((((-1 : Int), ()), ()), ((), (), ())))
 (.ret ((((IntKind.i64.wrap (a1 - ((List.length a0 : Nat) : Int))), ()), ()), ((), (), ())))
def szIntSV (a0 : List Int) (l : Int) : Option Int := szP (szcIntS a0) l
def k28 : Con := { f := 28, lend := true, its := [⟨false, false, [.ro (.int .i64)]⟩, ⟨false, false, [.i .i64]⟩], lay := [none, none], rs := [⟨false, false, [.i .i64]⟩], F := fun x => .get (szIntSV x.1.1 x.2.1.1) fun y => .ret (((y, ()), ()), ((), (), ())) }
theorem f28_eq (x : itemsD k28.its) : bodyOut (cxOf []) (fun _ => none) (codeOf Tryz.f28) k28.its k28.lay Tryz.f28.ntmps k28.rs [.tmp 4] x = f28_tree x.1.1 x.2.1.1 := by kernel_rfl
theorem f28_okp (hr : ∀ x : (List Int × Unit) × (Int × Unit) × Unit, itemsWF k28.its x → ∀ y, (k28.F x).eval = some y → (f28_tree x.1.1 x.2.1.1).eval = some y) : k28.Ok Tryz.prog :=
  con_fn [] trivial (by kernel_rfl) (codeOf_eq (by kernel_rfl)) (by kernel_rfl) (by kernel_rfl) (by kernel_rfl) f28_eq hr
theorem k28_ok : k28.Ok Tryz.prog := by
  refine f28_okp fun x hw y hy => ?_
  obtain ⟨⟨a0, _⟩, ⟨l, _⟩, _⟩ := x
  change (Out.get (szIntSV a0 l) fun y => Out.ret (((y, ()), ()), ((), ((), ())))).eval = some y at hy
  obtain ⟨⟨h0, h1⟩, hy⟩ := szP_get hy
  refine Eq.trans ?_ hy
  show (f28_tree a0 l).eval = _
  unfold f28_tree
  have ha : a0.length ≤ BIG := hw.1.1.1
  have hb : a0.length ≤ 9223372036854775807 := ha
  have w : IntKind.i64.wrap (l - ((a0.length : Nat) : Int)) = l - ((a0.length : Nat) : Int) := wrap_le (by omega) (by omega)
  rw [w]
  unfold szcIntS
  by_cases q : l - ((a0.length : Nat) : Int) < 0
  · rw [eval_ite_t (decide_eq_true q), if_neg (by omega)]; try rfl
  · rw [eval_ite_f (decide_eq_false q), if_pos (by omega)]; try rfl
instance dqIns : DecidableEq InsD := (@instDecidableEqProd _ _ inferInstance (@instDecidableEqProd _ _ inferInstance (@instDecidableEqProd _ _ inferInstance (@instDecidableEqProd _ _ inferInstance inferInstance))))
def szcIns (x : InsD) : Nat := 0
def szcInsS (a : List InsD) : Nat := a.length
def f78_tree (a0 : List InsD) (a1 : Int) : Out (((Int × Unit) × Unit) × (Unit × Unit × Unit)) :=
 .ite (decide ((IntKind.i64.wrap (a1 - ((List.length a0 : Nat) : Int))) < (0 : Int)))
 (.ret ((((-1 : Int), ()), ()), ((), (), ())))
 (.ret ((((IntKind.i64.wrap (a1 - ((List.length a0 : Nat) : Int))), ()), ()), ((), (), ())))
def szInsSV (a0 : List InsD) (l : Int) : Option Int := szP (szcInsS a0) l
def k78 : Con := { f := 78, lend := true, its := [⟨false, false, [.ro (.st (.cons (.int .i64) (.cons (.int .i64) (.cons (.int .i64) (.cons (.int .i64) .nil)))))]⟩, ⟨false, false, [.i .i64]⟩], lay := [none, none], rs := [⟨false, false, [.i .i64]⟩], F := fun x => .get (szInsSV x.1.1 x.2.1.1) fun y => .ret (((y, ()), ()), ((), (), ())) }
theorem f78_eq (x : itemsD k78.its) : bodyOut (cxOf []) (fun _ => none) (codeOf Tryz.f78) k78.its k78.lay Tryz.f78.ntmps k78.rs [.tmp 4] x = f78_tree x.1.1 x.2.1.1 := by kernel_rfl
theorem f78_okp (hr : ∀ x : (List InsD × Unit) × (Int × Unit) × Unit, itemsWF k78.its x → ∀ y, (k78.F x).eval = some y → (f78_tree x.1.1 x.2.1.1).eval = some y) : k78.Ok Tryz.prog :=
  con_fn [] trivial (by kernel_rfl) (codeOf_eq (by kernel_rfl)) (by kernel_rfl) (by kernel_rfl) (by kernel_rfl) f78_eq hr
theorem k78_ok : k78.Ok Tryz.prog := by
  refine f78_okp fun x hw y hy => ?_
  obtain ⟨⟨a0, _⟩, ⟨l, _⟩, _⟩ := x
  change (Out.get (szInsSV a0 l) fun y => Out.ret (((y, ()), ()), ((), ((), ())))).eval = some y at hy
  obtain ⟨⟨h0, h1⟩, hy⟩ := szP_get hy
  refine Eq.trans ?_ hy
  show (f78_tree a0 l).eval = _
  unfold f78_tree
  have ha : a0.length ≤ BIG := hw.1.1.1
  have hb : a0.length ≤ 9223372036854775807 := ha
  have w : IntKind.i64.wrap (l - ((a0.length : Nat) : Int)) = l - ((a0.length : Nat) : Int) := wrap_le (by omega) (by omega)
  rw [w]
  unfold szcInsS
  by_cases q : l - ((a0.length : Nat) : Int) < 0
  · rw [eval_ite_t (decide_eq_true q), if_neg (by omega)]; try rfl
  · rw [eval_ite_f (decide_eq_false q), if_pos (by omega)]; try rfl
def szcInsSS (a : List (List InsD)) : Nat := a.length + sumBy (fun x => szcInsS x) a
abbrev f23_S0 := (List (List InsD) × Int × Int × Unit) × (Unit)
def f23_L0 (x : f23_S0) : Out (Round f23_S0 ((Int × Unit) × (Unit)) ((Int × Unit) × (Unit))) :=
 .ite (decide (x.1.2.2.1 < ((List.length x.1.1 : Nat) : Int)))
 (.ite (decide (0 ≤ x.1.2.2.1))
 (.get (nth x.1.1 (Int.toNat x.1.2.2.1)) fun y1 =>
 .get (szInsSV y1 x.1.2.1) fun y2 =>
 .ite (decide (y2 < (0 : Int)))
 (.ret (.ret (((-1 : Int), ()), ())))
 (.ret (.again ((x.1.1, y2, (IntKind.i64.wrap (x.1.2.2.1 + (1 : Int))), ()), ()))))
 .fail)
 (.ret (.out ((x.1.2.1, ()), ())))
def f23_tree (a0 : List (List InsD)) (a1 : Int) : Out (((Int × Unit) × Unit) × (Unit × Unit × Unit)) :=
 .ite (decide ((IntKind.i64.wrap (a1 - ((List.length a0 : Nat) : Int))) < (0 : Int)))
 (.ret ((((-1 : Int), ()), ()), ((), (), ())))
 (.get (iter f23_L0 FUEL ((a0, (IntKind.i64.wrap (a1 - ((List.length a0 : Nat) : Int))), (0 : Int), ()), ())) fun y1 => .alt y1 (fun y2 =>
 .ret (((y2.1.1, ()), ()), ((), (), ()))) (fun y3 =>
 .ret (((y3.1.1, ()), ()), ((), (), ()))))
def f23_A : Nat → Option LoopAnn := fun n => annOf [(0, { head := { t := [.ro (.sl (.st (.cons (.int .i64) (.cons (.int .i64) (.cons (.int .i64) (.cons (.int .i64) .nil)))))) (some 0), .i .i64, .dead, .dead, .dead, .i .i64] ++ dd 21, v := [] }, out := { t := [.dead, .i .i64] ++ dd 25, v := [] }, ret := some { t := dd 4 ++ [.i .i64] ++ dd 22, v := [] } })] n
def szInsSSV (a0 : List (List InsD)) (l : Int) : Option Int := szP (szcInsSS a0) l
def k23 : Con := { f := 23, lend := true, its := [⟨false, false, [.ro (.sl (.st (.cons (.int .i64) (.cons (.int .i64) (.cons (.int .i64) (.cons (.int .i64) .nil))))))]⟩, ⟨false, false, [.i .i64]⟩], lay := [none, none], rs := [⟨false, false, [.i .i64]⟩], F := fun x => .get (szInsSSV x.1.1 x.2.1.1) fun y => .ret (((y, ()), ()), ((), (), ())) }
theorem f23_eq (x : itemsD k23.its) : bodyOut (cxOf [k78]) (f23_A) (codeOf Tryz.f23) k23.its k23.lay Tryz.f23.ntmps k23.rs [.tmp 4] x = f23_tree x.1.1 x.2.1.1 := by kernel_rfl
theorem f23_okp (hr : ∀ x : (List (List InsD) × Unit) × (Int × Unit) × Unit, itemsWF k23.its x → ∀ y, (k23.F x).eval = some y → (f23_tree x.1.1 x.2.1.1).eval = some y) : k23.Ok Tryz.prog :=
  con_fn [k78] ⟨k78_ok, trivial⟩ (by kernel_rfl) (codeOf_eq (by kernel_rfl)) (by kernel_rfl) (by kernel_rfl) (by kernel_rfl) f23_eq hr
theorem k23_ok : k23.Ok Tryz.prog := by
  refine f23_okp fun x hw y hy => ?_
  obtain ⟨⟨a0, _⟩, ⟨l, _⟩, _⟩ := x
  change (Out.get (szInsSSV a0 l) fun y => Out.ret (((y, ()), ()), ((), ((), ())))).eval = some y at hy
  obtain ⟨⟨h0, h1⟩, hy⟩ := szP_get hy
  refine Eq.trans ?_ hy
  show (f23_tree a0 l).eval = _
  unfold f23_tree
  have ha : a0.length ≤ BIG := hw.1.1.1
  have hb : a0.length ≤ 9223372036854775807 := ha
  have w : IntKind.i64.wrap (l - ((a0.length : Nat) : Int)) = l - ((a0.length : Nat) : Int) := wrap_le (by omega) (by omega)
  rw [w]
  unfold szcInsSS
  by_cases q : l - ((a0.length : Nat) : Int) < 0
  · rw [eval_ite_t (decide_eq_true q), if_neg (by omega)]; try rfl
  · rw [eval_ite_f (decide_eq_false q)]
    have := sz_loop (f := f23_L0) a0 (fun x : List InsD => szcInsS x) (fun l i => ((a0, (l, (((i : Nat) : Int), ()))), ())) (y := fun l => ((l, ()), ())) (z := ((-1, ()), ()))
      (fun i hi l h0 h1 => by
        have h2 := wrap_succ (i := i) (by omega)
        have e : szInsSV a0[i] l = some (if ((szcInsS a0[i] : Nat) : Int) ≤ l then l - ((szcInsS a0[i] : Nat) : Int) else -1) := szP_in h0 h1
        by_cases q : ((szcInsS a0[i] : Nat) : Int) ≤ l
        · have q2 : ¬ l - ((szcInsS a0[i] : Nat) : Int) < 0 := by omega
          rw [if_pos q] at e
          simp [f23_L0, Out.eval, hi, h2, e, q, q2]
        · rw [if_neg q] at e
          simp [f23_L0, Out.eval, hi, e, q])
      (fun l => by simp [f23_L0, Out.eval]) ha (l := l - ((a0.length : Nat) : Int)) (by omega) (by omega)
    refine (eval_get_some this).trans ?_
    by_cases q2 : ((sumBy (fun x : List InsD => szcInsS x) a0 : Nat) : Int) ≤ l - ((a0.length : Nat) : Int)
    · have e3 : l - ((a0.length : Nat) : Int) - ((sumBy (fun x : List InsD => szcInsS x) a0 : Nat) : Int) = l - ((a0.length + sumBy (fun x : List InsD => szcInsS x) a0 : Nat) : Int) := by omega
      rw [if_pos q2, if_pos (by omega), ← e3]; rfl
    · rw [if_neg q2, if_neg (by omega)]; rfl
abbrev CpuD := Int × (List Int × Unit)
instance dqCpu : DecidableEq CpuD := (@instDecidableEqProd _ _ inferInstance (@instDecidableEqProd _ _ inferInstance inferInstance))
def szcCpu (x : CpuD) : Nat := szcIntS x.2.1
def f137_tree (a0 : Int) (a1 : List Int) (a2 : Int) : Out (((Int × Unit) × Unit) × (Unit × Unit × Unit)) :=
 .get (szIntSV a1 a2) fun y1 =>
 .ite (decide (y1 < (0 : Int)))
 (.ret ((((-1 : Int), ()), ()), ((), (), ())))
 (.ret (((y1, ()), ()), ((), (), ())))
def szCpuV (a0 : Int) (a1 : List Int) (l : Int) : Option Int := szP (szcCpu (a0, a1, ())) l
def k137 : Con := { f := 137, lend := true, its := [⟨false, true, [.i .i64, .ro (.int .i64)]⟩, ⟨false, false, [.i .i64]⟩], lay := [none, none], rs := [⟨false, false, [.i .i64]⟩], F := fun x => .get (szCpuV x.1.1 x.1.2.1 x.2.1.1) fun y => .ret (((y, ()), ()), ((), (), ())) }
theorem f137_eq (x : itemsD k137.its) : bodyOut (cxOf [k28]) (fun _ => none) (codeOf Tryz.f137) k137.its k137.lay Tryz.f137.ntmps k137.rs [.tmp 4] x = f137_tree x.1.1 x.1.2.1 x.2.1.1 := by kernel_rfl
theorem f137_okp (hr : ∀ x : CpuD × (Int × Unit) × Unit, itemsWF k137.its x → ∀ y, (k137.F x).eval = some y → (f137_tree x.1.1 x.1.2.1 x.2.1.1).eval = some y) : k137.Ok Tryz.prog :=
  con_fn [k28] ⟨k28_ok, trivial⟩ (by kernel_rfl) (codeOf_eq (by kernel_rfl)) (by kernel_rfl) (by kernel_rfl) (by kernel_rfl) f137_eq hr
theorem k137_ok : k137.Ok Tryz.prog := by
  refine f137_okp fun x hw y hy => ?_
  obtain ⟨⟨a0, a1, _⟩, ⟨l, _⟩, _⟩ := x
  change (Out.get (szCpuV a0 a1 l) fun y => Out.ret (((y, ()), ()), ((), ((), ())))).eval = some y at hy
  obtain ⟨⟨h0, h1⟩, hy⟩ := szP_get hy
  refine Eq.trans ?_ hy
  show (f137_tree a0 a1 l).eval = _
  unfold f137_tree
  have hc : szcCpu (a0, a1, ()) = szcIntS a1 := rfl
  have e0 : szIntSV a1 (l) = some (if ((szcIntS a1 : Nat) : Int) ≤ l then l - ((szcIntS a1 : Nat) : Int) else -1) := szP_in (by omega) (by omega)
  rw [eval_get_some e0]
  by_cases q0 : ((szcIntS a1 : Nat) : Int) ≤ l
  case neg => rw [if_neg q0, eval_ite_t (by decide), if_neg (by omega)]; try rfl
  rw [if_pos q0, eval_ite_f (decide_eq_false (by omega))]
  have e : l - ((szcCpu (a0, a1, ()) : Nat) : Int) = l - ((szcIntS a1 : Nat) : Int) := by omega
  rw [if_pos (by omega), e]; try rfl
abbrev ProcD := Int × (Int × (Int × (Int × (CpuD × (List Int × (List Int × (Int × (Int × Unit))))))))
instance dqProc : DecidableEq ProcD := (@instDecidableEqProd _ _ inferInstance (@instDecidableEqProd _ _ inferInstance (@instDecidableEqProd _ _ inferInstance (@instDecidableEqProd _ _ inferInstance (@instDecidableEqProd _ _ inferInstance (@instDecidableEqProd _ _ inferInstance (@instDecidableEqProd _ _ inferInstance (@instDecidableEqProd _ _ inferInstance (@instDecidableEqProd _ _ inferInstance inferInstance)))))))))
def szcProc (x : ProcD) : Nat := szcCpu x.2.2.2.2.1 + szcIntS x.2.2.2.2.2.1 + szcIntS x.2.2.2.2.2.2.1
def f79_tree (a0 : Int) (a1 : Int) (a2 : Int) (a3 : Int) (a4 : Int) (a5 : List Int) (a6 : List Int) (a7 : List Int) (a8 : Int) (a9 : Int) (a10 : Int) : Out (((Int × Unit) × Unit) × (Unit × Unit × Unit)) :=
 .get (szCpuV a4 a5 a10) fun y1 =>
 .ite (decide (y1 < (0 : Int)))
 (.ret ((((-1 : Int), ()), ()), ((), (), ())))
 (.get (szIntSV a6 y1) fun y2 =>
 .ite (decide (y2 < (0 : Int)))
 (.ret ((((-1 : Int), ()), ()), ((), (), ())))
 (.get (szIntSV a7 y2) fun y3 =>
 .ite (decide (y3 < (0 : Int)))
 (.ret ((((-1 : Int), ()), ()), ((), (), ())))
 (.ret (((y3, ()), ()), ((), (), ())))))
def szProcV (a0 : Int) (a1 : Int) (a2 : Int) (a3 : Int) (a4 : Int) (a5 : List Int) (a6 : List Int) (a7 : List Int) (a8 : Int) (a9 : Int) (l : Int) : Option Int := szP (szcProc (a0, a1, a2, a3, (a4, a5, ()), a6, a7, a8, a9, ())) l
def k79 : Con := { f := 79, lend := true, its := [⟨false, true, [.i .i64, .i .i64, .i .i64, .i .i64, .i .i64, .ro (.int .i64), .ro (.int .i64), .ro (.int .i64), .i .i64, .i .i64]⟩, ⟨false, false, [.i .i64]⟩], lay := [none, none], rs := [⟨false, false, [.i .i64]⟩], F := fun x => .get (szProcV x.1.1 x.1.2.1 x.1.2.2.1 x.1.2.2.2.1 x.1.2.2.2.2.1 x.1.2.2.2.2.2.1 x.1.2.2.2.2.2.2.1 x.1.2.2.2.2.2.2.2.1 x.1.2.2.2.2.2.2.2.2.1 x.1.2.2.2.2.2.2.2.2.2.1 x.2.1.1) fun y => .ret (((y, ()), ()), ((), (), ())) }
theorem f79_eq (x : itemsD k79.its) : bodyOut (cxOf [k137, k28]) (fun _ => none) (codeOf Tryz.f79) k79.its k79.lay Tryz.f79.ntmps k79.rs [.tmp 4] x = f79_tree x.1.1 x.1.2.1 x.1.2.2.1 x.1.2.2.2.1 x.1.2.2.2.2.1 x.1.2.2.2.2.2.1 x.1.2.2.2.2.2.2.1 x.1.2.2.2.2.2.2.2.1 x.1.2.2.2.2.2.2.2.2.1 x.1.2.2.2.2.2.2.2.2.2.1 x.2.1.1 := by kernel_rfl
theorem f79_okp (hr : ∀ x : (Int × Int × Int × Int × Int × List Int × List Int × List Int × Int × Int × Unit) × (Int × Unit) × Unit, itemsWF k79.its x → ∀ y, (k79.F x).eval = some y → (f79_tree x.1.1 x.1.2.1 x.1.2.2.1 x.1.2.2.2.1 x.1.2.2.2.2.1 x.1.2.2.2.2.2.1 x.1.2.2.2.2.2.2.1 x.1.2.2.2.2.2.2.2.1 x.1.2.2.2.2.2.2.2.2.1 x.1.2.2.2.2.2.2.2.2.2.1 x.2.1.1).eval = some y) : k79.Ok Tryz.prog :=
  con_fn [k137, k28] ⟨k137_ok, k28_ok, trivial⟩ (by kernel_rfl) (codeOf_eq (by kernel_rfl)) (by kernel_rfl) (by kernel_rfl) (by kernel_rfl) f79_eq hr
theorem k79_ok : k79.Ok Tryz.prog := by
  refine f79_okp fun x hw y hy => ?_
  obtain ⟨⟨a0, a1, a2, a3, a4, a5, a6, a7, a8, a9, _⟩, ⟨l, _⟩, _⟩ := x
  change (Out.get (szProcV a0 a1 a2 a3 a4 a5 a6 a7 a8 a9 l) fun y => Out.ret (((y, ()), ()), ((), ((), ())))).eval = some y at hy
  obtain ⟨⟨h0, h1⟩, hy⟩ := szP_get hy
  refine Eq.trans ?_ hy
  show (f79_tree a0 a1 a2 a3 a4 a5 a6 a7 a8 a9 l).eval = _
  unfold f79_tree
  have hc : szcProc (a0, a1, a2, a3, (a4, a5, ()), a6, a7, a8, a9, ()) = szcCpu (a4, a5, ()) + szcIntS a6 + szcIntS a7 := rfl
  have e0 : szCpuV a4 a5 (l) = some (if ((szcCpu (a4, a5, ()) : Nat) : Int) ≤ l then l - ((szcCpu (a4, a5, ()) : Nat) : Int) else -1) := szP_in (by omega) (by omega)
  rw [eval_get_some e0]
  by_cases q0 : ((szcCpu (a4, a5, ()) : Nat) : Int) ≤ l
  case neg => rw [if_neg q0, eval_ite_t (by decide), if_neg (by omega)]; try rfl
  rw [if_pos q0, eval_ite_f (decide_eq_false (by omega))]
  have e1 : szIntSV a6 (l - ((szcCpu (a4, a5, ()) : Nat) : Int)) = some (if ((szcIntS a6 : Nat) : Int) ≤ l - ((szcCpu (a4, a5, ()) : Nat) : Int) then l - ((szcCpu (a4, a5, ()) : Nat) : Int) - ((szcIntS a6 : Nat) : Int) else -1) := szP_in (by omega) (by omega)
  rw [eval_get_some e1]
  by_cases q1 : ((szcIntS a6 : Nat) : Int) ≤ l - ((szcCpu (a4, a5, ()) : Nat) : Int)
  case neg => rw [if_neg q1, eval_ite_t (by decide), if_neg (by omega)]; try rfl
  rw [if_pos q1, eval_ite_f (decide_eq_false (by omega))]
  have e2 : szIntSV a7 (l - ((szcCpu (a4, a5, ()) : Nat) : Int) - ((szcIntS a6 : Nat) : Int)) = some (if ((szcIntS a7 : Nat) : Int) ≤ l - ((szcCpu (a4, a5, ()) : Nat) : Int) - ((szcIntS a6 : Nat) : Int) then l - ((szcCpu (a4, a5, ()) : Nat) : Int) - ((szcIntS a6 : Nat) : Int) - ((szcIntS a7 : Nat) : Int) else -1) := szP_in (by omega) (by omega)
  rw [eval_get_some e2]
  by_cases q2 : ((szcIntS a7 : Nat) : Int) ≤ l - ((szcCpu (a4, a5, ()) : Nat) : Int) - ((szcIntS a6 : Nat) : Int)
  case neg => rw [if_neg q2, eval_ite_t (by decide), if_neg (by omega)]; try rfl
  rw [if_pos q2, eval_ite_f (decide_eq_false (by omega))]
  have e : l - ((szcProc (a0, a1, a2, a3, (a4, a5, ()), a6, a7, a8, a9, ()) : Nat) : Int) = l - ((szcCpu (a4, a5, ()) : Nat) : Int) - ((szcIntS a6 : Nat) : Int) - ((szcIntS a7 : Nat) : Int) := by omega
  rw [if_pos (by omega), e]; try rfl
def szcProcS (a : List ProcD) : Nat := a.length + sumBy (fun x => szcProc x) a
abbrev f24_S0 := (List ProcD × Int × Int × Unit) × (Unit)
def f24_L0 (x : f24_S0) : Out (Round f24_S0 ((Int × Unit) × (Unit)) ((Int × Unit) × (Unit))) :=
 .ite (decide (x.1.2.2.1 < ((List.length x.1.1 : Nat) : Int)))
 (.ite (decide (0 ≤ x.1.2.2.1))
 (.get (nth x.1.1 (Int.toNat x.1.2.2.1)) fun y1 =>
 .get (szProcV y1.1 y1.2.1 y1.2.2.1 y1.2.2.2.1 y1.2.2.2.2.1.1 y1.2.2.2.2.1.2.1 y1.2.2.2.2.2.1 y1.2.2.2.2.2.2.1 y1.2.2.2.2.2.2.2.1 y1.2.2.2.2.2.2.2.2.1 x.1.2.1) fun y2 =>
 .ite (decide (y2 < (0 : Int)))
 (.ret (.ret (((-1 : Int), ()), ())))
 (.ret (.again ((x.1.1, y2, (IntKind.i64.wrap (x.1.2.2.1 + (1 : Int))), ()), ()))))
 .fail)
 (.ret (.out ((x.1.2.1, ()), ())))
def f24_tree (a0 : List ProcD) (a1 : Int) : Out (((Int × Unit) × Unit) × (Unit × Unit × Unit)) :=
 .ite (decide ((IntKind.i64.wrap (a1 - ((List.length a0 : Nat) : Int))) < (0 : Int)))
 (.ret ((((-1 : Int), ()), ()), ((), (), ())))
 (.get (iter f24_L0 FUEL ((a0, (IntKind.i64.wrap (a1 - ((List.length a0 : Nat) : Int))), (0 : Int), ()), ())) fun y1 => .alt y1 (fun y2 =>
 .ret (((y2.1.1, ()), ()), ((), (), ()))) (fun y3 =>
 .ret (((y3.1.1, ()), ()), ((), (), ()))))
def f24_A : Nat → Option LoopAnn := fun n => annOf [(0, { head := { t := [.ro (.st (.cons (.int .i64) (.cons (.int .i64) (.cons (.int .i64) (.cons (.int .i64) (.cons (.st (.cons (.int .i64) (.cons (.sl (.int .i64)) .nil))) (.cons (.sl (.int .i64)) (.cons (.sl (.int .i64)) (.cons (.int .i64) (.cons (.int .i64) .nil)))))))))) (some 0), .i .i64, .dead, .dead, .dead, .i .i64] ++ dd 21, v := [] }, out := { t := [.dead, .i .i64] ++ dd 25, v := [] }, ret := some { t := dd 4 ++ [.i .i64] ++ dd 22, v := [] } })] n
def szProcSV (a0 : List ProcD) (l : Int) : Option Int := szP (szcProcS a0) l
def k24 : Con := { f := 24, lend := true, its := [⟨false, false, [.ro (.st (.cons (.int .i64) (.cons (.int .i64) (.cons (.int .i64) (.cons (.int .i64) (.cons (.st (.cons (.int .i64) (.cons (.sl (.int .i64)) .nil))) (.cons (.sl (.int .i64)) (.cons (.sl (.int .i64)) (.cons (.int .i64) (.cons (.int .i64) .nil))))))))))]⟩, ⟨false, false, [.i .i64]⟩], lay := [none, none], rs := [⟨false, false, [.i .i64]⟩], F := fun x => .get (szProcSV x.1.1 x.2.1.1) fun y => .ret (((y, ()), ()), ((), (), ())) }
theorem f24_eq (x : itemsD k24.its) : bodyOut (cxOf [k79]) (f24_A) (codeOf Tryz.f24) k24.its k24.lay Tryz.f24.ntmps k24.rs [.tmp 4] x = f24_tree x.1.1 x.2.1.1 := by kernel_rfl
theorem f24_okp (hr : ∀ x : (List ProcD × Unit) × (Int × Unit) × Unit, itemsWF k24.its x → ∀ y, (k24.F x).eval = some y → (f24_tree x.1.1 x.2.1.1).eval = some y) : k24.Ok Tryz.prog :=
  con_fn [k79] ⟨k79_ok, trivial⟩ (by kernel_rfl) (codeOf_eq (by kernel_rfl)) (by kernel_rfl) (by kernel_rfl) (by kernel_rfl) f24_eq hr
theorem k24_ok : k24.Ok Tryz.prog := by
  refine f24_okp fun x hw y hy => ?_
  obtain ⟨⟨a0, _⟩, ⟨l, _⟩, _⟩ := x
  change (Out.get (szProcSV a0 l) fun y => Out.ret (((y, ()), ()), ((), ((), ())))).eval = some y at hy
  obtain ⟨⟨h0, h1⟩, hy⟩ := szP_get hy
  refine Eq.trans ?_ hy
  show (f24_tree a0 l).eval = _
  unfold f24_tree
  have ha : a0.length ≤ BIG := hw.1.1.1
  have hb : a0.length ≤ 9223372036854775807 := ha
  have w : IntKind.i64.wrap (l - ((a0.length : Nat) : Int)) = l - ((a0.length : Nat) : Int) := wrap_le (by omega) (by omega)
  rw [w]
  unfold szcProcS
  by_cases q : l - ((a0.length : Nat) : Int) < 0
  · rw [eval_ite_t (decide_eq_true q), if_neg (by omega)]; try rfl
  · rw [eval_ite_f (decide_eq_false q)]
    have := sz_loop (f := f24_L0) a0 (fun x : ProcD => szcProc x) (fun l i => ((a0, (l, (((i : Nat) : Int), ()))), ())) (y := fun l => ((l, ()), ())) (z := ((-1, ()), ()))
      (fun i hi l h0 h1 => by
        have h2 := wrap_succ (i := i) (by omega)
        have e : szProcV a0[i].1 a0[i].2.1 a0[i].2.2.1 a0[i].2.2.2.1 a0[i].2.2.2.2.1.1 a0[i].2.2.2.2.1.2.1 a0[i].2.2.2.2.2.1 a0[i].2.2.2.2.2.2.1 a0[i].2.2.2.2.2.2.2.1 a0[i].2.2.2.2.2.2.2.2.1 l = some (if ((szcProc a0[i] : Nat) : Int) ≤ l then l - ((szcProc a0[i] : Nat) : Int) else -1) := szP_in h0 h1
        by_cases q : ((szcProc a0[i] : Nat) : Int) ≤ l
        · have q2 : ¬ l - ((szcProc a0[i] : Nat) : Int) < 0 := by omega
          rw [if_pos q] at e
          simp [f24_L0, Out.eval, hi, h2, e, q, q2]
        · rw [if_neg q] at e
          simp [f24_L0, Out.eval, hi, e, q])
      (fun l => by simp [f24_L0, Out.eval]) ha (l := l - ((a0.length : Nat) : Int)) (by omega) (by omega)
    refine (eval_get_some this).trans ?_
    by_cases q2 : ((sumBy (fun x : ProcD => szcProc x) a0 : Nat) : Int) ≤ l - ((a0.length : Nat) : Int)
    · have e3 : l - ((a0.length : Nat) : Int) - ((sumBy (fun x : ProcD => szcProc x) a0 : Nat) : Int) = l - ((a0.length + sumBy (fun x : ProcD => szcProc x) a0 : Nat) : Int) := by omega
      rw [if_pos q2, if_pos (by omega), ← e3]; rfl
    · rw [if_neg q2, if_neg (by omega)]; rfl
abbrev OpenD := Int × (Int × (Int × (Int × (Int × Unit))))
instance dqOpen : DecidableEq OpenD := (@instDecidableEqProd _ _ inferInstance (@instDecidableEqProd _ _ inferInstance (@instDecidableEqProd _ _ inferInstance (@instDecidableEqProd _ _ inferInstance (@instDecidableEqProd _ _ inferInstance inferInstance)))))
def szcOpen (x : OpenD) : Nat := 0
def szcOpenS (a : List OpenD) : Nat := a.length
def f25_tree (a0 : List OpenD) (a1 : Int) : Out (((Int × Unit) × Unit) × (Unit × Unit × Unit)) :=
 .ite (decide ((IntKind.i64.wrap (a1 - ((List.length a0 : Nat) : Int))) < (0 : Int)))
 (.ret ((((-1 : Int), ()), ()), ((), (), ())))
 (.ret ((((IntKind.i64.wrap (a1 - ((List.length a0 : Nat) : Int))), ()), ()), ((), (), ())))
def szOpenSV (a0 : List OpenD) (l : Int) : Option Int := szP (szcOpenS a0) l
def k25 : Con := { f := 25, lend := true, its := [⟨false, false, [.ro (.st (.cons (.int .i64) (.cons (.int .i64) (.cons (.int .i64) (.cons (.int .i64) (.cons (.int .i64) .nil))))))]⟩, ⟨false, false, [.i .i64]⟩], lay := [none, none], rs := [⟨false, false, [.i .i64]⟩], F := fun x => .get (szOpenSV x.1.1 x.2.1.1) fun y => .ret (((y, ()), ()), ((), (), ())) }
theorem f25_eq (x : itemsD k25.its) : bodyOut (cxOf []) (fun _ => none) (codeOf Tryz.f25) k25.its k25.lay Tryz.f25.ntmps k25.rs [.tmp 4] x = f25_tree x.1.1 x.2.1.1 := by kernel_rfl
theorem f25_okp (hr : ∀ x : (List OpenD × Unit) × (Int × Unit) × Unit, itemsWF k25.its x → ∀ y, (k25.F x).eval = some y → (f25_tree x.1.1 x.2.1.1).eval = some y) : k25.Ok Tryz.prog :=
  con_fn [] trivial (by kernel_rfl) (codeOf_eq (by kernel_rfl)) (by kernel_rfl) (by kernel_rfl) (by kernel_rfl) f25_eq hr
theorem k25_ok : k25.Ok Tryz.prog := by
  refine f25_okp fun x hw y hy => ?_
  obtain ⟨⟨a0, _⟩, ⟨l, _⟩, _⟩ := x
  change (Out.get (szOpenSV a0 l) fun y => Out.ret (((y, ()), ()), ((), ((), ())))).eval = some y at hy
  obtain ⟨⟨h0, h1⟩, hy⟩ := szP_get hy
  refine Eq.trans ?_ hy
  show (f25_tree a0 l).eval = _
  unfold f25_tree
  have ha : a0.length ≤ BIG := hw.1.1.1
  have hb : a0.length ≤ 9223372036854775807 := ha
  have w : IntKind.i64.wrap (l - ((a0.length : Nat) : Int)) = l - ((a0.length : Nat) : Int) := wrap_le (by omega) (by omega)
  rw [w]
  unfold szcOpenS
  by_cases q : l - ((a0.length : Nat) : Int) < 0
  · rw [eval_ite_t (decide_eq_true q), if_neg (by omega)]; try rfl
  · rw [eval_ite_f (decide_eq_false q), if_pos (by omega)]; try rfl
def f80_tree (a0 : Int) (a1 : List Int) (a2 : Int) : Out (((Int × Unit) × Unit) × (Unit × Unit × Unit)) :=
 .get (szIntSV a1 a2) fun y1 =>
 .ite (decide (y1 < (0 : Int)))
 (.ret ((((-1 : Int), ()), ()), ((), (), ())))
 (.ret (((y1, ()), ()), ((), (), ())))
def k80 : Con := { f := 80, lend := true, its := [⟨false, true, [.i .i64, .ro (.int .i64)]⟩, ⟨false, false, [.i .i64]⟩], lay := [none, none], rs := [⟨false, false, [.i .i64]⟩], F := fun x => .get (szCpuV x.1.1 x.1.2.1 x.2.1.1) fun y => .ret (((y, ()), ()), ((), (), ())) }
theorem f80_eq (x : itemsD k80.its) : bodyOut (cxOf [k28]) (fun _ => none) (codeOf Tryz.f80) k80.its k80.lay Tryz.f80.ntmps k80.rs [.tmp 4] x = f80_tree x.1.1 x.1.2.1 x.2.1.1 := by kernel_rfl
theorem f80_okp (hr : ∀ x : CpuD × (Int × Unit) × Unit, itemsWF k80.its x → ∀ y, (k80.F x).eval = some y → (f80_tree x.1.1 x.1.2.1 x.2.1.1).eval = some y) : k80.Ok Tryz.prog :=
  con_fn [k28] ⟨k28_ok, trivial⟩ (by kernel_rfl) (codeOf_eq (by kernel_rfl)) (by kernel_rfl) (by kernel_rfl) (by kernel_rfl) f80_eq hr
theorem k80_ok : k80.Ok Tryz.prog := by
  refine f80_okp fun x hw y hy => ?_
  obtain ⟨⟨a0, a1, _⟩, ⟨l, _⟩, _⟩ := x
  change (Out.get (szCpuV a0 a1 l) fun y => Out.ret (((y, ()), ()), ((), ((), ())))).eval = some y at hy
  obtain ⟨⟨h0, h1⟩, hy⟩ := szP_get hy
  refine Eq.trans ?_ hy
  show (f80_tree a0 a1 l).eval = _
  unfold f80_tree
  have hc : szcCpu (a0, a1, ()) = szcIntS a1 := rfl
  have e0 : szIntSV a1 (l) = some (if ((szcIntS a1 : Nat) : Int) ≤ l then l - ((szcIntS a1 : Nat) : Int) else -1) := szP_in (by omega) (by omega)
  rw [eval_get_some e0]
  by_cases q0 : ((szcIntS a1 : Nat) : Int) ≤ l
  case neg => rw [if_neg q0, eval_ite_t (by decide), if_neg (by omega)]; try rfl
  rw [if_pos q0, eval_ite_f (decide_eq_false (by omega))]
  have e : l - ((szcCpu (a0, a1, ()) : Nat) : Int) = l - ((szcIntS a1 : Nat) : Int) := by omega
  rw [if_pos (by omega), e]; try rfl
def szcCpuS (a : List CpuD) : Nat := a.length + sumBy (fun x => szcCpu x) a
abbrev f26_S0 := (List CpuD × Int × Int × Unit) × (Unit)
def f26_L0 (x : f26_S0) : Out (Round f26_S0 ((Int × Unit) × (Unit)) ((Int × Unit) × (Unit))) :=
 .ite (decide (x.1.2.2.1 < ((List.length x.1.1 : Nat) : Int)))
 (.ite (decide (0 ≤ x.1.2.2.1))
 (.get (nth x.1.1 (Int.toNat x.1.2.2.1)) fun y1 =>
 .get (szCpuV y1.1 y1.2.1 x.1.2.1) fun y2 =>
 .ite (decide (y2 < (0 : Int)))
 (.ret (.ret (((-1 : Int), ()), ())))
 (.ret (.again ((x.1.1, y2, (IntKind.i64.wrap (x.1.2.2.1 + (1 : Int))), ()), ()))))
 .fail)
 (.ret (.out ((x.1.2.1, ()), ())))
def f26_tree (a0 : List CpuD) (a1 : Int) : Out (((Int × Unit) × Unit) × (Unit × Unit × Unit)) :=
 .ite (decide ((IntKind.i64.wrap (a1 - ((List.length a0 : Nat) : Int))) < (0 : Int)))
 (.ret ((((-1 : Int), ()), ()), ((), (), ())))
 (.get (iter f26_L0 FUEL ((a0, (IntKind.i64.wrap (a1 - ((List.length a0 : Nat) : Int))), (0 : Int), ()), ())) fun y1 => .alt y1 (fun y2 =>
 .ret (((y2.1.1, ()), ()), ((), (), ()))) (fun y3 =>
 .ret (((y3.1.1, ()), ()), ((), (), ()))))
def f26_A : Nat → Option LoopAnn := fun n => annOf [(0, { head := { t := [.ro (.st (.cons (.int .i64) (.cons (.sl (.int .i64)) .nil))) (some 0), .i .i64, .dead, .dead, .dead, .i .i64] ++ dd 21, v := [] }, out := { t := [.dead, .i .i64] ++ dd 25, v := [] }, ret := some { t := dd 4 ++ [.i .i64] ++ dd 22, v := [] } })] n
def szCpuSV (a0 : List CpuD) (l : Int) : Option Int := szP (szcCpuS a0) l
def k26 : Con := { f := 26, lend := true, its := [⟨false, false, [.ro (.st (.cons (.int .i64) (.cons (.sl (.int .i64)) .nil)))]⟩, ⟨false, false, [.i .i64]⟩], lay := [none, none], rs := [⟨false, false, [.i .i64]⟩], F := fun x => .get (szCpuSV x.1.1 x.2.1.1) fun y => .ret (((y, ()), ()), ((), (), ())) }
theorem f26_eq (x : itemsD k26.its) : bodyOut (cxOf [k80]) (f26_A) (codeOf Tryz.f26) k26.its k26.lay Tryz.f26.ntmps k26.rs [.tmp 4] x = f26_tree x.1.1 x.2.1.1 := by kernel_rfl
theorem f26_okp (hr : ∀ x : (List CpuD × Unit) × (Int × Unit) × Unit, itemsWF k26.its x → ∀ y, (k26.F x).eval = some y → (f26_tree x.1.1 x.2.1.1).eval = some y) : k26.Ok Tryz.prog :=
  con_fn [k80] ⟨k80_ok, trivial⟩ (by kernel_rfl) (codeOf_eq (by kernel_rfl)) (by kernel_rfl) (by kernel_rfl) (by kernel_rfl) f26_eq hr
theorem k26_ok : k26.Ok Tryz.prog := by
  refine f26_okp fun x hw y hy => ?_
  obtain ⟨⟨a0, _⟩, ⟨l, _⟩, _⟩ := x
  change (Out.get (szCpuSV a0 l) fun y => Out.ret (((y, ()), ()), ((), ((), ())))).eval = some y at hy
  obtain ⟨⟨h0, h1⟩, hy⟩ := szP_get hy
  refine Eq.trans ?_ hy
  show (f26_tree a0 l).eval = _
  unfold f26_tree
  have ha : a0.length ≤ BIG := hw.1.1.1
  have hb : a0.length ≤ 9223372036854775807 := ha
  have w : IntKind.i64.wrap (l - ((a0.length : Nat) : Int)) = l - ((a0.length : Nat) : Int) := wrap_le (by omega) (by omega)
  rw [w]
  unfold szcCpuS
  by_cases q : l - ((a0.length : Nat) : Int) < 0
  · rw [eval_ite_t (decide_eq_true q), if_neg (by omega)]; try rfl
  · rw [eval_ite_f (decide_eq_false q)]
    have := sz_loop (f := f26_L0) a0 (fun x : CpuD => szcCpu x) (fun l i => ((a0, (l, (((i : Nat) : Int), ()))), ())) (y := fun l => ((l, ()), ())) (z := ((-1, ()), ()))
      (fun i hi l h0 h1 => by
        have h2 := wrap_succ (i := i) (by omega)
        have e : szCpuV a0[i].1 a0[i].2.1 l = some (if ((szcCpu a0[i] : Nat) : Int) ≤ l then l - ((szcCpu a0[i] : Nat) : Int) else -1) := szP_in h0 h1
        by_cases q : ((szcCpu a0[i] : Nat) : Int) ≤ l
        · have q2 : ¬ l - ((szcCpu a0[i] : Nat) : Int) < 0 := by omega
          rw [if_pos q] at e
          simp [f26_L0, Out.eval, hi, h2, e, q, q2]
        · rw [if_neg q] at e
          simp [f26_L0, Out.eval, hi, e, q])
      (fun l => by simp [f26_L0, Out.eval]) ha (l := l - ((a0.length : Nat) : Int)) (by omega) (by omega)
    refine (eval_get_some this).trans ?_
    by_cases q2 : ((sumBy (fun x : CpuD => szcCpu x) a0 : Nat) : Int) ≤ l - ((a0.length : Nat) : Int)
    · have e3 : l - ((a0.length : Nat) : Int) - ((sumBy (fun x : CpuD => szcCpu x) a0 : Nat) : Int) = l - ((a0.length + sumBy (fun x : CpuD => szcCpu x) a0 : Nat) : Int) := by omega
      rw [if_pos q2, if_pos (by omega), ← e3]; rfl
    · rw [if_neg q2, if_neg (by omega)]; rfl
def f81_tree (a0 : Int) (a1 : List Int) (a2 : Int) : Out (((Int × Unit) × Unit) × (Unit × Unit × Unit)) :=
 .get (szIntSV a1 a2) fun y1 =>
 .ite (decide (y1 < (0 : Int)))
 (.ret ((((-1 : Int), ()), ()), ((), (), ())))
 (.ret (((y1, ()), ()), ((), (), ())))
def k81 : Con := { f := 81, lend := true, its := [⟨false, true, [.i .i64, .ro (.int .i64)]⟩, ⟨false, false, [.i .i64]⟩], lay := [none, none], rs := [⟨false, false, [.i .i64]⟩], F := fun x => .get (szCpuV x.1.1 x.1.2.1 x.2.1.1) fun y => .ret (((y, ()), ()), ((), (), ())) }
theorem f81_eq (x : itemsD k81.its) : bodyOut (cxOf [k28]) (fun _ => none) (codeOf Tryz.f81) k81.its k81.lay Tryz.f81.ntmps k81.rs [.tmp 4] x = f81_tree x.1.1 x.1.2.1 x.2.1.1 := by kernel_rfl
theorem f81_okp (hr : ∀ x : CpuD × (Int × Unit) × Unit, itemsWF k81.its x → ∀ y, (k81.F x).eval = some y → (f81_tree x.1.1 x.1.2.1 x.2.1.1).eval = some y) : k81.Ok Tryz.prog :=
  con_fn [k28] ⟨k28_ok, trivial⟩ (by kernel_rfl) (codeOf_eq (by kernel_rfl)) (by kernel_rfl) (by kernel_rfl) (by kernel_rfl) f81_eq hr
theorem k81_ok : k81.Ok Tryz.prog := by
  refine f81_okp fun x hw y hy => ?_
  obtain ⟨⟨a0, a1, _⟩, ⟨l, _⟩, _⟩ := x
  change (Out.get (szCpuV a0 a1 l) fun y => Out.ret (((y, ()), ()), ((), ((), ())))).eval = some y at hy
  obtain ⟨⟨h0, h1⟩, hy⟩ := szP_get hy
  refine Eq.trans ?_ hy
  show (f81_tree a0 a1 l).eval = _
  unfold f81_tree
  have hc : szcCpu (a0, a1, ()) = szcIntS a1 := rfl
  have e0 : szIntSV a1 (l) = some (if ((szcIntS a1 : Nat) : Int) ≤ l then l - ((szcIntS a1 : Nat) : Int) else -1) := szP_in (by omega) (by omega)
  rw [eval_get_some e0]
  by_cases q0 : ((szcIntS a1 : Nat) : Int) ≤ l
  case neg => rw [if_neg q0, eval_ite_t (by decide), if_neg (by omega)]; try rfl
  rw [if_pos q0, eval_ite_f (decide_eq_false (by omega))]
  have e : l - ((szcCpu (a0, a1, ()) : Nat) : Int) = l - ((szcIntS a1 : Nat) : Int) := by omega
  rw [if_pos (by omega), e]; try rfl
abbrev f27_S0 := (List CpuD × Int × Int × Unit) × (Unit)
def f27_L0 (x : f27_S0) : Out (Round f27_S0 ((Int × Unit) × (Unit)) ((Int × Unit) × (Unit))) :=
 .ite (decide (x.1.2.2.1 < ((List.length x.1.1 : Nat) : Int)))
 (.ite (decide (0 ≤ x.1.2.2.1))
 (.get (nth x.1.1 (Int.toNat x.1.2.2.1)) fun y1 =>
 .get (szCpuV y1.1 y1.2.1 x.1.2.1) fun y2 =>
 .ite (decide (y2 < (0 : Int)))
 (.ret (.ret (((-1 : Int), ()), ())))
 (.ret (.again ((x.1.1, y2, (IntKind.i64.wrap (x.1.2.2.1 + (1 : Int))), ()), ()))))
 .fail)
 (.ret (.out ((x.1.2.1, ()), ())))
def f27_tree (a0 : List CpuD) (a1 : Int) : Out (((Int × Unit) × Unit) × (Unit × Unit × Unit)) :=
 .ite (decide ((IntKind.i64.wrap (a1 - ((List.length a0 : Nat) : Int))) < (0 : Int)))
 (.ret ((((-1 : Int), ()), ()), ((), (), ())))
 (.get (iter f27_L0 FUEL ((a0, (IntKind.i64.wrap (a1 - ((List.length a0 : Nat) : Int))), (0 : Int), ()), ())) fun y1 => .alt y1 (fun y2 =>
 .ret (((y2.1.1, ()), ()), ((), (), ()))) (fun y3 =>
 .ret (((y3.1.1, ()), ()), ((), (), ()))))
def f27_A : Nat → Option LoopAnn := fun n => annOf [(0, { head := { t := [.ro (.st (.cons (.int .i64) (.cons (.sl (.int .i64)) .nil))) (some 0), .i .i64, .dead, .dead, .dead, .i .i64] ++ dd 21, v := [] }, out := { t := [.dead, .i .i64] ++ dd 25, v := [] }, ret := some { t := dd 4 ++ [.i .i64] ++ dd 22, v := [] } })] n
def k27 : Con := { f := 27, lend := true, its := [⟨false, false, [.ro (.st (.cons (.int .i64) (.cons (.sl (.int .i64)) .nil)))]⟩, ⟨false, false, [.i .i64]⟩], lay := [none, none], rs := [⟨false, false, [.i .i64]⟩], F := fun x => .get (szCpuSV x.1.1 x.2.1.1) fun y => .ret (((y, ()), ()), ((), (), ())) }
theorem f27_eq (x : itemsD k27.its) : bodyOut (cxOf [k81]) (f27_A) (codeOf Tryz.f27) k27.its k27.lay Tryz.f27.ntmps k27.rs [.tmp 4] x = f27_tree x.1.1 x.2.1.1 := by kernel_rfl
theorem f27_okp (hr : ∀ x : (List CpuD × Unit) × (Int × Unit) × Unit, itemsWF k27.its x → ∀ y, (k27.F x).eval = some y → (f27_tree x.1.1 x.2.1.1).eval = some y) : k27.Ok Tryz.prog :=
  con_fn [k81] ⟨k81_ok, trivial⟩ (by kernel_rfl) (codeOf_eq (by kernel_rfl)) (by kernel_rfl) (by kernel_rfl) (by kernel_rfl) f27_eq hr
theorem k27_ok : k27.Ok Tryz.prog := by
  refine f27_okp fun x hw y hy => ?_
  obtain ⟨⟨a0, _⟩, ⟨l, _⟩, _⟩ := x
  change (Out.get (szCpuSV a0 l) fun y => Out.ret (((y, ()), ()), ((), ((), ())))).eval = some y at hy
  obtain ⟨⟨h0, h1⟩, hy⟩ := szP_get hy
  refine Eq.trans ?_ hy
  show (f27_tree a0 l).eval = _
  unfold f27_tree
  have ha : a0.length ≤ BIG := hw.1.1.1
  have hb : a0.length ≤ 9223372036854775807 := ha
  have w : IntKind.i64.wrap (l - ((a0.length : Nat) : Int)) = l - ((a0.length : Nat) : Int) := wrap_le (by omega) (by omega)
  rw [w]
  unfold szcCpuS
  by_cases q : l - ((a0.length : Nat) : Int) < 0
  · rw [eval_ite_t (decide_eq_true q), if_neg (by omega)]; try rfl
  · rw [eval_ite_f (decide_eq_false q)]
    have := sz_loop (f := f27_L0) a0 (fun x : CpuD => szcCpu x) (fun l i => ((a0, (l, (((i : Nat) : Int), ()))), ())) (y := fun l => ((l, ()), ())) (z := ((-1, ()), ()))
      (fun i hi l h0 h1 => by
        have h2 := wrap_succ (i := i) (by omega)
        have e : szCpuV a0[i].1 a0[i].2.1 l = some (if ((szcCpu a0[i] : Nat) : Int) ≤ l then l - ((szcCpu a0[i] : Nat) : Int) else -1) := szP_in h0 h1
        by_cases q : ((szcCpu a0[i] : Nat) : Int) ≤ l
        · have q2 : ¬ l - ((szcCpu a0[i] : Nat) : Int) < 0 := by omega
          rw [if_pos q] at e
          simp [f27_L0, Out.eval, hi, h2, e, q, q2]
        · rw [if_neg q] at e
          simp [f27_L0, Out.eval, hi, e, q])
      (fun l => by simp [f27_L0, Out.eval]) ha (l := l - ((a0.length : Nat) : Int)) (by omega) (by omega)
    refine (eval_get_some this).trans ?_
    by_cases q2 : ((sumBy (fun x : CpuD => szcCpu x) a0 : Nat) : Int) ≤ l - ((a0.length : Nat) : Int)
    · have e3 : l - ((a0.length : Nat) : Int) - ((sumBy (fun x : CpuD => szcCpu x) a0 : Nat) : Int) = l - ((a0.length + sumBy (fun x : CpuD => szcCpu x) a0 : Nat) : Int) := by omega
      rw [if_pos q2, if_pos (by omega), ← e3]; rfl
    · rw [if_neg q2, if_neg (by omega)]; rfl
abbrev UnixD := Int × (Int × (List (List InsD) × (List ProcD × (List OpenD × (List CpuD × (List CpuD × (List Int × (List Int × Unit))))))))
instance dqUnix : DecidableEq UnixD := (@instDecidableEqProd _ _ inferInstance (@instDecidableEqProd _ _ inferInstance (@instDecidableEqProd _ _ inferInstance (@instDecidableEqProd _ _ inferInstance (@instDecidableEqProd _ _ inferInstance (@instDecidableEqProd _ _ inferInstance (@instDecidableEqProd _ _ inferInstance (@instDecidableEqProd _ _ inferInstance (@instDecidableEqProd _ _ inferInstance inferInstance)))))))))
def szcUnix (x : UnixD) : Nat := szcInsSS x.2.2.1 + szcProcS x.2.2.2.1 + szcOpenS x.2.2.2.2.1 + szcCpuS x.2.2.2.2.2.1 + szcCpuS x.2.2.2.2.2.2.1 + szcIntS x.2.2.2.2.2.2.2.1 + szcIntS x.2.2.2.2.2.2.2.2.1
def f7_tree (a0 : Int) (a1 : Int) (a2 : List (List InsD)) (a3 : List ProcD) (a4 : List OpenD) (a5 : List CpuD) (a6 : List CpuD) (a7 : List Int) (a8 : List Int) (a9 : Int) : Out (((Int × Unit) × Unit) × (Unit × Unit × Unit)) :=
 .get (szInsSSV a2 a9) fun y1 =>
 .ite (decide (y1 < (0 : Int)))
 (.ret ((((-1 : Int), ()), ()), ((), (), ())))
 (.get (szProcSV a3 y1) fun y2 =>
 .ite (decide (y2 < (0 : Int)))
 (.ret ((((-1 : Int), ()), ()), ((), (), ())))
 (.get (szOpenSV a4 y2) fun y3 =>
 .ite (decide (y3 < (0 : Int)))
 (.ret ((((-1 : Int), ()), ()), ((), (), ())))
 (.get (szCpuSV a5 y3) fun y4 =>
 .ite (decide (y4 < (0 : Int)))
 (.ret ((((-1 : Int), ()), ()), ((), (), ())))
 (.get (szCpuSV a6 y4) fun y5 =>
 .ite (decide (y5 < (0 : Int)))
 (.ret ((((-1 : Int), ()), ()), ((), (), ())))
 (.get (szIntSV a7 y5) fun y6 =>
 .ite (decide (y6 < (0 : Int)))
 (.ret ((((-1 : Int), ()), ()), ((), (), ())))
 (.get (szIntSV a8 y6) fun y7 =>
 .ite (decide (y7 < (0 : Int)))
 (.ret ((((-1 : Int), ()), ()), ((), (), ())))
 (.ret (((y7, ()), ()), ((), (), ())))))))))
def szUnixV (a0 : Int) (a1 : Int) (a2 : List (List InsD)) (a3 : List ProcD) (a4 : List OpenD) (a5 : List CpuD) (a6 : List CpuD) (a7 : List Int) (a8 : List Int) (l : Int) : Option Int := szP (szcUnix (a0, a1, a2, a3, a4, a5, a6, a7, a8, ())) l
def k7 : Con := { f := 7, lend := true, its := [⟨false, true, [.i .i64, .i .i64, .ro (.sl (.st (.cons (.int .i64) (.cons (.int .i64) (.cons (.int .i64) (.cons (.int .i64) .nil)))))), .ro (.st (.cons (.int .i64) (.cons (.int .i64) (.cons (.int .i64) (.cons (.int .i64) (.cons (.st (.cons (.int .i64) (.cons (.sl (.int .i64)) .nil))) (.cons (.sl (.int .i64)) (.cons (.sl (.int .i64)) (.cons (.int .i64) (.cons (.int .i64) .nil)))))))))), .ro (.st (.cons (.int .i64) (.cons (.int .i64) (.cons (.int .i64) (.cons (.int .i64) (.cons (.int .i64) .nil)))))), .ro (.st (.cons (.int .i64) (.cons (.sl (.int .i64)) .nil))), .ro (.st (.cons (.int .i64) (.cons (.sl (.int .i64)) .nil))), .ro (.int .i64), .ro (.int .i64)]⟩, ⟨false, false, [.i .i64]⟩], lay := [none, none], rs := [⟨false, false, [.i .i64]⟩], F := fun x => .get (szUnixV x.1.1 x.1.2.1 x.1.2.2.1 x.1.2.2.2.1 x.1.2.2.2.2.1 x.1.2.2.2.2.2.1 x.1.2.2.2.2.2.2.1 x.1.2.2.2.2.2.2.2.1 x.1.2.2.2.2.2.2.2.2.1 x.2.1.1) fun y => .ret (((y, ()), ()), ((), (), ())) }
theorem f7_eq (x : itemsD k7.its) : bodyOut (cxOf [k23, k24, k25, k26, k27, k28]) (fun _ => none) (codeOf Tryz.f7) k7.its k7.lay Tryz.f7.ntmps k7.rs [.tmp 4] x = f7_tree x.1.1 x.1.2.1 x.1.2.2.1 x.1.2.2.2.1 x.1.2.2.2.2.1 x.1.2.2.2.2.2.1 x.1.2.2.2.2.2.2.1 x.1.2.2.2.2.2.2.2.1 x.1.2.2.2.2.2.2.2.2.1 x.2.1.1 := by kernel_rfl
theorem f7_okp (hr : ∀ x : UnixD × (Int × Unit) × Unit, itemsWF k7.its x → ∀ y, (k7.F x).eval = some y → (f7_tree x.1.1 x.1.2.1 x.1.2.2.1 x.1.2.2.2.1 x.1.2.2.2.2.1 x.1.2.2.2.2.2.1 x.1.2.2.2.2.2.2.1 x.1.2.2.2.2.2.2.2.1 x.1.2.2.2.2.2.2.2.2.1 x.2.1.1).eval = some y) : k7.Ok Tryz.prog :=
  con_fn [k23, k24, k25, k26, k27, k28] ⟨k23_ok, k24_ok, k25_ok, k26_ok, k27_ok, k28_ok, trivial⟩ (by kernel_rfl) (codeOf_eq (by kernel_rfl)) (by kernel_rfl) (by kernel_rfl) (by kernel_rfl) f7_eq hr
theorem k7_ok : k7.Ok Tryz.prog := by
  refine f7_okp fun x hw y hy => ?_
  obtain ⟨⟨a0, a1, a2, a3, a4, a5, a6, a7, a8, _⟩, ⟨l, _⟩, _⟩ := x
  change (Out.get (szUnixV a0 a1 a2 a3 a4 a5 a6 a7 a8 l) fun y => Out.ret (((y, ()), ()), ((), ((), ())))).eval = some y at hy
  obtain ⟨⟨h0, h1⟩, hy⟩ := szP_get hy
  refine Eq.trans ?_ hy
  show (f7_tree a0 a1 a2 a3 a4 a5 a6 a7 a8 l).eval = _
  unfold f7_tree
  have hc : szcUnix (a0, a1, a2, a3, a4, a5, a6, a7, a8, ()) = szcInsSS a2 + szcProcS a3 + szcOpenS a4 + szcCpuS a5 + szcCpuS a6 + szcIntS a7 + szcIntS a8 := rfl
  have e0 : szInsSSV a2 (l) = some (if ((szcInsSS a2 : Nat) : Int) ≤ l then l - ((szcInsSS a2 : Nat) : Int) else -1) := szP_in (by omega) (by omega)
  rw [eval_get_some e0]
  by_cases q0 : ((szcInsSS a2 : Nat) : Int) ≤ l
  case neg => rw [if_neg q0, eval_ite_t (by decide), if_neg (by omega)]; try rfl
  rw [if_pos q0, eval_ite_f (decide_eq_false (by omega))]
  have e1 : szProcSV a3 (l - ((szcInsSS a2 : Nat) : Int)) = some (if ((szcProcS a3 : Nat) : Int) ≤ l - ((szcInsSS a2 : Nat) : Int) then l - ((szcInsSS a2 : Nat) : Int) - ((szcProcS a3 : Nat) : Int) else -1) := szP_in (by omega) (by omega)
  rw [eval_get_some e1]
  by_cases q1 : ((szcProcS a3 : Nat) : Int) ≤ l - ((szcInsSS a2 : Nat) : Int)
  case neg => rw [if_neg q1, eval_ite_t (by decide), if_neg (by omega)]; try rfl
  rw [if_pos q1, eval_ite_f (decide_eq_false (by omega))]
  have e2 : szOpenSV a4 (l - ((szcInsSS a2 : Nat) : Int) - ((szcProcS a3 : Nat) : Int)) = some (if ((szcOpenS a4 : Nat) : Int) ≤ l - ((szcInsSS a2 : Nat) : Int) - ((szcProcS a3 : Nat) : Int) then l - ((szcInsSS a2 : Nat) : Int) - ((szcProcS a3 : Nat) : Int) - ((szcOpenS a4 : Nat) : Int) else -1) := szP_in (by omega) (by omega)
  rw [eval_get_some e2]
  by_cases q2 : ((szcOpenS a4 : Nat) : Int) ≤ l - ((szcInsSS a2 : Nat) : Int) - ((szcProcS a3 : Nat) : Int)
  case neg => rw [if_neg q2, eval_ite_t (by decide), if_neg (by omega)]; try rfl
  rw [if_pos q2, eval_ite_f (decide_eq_false (by omega))]
  have e3 : szCpuSV a5 (l - ((szcInsSS a2 : Nat) : Int) - ((szcProcS a3 : Nat) : Int) - ((szcOpenS a4 : Nat) : Int)) = some (if ((szcCpuS a5 : Nat) : Int) ≤ l - ((szcInsSS a2 : Nat) : Int) - ((szcProcS a3 : Nat) : Int) - ((szcOpenS a4 : Nat) : Int) then l - ((szcInsSS a2 : Nat) : Int) - ((szcProcS a3 : Nat) : Int) - ((szcOpenS a4 : Nat) : Int) - ((szcCpuS a5 : Nat) : Int) else -1) := szP_in (by omega) (by omega)
  rw [eval_get_some e3]
  by_cases q3 : ((szcCpuS a5 : Nat) : Int) ≤ l - ((szcInsSS a2 : Nat) : Int) - ((szcProcS a3 : Nat) : Int) - ((szcOpenS a4 : Nat) : Int)
  case neg => rw [if_neg q3, eval_ite_t (by decide), if_neg (by omega)]; try rfl
  rw [if_pos q3, eval_ite_f (decide_eq_false (by omega))]
  have e4 : szCpuSV a6 (l - ((szcInsSS a2 : Nat) : Int) - ((szcProcS a3 : Nat) : Int) - ((szcOpenS a4 : Nat) : Int) - ((szcCpuS a5 : Nat) : Int)) = some (if ((szcCpuS a6 : Nat) : Int) ≤ l - ((szcInsSS a2 : Nat) : Int) - ((szcProcS a3 : Nat) : Int) - ((szcOpenS a4 : Nat) : Int) - ((szcCpuS a5 : Nat) : Int) then l - ((szcInsSS a2 : Nat) : Int) - ((szcProcS a3 : Nat) : Int) - ((szcOpenS a4 : Nat) : Int) - ((szcCpuS a5 : Nat) : Int) - ((szcCpuS a6 : Nat) : Int) else -1) := szP_in (by omega) (by omega)
  rw [eval_get_some e4]
  by_cases q4 : ((szcCpuS a6 : Nat) : Int) ≤ l - ((szcInsSS a2 : Nat) : Int) - ((szcProcS a3 : Nat) : Int) - ((szcOpenS a4 : Nat) : Int) - ((szcCpuS a5 : Nat) : Int)
  case neg => rw [if_neg q4, eval_ite_t (by decide), if_neg (by omega)]; try rfl
  rw [if_pos q4, eval_ite_f (decide_eq_false (by omega))]
  have e5 : szIntSV a7 (l - ((szcInsSS a2 : Nat) : Int) - ((szcProcS a3 : Nat) : Int) - ((szcOpenS a4 : Nat) : Int) - ((szcCpuS a5 : Nat) : Int) - ((szcCpuS a6 : Nat) : Int)) = some (if ((szcIntS a7 : Nat) : Int) ≤ l - ((szcInsSS a2 : Nat) : Int) - ((szcProcS a3 : Nat) : Int) - ((szcOpenS a4 : Nat) : Int) - ((szcCpuS a5 : Nat) : Int) - ((szcCpuS a6 : Nat) : Int) then l - ((szcInsSS a2 : Nat) : Int) - ((szcProcS a3 : Nat) : Int) - ((szcOpenS a4 : Nat) : Int) - ((szcCpuS a5 : Nat) : Int) - ((szcCpuS a6 : Nat) : Int) - ((szcIntS a7 : Nat) : Int) else -1) := szP_in (by omega) (by omega)
  rw [eval_get_some e5]
  by_cases q5 : ((szcIntS a7 : Nat) : Int) ≤ l - ((szcInsSS a2 : Nat) : Int) - ((szcProcS a3 : Nat) : Int) - ((szcOpenS a4 : Nat) : Int) - ((szcCpuS a5 : Nat) : Int) - ((szcCpuS a6 : Nat) : Int)
  case neg => rw [if_neg q5, eval_ite_t (by decide), if_neg (by omega)]; try rfl
  rw [if_pos q5, eval_ite_f (decide_eq_false (by omega))]
  have e6 : szIntSV a8 (l - ((szcInsSS a2 : Nat) : Int) - ((szcProcS a3 : Nat) : Int) - ((szcOpenS a4 : Nat) : Int) - ((szcCpuS a5 : Nat) : Int) - ((szcCpuS a6 : Nat) : Int) - ((szcIntS a7 : Nat) : Int)) = some (if ((szcIntS a8 : Nat) : Int) ≤ l - ((szcInsSS a2 : Nat) : Int) - ((szcProcS a3 : Nat) : Int) - ((szcOpenS a4 : Nat) : Int) - ((szcCpuS a5 : Nat) : Int) - ((szcCpuS a6 : Nat) : Int) - ((szcIntS a7 : Nat) : Int) then l - ((szcInsSS a2 : Nat) : Int) - ((szcProcS a3 : Nat) : Int) - ((szcOpenS a4 : Nat) : Int) - ((szcCpuS a5 : Nat) : Int) - ((szcCpuS a6 : Nat) : Int) - ((szcIntS a7 : Nat) : Int) - ((szcIntS a8 : Nat) : Int) else -1) := szP_in (by omega) (by omega)
  rw [eval_get_some e6]
  by_cases q6 : ((szcIntS a8 : Nat) : Int) ≤ l - ((szcInsSS a2 : Nat) : Int) - ((szcProcS a3 : Nat) : Int) - ((szcOpenS a4 : Nat) : Int) - ((szcCpuS a5 : Nat) : Int) - ((szcCpuS a6 : Nat) : Int) - ((szcIntS a7 : Nat) : Int)
  case neg => rw [if_neg q6, eval_ite_t (by decide), if_neg (by omega)]; try rfl
  rw [if_pos q6, eval_ite_f (decide_eq_false (by omega))]
  have e : l - ((szcUnix (a0, a1, a2, a3, a4, a5, a6, a7, a8, ()) : Nat) : Int) = l - ((szcInsSS a2 : Nat) : Int) - ((szcProcS a3 : Nat) : Int) - ((szcOpenS a4 : Nat) : Int) - ((szcCpuS a5 : Nat) : Int) - ((szcCpuS a6 : Nat) : Int) - ((szcIntS a7 : Nat) : Int) - ((szcIntS a8 : Nat) : Int) := by omega
  rw [if_pos (by omega), e]; try rfl
abbrev f37_S0 := (List Int × Int × Unit) × (List Int × Unit)
def f37_L0 (x : f37_S0) : Out (Round f37_S0 ((Unit) × (List Int × Unit)) Empty) :=
 .ite (decide (x.1.2.1 < ((List.length x.1.1 : Nat) : Int)))
 (.ite (decide (0 ≤ x.1.2.1))
 (.get (nth x.1.1 (Int.toNat x.1.2.1)) fun y1 =>
 .ite (decide (0 ≤ x.1.2.1 ∧ x.1.2.1 < ((List.length x.2.1 : Nat) : Int)))
 (.get (nth x.2.1 (Int.toNat x.1.2.1)) fun y2 =>
 .ret (.again ((x.1.1, (IntKind.i64.wrap (x.1.2.1 + (1 : Int))), ()), ((List.set x.2.1 (Int.toNat x.1.2.1) y1), ()))))
 .fail)
 .fail)
 (.ret (.out ((), (x.2.1, ()))))
def f37_tree (a0 : List Int) : Out (((List Int × Unit) × Unit) × (Unit × Unit)) :=
 .ite (decide (0 ≤ ((List.length a0 : Nat) : Int) ∧ ((List.length a0 : Nat) : Int) ≤ ((List.length a0 : Nat) : Int) ∧ ((List.length a0 : Nat) : Int) ≤ (LIM : Int)))
 (.get (iter1 f37_L0 FUEL ((a0, (0 : Int), ()), ((List.replicate (Int.toNat ((List.length a0 : Nat) : Int)) (0 : Int)), ()))) fun y1 =>
 .ret (((y1.2.1, ()), ()), ((), ())))
 .fail
def f37_A : Nat → Option LoopAnn := fun n => annOf [(0, { head := { t := [.ro (.int .i64) (some 0), .dead, .dead, .srf 64000000, .i .i64] ++ dd 17, v := [(64000000, .arr (.int .i64))] }, out := { t := [.dead, .dead, .dead, .srf 64000256] ++ dd 18, v := [(64000256, .arr (.int .i64))] }, ret := none })] n
def toIntSV (a0 : List Int) : Option ((List Int)) := toP (szcIntS a0) a0
def k37 : Con := { f := 37, lend := true, its := [⟨false, false, [.ro (.int .i64)]⟩], lay := [none], rs := [⟨false, false, [.own (.int .i64)]⟩], F := fun x => .get (toIntSV x.1.1) fun y => .ret (((y, ()), ()), ((), ())) }
theorem f37_eq (x : itemsD k37.its) : bodyOut (cxOf []) (f37_A) (codeOf Tryz.f37) k37.its k37.lay Tryz.f37.ntmps k37.rs [.tmp 2] x = f37_tree x.1.1 := by kernel_rfl
theorem f37_okp (hr : ∀ x : (List Int × Unit) × Unit, itemsWF k37.its x → ∀ y, (k37.F x).eval = some y → (f37_tree x.1.1).eval = some y) : k37.Ok Tryz.prog :=
  con_fn [] trivial (by kernel_rfl) (codeOf_eq (by kernel_rfl)) (by kernel_rfl) (by kernel_rfl) (by kernel_rfl) f37_eq hr
theorem k37_ok : k37.Ok Tryz.prog := by
  refine f37_okp fun x hw y hy => ?_
  obtain ⟨⟨a0, _⟩, _⟩ := x
  change (Out.get (toIntSV a0) fun y => Out.ret (((y, ()), ()), ((), ()))).eval = some y at hy
  obtain ⟨h, hy⟩ := toP_get hy
  refine Eq.trans ?_ hy
  show (f37_tree a0).eval = _
  unfold f37_tree
  have ha : a0.length ≤ BIG := hw.1.1.1
  unfold szcIntS at h
  have hl : a0.length ≤ LIM := by rw [LIM_eq]; omega
  rw [eval_ite_t (lim_cond hl), Int.toNat_natCast]
  have := copy_loop (f := f37_L0) a0 (fun x : Int => x) (List.replicate a0.length (0 : Int)) (fun i l => ((a0, (((i : Nat) : Int), ())), (l, ()))) (by simp) ha
    (fun i hi l hl' => by
      have h1 := wrap_succ (i := i) (by omega)
      have h2 : i < l.length := by omega
      simp [f37_L0, Out.eval, hi, h1, h2])
    (fun l => by simp [f37_L0, Out.eval])
  refine (eval_get_some this).trans ?_
  rw [List.map_id']
  try rfl
def f144_tree (a0 : Int) (a1 : Int) (a2 : Int) (a3 : Int) : Out ((InsD × Unit) × (Unit × Unit)) :=
 .ret (((a0, a1, a2, a3, ()), ()), ((), ()))
def toInsV (a0 : Int) (a1 : Int) (a2 : Int) (a3 : Int) : Option (Int × Int × Int × Int) := toP (szcIns (a0, a1, a2, a3, ())) (a0, a1, a2, a3)
def k144 : Con := { f := 144, lend := true, its := [⟨false, true, [.i .i64, .i .i64, .i .i64, .i .i64]⟩], lay := [none], rs := [⟨false, true, [.i .i64, .i .i64, .i .i64, .i .i64]⟩], F := fun x => .get (toInsV x.1.1 x.1.2.1 x.1.2.2.1 x.1.2.2.2.1) fun y => .ret (((y.1, y.2.1, y.2.2.1, y.2.2.2, ()), ()), ((), ())) }
theorem f144_eq (x : itemsD k144.its) : bodyOut (cxOf []) (fun _ => none) (codeOf Tryz.f144) k144.its k144.lay Tryz.f144.ntmps k144.rs [.cell 2 157] x = f144_tree x.1.1 x.1.2.1 x.1.2.2.1 x.1.2.2.2.1 := by kernel_rfl
theorem f144_okp (hr : ∀ x : InsD × Unit, itemsWF k144.its x → ∀ y, (k144.F x).eval = some y → (f144_tree x.1.1 x.1.2.1 x.1.2.2.1 x.1.2.2.2.1).eval = some y) : k144.Ok Tryz.prog :=
  con_fn [] trivial (by kernel_rfl) (codeOf_eq (by kernel_rfl)) (by kernel_rfl) (by kernel_rfl) (by kernel_rfl) f144_eq hr
theorem k144_ok : k144.Ok Tryz.prog := by
  refine f144_okp fun x hw y hy => ?_
  obtain ⟨⟨a0, a1, a2, a3, _⟩, _⟩ := x
  change (Out.get (toInsV a0 a1 a2 a3) fun y => Out.ret (((y.1, y.2.1, y.2.2.1, y.2.2.2, ()), ()), ((), ()))).eval = some y at hy
  obtain ⟨h, hy⟩ := toP_get hy
  refine Eq.trans ?_ hy
  show (f144_tree a0 a1 a2 a3).eval = _
  unfold f144_tree
  rfl
abbrev f89_S0 := (List InsD × Int × Unit) × (List InsD × Unit)
def f89_L0 (x : f89_S0) : Out (Round f89_S0 ((Unit) × (List InsD × Unit)) Empty) :=
 .ite (decide (x.1.2.1 < ((List.length x.1.1 : Nat) : Int)))
 (.ite (decide (0 ≤ x.1.2.1))
 (.get (nth x.1.1 (Int.toNat x.1.2.1)) fun y1 =>
 .get (toInsV y1.1 y1.2.1 y1.2.2.1 y1.2.2.2.1) fun y2 =>
 .ite (decide (0 ≤ x.1.2.1 ∧ x.1.2.1 < ((List.length x.2.1 : Nat) : Int)))
 (.get (nth x.2.1 (Int.toNat x.1.2.1)) fun y3 =>
 .ret (.again ((x.1.1, (IntKind.i64.wrap (x.1.2.1 + (1 : Int))), ()), ((List.set x.2.1 (Int.toNat x.1.2.1) (y2.1, y2.2.1, y2.2.2.1, y2.2.2.2, ())), ()))))
 .fail)
 .fail)
 (.ret (.out ((), (x.2.1, ()))))
def f89_tree (a0 : List InsD) : Out (((List InsD × Unit) × Unit) × (Unit × Unit)) :=
 .ite (decide (0 ≤ ((List.length a0 : Nat) : Int) ∧ ((List.length a0 : Nat) : Int) ≤ ((List.length a0 : Nat) : Int) ∧ ((List.length a0 : Nat) : Int) ≤ (LIM : Int)))
 (.get (iter1 f89_L0 FUEL ((a0, (0 : Int), ()), ((List.replicate (Int.toNat ((List.length a0 : Nat) : Int)) ((0 : Int), ((0 : Int), ((0 : Int), ((0 : Int), ()))))), ()))) fun y1 =>
 .ret (((y1.2.1, ()), ()), ((), ())))
 .fail
def f89_A : Nat → Option LoopAnn := fun n => annOf [(0, { head := { t := [.ro (.st (.cons (.int .i64) (.cons (.int .i64) (.cons (.int .i64) (.cons (.int .i64) .nil))))) (some 0), .dead, .dead, .srf 64000000, .i .i64] ++ dd 18, v := [(64000000, .arr (.st (.cons (.int .i64) (.cons (.int .i64) (.cons (.int .i64) (.cons (.int .i64) .nil))))))] }, out := { t := [.dead, .dead, .dead, .srf 64000256] ++ dd 19, v := [(64000256, .arr (.st (.cons (.int .i64) (.cons (.int .i64) (.cons (.int .i64) (.cons (.int .i64) .nil))))))] }, ret := none })] n
def toInsSV (a0 : List InsD) : Option ((List InsD)) := toP (szcInsS a0) a0
def k89 : Con := { f := 89, lend := true, its := [⟨false, false, [.ro (.st (.cons (.int .i64) (.cons (.int .i64) (.cons (.int .i64) (.cons (.int .i64) .nil)))))]⟩], lay := [none], rs := [⟨false, false, [.own (.st (.cons (.int .i64) (.cons (.int .i64) (.cons (.int .i64) (.cons (.int .i64) .nil)))))]⟩], F := fun x => .get (toInsSV x.1.1) fun y => .ret (((y, ()), ()), ((), ())) }
theorem f89_eq (x : itemsD k89.its) : bodyOut (cxOf [k144]) (f89_A) (codeOf Tryz.f89) k89.its k89.lay Tryz.f89.ntmps k89.rs [.tmp 2] x = f89_tree x.1.1 := by kernel_rfl
theorem f89_okp (hr : ∀ x : (List InsD × Unit) × Unit, itemsWF k89.its x → ∀ y, (k89.F x).eval = some y → (f89_tree x.1.1).eval = some y) : k89.Ok Tryz.prog :=
  con_fn [k144] ⟨k144_ok, trivial⟩ (by kernel_rfl) (codeOf_eq (by kernel_rfl)) (by kernel_rfl) (by kernel_rfl) (by kernel_rfl) f89_eq hr
theorem k89_ok : k89.Ok Tryz.prog := by
  refine f89_okp fun x hw y hy => ?_
  obtain ⟨⟨a0, _⟩, _⟩ := x
  change (Out.get (toInsSV a0) fun y => Out.ret (((y, ()), ()), ((), ()))).eval = some y at hy
  obtain ⟨h, hy⟩ := toP_get hy
  refine Eq.trans ?_ hy
  show (f89_tree a0).eval = _
  unfold f89_tree
  have ha : a0.length ≤ BIG := hw.1.1.1
  unfold szcInsS at h
  have hl : a0.length ≤ LIM := by rw [LIM_eq]; omega
  rw [eval_ite_t (lim_cond hl), Int.toNat_natCast]
  have := copy_loop (f := f89_L0) a0 (fun x : InsD => x) (List.replicate a0.length ((0 : Int), ((0 : Int), ((0 : Int), ((0 : Int), ()))))) (fun i l => ((a0, (((i : Nat) : Int), ())), (l, ()))) (by simp) ha
    (fun i hi l hl' => by
      have h1 := wrap_succ (i := i) (by omega)
      have h2 : i < l.length := by omega
      have h4 : toInsV a0[i].1 a0[i].2.1 a0[i].2.2.1 a0[i].2.2.2.1 = some (a0[i].1, a0[i].2.1, a0[i].2.2.1, a0[i].2.2.2.1) := toP_in (by simp [szcIns])
      simp [f89_L0, Out.eval, hi, h1, h2, h4])
    (fun l => by simp [f89_L0, Out.eval])
  refine (eval_get_some this).trans ?_
  rw [List.map_id']
  try rfl
abbrev f32_S0 := (List (List InsD) × Int × Unit) × (List (List InsD) × Unit)
def f32_L0 (x : f32_S0) : Out (Round f32_S0 ((Unit) × (List (List InsD) × Unit)) Empty) :=
 .ite (decide (x.1.2.1 < ((List.length x.1.1 : Nat) : Int)))
 (.ite (decide (0 ≤ x.1.2.1))
 (.get (nth x.1.1 (Int.toNat x.1.2.1)) fun y1 =>
 .get (toInsSV y1) fun y2 =>
 .ite (decide (0 ≤ x.1.2.1 ∧ x.1.2.1 < ((List.length x.2.1 : Nat) : Int)))
 (.get (nth x.2.1 (Int.toNat x.1.2.1)) fun y3 =>
 .ret (.again ((x.1.1, (IntKind.i64.wrap (x.1.2.1 + (1 : Int))), ()), ((List.set x.2.1 (Int.toNat x.1.2.1) y2), ()))))
 .fail)
 .fail)
 (.ret (.out ((), (x.2.1, ()))))
def f32_tree (a0 : List (List InsD)) : Out (((List (List InsD) × Unit) × Unit) × (Unit × Unit)) :=
 .ite (decide (0 ≤ ((List.length a0 : Nat) : Int) ∧ ((List.length a0 : Nat) : Int) ≤ ((List.length a0 : Nat) : Int) ∧ ((List.length a0 : Nat) : Int) ≤ (LIM : Int)))
 (.get (iter1 f32_L0 FUEL ((a0, (0 : Int), ()), ((List.replicate (Int.toNat ((List.length a0 : Nat) : Int)) ([] : List InsD)), ()))) fun y1 =>
 .ret (((y1.2.1, ()), ()), ((), ())))
 .fail
def f32_A : Nat → Option LoopAnn := fun n => annOf [(0, { head := { t := [.ro (.sl (.st (.cons (.int .i64) (.cons (.int .i64) (.cons (.int .i64) (.cons (.int .i64) .nil)))))) (some 0), .dead, .dead, .srf 64000000, .i .i64] ++ dd 18, v := [(64000000, .arr (.sl (.st (.cons (.int .i64) (.cons (.int .i64) (.cons (.int .i64) (.cons (.int .i64) .nil)))))))] }, out := { t := [.dead, .dead, .dead, .srf 64000256] ++ dd 19, v := [(64000256, .arr (.sl (.st (.cons (.int .i64) (.cons (.int .i64) (.cons (.int .i64) (.cons (.int .i64) .nil)))))))] }, ret := none })] n
def toInsSSV (a0 : List (List InsD)) : Option ((List (List InsD))) := toP (szcInsSS a0) a0
def k32 : Con := { f := 32, lend := true, its := [⟨false, false, [.ro (.sl (.st (.cons (.int .i64) (.cons (.int .i64) (.cons (.int .i64) (.cons (.int .i64) .nil))))))]⟩], lay := [none], rs := [⟨false, false, [.own (.sl (.st (.cons (.int .i64) (.cons (.int .i64) (.cons (.int .i64) (.cons (.int .i64) .nil))))))]⟩], F := fun x => .get (toInsSSV x.1.1) fun y => .ret (((y, ()), ()), ((), ())) }
theorem f32_eq (x : itemsD k32.its) : bodyOut (cxOf [k89]) (f32_A) (codeOf Tryz.f32) k32.its k32.lay Tryz.f32.ntmps k32.rs [.tmp 2] x = f32_tree x.1.1 := by kernel_rfl
theorem f32_okp (hr : ∀ x : (List (List InsD) × Unit) × Unit, itemsWF k32.its x → ∀ y, (k32.F x).eval = some y → (f32_tree x.1.1).eval = some y) : k32.Ok Tryz.prog :=
  con_fn [k89] ⟨k89_ok, trivial⟩ (by kernel_rfl) (codeOf_eq (by kernel_rfl)) (by kernel_rfl) (by kernel_rfl) (by kernel_rfl) f32_eq hr
theorem k32_ok : k32.Ok Tryz.prog := by
  refine f32_okp fun x hw y hy => ?_
  obtain ⟨⟨a0, _⟩, _⟩ := x
  change (Out.get (toInsSSV a0) fun y => Out.ret (((y, ()), ()), ((), ()))).eval = some y at hy
  obtain ⟨h, hy⟩ := toP_get hy
  refine Eq.trans ?_ hy
  show (f32_tree a0).eval = _
  unfold f32_tree
  have ha : a0.length ≤ BIG := hw.1.1.1
  unfold szcInsSS at h
  have hl : a0.length ≤ LIM := by rw [LIM_eq]; omega
  rw [eval_ite_t (lim_cond hl), Int.toNat_natCast]
  have := copy_loop (f := f32_L0) a0 (fun x : List InsD => x) (List.replicate a0.length ([] : List InsD)) (fun i l => ((a0, (((i : Nat) : Int), ())), (l, ()))) (by simp) ha
    (fun i hi l hl' => by
      have h1 := wrap_succ (i := i) (by omega)
      have h2 : i < l.length := by omega
      have h3 : szcInsS a0[i] ≤ sumBy (fun x : List InsD => szcInsS x) a0 := sumBy_mem (c := fun x : List InsD => szcInsS x) (List.getElem_mem hi)
      have h4 : toInsSV a0[i] = some a0[i] := toP_in (show szcInsS a0[i] ≤ 1048576 by omega)
      simp [f32_L0, Out.eval, hi, h1, h2, h4])
    (fun l => by simp [f32_L0, Out.eval])
  refine (eval_get_some this).trans ?_
  rw [List.map_id']
  try rfl
def f145_tree (a0 : Int) (a1 : List Int) : Out ((CpuD × Unit) × (Unit × Unit)) :=
 .get (toIntSV a1) fun y1 =>
 .ret (((a0, y1, ()), ()), ((), ()))
def toCpuV (a0 : Int) (a1 : List Int) : Option (Int × (List Int)) := toP (szcCpu (a0, a1, ())) (a0, a1)
def k145 : Con := { f := 145, lend := true, its := [⟨false, true, [.i .i64, .ro (.int .i64)]⟩], lay := [none], rs := [⟨false, true, [.i .i64, .own (.int .i64)]⟩], F := fun x => .get (toCpuV x.1.1 x.1.2.1) fun y => .ret (((y.1, y.2, ()), ()), ((), ())) }
theorem f145_eq (x : itemsD k145.its) : bodyOut (cxOf [k37]) (fun _ => none) (codeOf Tryz.f145) k145.its k145.lay Tryz.f145.ntmps k145.rs [.cell 2 32] x = f145_tree x.1.1 x.1.2.1 := by kernel_rfl
theorem f145_okp (hr : ∀ x : CpuD × Unit, itemsWF k145.its x → ∀ y, (k145.F x).eval = some y → (f145_tree x.1.1 x.1.2.1).eval = some y) : k145.Ok Tryz.prog :=
  con_fn [k37] ⟨k37_ok, trivial⟩ (by kernel_rfl) (codeOf_eq (by kernel_rfl)) (by kernel_rfl) (by kernel_rfl) (by kernel_rfl) f145_eq hr
theorem k145_ok : k145.Ok Tryz.prog := by
  refine f145_okp fun x hw y hy => ?_
  obtain ⟨⟨a0, a1, _⟩, _⟩ := x
  change (Out.get (toCpuV a0 a1) fun y => Out.ret (((y.1, y.2, ()), ()), ((), ()))).eval = some y at hy
  obtain ⟨h, hy⟩ := toP_get hy
  refine Eq.trans ?_ hy
  show (f145_tree a0 a1).eval = _
  unfold f145_tree
  have h : szcIntS a1 ≤ 1048576 := h
  have e0 : toIntSV a1 = some a1 := toP_in (by omega)
  simp [e0, Out.eval]
def f90_tree (a0 : Int) (a1 : Int) (a2 : Int) (a3 : Int) (a4 : Int) (a5 : List Int) (a6 : List Int) (a7 : List Int) (a8 : Int) (a9 : Int) : Out (((Int × Int × Int × Int × Int × List Int × List Int × List Int × Int × Int × Unit) × Unit) × (Unit × Unit)) :=
 .get (toCpuV a4 a5) fun y1 =>
 .get (toIntSV a6) fun y2 =>
 .get (toIntSV a7) fun y3 =>
 .ret (((a0, a1, a2, a3, y1.1, y1.2, y2, y3, a8, a9, ()), ()), ((), ()))
def toProcV (a0 : Int) (a1 : Int) (a2 : Int) (a3 : Int) (a4 : Int) (a5 : List Int) (a6 : List Int) (a7 : List Int) (a8 : Int) (a9 : Int) : Option (Int × Int × Int × Int × Int × (List Int) × (List Int) × (List Int) × Int × Int) := toP (szcProc (a0, a1, a2, a3, (a4, a5, ()), a6, a7, a8, a9, ())) (a0, a1, a2, a3, a4, a5, a6, a7, a8, a9)
def k90 : Con := { f := 90, lend := true, its := [⟨false, true, [.i .i64, .i .i64, .i .i64, .i .i64, .i .i64, .ro (.int .i64), .ro (.int .i64), .ro (.int .i64), .i .i64, .i .i64]⟩], lay := [none], rs := [⟨false, true, [.i .i64, .i .i64, .i .i64, .i .i64, .i .i64, .own (.int .i64), .own (.int .i64), .own (.int .i64), .i .i64, .i .i64]⟩], F := fun x => .get (toProcV x.1.1 x.1.2.1 x.1.2.2.1 x.1.2.2.2.1 x.1.2.2.2.2.1 x.1.2.2.2.2.2.1 x.1.2.2.2.2.2.2.1 x.1.2.2.2.2.2.2.2.1 x.1.2.2.2.2.2.2.2.2.1 x.1.2.2.2.2.2.2.2.2.2.1) fun y => .ret (((y.1, y.2.1, y.2.2.1, y.2.2.2.1, y.2.2.2.2.1, y.2.2.2.2.2.1, y.2.2.2.2.2.2.1, y.2.2.2.2.2.2.2.1, y.2.2.2.2.2.2.2.2.1, y.2.2.2.2.2.2.2.2.2, ()), ()), ((), ())) }
theorem f90_eq (x : itemsD k90.its) : bodyOut (cxOf [k145, k37]) (fun _ => none) (codeOf Tryz.f90) k90.its k90.lay Tryz.f90.ntmps k90.rs [.cell 2 65] x = f90_tree x.1.1 x.1.2.1 x.1.2.2.1 x.1.2.2.2.1 x.1.2.2.2.2.1 x.1.2.2.2.2.2.1 x.1.2.2.2.2.2.2.1 x.1.2.2.2.2.2.2.2.1 x.1.2.2.2.2.2.2.2.2.1 x.1.2.2.2.2.2.2.2.2.2.1 := by kernel_rfl
theorem f90_okp (hr : ∀ x : (Int × Int × Int × Int × Int × List Int × List Int × List Int × Int × Int × Unit) × Unit, itemsWF k90.its x → ∀ y, (k90.F x).eval = some y → (f90_tree x.1.1 x.1.2.1 x.1.2.2.1 x.1.2.2.2.1 x.1.2.2.2.2.1 x.1.2.2.2.2.2.1 x.1.2.2.2.2.2.2.1 x.1.2.2.2.2.2.2.2.1 x.1.2.2.2.2.2.2.2.2.1 x.1.2.2.2.2.2.2.2.2.2.1).eval = some y) : k90.Ok Tryz.prog :=
  con_fn [k145, k37] ⟨k145_ok, k37_ok, trivial⟩ (by kernel_rfl) (codeOf_eq (by kernel_rfl)) (by kernel_rfl) (by kernel_rfl) (by kernel_rfl) f90_eq hr
theorem k90_ok : k90.Ok Tryz.prog := by
  refine f90_okp fun x hw y hy => ?_
  obtain ⟨⟨a0, a1, a2, a3, a4, a5, a6, a7, a8, a9, _⟩, _⟩ := x
  change (Out.get (toProcV a0 a1 a2 a3 a4 a5 a6 a7 a8 a9) fun y => Out.ret (((y.1, y.2.1, y.2.2.1, y.2.2.2.1, y.2.2.2.2.1, y.2.2.2.2.2.1, y.2.2.2.2.2.2.1, y.2.2.2.2.2.2.2.1, y.2.2.2.2.2.2.2.2.1, y.2.2.2.2.2.2.2.2.2, ()), ()), ((), ()))).eval = some y at hy
  obtain ⟨h, hy⟩ := toP_get hy
  refine Eq.trans ?_ hy
  show (f90_tree a0 a1 a2 a3 a4 a5 a6 a7 a8 a9).eval = _
  unfold f90_tree
  have h : szcCpu (a4, a5, ()) + szcIntS a6 + szcIntS a7 ≤ 1048576 := h
  have e0 : toCpuV a4 a5 = some (a4, a5) := toP_in (by omega)
  have e1 : toIntSV a6 = some a6 := toP_in (by omega)
  have e2 : toIntSV a7 = some a7 := toP_in (by omega)
  simp [e0, e1, e2, Out.eval]
abbrev f33_S0 := (List ProcD × Int × Unit) × (List ProcD × Unit)
def f33_L0 (x : f33_S0) : Out (Round f33_S0 ((Unit) × (List ProcD × Unit)) Empty) :=
 .ite (decide (x.1.2.1 < ((List.length x.1.1 : Nat) : Int)))
 (.ite (decide (0 ≤ x.1.2.1))
 (.get (nth x.1.1 (Int.toNat x.1.2.1)) fun y1 =>
 .get (toProcV y1.1 y1.2.1 y1.2.2.1 y1.2.2.2.1 y1.2.2.2.2.1.1 y1.2.2.2.2.1.2.1 y1.2.2.2.2.2.1 y1.2.2.2.2.2.2.1 y1.2.2.2.2.2.2.2.1 y1.2.2.2.2.2.2.2.2.1) fun y2 =>
 .ite (decide (0 ≤ x.1.2.1 ∧ x.1.2.1 < ((List.length x.2.1 : Nat) : Int)))
 (.get (nth x.2.1 (Int.toNat x.1.2.1)) fun y3 =>
 .ret (.again ((x.1.1, (IntKind.i64.wrap (x.1.2.1 + (1 : Int))), ()), ((List.set x.2.1 (Int.toNat x.1.2.1) (y2.1, y2.2.1, y2.2.2.1, y2.2.2.2.1, (y2.2.2.2.2.1, y2.2.2.2.2.2.1, ()), y2.2.2.2.2.2.2.1, y2.2.2.2.2.2.2.2.1, y2.2.2.2.2.2.2.2.2.1, y2.2.2.2.2.2.2.2.2.2, ())), ()))))
 .fail)
 .fail)
 (.ret (.out ((), (x.2.1, ()))))
def f33_tree (a0 : List ProcD) : Out (((List ProcD × Unit) × Unit) × (Unit × Unit)) :=
 .ite (decide (0 ≤ ((List.length a0 : Nat) : Int) ∧ ((List.length a0 : Nat) : Int) ≤ ((List.length a0 : Nat) : Int) ∧ ((List.length a0 : Nat) : Int) ≤ (LIM : Int)))
 (.get (iter1 f33_L0 FUEL ((a0, (0 : Int), ()), ((List.replicate (Int.toNat ((List.length a0 : Nat) : Int)) ((0 : Int), ((0 : Int), ((0 : Int), ((0 : Int), (((0 : Int), (([] : List Int), ())), (([] : List Int), (([] : List Int), ((0 : Int), ((0 : Int), ())))))))))), ()))) fun y1 =>
 .ret (((y1.2.1, ()), ()), ((), ())))
 .fail
def f33_A : Nat → Option LoopAnn := fun n => annOf [(0, { head := { t := [.ro (.st (.cons (.int .i64) (.cons (.int .i64) (.cons (.int .i64) (.cons (.int .i64) (.cons (.st (.cons (.int .i64) (.cons (.sl (.int .i64)) .nil))) (.cons (.sl (.int .i64)) (.cons (.sl (.int .i64)) (.cons (.int .i64) (.cons (.int .i64) .nil)))))))))) (some 0), .dead, .dead, .srf 64000000, .i .i64] ++ dd 18, v := [(64000000, .arr (.st (.cons (.int .i64) (.cons (.int .i64) (.cons (.int .i64) (.cons (.int .i64) (.cons (.st (.cons (.int .i64) (.cons (.sl (.int .i64)) .nil))) (.cons (.sl (.int .i64)) (.cons (.sl (.int .i64)) (.cons (.int .i64) (.cons (.int .i64) .nil)))))))))))] }, out := { t := [.dead, .dead, .dead, .srf 64000256] ++ dd 19, v := [(64000256, .arr (.st (.cons (.int .i64) (.cons (.int .i64) (.cons (.int .i64) (.cons (.int .i64) (.cons (.st (.cons (.int .i64) (.cons (.sl (.int .i64)) .nil))) (.cons (.sl (.int .i64)) (.cons (.sl (.int .i64)) (.cons (.int .i64) (.cons (.int .i64) .nil)))))))))))] }, ret := none })] n
def toProcSV (a0 : List ProcD) : Option ((List ProcD)) := toP (szcProcS a0) a0
def k33 : Con := { f := 33, lend := true, its := [⟨false, false, [.ro (.st (.cons (.int .i64) (.cons (.int .i64) (.cons (.int .i64) (.cons (.int .i64) (.cons (.st (.cons (.int .i64) (.cons (.sl (.int .i64)) .nil))) (.cons (.sl (.int .i64)) (.cons (.sl (.int .i64)) (.cons (.int .i64) (.cons (.int .i64) .nil))))))))))]⟩], lay := [none], rs := [⟨false, false, [.own (.st (.cons (.int .i64) (.cons (.int .i64) (.cons (.int .i64) (.cons (.int .i64) (.cons (.st (.cons (.int .i64) (.cons (.sl (.int .i64)) .nil))) (.cons (.sl (.int .i64)) (.cons (.sl (.int .i64)) (.cons (.int .i64) (.cons (.int .i64) .nil))))))))))]⟩], F := fun x => .get (toProcSV x.1.1) fun y => .ret (((y, ()), ()), ((), ())) }
theorem f33_eq (x : itemsD k33.its) : bodyOut (cxOf [k90]) (f33_A) (codeOf Tryz.f33) k33.its k33.lay Tryz.f33.ntmps k33.rs [.tmp 2] x = f33_tree x.1.1 := by kernel_rfl
theorem f33_okp (hr : ∀ x : (List ProcD × Unit) × Unit, itemsWF k33.its x → ∀ y, (k33.F x).eval = some y → (f33_tree x.1.1).eval = some y) : k33.Ok Tryz.prog :=
  con_fn [k90] ⟨k90_ok, trivial⟩ (by kernel_rfl) (codeOf_eq (by kernel_rfl)) (by kernel_rfl) (by kernel_rfl) (by kernel_rfl) f33_eq hr
theorem k33_ok : k33.Ok Tryz.prog := by
  refine f33_okp fun x hw y hy => ?_
  obtain ⟨⟨a0, _⟩, _⟩ := x
  change (Out.get (toProcSV a0) fun y => Out.ret (((y, ()), ()), ((), ()))).eval = some y at hy
  obtain ⟨h, hy⟩ := toP_get hy
  refine Eq.trans ?_ hy
  show (f33_tree a0).eval = _
  unfold f33_tree
  have ha : a0.length ≤ BIG := hw.1.1.1
  unfold szcProcS at h
  have hl : a0.length ≤ LIM := by rw [LIM_eq]; omega
  rw [eval_ite_t (lim_cond hl), Int.toNat_natCast]
  have := copy_loop (f := f33_L0) a0 (fun x : ProcD => x) (List.replicate a0.length ((0 : Int), ((0 : Int), ((0 : Int), ((0 : Int), (((0 : Int), (([] : List Int), ())), (([] : List Int), (([] : List Int), ((0 : Int), ((0 : Int), ())))))))))) (fun i l => ((a0, (((i : Nat) : Int), ())), (l, ()))) (by simp) ha
    (fun i hi l hl' => by
      have h1 := wrap_succ (i := i) (by omega)
      have h2 : i < l.length := by omega
      have h3 : szcProc a0[i] ≤ sumBy (fun x : ProcD => szcProc x) a0 := sumBy_mem (c := fun x : ProcD => szcProc x) (List.getElem_mem hi)
      have h4 : toProcV a0[i].1 a0[i].2.1 a0[i].2.2.1 a0[i].2.2.2.1 a0[i].2.2.2.2.1.1 a0[i].2.2.2.2.1.2.1 a0[i].2.2.2.2.2.1 a0[i].2.2.2.2.2.2.1 a0[i].2.2.2.2.2.2.2.1 a0[i].2.2.2.2.2.2.2.2.1 = some (a0[i].1, a0[i].2.1, a0[i].2.2.1, a0[i].2.2.2.1, a0[i].2.2.2.2.1.1, a0[i].2.2.2.2.1.2.1, a0[i].2.2.2.2.2.1, a0[i].2.2.2.2.2.2.1, a0[i].2.2.2.2.2.2.2.1, a0[i].2.2.2.2.2.2.2.2.1) := toP_in (show szcProc a0[i] ≤ 1048576 by omega)
      simp [f33_L0, Out.eval, hi, h1, h2, h4])
    (fun l => by simp [f33_L0, Out.eval])
  refine (eval_get_some this).trans ?_
  rw [List.map_id']
  try rfl
def f91_tree (a0 : Int) (a1 : Int) (a2 : Int) (a3 : Int) (a4 : Int) : Out ((OpenD × Unit) × (Unit × Unit)) :=
 .ret (((a0, a1, a2, a3, a4, ()), ()), ((), ()))
def toOpenV (a0 : Int) (a1 : Int) (a2 : Int) (a3 : Int) (a4 : Int) : Option (Int × Int × Int × Int × Int) := toP (szcOpen (a0, a1, a2, a3, a4, ())) (a0, a1, a2, a3, a4)
def k91 : Con := { f := 91, lend := true, its := [⟨false, true, [.i .i64, .i .i64, .i .i64, .i .i64, .i .i64]⟩], lay := [none], rs := [⟨false, true, [.i .i64, .i .i64, .i .i64, .i .i64, .i .i64]⟩], F := fun x => .get (toOpenV x.1.1 x.1.2.1 x.1.2.2.1 x.1.2.2.2.1 x.1.2.2.2.2.1) fun y => .ret (((y.1, y.2.1, y.2.2.1, y.2.2.2.1, y.2.2.2.2, ()), ()), ((), ())) }
theorem f91_eq (x : itemsD k91.its) : bodyOut (cxOf []) (fun _ => none) (codeOf Tryz.f91) k91.its k91.lay Tryz.f91.ntmps k91.rs [.cell 2 126] x = f91_tree x.1.1 x.1.2.1 x.1.2.2.1 x.1.2.2.2.1 x.1.2.2.2.2.1 := by kernel_rfl
theorem f91_okp (hr : ∀ x : OpenD × Unit, itemsWF k91.its x → ∀ y, (k91.F x).eval = some y → (f91_tree x.1.1 x.1.2.1 x.1.2.2.1 x.1.2.2.2.1 x.1.2.2.2.2.1).eval = some y) : k91.Ok Tryz.prog :=
  con_fn [] trivial (by kernel_rfl) (codeOf_eq (by kernel_rfl)) (by kernel_rfl) (by kernel_rfl) (by kernel_rfl) f91_eq hr
theorem k91_ok : k91.Ok Tryz.prog := by
  refine f91_okp fun x hw y hy => ?_
  obtain ⟨⟨a0, a1, a2, a3, a4, _⟩, _⟩ := x
  change (Out.get (toOpenV a0 a1 a2 a3 a4) fun y => Out.ret (((y.1, y.2.1, y.2.2.1, y.2.2.2.1, y.2.2.2.2, ()), ()), ((), ()))).eval = some y at hy
  obtain ⟨h, hy⟩ := toP_get hy
  refine Eq.trans ?_ hy
  show (f91_tree a0 a1 a2 a3 a4).eval = _
  unfold f91_tree
  rfl
abbrev f34_S0 := (List OpenD × Int × Unit) × (List OpenD × Unit)
def f34_L0 (x : f34_S0) : Out (Round f34_S0 ((Unit) × (List OpenD × Unit)) Empty) :=
 .ite (decide (x.1.2.1 < ((List.length x.1.1 : Nat) : Int)))
 (.ite (decide (0 ≤ x.1.2.1))
 (.get (nth x.1.1 (Int.toNat x.1.2.1)) fun y1 =>
 .get (toOpenV y1.1 y1.2.1 y1.2.2.1 y1.2.2.2.1 y1.2.2.2.2.1) fun y2 =>
 .ite (decide (0 ≤ x.1.2.1 ∧ x.1.2.1 < ((List.length x.2.1 : Nat) : Int)))
 (.get (nth x.2.1 (Int.toNat x.1.2.1)) fun y3 =>
 .ret (.again ((x.1.1, (IntKind.i64.wrap (x.1.2.1 + (1 : Int))), ()), ((List.set x.2.1 (Int.toNat x.1.2.1) (y2.1, y2.2.1, y2.2.2.1, y2.2.2.2.1, y2.2.2.2.2, ())), ()))))
 .fail)
 .fail)
 (.ret (.out ((), (x.2.1, ()))))
def f34_tree (a0 : List OpenD) : Out (((List OpenD × Unit) × Unit) × (Unit × Unit)) :=
 .ite (decide (0 ≤ ((List.length a0 : Nat) : Int) ∧ ((List.length a0 : Nat) : Int) ≤ ((List.length a0 : Nat) : Int) ∧ ((List.length a0 : Nat) : Int) ≤ (LIM : Int)))
 (.get (iter1 f34_L0 FUEL ((a0, (0 : Int), ()), ((List.replicate (Int.toNat ((List.length a0 : Nat) : Int)) ((0 : Int), ((0 : Int), ((0 : Int), ((0 : Int), ((0 : Int), ())))))), ()))) fun y1 =>
 .ret (((y1.2.1, ()), ()), ((), ())))
 .fail
def f34_A : Nat → Option LoopAnn := fun n => annOf [(0, { head := { t := [.ro (.st (.cons (.int .i64) (.cons (.int .i64) (.cons (.int .i64) (.cons (.int .i64) (.cons (.int .i64) .nil)))))) (some 0), .dead, .dead, .srf 64000000, .i .i64] ++ dd 18, v := [(64000000, .arr (.st (.cons (.int .i64) (.cons (.int .i64) (.cons (.int .i64) (.cons (.int .i64) (.cons (.int .i64) .nil)))))))] }, out := { t := [.dead, .dead, .dead, .srf 64000256] ++ dd 19, v := [(64000256, .arr (.st (.cons (.int .i64) (.cons (.int .i64) (.cons (.int .i64) (.cons (.int .i64) (.cons (.int .i64) .nil)))))))] }, ret := none })] n
def toOpenSV (a0 : List OpenD) : Option ((List OpenD)) := toP (szcOpenS a0) a0
def k34 : Con := { f := 34, lend := true, its := [⟨false, false, [.ro (.st (.cons (.int .i64) (.cons (.int .i64) (.cons (.int .i64) (.cons (.int .i64) (.cons (.int .i64) .nil))))))]⟩], lay := [none], rs := [⟨false, false, [.own (.st (.cons (.int .i64) (.cons (.int .i64) (.cons (.int .i64) (.cons (.int .i64) (.cons (.int .i64) .nil))))))]⟩], F := fun x => .get (toOpenSV x.1.1) fun y => .ret (((y, ()), ()), ((), ())) }
theorem f34_eq (x : itemsD k34.its) : bodyOut (cxOf [k91]) (f34_A) (codeOf Tryz.f34) k34.its k34.lay Tryz.f34.ntmps k34.rs [.tmp 2] x = f34_tree x.1.1 := by kernel_rfl
theorem f34_okp (hr : ∀ x : (List OpenD × Unit) × Unit, itemsWF k34.its x → ∀ y, (k34.F x).eval = some y → (f34_tree x.1.1).eval = some y) : k34.Ok Tryz.prog :=
  con_fn [k91] ⟨k91_ok, trivial⟩ (by kernel_rfl) (codeOf_eq (by kernel_rfl)) (by kernel_rfl) (by kernel_rfl) (by kernel_rfl) f34_eq hr
theorem k34_ok : k34.Ok Tryz.prog := by
  refine f34_okp fun x hw y hy => ?_
  obtain ⟨⟨a0, _⟩, _⟩ := x
  change (Out.get (toOpenSV a0) fun y => Out.ret (((y, ()), ()), ((), ()))).eval = some y at hy
  obtain ⟨h, hy⟩ := toP_get hy
  refine Eq.trans ?_ hy
  show (f34_tree a0).eval = _
  unfold f34_tree
  have ha : a0.length ≤ BIG := hw.1.1.1
  unfold szcOpenS at h
  have hl : a0.length ≤ LIM := by rw [LIM_eq]; omega
  rw [eval_ite_t (lim_cond hl), Int.toNat_natCast]
  have := copy_loop (f := f34_L0) a0 (fun x : OpenD => x) (List.replicate a0.length ((0 : Int), ((0 : Int), ((0 : Int), ((0 : Int), ((0 : Int), ())))))) (fun i l => ((a0, (((i : Nat) : Int), ())), (l, ()))) (by simp) ha
    (fun i hi l hl' => by
      have h1 := wrap_succ (i := i) (by omega)
      have h2 : i < l.length := by omega
      have h4 : toOpenV a0[i].1 a0[i].2.1 a0[i].2.2.1 a0[i].2.2.2.1 a0[i].2.2.2.2.1 = some (a0[i].1, a0[i].2.1, a0[i].2.2.1, a0[i].2.2.2.1, a0[i].2.2.2.2.1) := toP_in (by simp [szcOpen])
      simp [f34_L0, Out.eval, hi, h1, h2, h4])
    (fun l => by simp [f34_L0, Out.eval])
  refine (eval_get_some this).trans ?_
  rw [List.map_id']
  try rfl
def f92_tree (a0 : Int) (a1 : List Int) : Out ((CpuD × Unit) × (Unit × Unit)) :=
 .get (toIntSV a1) fun y1 =>
 .ret (((a0, y1, ()), ()), ((), ()))
def k92 : Con := { f := 92, lend := true, its := [⟨false, true, [.i .i64, .ro (.int .i64)]⟩], lay := [none], rs := [⟨false, true, [.i .i64, .own (.int .i64)]⟩], F := fun x => .get (toCpuV x.1.1 x.1.2.1) fun y => .ret (((y.1, y.2, ()), ()), ((), ())) }
theorem f92_eq (x : itemsD k92.its) : bodyOut (cxOf [k37]) (fun _ => none) (codeOf Tryz.f92) k92.its k92.lay Tryz.f92.ntmps k92.rs [.cell 2 129] x = f92_tree x.1.1 x.1.2.1 := by kernel_rfl
theorem f92_okp (hr : ∀ x : CpuD × Unit, itemsWF k92.its x → ∀ y, (k92.F x).eval = some y → (f92_tree x.1.1 x.1.2.1).eval = some y) : k92.Ok Tryz.prog :=
  con_fn [k37] ⟨k37_ok, trivial⟩ (by kernel_rfl) (codeOf_eq (by kernel_rfl)) (by kernel_rfl) (by kernel_rfl) (by kernel_rfl) f92_eq hr
theorem k92_ok : k92.Ok Tryz.prog := by
  refine f92_okp fun x hw y hy => ?_
  obtain ⟨⟨a0, a1, _⟩, _⟩ := x
  change (Out.get (toCpuV a0 a1) fun y => Out.ret (((y.1, y.2, ()), ()), ((), ()))).eval = some y at hy
  obtain ⟨h, hy⟩ := toP_get hy
  refine Eq.trans ?_ hy
  show (f92_tree a0 a1).eval = _
  unfold f92_tree
  have h : szcIntS a1 ≤ 1048576 := h
  have e0 : toIntSV a1 = some a1 := toP_in (by omega)
  simp [e0, Out.eval]
abbrev f35_S0 := (List CpuD × Int × Unit) × (List CpuD × Unit)
def f35_L0 (x : f35_S0) : Out (Round f35_S0 ((Unit) × (List CpuD × Unit)) Empty) :=
 .ite (decide (x.1.2.1 < ((List.length x.1.1 : Nat) : Int)))
 (.ite (decide (0 ≤ x.1.2.1))
 (.get (nth x.1.1 (Int.toNat x.1.2.1)) fun y1 =>
 .get (toCpuV y1.1 y1.2.1) fun y2 =>
 .ite (decide (0 ≤ x.1.2.1 ∧ x.1.2.1 < ((List.length x.2.1 : Nat) : Int)))
 (.get (nth x.2.1 (Int.toNat x.1.2.1)) fun y3 =>
 .ret (.again ((x.1.1, (IntKind.i64.wrap (x.1.2.1 + (1 : Int))), ()), ((List.set x.2.1 (Int.toNat x.1.2.1) (y2.1, y2.2, ())), ()))))
 .fail)
 .fail)
 (.ret (.out ((), (x.2.1, ()))))
def f35_tree (a0 : List CpuD) : Out (((List CpuD × Unit) × Unit) × (Unit × Unit)) :=
 .ite (decide (0 ≤ ((List.length a0 : Nat) : Int) ∧ ((List.length a0 : Nat) : Int) ≤ ((List.length a0 : Nat) : Int) ∧ ((List.length a0 : Nat) : Int) ≤ (LIM : Int)))
 (.get (iter1 f35_L0 FUEL ((a0, (0 : Int), ()), ((List.replicate (Int.toNat ((List.length a0 : Nat) : Int)) ((0 : Int), (([] : List Int), ()))), ()))) fun y1 =>
 .ret (((y1.2.1, ()), ()), ((), ())))
 .fail
def f35_A : Nat → Option LoopAnn := fun n => annOf [(0, { head := { t := [.ro (.st (.cons (.int .i64) (.cons (.sl (.int .i64)) .nil))) (some 0), .dead, .dead, .srf 64000000, .i .i64] ++ dd 18, v := [(64000000, .arr (.st (.cons (.int .i64) (.cons (.sl (.int .i64)) .nil))))] }, out := { t := [.dead, .dead, .dead, .srf 64000256] ++ dd 19, v := [(64000256, .arr (.st (.cons (.int .i64) (.cons (.sl (.int .i64)) .nil))))] }, ret := none })] n
def toCpuSV (a0 : List CpuD) : Option ((List CpuD)) := toP (szcCpuS a0) a0
def k35 : Con := { f := 35, lend := true, its := [⟨false, false, [.ro (.st (.cons (.int .i64) (.cons (.sl (.int .i64)) .nil)))]⟩], lay := [none], rs := [⟨false, false, [.own (.st (.cons (.int .i64) (.cons (.sl (.int .i64)) .nil)))]⟩], F := fun x => .get (toCpuSV x.1.1) fun y => .ret (((y, ()), ()), ((), ())) }
theorem f35_eq (x : itemsD k35.its) : bodyOut (cxOf [k92]) (f35_A) (codeOf Tryz.f35) k35.its k35.lay Tryz.f35.ntmps k35.rs [.tmp 2] x = f35_tree x.1.1 := by kernel_rfl
theorem f35_okp (hr : ∀ x : (List CpuD × Unit) × Unit, itemsWF k35.its x → ∀ y, (k35.F x).eval = some y → (f35_tree x.1.1).eval = some y) : k35.Ok Tryz.prog :=
  con_fn [k92] ⟨k92_ok, trivial⟩ (by kernel_rfl) (codeOf_eq (by kernel_rfl)) (by kernel_rfl) (by kernel_rfl) (by kernel_rfl) f35_eq hr
theorem k35_ok : k35.Ok Tryz.prog := by
  refine f35_okp fun x hw y hy => ?_
  obtain ⟨⟨a0, _⟩, _⟩ := x
  change (Out.get (toCpuSV a0) fun y => Out.ret (((y, ()), ()), ((), ()))).eval = some y at hy
  obtain ⟨h, hy⟩ := toP_get hy
  refine Eq.trans ?_ hy
  show (f35_tree a0).eval = _
  unfold f35_tree
  have ha : a0.length ≤ BIG := hw.1.1.1
  unfold szcCpuS at h
  have hl : a0.length ≤ LIM := by rw [LIM_eq]; omega
  rw [eval_ite_t (lim_cond hl), Int.toNat_natCast]
  have := copy_loop (f := f35_L0) a0 (fun x : CpuD => x) (List.replicate a0.length ((0 : Int), (([] : List Int), ()))) (fun i l => ((a0, (((i : Nat) : Int), ())), (l, ()))) (by simp) ha
    (fun i hi l hl' => by
      have h1 := wrap_succ (i := i) (by omega)
      have h2 : i < l.length := by omega
      have h3 : szcCpu a0[i] ≤ sumBy (fun x : CpuD => szcCpu x) a0 := sumBy_mem (c := fun x : CpuD => szcCpu x) (List.getElem_mem hi)
      have h4 : toCpuV a0[i].1 a0[i].2.1 = some (a0[i].1, a0[i].2.1) := toP_in (show szcCpu a0[i] ≤ 1048576 by omega)
      simp [f35_L0, Out.eval, hi, h1, h2, h4])
    (fun l => by simp [f35_L0, Out.eval])
  refine (eval_get_some this).trans ?_
  rw [List.map_id']
  try rfl
def f93_tree (a0 : Int) (a1 : List Int) : Out ((CpuD × Unit) × (Unit × Unit)) :=
 .get (toIntSV a1) fun y1 =>
 .ret (((a0, y1, ()), ()), ((), ()))
def k93 : Con := { f := 93, lend := true, its := [⟨false, true, [.i .i64, .ro (.int .i64)]⟩], lay := [none], rs := [⟨false, true, [.i .i64, .own (.int .i64)]⟩], F := fun x => .get (toCpuV x.1.1 x.1.2.1) fun y => .ret (((y.1, y.2, ()), ()), ((), ())) }
theorem f93_eq (x : itemsD k93.its) : bodyOut (cxOf [k37]) (fun _ => none) (codeOf Tryz.f93) k93.its k93.lay Tryz.f93.ntmps k93.rs [.cell 2 131] x = f93_tree x.1.1 x.1.2.1 := by kernel_rfl
theorem f93_okp (hr : ∀ x : CpuD × Unit, itemsWF k93.its x → ∀ y, (k93.F x).eval = some y → (f93_tree x.1.1 x.1.2.1).eval = some y) : k93.Ok Tryz.prog :=
  con_fn [k37] ⟨k37_ok, trivial⟩ (by kernel_rfl) (codeOf_eq (by kernel_rfl)) (by kernel_rfl) (by kernel_rfl) (by kernel_rfl) f93_eq hr
theorem k93_ok : k93.Ok Tryz.prog := by
  refine f93_okp fun x hw y hy => ?_
  obtain ⟨⟨a0, a1, _⟩, _⟩ := x
  change (Out.get (toCpuV a0 a1) fun y => Out.ret (((y.1, y.2, ()), ()), ((), ()))).eval = some y at hy
  obtain ⟨h, hy⟩ := toP_get hy
  refine Eq.trans ?_ hy
  show (f93_tree a0 a1).eval = _
  unfold f93_tree
  have h : szcIntS a1 ≤ 1048576 := h
  have e0 : toIntSV a1 = some a1 := toP_in (by omega)
  simp [e0, Out.eval]
abbrev f36_S0 := (List CpuD × Int × Unit) × (List CpuD × Unit)
def f36_L0 (x : f36_S0) : Out (Round f36_S0 ((Unit) × (List CpuD × Unit)) Empty) :=
 .ite (decide (x.1.2.1 < ((List.length x.1.1 : Nat) : Int)))
 (.ite (decide (0 ≤ x.1.2.1))
 (.get (nth x.1.1 (Int.toNat x.1.2.1)) fun y1 =>
 .get (toCpuV y1.1 y1.2.1) fun y2 =>
 .ite (decide (0 ≤ x.1.2.1 ∧ x.1.2.1 < ((List.length x.2.1 : Nat) : Int)))
 (.get (nth x.2.1 (Int.toNat x.1.2.1)) fun y3 =>
 .ret (.again ((x.1.1, (IntKind.i64.wrap (x.1.2.1 + (1 : Int))), ()), ((List.set x.2.1 (Int.toNat x.1.2.1) (y2.1, y2.2, ())), ()))))
 .fail)
 .fail)
 (.ret (.out ((), (x.2.1, ()))))
def f36_tree (a0 : List CpuD) : Out (((List CpuD × Unit) × Unit) × (Unit × Unit)) :=
 .ite (decide (0 ≤ ((List.length a0 : Nat) : Int) ∧ ((List.length a0 : Nat) : Int) ≤ ((List.length a0 : Nat) : Int) ∧ ((List.length a0 : Nat) : Int) ≤ (LIM : Int)))
 (.get (iter1 f36_L0 FUEL ((a0, (0 : Int), ()), ((List.replicate (Int.toNat ((List.length a0 : Nat) : Int)) ((0 : Int), (([] : List Int), ()))), ()))) fun y1 =>
 .ret (((y1.2.1, ()), ()), ((), ())))
 .fail
def f36_A : Nat → Option LoopAnn := fun n => annOf [(0, { head := { t := [.ro (.st (.cons (.int .i64) (.cons (.sl (.int .i64)) .nil))) (some 0), .dead, .dead, .srf 64000000, .i .i64] ++ dd 18, v := [(64000000, .arr (.st (.cons (.int .i64) (.cons (.sl (.int .i64)) .nil))))] }, out := { t := [.dead, .dead, .dead, .srf 64000256] ++ dd 19, v := [(64000256, .arr (.st (.cons (.int .i64) (.cons (.sl (.int .i64)) .nil))))] }, ret := none })] n
def k36 : Con := { f := 36, lend := true, its := [⟨false, false, [.ro (.st (.cons (.int .i64) (.cons (.sl (.int .i64)) .nil)))]⟩], lay := [none], rs := [⟨false, false, [.own (.st (.cons (.int .i64) (.cons (.sl (.int .i64)) .nil)))]⟩], F := fun x => .get (toCpuSV x.1.1) fun y => .ret (((y, ()), ()), ((), ())) }
theorem f36_eq (x : itemsD k36.its) : bodyOut (cxOf [k93]) (f36_A) (codeOf Tryz.f36) k36.its k36.lay Tryz.f36.ntmps k36.rs [.tmp 2] x = f36_tree x.1.1 := by kernel_rfl
theorem f36_okp (hr : ∀ x : (List CpuD × Unit) × Unit, itemsWF k36.its x → ∀ y, (k36.F x).eval = some y → (f36_tree x.1.1).eval = some y) : k36.Ok Tryz.prog :=
  con_fn [k93] ⟨k93_ok, trivial⟩ (by kernel_rfl) (codeOf_eq (by kernel_rfl)) (by kernel_rfl) (by kernel_rfl) (by kernel_rfl) f36_eq hr
theorem k36_ok : k36.Ok Tryz.prog := by
  refine f36_okp fun x hw y hy => ?_
  obtain ⟨⟨a0, _⟩, _⟩ := x
  change (Out.get (toCpuSV a0) fun y => Out.ret (((y, ()), ()), ((), ()))).eval = some y at hy
  obtain ⟨h, hy⟩ := toP_get hy
  refine Eq.trans ?_ hy
  show (f36_tree a0).eval = _
  unfold f36_tree
  have ha : a0.length ≤ BIG := hw.1.1.1
  unfold szcCpuS at h
  have hl : a0.length ≤ LIM := by rw [LIM_eq]; omega
  rw [eval_ite_t (lim_cond hl), Int.toNat_natCast]
  have := copy_loop (f := f36_L0) a0 (fun x : CpuD => x) (List.replicate a0.length ((0 : Int), (([] : List Int), ()))) (fun i l => ((a0, (((i : Nat) : Int), ())), (l, ()))) (by simp) ha
    (fun i hi l hl' => by
      have h1 := wrap_succ (i := i) (by omega)
      have h2 : i < l.length := by omega
      have h3 : szcCpu a0[i] ≤ sumBy (fun x : CpuD => szcCpu x) a0 := sumBy_mem (c := fun x : CpuD => szcCpu x) (List.getElem_mem hi)
      have h4 : toCpuV a0[i].1 a0[i].2.1 = some (a0[i].1, a0[i].2.1) := toP_in (show szcCpu a0[i] ≤ 1048576 by omega)
      simp [f36_L0, Out.eval, hi, h1, h2, h4])
    (fun l => by simp [f36_L0, Out.eval])
  refine (eval_get_some this).trans ?_
  rw [List.map_id']
  try rfl
def f9_tree (a0 : Int) (a1 : Int) (a2 : List (List InsD)) (a3 : List ProcD) (a4 : List OpenD) (a5 : List CpuD) (a6 : List CpuD) (a7 : List Int) (a8 : List Int) : Out ((UnixD × Unit) × (Unit × Unit)) :=
 .get (toInsSSV a2) fun y1 =>
 .get (toProcSV a3) fun y2 =>
 .get (toOpenSV a4) fun y3 =>
 .get (toCpuSV a5) fun y4 =>
 .get (toCpuSV a6) fun y5 =>
 .get (toIntSV a7) fun y6 =>
 .get (toIntSV a8) fun y7 =>
 .ret (((a0, a1, y1, y2, y3, y4, y5, y6, y7, ()), ()), ((), ()))
def toUnixV (a0 : Int) (a1 : Int) (a2 : List (List InsD)) (a3 : List ProcD) (a4 : List OpenD) (a5 : List CpuD) (a6 : List CpuD) (a7 : List Int) (a8 : List Int) : Option (Int × Int × (List (List InsD)) × (List ProcD) × (List OpenD) × (List CpuD) × (List CpuD) × (List Int) × (List Int)) := toP (szcUnix (a0, a1, a2, a3, a4, a5, a6, a7, a8, ())) (a0, a1, a2, a3, a4, a5, a6, a7, a8)
def k9 : Con := { f := 9, lend := true, its := [⟨false, true, [.i .i64, .i .i64, .ro (.sl (.st (.cons (.int .i64) (.cons (.int .i64) (.cons (.int .i64) (.cons (.int .i64) .nil)))))), .ro (.st (.cons (.int .i64) (.cons (.int .i64) (.cons (.int .i64) (.cons (.int .i64) (.cons (.st (.cons (.int .i64) (.cons (.sl (.int .i64)) .nil))) (.cons (.sl (.int .i64)) (.cons (.sl (.int .i64)) (.cons (.int .i64) (.cons (.int .i64) .nil)))))))))), .ro (.st (.cons (.int .i64) (.cons (.int .i64) (.cons (.int .i64) (.cons (.int .i64) (.cons (.int .i64) .nil)))))), .ro (.st (.cons (.int .i64) (.cons (.sl (.int .i64)) .nil))), .ro (.st (.cons (.int .i64) (.cons (.sl (.int .i64)) .nil))), .ro (.int .i64), .ro (.int .i64)]⟩], lay := [none], rs := [⟨false, true, [.i .i64, .i .i64, .own (.sl (.st (.cons (.int .i64) (.cons (.int .i64) (.cons (.int .i64) (.cons (.int .i64) .nil)))))), .own (.st (.cons (.int .i64) (.cons (.int .i64) (.cons (.int .i64) (.cons (.int .i64) (.cons (.st (.cons (.int .i64) (.cons (.sl (.int .i64)) .nil))) (.cons (.sl (.int .i64)) (.cons (.sl (.int .i64)) (.cons (.int .i64) (.cons (.int .i64) .nil)))))))))), .own (.st (.cons (.int .i64) (.cons (.int .i64) (.cons (.int .i64) (.cons (.int .i64) (.cons (.int .i64) .nil)))))), .own (.st (.cons (.int .i64) (.cons (.sl (.int .i64)) .nil))), .own (.st (.cons (.int .i64) (.cons (.sl (.int .i64)) .nil))), .own (.int .i64), .own (.int .i64)]⟩], F := fun x => .get (toUnixV x.1.1 x.1.2.1 x.1.2.2.1 x.1.2.2.2.1 x.1.2.2.2.2.1 x.1.2.2.2.2.2.1 x.1.2.2.2.2.2.2.1 x.1.2.2.2.2.2.2.2.1 x.1.2.2.2.2.2.2.2.2.1) fun y => .ret (((y.1, y.2.1, y.2.2.1, y.2.2.2.1, y.2.2.2.2.1, y.2.2.2.2.2.1, y.2.2.2.2.2.2.1, y.2.2.2.2.2.2.2.1, y.2.2.2.2.2.2.2.2, ()), ()), ((), ())) }
theorem f9_eq (x : itemsD k9.its) : bodyOut (cxOf [k32, k33, k34, k35, k36, k37]) (fun _ => none) (codeOf Tryz.f9) k9.its k9.lay Tryz.f9.ntmps k9.rs [.cell 2 43] x = f9_tree x.1.1 x.1.2.1 x.1.2.2.1 x.1.2.2.2.1 x.1.2.2.2.2.1 x.1.2.2.2.2.2.1 x.1.2.2.2.2.2.2.1 x.1.2.2.2.2.2.2.2.1 x.1.2.2.2.2.2.2.2.2.1 := by kernel_rfl
theorem f9_okp (hr : ∀ x : UnixD × Unit, itemsWF k9.its x → ∀ y, (k9.F x).eval = some y → (f9_tree x.1.1 x.1.2.1 x.1.2.2.1 x.1.2.2.2.1 x.1.2.2.2.2.1 x.1.2.2.2.2.2.1 x.1.2.2.2.2.2.2.1 x.1.2.2.2.2.2.2.2.1 x.1.2.2.2.2.2.2.2.2.1).eval = some y) : k9.Ok Tryz.prog :=
  con_fn [k32, k33, k34, k35, k36, k37] ⟨k32_ok, k33_ok, k34_ok, k35_ok, k36_ok, k37_ok, trivial⟩ (by kernel_rfl) (codeOf_eq (by kernel_rfl)) (by kernel_rfl) (by kernel_rfl) (by kernel_rfl) f9_eq hr
theorem k9_ok : k9.Ok Tryz.prog := by
  refine f9_okp fun x hw y hy => ?_
  obtain ⟨⟨a0, a1, a2, a3, a4, a5, a6, a7, a8, _⟩, _⟩ := x
  change (Out.get (toUnixV a0 a1 a2 a3 a4 a5 a6 a7 a8) fun y => Out.ret (((y.1, y.2.1, y.2.2.1, y.2.2.2.1, y.2.2.2.2.1, y.2.2.2.2.2.1, y.2.2.2.2.2.2.1, y.2.2.2.2.2.2.2.1, y.2.2.2.2.2.2.2.2, ()), ()), ((), ()))).eval = some y at hy
  obtain ⟨h, hy⟩ := toP_get hy
  refine Eq.trans ?_ hy
  show (f9_tree a0 a1 a2 a3 a4 a5 a6 a7 a8).eval = _
  unfold f9_tree
  have h : szcInsSS a2 + szcProcS a3 + szcOpenS a4 + szcCpuS a5 + szcCpuS a6 + szcIntS a7 + szcIntS a8 ≤ 1048576 := h
  have e0 : toInsSSV a2 = some a2 := toP_in (by omega)
  have e1 : toProcSV a3 = some a3 := toP_in (by omega)
  have e2 : toOpenSV a4 = some a4 := toP_in (by omega)
  have e3 : toCpuSV a5 = some a5 := toP_in (by omega)
  have e4 : toCpuSV a6 = some a6 := toP_in (by omega)
  have e5 : toIntSV a7 = some a7 := toP_in (by omega)
  have e6 : toIntSV a8 = some a8 := toP_in (by omega)
  simp [e0, e1, e2, e3, e4, e5, e6, Out.eval]
abbrev f42_S0 := (List Int × List Int × Int × Unit) × (Unit)
def f42_L0 (x : f42_S0) : Out (Round f42_S0 ((Unit) × (Unit)) ((Bool × Unit) × (Unit))) :=
 .ite (decide (x.1.2.2.1 < ((List.length x.1.1 : Nat) : Int)))
 (.ite (decide (0 ≤ x.1.2.2.1))
 (.get (nth x.1.1 (Int.toNat x.1.2.2.1)) fun y1 =>
 .ite (decide (0 ≤ x.1.2.2.1))
 (.get (nth x.1.2.1 (Int.toNat x.1.2.2.1)) fun y2 =>
 .ite ((y1 != y2))
 (.ret (.ret ((false, ()), ())))
 (.ret (.again ((x.1.1, x.1.2.1, (IntKind.i64.wrap (x.1.2.2.1 + (1 : Int))), ()), ()))))
 .fail)
 .fail)
 (.ret (.out ((), ())))
def f42_tree (a0 : List Int) (a1 : List Int) : Out (((Bool × Unit) × Unit) × (Unit × Unit × Unit)) :=
 .ite ((((List.length a0 : Nat) : Int) != ((List.length a1 : Nat) : Int)))
 (.ret (((false, ()), ()), ((), (), ())))
 (.get (iter f42_L0 FUEL ((a0, a1, (0 : Int), ()), ())) fun y1 => .alt y1 (fun y2 =>
 .ret (((true, ()), ()), ((), (), ()))) (fun y3 =>
 .ret (((y3.1.1, ()), ()), ((), (), ()))))
def f42_A : Nat → Option LoopAnn := fun n => annOf [(0, { head := { t := [.ro (.int .i64) (some 0), .ro (.int .i64) (some 1), .dead, .dead, .dead, .i .i64] ++ dd 20, v := [] }, out := { t := dd 26, v := [] }, ret := some { t := dd 4 ++ [.b] ++ dd 21, v := [] } })] n
def eqIntSV (a0 : List Int) (b0 : List Int) : Bool := decide ((a0 : List Int) = b0)
def k42 : Con := { f := 42, lend := true, its := [⟨false, false, [.ro (.int .i64)]⟩, ⟨false, false, [.ro (.int .i64)]⟩], lay := [none, none], rs := [⟨false, false, [.b]⟩], F := fun x => .ret ((((eqIntSV x.1.1 x.2.1.1), ()), ()), ((), (), ())) }
theorem f42_eq (x : itemsD k42.its) : bodyOut (cxOf []) (f42_A) (codeOf Tryz.f42) k42.its k42.lay Tryz.f42.ntmps k42.rs [.tmp 4] x = f42_tree x.1.1 x.2.1.1 := by kernel_rfl
theorem f42_ok (hr : ∀ x : (List Int × Unit) × (List Int × Unit) × Unit, itemsWF k42.its x → (f42_tree x.1.1 x.2.1.1).eval = (k42.F x).eval) : k42.Ok Tryz.prog :=
  con_fn [] trivial (by kernel_rfl) (codeOf_eq (by kernel_rfl)) (by kernel_rfl) (by kernel_rfl) (by kernel_rfl) f42_eq fun x hw _ hy => (hr x hw).trans hy
theorem k42_ok : k42.Ok Tryz.prog := by
  refine f42_ok fun x hw => ?_
  obtain ⟨⟨a0, _⟩, ⟨b0, _⟩, _⟩ := x
  show (f42_tree a0 b0).eval = some (((eqIntSV a0 b0, ()), ()), ((), ((), ())))
  unfold f42_tree
  have ha : a0.length ≤ BIG := hw.1.1.1
  by_cases hl : a0.length = b0.length
  · rw [eval_ite_f (len_eq hl)]
    have := eq_loop (f := f42_L0) a0 b0 (fun i => ((a0, (b0, (((i : Nat) : Int), ()))), ())) (y := ((), ())) (z := ((false, ()), ())) hl ha
      (fun i hi hi' he => by
        have := wrap_succ (i := i) (by omega)
        simp [f42_L0, Out.eval, hi, hi', he, this])
      (fun i hi hi' he => by
        simp [f42_L0, Out.eval, hi, hi', he, cond_eq_ite])
      (by simp [f42_L0, Out.eval])
    refine (eval_get_some this).trans ?_
    unfold eqIntSV
    by_cases hab : a0 = b0
    · simp only [if_pos hab, decide_eq_true hab]; rfl
    · simp only [if_neg hab, decide_eq_false hab]; rfl
  · rw [eval_ite_t (len_ne hl)]
    have : eqIntSV a0 b0 = false := decide_eq_false fun e => hl (by rw [e])
    rw [this]
    rfl
def f166_tree (a0 : Int) (a1 : Int) (a2 : Int) (a3 : Int) (a4 : Int) (a5 : Int) (a6 : Int) (a7 : Int) : Out (((Bool × Unit) × Unit) × (Unit × Unit × Unit)) :=
 .ite ((a0 != a4))
 (.ret (((false, ()), ()), ((), (), ())))
 (.ite ((a1 != a5))
 (.ret (((false, ()), ()), ((), (), ())))
 (.ite ((a2 != a6))
 (.ret (((false, ()), ()), ((), (), ())))
 (.ite ((a3 != a7))
 (.ret (((false, ()), ()), ((), (), ())))
 (.ret (((true, ()), ()), ((), (), ()))))))
def eqInsV (a0 : Int) (a1 : Int) (a2 : Int) (a3 : Int) (b0 : Int) (b1 : Int) (b2 : Int) (b3 : Int) : Bool := decide (((a0, a1, a2, a3, ()) : InsD) = (b0, b1, b2, b3, ()))
def k166 : Con := { f := 166, lend := true, its := [⟨false, true, [.i .i64, .i .i64, .i .i64, .i .i64]⟩, ⟨false, true, [.i .i64, .i .i64, .i .i64, .i .i64]⟩], lay := [none, none], rs := [⟨false, false, [.b]⟩], F := fun x => .ret ((((eqInsV x.1.1 x.1.2.1 x.1.2.2.1 x.1.2.2.2.1 x.2.1.1 x.2.1.2.1 x.2.1.2.2.1 x.2.1.2.2.2.1), ()), ()), ((), (), ())) }
theorem f166_eq (x : itemsD k166.its) : bodyOut (cxOf []) (fun _ => none) (codeOf Tryz.f166) k166.its k166.lay Tryz.f166.ntmps k166.rs [.tmp 4] x = f166_tree x.1.1 x.1.2.1 x.1.2.2.1 x.1.2.2.2.1 x.2.1.1 x.2.1.2.1 x.2.1.2.2.1 x.2.1.2.2.2.1 := by kernel_rfl
theorem f166_ok (hr : ∀ x : InsD × InsD × Unit, itemsWF k166.its x → (f166_tree x.1.1 x.1.2.1 x.1.2.2.1 x.1.2.2.2.1 x.2.1.1 x.2.1.2.1 x.2.1.2.2.1 x.2.1.2.2.2.1).eval = (k166.F x).eval) : k166.Ok Tryz.prog :=
  con_fn [] trivial (by kernel_rfl) (codeOf_eq (by kernel_rfl)) (by kernel_rfl) (by kernel_rfl) (by kernel_rfl) f166_eq fun x hw _ hy => (hr x hw).trans hy
theorem k166_ok : k166.Ok Tryz.prog := by
  refine f166_ok fun x hw => ?_
  obtain ⟨⟨a0, a1, a2, a3, _⟩, ⟨b0, b1, b2, b3, _⟩, _⟩ := x
  show (f166_tree a0 a1 a2 a3 b0 b1 b2 b3).eval = some (((eqInsV a0 a1 a2 a3 b0 b1 b2 b3, ()), ()), ((), ((), ())))
  unfold f166_tree
  unfold eqInsV
  by_cases h0 : a0 = b0
  case neg => simp [Out.eval, h0, cond_eq_ite]
  subst h0
  by_cases h1 : a1 = b1
  case neg => simp [Out.eval, h1, cond_eq_ite]
  subst h1
  by_cases h2 : a2 = b2
  case neg => simp [Out.eval, h2, cond_eq_ite]
  subst h2
  by_cases h3 : a3 = b3
  case neg => simp [Out.eval, h3, cond_eq_ite]
  subst h3
  simp [Out.eval, cond_eq_ite]
abbrev f109_S0 := (List InsD × List InsD × Int × Unit) × (Unit)
def f109_L0 (x : f109_S0) : Out (Round f109_S0 ((Unit) × (Unit)) ((Bool × Unit) × (Unit))) :=
 .ite (decide (x.1.2.2.1 < ((List.length x.1.1 : Nat) : Int)))
 (.ite (decide (0 ≤ x.1.2.2.1))
 (.get (nth x.1.1 (Int.toNat x.1.2.2.1)) fun y1 =>
 .ite (decide (0 ≤ x.1.2.2.1))
 (.get (nth x.1.2.1 (Int.toNat x.1.2.2.1)) fun y2 =>
 .ite (!(eqInsV y1.1 y1.2.1 y1.2.2.1 y1.2.2.2.1 y2.1 y2.2.1 y2.2.2.1 y2.2.2.2.1))
 (.ret (.ret ((false, ()), ())))
 (.ret (.again ((x.1.1, x.1.2.1, (IntKind.i64.wrap (x.1.2.2.1 + (1 : Int))), ()), ()))))
 .fail)
 .fail)
 (.ret (.out ((), ())))
def f109_tree (a0 : List InsD) (a1 : List InsD) : Out (((Bool × Unit) × Unit) × (Unit × Unit × Unit)) :=
 .ite ((((List.length a0 : Nat) : Int) != ((List.length a1 : Nat) : Int)))
 (.ret (((false, ()), ()), ((), (), ())))
 (.get (iter f109_L0 FUEL ((a0, a1, (0 : Int), ()), ())) fun y1 => .alt y1 (fun y2 =>
 .ret (((true, ()), ()), ((), (), ()))) (fun y3 =>
 .ret (((y3.1.1, ()), ()), ((), (), ()))))
def f109_A : Nat → Option LoopAnn := fun n => annOf [(0, { head := { t := [.ro (.st (.cons (.int .i64) (.cons (.int .i64) (.cons (.int .i64) (.cons (.int .i64) .nil))))) (some 0), .ro (.st (.cons (.int .i64) (.cons (.int .i64) (.cons (.int .i64) (.cons (.int .i64) .nil))))) (some 1), .dead, .dead, .dead, .i .i64] ++ dd 21, v := [] }, out := { t := dd 27, v := [] }, ret := some { t := dd 4 ++ [.b] ++ dd 22, v := [] } })] n
def eqInsSV (a0 : List InsD) (b0 : List InsD) : Bool := decide ((a0 : List InsD) = b0)
def k109 : Con := { f := 109, lend := true, its := [⟨false, false, [.ro (.st (.cons (.int .i64) (.cons (.int .i64) (.cons (.int .i64) (.cons (.int .i64) .nil)))))]⟩, ⟨false, false, [.ro (.st (.cons (.int .i64) (.cons (.int .i64) (.cons (.int .i64) (.cons (.int .i64) .nil)))))]⟩], lay := [none, none], rs := [⟨false, false, [.b]⟩], F := fun x => .ret ((((eqInsSV x.1.1 x.2.1.1), ()), ()), ((), (), ())) }
theorem f109_eq (x : itemsD k109.its) : bodyOut (cxOf [k166]) (f109_A) (codeOf Tryz.f109) k109.its k109.lay Tryz.f109.ntmps k109.rs [.tmp 4] x = f109_tree x.1.1 x.2.1.1 := by kernel_rfl
theorem f109_ok (hr : ∀ x : (List InsD × Unit) × (List InsD × Unit) × Unit, itemsWF k109.its x → (f109_tree x.1.1 x.2.1.1).eval = (k109.F x).eval) : k109.Ok Tryz.prog :=
  con_fn [k166] ⟨k166_ok, trivial⟩ (by kernel_rfl) (codeOf_eq (by kernel_rfl)) (by kernel_rfl) (by kernel_rfl) (by kernel_rfl) f109_eq fun x hw _ hy => (hr x hw).trans hy
theorem k109_ok : k109.Ok Tryz.prog := by
  refine f109_ok fun x hw => ?_
  obtain ⟨⟨a0, _⟩, ⟨b0, _⟩, _⟩ := x
  show (f109_tree a0 b0).eval = some (((eqInsSV a0 b0, ()), ()), ((), ((), ())))
  unfold f109_tree
  have ha : a0.length ≤ BIG := hw.1.1.1
  by_cases hl : a0.length = b0.length
  · rw [eval_ite_f (len_eq hl)]
    have := eq_loop (f := f109_L0) a0 b0 (fun i => ((a0, (b0, (((i : Nat) : Int), ()))), ())) (y := ((), ())) (z := ((false, ()), ())) hl ha
      (fun i hi hi' he => by
        have := wrap_succ (i := i) (by omega)
        have h3 : ∀ x y : InsD, eqInsV x.1 x.2.1 x.2.2.1 x.2.2.2.1 y.1 y.2.1 y.2.2.1 y.2.2.2.1 = decide (x = y) := fun _ _ => rfl
        simp [f109_L0, Out.eval, hi, hi', he, this, h3])
      (fun i hi hi' he => by
        have h3 : ∀ x y : InsD, eqInsV x.1 x.2.1 x.2.2.1 x.2.2.2.1 y.1 y.2.1 y.2.2.1 y.2.2.2.1 = decide (x = y) := fun _ _ => rfl
        simp [f109_L0, Out.eval, hi, hi', he, cond_eq_ite, h3])
      (by simp [f109_L0, Out.eval])
    refine (eval_get_some this).trans ?_
    unfold eqInsSV
    by_cases hab : a0 = b0
    · simp only [if_pos hab, decide_eq_true hab]; rfl
    · simp only [if_neg hab, decide_eq_false hab]; rfl
  · rw [eval_ite_t (len_ne hl)]
    have : eqInsSV a0 b0 = false := decide_eq_false fun e => hl (by rw [e])
    rw [this]
    rfl
abbrev f43_S0 := (List (List InsD) × List (List InsD) × Int × Unit) × (Unit)
def f43_L0 (x : f43_S0) : Out (Round f43_S0 ((Unit) × (Unit)) ((Bool × Unit) × (Unit))) :=
 .ite (decide (x.1.2.2.1 < ((List.length x.1.1 : Nat) : Int)))
 (.ite (decide (0 ≤ x.1.2.2.1))
 (.get (nth x.1.1 (Int.toNat x.1.2.2.1)) fun y1 =>
 .ite (decide (0 ≤ x.1.2.2.1))
 (.get (nth x.1.2.1 (Int.toNat x.1.2.2.1)) fun y2 =>
 .ite (!(eqInsSV y1 y2))
 (.ret (.ret ((false, ()), ())))
 (.ret (.again ((x.1.1, x.1.2.1, (IntKind.i64.wrap (x.1.2.2.1 + (1 : Int))), ()), ()))))
 .fail)
 .fail)
 (.ret (.out ((), ())))
def f43_tree (a0 : List (List InsD)) (a1 : List (List InsD)) : Out (((Bool × Unit) × Unit) × (Unit × Unit × Unit)) :=
 .ite ((((List.length a0 : Nat) : Int) != ((List.length a1 : Nat) : Int)))
 (.ret (((false, ()), ()), ((), (), ())))
 (.get (iter f43_L0 FUEL ((a0, a1, (0 : Int), ()), ())) fun y1 => .alt y1 (fun y2 =>
 .ret (((true, ()), ()), ((), (), ()))) (fun y3 =>
 .ret (((y3.1.1, ()), ()), ((), (), ()))))
def f43_A : Nat → Option LoopAnn := fun n => annOf [(0, { head := { t := [.ro (.sl (.st (.cons (.int .i64) (.cons (.int .i64) (.cons (.int .i64) (.cons (.int .i64) .nil)))))) (some 0), .ro (.sl (.st (.cons (.int .i64) (.cons (.int .i64) (.cons (.int .i64) (.cons (.int .i64) .nil)))))) (some 1), .dead, .dead, .dead, .i .i64] ++ dd 21, v := [] }, out := { t := dd 27, v := [] }, ret := some { t := dd 4 ++ [.b] ++ dd 22, v := [] } })] n
def eqInsSSV (a0 : List (List InsD)) (b0 : List (List InsD)) : Bool := decide ((a0 : List (List InsD)) = b0)
def k43 : Con := { f := 43, lend := true, its := [⟨false, false, [.ro (.sl (.st (.cons (.int .i64) (.cons (.int .i64) (.cons (.int .i64) (.cons (.int .i64) .nil))))))]⟩, ⟨false, false, [.ro (.sl (.st (.cons (.int .i64) (.cons (.int .i64) (.cons (.int .i64) (.cons (.int .i64) .nil))))))]⟩], lay := [none, none], rs := [⟨false, false, [.b]⟩], F := fun x => .ret ((((eqInsSSV x.1.1 x.2.1.1), ()), ()), ((), (), ())) }
theorem f43_eq (x : itemsD k43.its) : bodyOut (cxOf [k109]) (f43_A) (codeOf Tryz.f43) k43.its k43.lay Tryz.f43.ntmps k43.rs [.tmp 4] x = f43_tree x.1.1 x.2.1.1 := by kernel_rfl
theorem f43_ok (hr : ∀ x : (List (List InsD) × Unit) × (List (List InsD) × Unit) × Unit, itemsWF k43.its x → (f43_tree x.1.1 x.2.1.1).eval = (k43.F x).eval) : k43.Ok Tryz.prog :=
  con_fn [k109] ⟨k109_ok, trivial⟩ (by kernel_rfl) (codeOf_eq (by kernel_rfl)) (by kernel_rfl) (by kernel_rfl) (by kernel_rfl) f43_eq fun x hw _ hy => (hr x hw).trans hy
theorem k43_ok : k43.Ok Tryz.prog := by
  refine f43_ok fun x hw => ?_
  obtain ⟨⟨a0, _⟩, ⟨b0, _⟩, _⟩ := x
  show (f43_tree a0 b0).eval = some (((eqInsSSV a0 b0, ()), ()), ((), ((), ())))
  unfold f43_tree
  have ha : a0.length ≤ BIG := hw.1.1.1
  by_cases hl : a0.length = b0.length
  · rw [eval_ite_f (len_eq hl)]
    have := eq_loop (f := f43_L0) a0 b0 (fun i => ((a0, (b0, (((i : Nat) : Int), ()))), ())) (y := ((), ())) (z := ((false, ()), ())) hl ha
      (fun i hi hi' he => by
        have := wrap_succ (i := i) (by omega)
        have h3 : ∀ x y : List InsD, eqInsSV x y = decide (x = y) := fun _ _ => rfl
        simp [f43_L0, Out.eval, hi, hi', he, this, h3])
      (fun i hi hi' he => by
        have h3 : ∀ x y : List InsD, eqInsSV x y = decide (x = y) := fun _ _ => rfl
        simp [f43_L0, Out.eval, hi, hi', he, cond_eq_ite, h3])
      (by simp [f43_L0, Out.eval])
    refine (eval_get_some this).trans ?_
    unfold eqInsSSV
    by_cases hab : a0 = b0
    · simp only [if_pos hab, decide_eq_true hab]; rfl
    · simp only [if_neg hab, decide_eq_false hab]; rfl
  · rw [eval_ite_t (len_ne hl)]
    have : eqInsSSV a0 b0 = false := decide_eq_false fun e => hl (by rw [e])
    rw [this]
    rfl
def f41_tree (a0 : Int) (a1 : List Int) (a2 : Int) (a3 : List Int) : Out (((Bool × Unit) × Unit) × (Unit × Unit × Unit)) :=
 .ite ((a0 != a2))
 (.ret (((false, ()), ()), ((), (), ())))
 (.ite (!(eqIntSV a1 a3))
 (.ret (((false, ()), ()), ((), (), ())))
 (.ret (((true, ()), ()), ((), (), ()))))
def eqCpuV (a0 : Int) (a1 : List Int) (b0 : Int) (b1 : List Int) : Bool := decide (((a0, a1, ()) : CpuD) = (b0, b1, ()))
def k41 : Con := { f := 41, lend := true, its := [⟨false, true, [.i .i64, .ro (.int .i64)]⟩, ⟨false, true, [.i .i64, .ro (.int .i64)]⟩], lay := [none, none], rs := [⟨false, false, [.b]⟩], F := fun x => .ret ((((eqCpuV x.1.1 x.1.2.1 x.2.1.1 x.2.1.2.1), ()), ()), ((), (), ())) }
theorem f41_eq (x : itemsD k41.its) : bodyOut (cxOf [k42]) (fun _ => none) (codeOf Tryz.f41) k41.its k41.lay Tryz.f41.ntmps k41.rs [.tmp 4] x = f41_tree x.1.1 x.1.2.1 x.2.1.1 x.2.1.2.1 := by kernel_rfl
theorem f41_ok (hr : ∀ x : CpuD × CpuD × Unit, itemsWF k41.its x → (f41_tree x.1.1 x.1.2.1 x.2.1.1 x.2.1.2.1).eval = (k41.F x).eval) : k41.Ok Tryz.prog :=
  con_fn [k42] ⟨k42_ok, trivial⟩ (by kernel_rfl) (codeOf_eq (by kernel_rfl)) (by kernel_rfl) (by kernel_rfl) (by kernel_rfl) f41_eq fun x hw _ hy => (hr x hw).trans hy
theorem k41_ok : k41.Ok Tryz.prog := by
  refine f41_ok fun x hw => ?_
  obtain ⟨⟨a0, a1, _⟩, ⟨b0, b1, _⟩, _⟩ := x
  show (f41_tree a0 a1 b0 b1).eval = some (((eqCpuV a0 a1 b0 b1, ()), ()), ((), ((), ())))
  unfold f41_tree
  unfold eqCpuV eqIntSV
  by_cases h0 : a0 = b0
  case neg => simp [Out.eval, h0, cond_eq_ite]
  subst h0
  by_cases h1 : a1 = b1
  case neg => simp [Out.eval, h1, cond_eq_ite]
  subst h1
  simp [Out.eval, cond_eq_ite]
def f110_tree (a0 : Int) (a1 : Int) (a2 : Int) (a3 : Int) (a4 : Int) (a5 : List Int) (a6 : List Int) (a7 : List Int) (a8 : Int) (a9 : Int) (a10 : Int) (a11 : Int) (a12 : Int) (a13 : Int) (a14 : Int) (a15 : List Int) (a16 : List Int) (a17 : List Int) (a18 : Int) (a19 : Int) : Out (((Bool × Unit) × Unit) × (Unit × Unit × Unit)) :=
 .ite ((a0 != a10))
 (.ret (((false, ()), ()), ((), (), ())))
 (.ite ((a1 != a11))
 (.ret (((false, ()), ()), ((), (), ())))
 (.ite ((a2 != a12))
 (.ret (((false, ()), ()), ((), (), ())))
 (.ite ((a3 != a13))
 (.ret (((false, ()), ()), ((), (), ())))
 (.ite (!(eqCpuV a4 a5 a14 a15))
 (.ret (((false, ()), ()), ((), (), ())))
 (.ite (!(eqIntSV a6 a16))
 (.ret (((false, ()), ()), ((), (), ())))
 (.ite (!(eqIntSV a7 a17))
 (.ret (((false, ()), ()), ((), (), ())))
 (.ite ((a8 != a18))
 (.ret (((false, ()), ()), ((), (), ())))
 (.ite ((a9 != a19))
 (.ret (((false, ()), ()), ((), (), ())))
 (.ret (((true, ()), ()), ((), (), ())))))))))))
def eqProcV (a0 : Int) (a1 : Int) (a2 : Int) (a3 : Int) (a4 : Int) (a5 : List Int) (a6 : List Int) (a7 : List Int) (a8 : Int) (a9 : Int) (b0 : Int) (b1 : Int) (b2 : Int) (b3 : Int) (b4 : Int) (b5 : List Int) (b6 : List Int) (b7 : List Int) (b8 : Int) (b9 : Int) : Bool := decide (((a0, a1, a2, a3, (a4, a5, ()), a6, a7, a8, a9, ()) : ProcD) = (b0, b1, b2, b3, (b4, b5, ()), b6, b7, b8, b9, ()))
def k110 : Con := { f := 110, lend := true, its := [⟨false, true, [.i .i64, .i .i64, .i .i64, .i .i64, .i .i64, .ro (.int .i64), .ro (.int .i64), .ro (.int .i64), .i .i64, .i .i64]⟩, ⟨false, true, [.i .i64, .i .i64, .i .i64, .i .i64, .i .i64, .ro (.int .i64), .ro (.int .i64), .ro (.int .i64), .i .i64, .i .i64]⟩], lay := [none, none], rs := [⟨false, false, [.b]⟩], F := fun x => .ret ((((eqProcV x.1.1 x.1.2.1 x.1.2.2.1 x.1.2.2.2.1 x.1.2.2.2.2.1 x.1.2.2.2.2.2.1 x.1.2.2.2.2.2.2.1 x.1.2.2.2.2.2.2.2.1 x.1.2.2.2.2.2.2.2.2.1 x.1.2.2.2.2.2.2.2.2.2.1 x.2.1.1 x.2.1.2.1 x.2.1.2.2.1 x.2.1.2.2.2.1 x.2.1.2.2.2.2.1 x.2.1.2.2.2.2.2.1 x.2.1.2.2.2.2.2.2.1 x.2.1.2.2.2.2.2.2.2.1 x.2.1.2.2.2.2.2.2.2.2.1 x.2.1.2.2.2.2.2.2.2.2.2.1), ()), ()), ((), (), ())) }
theorem f110_eq (x : itemsD k110.its) : bodyOut (cxOf [k41, k42]) (fun _ => none) (codeOf Tryz.f110) k110.its k110.lay Tryz.f110.ntmps k110.rs [.tmp 4] x = f110_tree x.1.1 x.1.2.1 x.1.2.2.1 x.1.2.2.2.1 x.1.2.2.2.2.1 x.1.2.2.2.2.2.1 x.1.2.2.2.2.2.2.1 x.1.2.2.2.2.2.2.2.1 x.1.2.2.2.2.2.2.2.2.1 x.1.2.2.2.2.2.2.2.2.2.1 x.2.1.1 x.2.1.2.1 x.2.1.2.2.1 x.2.1.2.2.2.1 x.2.1.2.2.2.2.1 x.2.1.2.2.2.2.2.1 x.2.1.2.2.2.2.2.2.1 x.2.1.2.2.2.2.2.2.2.1 x.2.1.2.2.2.2.2.2.2.2.1 x.2.1.2.2.2.2.2.2.2.2.2.1 := by kernel_rfl
theorem f110_ok (hr : ∀ x : (Int × Int × Int × Int × Int × List Int × List Int × List Int × Int × Int × Unit) × (Int × Int × Int × Int × Int × List Int × List Int × List Int × Int × Int × Unit) × Unit, itemsWF k110.its x → (f110_tree x.1.1 x.1.2.1 x.1.2.2.1 x.1.2.2.2.1 x.1.2.2.2.2.1 x.1.2.2.2.2.2.1 x.1.2.2.2.2.2.2.1 x.1.2.2.2.2.2.2.2.1 x.1.2.2.2.2.2.2.2.2.1 x.1.2.2.2.2.2.2.2.2.2.1 x.2.1.1 x.2.1.2.1 x.2.1.2.2.1 x.2.1.2.2.2.1 x.2.1.2.2.2.2.1 x.2.1.2.2.2.2.2.1 x.2.1.2.2.2.2.2.2.1 x.2.1.2.2.2.2.2.2.2.1 x.2.1.2.2.2.2.2.2.2.2.1 x.2.1.2.2.2.2.2.2.2.2.2.1).eval = (k110.F x).eval) : k110.Ok Tryz.prog :=
  con_fn [k41, k42] ⟨k41_ok, k42_ok, trivial⟩ (by kernel_rfl) (codeOf_eq (by kernel_rfl)) (by kernel_rfl) (by kernel_rfl) (by kernel_rfl) f110_eq fun x hw _ hy => (hr x hw).trans hy
theorem k110_ok : k110.Ok Tryz.prog := by
  refine f110_ok fun x hw => ?_
  obtain ⟨⟨a0, a1, a2, a3, a4, a5, a6, a7, a8, a9, _⟩, ⟨b0, b1, b2, b3, b4, b5, b6, b7, b8, b9, _⟩, _⟩ := x
  show (f110_tree a0 a1 a2 a3 a4 a5 a6 a7 a8 a9 b0 b1 b2 b3 b4 b5 b6 b7 b8 b9).eval = some (((eqProcV a0 a1 a2 a3 a4 a5 a6 a7 a8 a9 b0 b1 b2 b3 b4 b5 b6 b7 b8 b9, ()), ()), ((), ((), ())))
  unfold f110_tree
  unfold eqProcV eqCpuV eqIntSV
  by_cases h0 : a0 = b0
  case neg => simp [Out.eval, h0, cond_eq_ite]
  subst h0
  by_cases h1 : a1 = b1
  case neg => simp [Out.eval, h1, cond_eq_ite]
  subst h1
  by_cases h2 : a2 = b2
  case neg => simp [Out.eval, h2, cond_eq_ite]
  subst h2
  by_cases h3 : a3 = b3
  case neg => simp [Out.eval, h3, cond_eq_ite]
  subst h3
  by_cases h4 : a4 = b4
  case neg => simp [Out.eval, h4, cond_eq_ite]
  subst h4
  by_cases h5 : a5 = b5
  case neg => simp [Out.eval, h5, cond_eq_ite]
  subst h5
  by_cases h6 : a6 = b6
  case neg => simp [Out.eval, h6, cond_eq_ite]
  subst h6
  by_cases h7 : a7 = b7
  case neg => simp [Out.eval, h7, cond_eq_ite]
  subst h7
  by_cases h8 : a8 = b8
  case neg => simp [Out.eval, h8, cond_eq_ite]
  subst h8
  by_cases h9 : a9 = b9
  case neg => simp [Out.eval, h9, cond_eq_ite]
  subst h9
  simp [Out.eval, cond_eq_ite]
abbrev f44_S0 := (List ProcD × List ProcD × Int × Unit) × (Unit)
def f44_L0 (x : f44_S0) : Out (Round f44_S0 ((Unit) × (Unit)) ((Bool × Unit) × (Unit))) :=
 .ite (decide (x.1.2.2.1 < ((List.length x.1.1 : Nat) : Int)))
 (.ite (decide (0 ≤ x.1.2.2.1))
 (.get (nth x.1.1 (Int.toNat x.1.2.2.1)) fun y1 =>
 .ite (decide (0 ≤ x.1.2.2.1))
 (.get (nth x.1.2.1 (Int.toNat x.1.2.2.1)) fun y2 =>
 .ite (!(eqProcV y1.1 y1.2.1 y1.2.2.1 y1.2.2.2.1 y1.2.2.2.2.1.1 y1.2.2.2.2.1.2.1 y1.2.2.2.2.2.1 y1.2.2.2.2.2.2.1 y1.2.2.2.2.2.2.2.1 y1.2.2.2.2.2.2.2.2.1 y2.1 y2.2.1 y2.2.2.1 y2.2.2.2.1 y2.2.2.2.2.1.1 y2.2.2.2.2.1.2.1 y2.2.2.2.2.2.1 y2.2.2.2.2.2.2.1 y2.2.2.2.2.2.2.2.1 y2.2.2.2.2.2.2.2.2.1))
 (.ret (.ret ((false, ()), ())))
 (.ret (.again ((x.1.1, x.1.2.1, (IntKind.i64.wrap (x.1.2.2.1 + (1 : Int))), ()), ()))))
 .fail)
 .fail)
 (.ret (.out ((), ())))
def f44_tree (a0 : List ProcD) (a1 : List ProcD) : Out (((Bool × Unit) × Unit) × (Unit × Unit × Unit)) :=
 .ite ((((List.length a0 : Nat) : Int) != ((List.length a1 : Nat) : Int)))
 (.ret (((false, ()), ()), ((), (), ())))
 (.get (iter f44_L0 FUEL ((a0, a1, (0 : Int), ()), ())) fun y1 => .alt y1 (fun y2 =>
 .ret (((true, ()), ()), ((), (), ()))) (fun y3 =>
 .ret (((y3.1.1, ()), ()), ((), (), ()))))
def f44_A : Nat → Option LoopAnn := fun n => annOf [(0, { head := { t := [.ro (.st (.cons (.int .i64) (.cons (.int .i64) (.cons (.int .i64) (.cons (.int .i64) (.cons (.st (.cons (.int .i64) (.cons (.sl (.int .i64)) .nil))) (.cons (.sl (.int .i64)) (.cons (.sl (.int .i64)) (.cons (.int .i64) (.cons (.int .i64) .nil)))))))))) (some 0), .ro (.st (.cons (.int .i64) (.cons (.int .i64) (.cons (.int .i64) (.cons (.int .i64) (.cons (.st (.cons (.int .i64) (.cons (.sl (.int .i64)) .nil))) (.cons (.sl (.int .i64)) (.cons (.sl (.int .i64)) (.cons (.int .i64) (.cons (.int .i64) .nil)))))))))) (some 1), .dead, .dead, .dead, .i .i64] ++ dd 21, v := [] }, out := { t := dd 27, v := [] }, ret := some { t := dd 4 ++ [.b] ++ dd 22, v := [] } })] n
def eqProcSV (a0 : List ProcD) (b0 : List ProcD) : Bool := decide ((a0 : List ProcD) = b0)
def k44 : Con := { f := 44, lend := true, its := [⟨false, false, [.ro (.st (.cons (.int .i64) (.cons (.int .i64) (.cons (.int .i64) (.cons (.int .i64) (.cons (.st (.cons (.int .i64) (.cons (.sl (.int .i64)) .nil))) (.cons (.sl (.int .i64)) (.cons (.sl (.int .i64)) (.cons (.int .i64) (.cons (.int .i64) .nil))))))))))]⟩, ⟨false, false, [.ro (.st (.cons (.int .i64) (.cons (.int .i64) (.cons (.int .i64) (.cons (.int .i64) (.cons (.st (.cons (.int .i64) (.cons (.sl (.int .i64)) .nil))) (.cons (.sl (.int .i64)) (.cons (.sl (.int .i64)) (.cons (.int .i64) (.cons (.int .i64) .nil))))))))))]⟩], lay := [none, none], rs := [⟨false, false, [.b]⟩], F := fun x => .ret ((((eqProcSV x.1.1 x.2.1.1), ()), ()), ((), (), ())) }
theorem f44_eq (x : itemsD k44.its) : bodyOut (cxOf [k110]) (f44_A) (codeOf Tryz.f44) k44.its k44.lay Tryz.f44.ntmps k44.rs [.tmp 4] x = f44_tree x.1.1 x.2.1.1 := by kernel_rfl
theorem f44_ok (hr : ∀ x : (List ProcD × Unit) × (List ProcD × Unit) × Unit, itemsWF k44.its x → (f44_tree x.1.1 x.2.1.1).eval = (k44.F x).eval) : k44.Ok Tryz.prog :=
  con_fn [k110] ⟨k110_ok, trivial⟩ (by kernel_rfl) (codeOf_eq (by kernel_rfl)) (by kernel_rfl) (by kernel_rfl) (by kernel_rfl) f44_eq fun x hw _ hy => (hr x hw).trans hy
theorem k44_ok : k44.Ok Tryz.prog := by
  refine f44_ok fun x hw => ?_
  obtain ⟨⟨a0, _⟩, ⟨b0, _⟩, _⟩ := x
  show (f44_tree a0 b0).eval = some (((eqProcSV a0 b0, ()), ()), ((), ((), ())))
  unfold f44_tree
  have ha : a0.length ≤ BIG := hw.1.1.1
  by_cases hl : a0.length = b0.length
  · rw [eval_ite_f (len_eq hl)]
    have := eq_loop (f := f44_L0) a0 b0 (fun i => ((a0, (b0, (((i : Nat) : Int), ()))), ())) (y := ((), ())) (z := ((false, ()), ())) hl ha
      (fun i hi hi' he => by
        have := wrap_succ (i := i) (by omega)
        have h3 : ∀ x y : ProcD, eqProcV x.1 x.2.1 x.2.2.1 x.2.2.2.1 x.2.2.2.2.1.1 x.2.2.2.2.1.2.1 x.2.2.2.2.2.1 x.2.2.2.2.2.2.1 x.2.2.2.2.2.2.2.1 x.2.2.2.2.2.2.2.2.1 y.1 y.2.1 y.2.2.1 y.2.2.2.1 y.2.2.2.2.1.1 y.2.2.2.2.1.2.1 y.2.2.2.2.2.1 y.2.2.2.2.2.2.1 y.2.2.2.2.2.2.2.1 y.2.2.2.2.2.2.2.2.1 = decide (x = y) := fun _ _ => rfl
        simp [f44_L0, Out.eval, hi, hi', he, this, h3])
      (fun i hi hi' he => by
        have h3 : ∀ x y : ProcD, eqProcV x.1 x.2.1 x.2.2.1 x.2.2.2.1 x.2.2.2.2.1.1 x.2.2.2.2.1.2.1 x.2.2.2.2.2.1 x.2.2.2.2.2.2.1 x.2.2.2.2.2.2.2.1 x.2.2.2.2.2.2.2.2.1 y.1 y.2.1 y.2.2.1 y.2.2.2.1 y.2.2.2.2.1.1 y.2.2.2.2.1.2.1 y.2.2.2.2.2.1 y.2.2.2.2.2.2.1 y.2.2.2.2.2.2.2.1 y.2.2.2.2.2.2.2.2.1 = decide (x = y) := fun _ _ => rfl
        simp [f44_L0, Out.eval, hi, hi', he, cond_eq_ite, h3])
      (by simp [f44_L0, Out.eval])
    refine (eval_get_some this).trans ?_
    unfold eqProcSV
    by_cases hab : a0 = b0
    · simp only [if_pos hab, decide_eq_true hab]; rfl
    · simp only [if_neg hab, decide_eq_false hab]; rfl
  · rw [eval_ite_t (len_ne hl)]
    have : eqProcSV a0 b0 = false := decide_eq_false fun e => hl (by rw [e])
    rw [this]
    rfl
def f111_tree (a0 : Int) (a1 : Int) (a2 : Int) (a3 : Int) (a4 : Int) (a5 : Int) (a6 : Int) (a7 : Int) (a8 : Int) (a9 : Int) : Out (((Bool × Unit) × Unit) × (Unit × Unit × Unit)) :=
 .ite ((a0 != a5))
 (.ret (((false, ()), ()), ((), (), ())))
 (.ite ((a1 != a6))
 (.ret (((false, ()), ()), ((), (), ())))
 (.ite ((a2 != a7))
 (.ret (((false, ()), ()), ((), (), ())))
 (.ite ((a3 != a8))
 (.ret (((false, ()), ()), ((), (), ())))
 (.ite ((a4 != a9))
 (.ret (((false, ()), ()), ((), (), ())))
 (.ret (((true, ()), ()), ((), (), ())))))))
def eqOpenV (a0 : Int) (a1 : Int) (a2 : Int) (a3 : Int) (a4 : Int) (b0 : Int) (b1 : Int) (b2 : Int) (b3 : Int) (b4 : Int) : Bool := decide (((a0, a1, a2, a3, a4, ()) : OpenD) = (b0, b1, b2, b3, b4, ()))
def k111 : Con := { f := 111, lend := true, its := [⟨false, true, [.i .i64, .i .i64, .i .i64, .i .i64, .i .i64]⟩, ⟨false, true, [.i .i64, .i .i64, .i .i64, .i .i64, .i .i64]⟩], lay := [none, none], rs := [⟨false, false, [.b]⟩], F := fun x => .ret ((((eqOpenV x.1.1 x.1.2.1 x.1.2.2.1 x.1.2.2.2.1 x.1.2.2.2.2.1 x.2.1.1 x.2.1.2.1 x.2.1.2.2.1 x.2.1.2.2.2.1 x.2.1.2.2.2.2.1), ()), ()), ((), (), ())) }
theorem f111_eq (x : itemsD k111.its) : bodyOut (cxOf []) (fun _ => none) (codeOf Tryz.f111) k111.its k111.lay Tryz.f111.ntmps k111.rs [.tmp 4] x = f111_tree x.1.1 x.1.2.1 x.1.2.2.1 x.1.2.2.2.1 x.1.2.2.2.2.1 x.2.1.1 x.2.1.2.1 x.2.1.2.2.1 x.2.1.2.2.2.1 x.2.1.2.2.2.2.1 := by kernel_rfl
theorem f111_ok (hr : ∀ x : OpenD × OpenD × Unit, itemsWF k111.its x → (f111_tree x.1.1 x.1.2.1 x.1.2.2.1 x.1.2.2.2.1 x.1.2.2.2.2.1 x.2.1.1 x.2.1.2.1 x.2.1.2.2.1 x.2.1.2.2.2.1 x.2.1.2.2.2.2.1).eval = (k111.F x).eval) : k111.Ok Tryz.prog :=
  con_fn [] trivial (by kernel_rfl) (codeOf_eq (by kernel_rfl)) (by kernel_rfl) (by kernel_rfl) (by kernel_rfl) f111_eq fun x hw _ hy => (hr x hw).trans hy
theorem k111_ok : k111.Ok Tryz.prog := by
  refine f111_ok fun x hw => ?_
  obtain ⟨⟨a0, a1, a2, a3, a4, _⟩, ⟨b0, b1, b2, b3, b4, _⟩, _⟩ := x
  show (f111_tree a0 a1 a2 a3 a4 b0 b1 b2 b3 b4).eval = some (((eqOpenV a0 a1 a2 a3 a4 b0 b1 b2 b3 b4, ()), ()), ((), ((), ())))
  unfold f111_tree
  unfold eqOpenV
  by_cases h0 : a0 = b0
  case neg => simp [Out.eval, h0, cond_eq_ite]
  subst h0
  by_cases h1 : a1 = b1
  case neg => simp [Out.eval, h1, cond_eq_ite]
  subst h1
  by_cases h2 : a2 = b2
  case neg => simp [Out.eval, h2, cond_eq_ite]
  subst h2
  by_cases h3 : a3 = b3
  case neg => simp [Out.eval, h3, cond_eq_ite]
  subst h3
  by_cases h4 : a4 = b4
  case neg => simp [Out.eval, h4, cond_eq_ite]
  subst h4
  simp [Out.eval, cond_eq_ite]
abbrev f45_S0 := (List OpenD × List OpenD × Int × Unit) × (Unit)
def f45_L0 (x : f45_S0) : Out (Round f45_S0 ((Unit) × (Unit)) ((Bool × Unit) × (Unit))) :=
 .ite (decide (x.1.2.2.1 < ((List.length x.1.1 : Nat) : Int)))
 (.ite (decide (0 ≤ x.1.2.2.1))
 (.get (nth x.1.1 (Int.toNat x.1.2.2.1)) fun y1 =>
 .ite (decide (0 ≤ x.1.2.2.1))
 (.get (nth x.1.2.1 (Int.toNat x.1.2.2.1)) fun y2 =>
 .ite (!(eqOpenV y1.1 y1.2.1 y1.2.2.1 y1.2.2.2.1 y1.2.2.2.2.1 y2.1 y2.2.1 y2.2.2.1 y2.2.2.2.1 y2.2.2.2.2.1))
 (.ret (.ret ((false, ()), ())))
 (.ret (.again ((x.1.1, x.1.2.1, (IntKind.i64.wrap (x.1.2.2.1 + (1 : Int))), ()), ()))))
 .fail)
 .fail)
 (.ret (.out ((), ())))
def f45_tree (a0 : List OpenD) (a1 : List OpenD) : Out (((Bool × Unit) × Unit) × (Unit × Unit × Unit)) :=
 .ite ((((List.length a0 : Nat) : Int) != ((List.length a1 : Nat) : Int)))
 (.ret (((false, ()), ()), ((), (), ())))
 (.get (iter f45_L0 FUEL ((a0, a1, (0 : Int), ()), ())) fun y1 => .alt y1 (fun y2 =>
 .ret (((true, ()), ()), ((), (), ()))) (fun y3 =>
 .ret (((y3.1.1, ()), ()), ((), (), ()))))
def f45_A : Nat → Option LoopAnn := fun n => annOf [(0, { head := { t := [.ro (.st (.cons (.int .i64) (.cons (.int .i64) (.cons (.int .i64) (.cons (.int .i64) (.cons (.int .i64) .nil)))))) (some 0), .ro (.st (.cons (.int .i64) (.cons (.int .i64) (.cons (.int .i64) (.cons (.int .i64) (.cons (.int .i64) .nil)))))) (some 1), .dead, .dead, .dead, .i .i64] ++ dd 21, v := [] }, out := { t := dd 27, v := [] }, ret := some { t := dd 4 ++ [.b] ++ dd 22, v := [] } })] n
def eqOpenSV (a0 : List OpenD) (b0 : List OpenD) : Bool := decide ((a0 : List OpenD) = b0)
def k45 : Con := { f := 45, lend := true, its := [⟨false, false, [.ro (.st (.cons (.int .i64) (.cons (.int .i64) (.cons (.int .i64) (.cons (.int .i64) (.cons (.int .i64) .nil))))))]⟩, ⟨false, false, [.ro (.st (.cons (.int .i64) (.cons (.int .i64) (.cons (.int .i64) (.cons (.int .i64) (.cons (.int .i64) .nil))))))]⟩], lay := [none, none], rs := [⟨false, false, [.b]⟩], F := fun x => .ret ((((eqOpenSV x.1.1 x.2.1.1), ()), ()), ((), (), ())) }
theorem f45_eq (x : itemsD k45.its) : bodyOut (cxOf [k111]) (f45_A) (codeOf Tryz.f45) k45.its k45.lay Tryz.f45.ntmps k45.rs [.tmp 4] x = f45_tree x.1.1 x.2.1.1 := by kernel_rfl
theorem f45_ok (hr : ∀ x : (List OpenD × Unit) × (List OpenD × Unit) × Unit, itemsWF k45.its x → (f45_tree x.1.1 x.2.1.1).eval = (k45.F x).eval) : k45.Ok Tryz.prog :=
  con_fn [k111] ⟨k111_ok, trivial⟩ (by kernel_rfl) (codeOf_eq (by kernel_rfl)) (by kernel_rfl) (by kernel_rfl) (by kernel_rfl) f45_eq fun x hw _ hy => (hr x hw).trans hy
theorem k45_ok : k45.Ok Tryz.prog := by
  refine f45_ok fun x hw => ?_
  obtain ⟨⟨a0, _⟩, ⟨b0, _⟩, _⟩ := x
  show (f45_tree a0 b0).eval = some (((eqOpenSV a0 b0, ()), ()), ((), ((), ())))
  unfold f45_tree
  have ha : a0.length ≤ BIG := hw.1.1.1
  by_cases hl : a0.length = b0.length
  · rw [eval_ite_f (len_eq hl)]
    have := eq_loop (f := f45_L0) a0 b0 (fun i => ((a0, (b0, (((i : Nat) : Int), ()))), ())) (y := ((), ())) (z := ((false, ()), ())) hl ha
      (fun i hi hi' he => by
        have := wrap_succ (i := i) (by omega)
        have h3 : ∀ x y : OpenD, eqOpenV x.1 x.2.1 x.2.2.1 x.2.2.2.1 x.2.2.2.2.1 y.1 y.2.1 y.2.2.1 y.2.2.2.1 y.2.2.2.2.1 = decide (x = y) := fun _ _ => rfl
        simp [f45_L0, Out.eval, hi, hi', he, this, h3])
      (fun i hi hi' he => by
        have h3 : ∀ x y : OpenD, eqOpenV x.1 x.2.1 x.2.2.1 x.2.2.2.1 x.2.2.2.2.1 y.1 y.2.1 y.2.2.1 y.2.2.2.1 y.2.2.2.2.1 = decide (x = y) := fun _ _ => rfl
        simp [f45_L0, Out.eval, hi, hi', he, cond_eq_ite, h3])
      (by simp [f45_L0, Out.eval])
    refine (eval_get_some this).trans ?_
    unfold eqOpenSV
    by_cases hab : a0 = b0
    · simp only [if_pos hab, decide_eq_true hab]; rfl
    · simp only [if_neg hab, decide_eq_false hab]; rfl
  · rw [eval_ite_t (len_ne hl)]
    have : eqOpenSV a0 b0 = false := decide_eq_false fun e => hl (by rw [e])
    rw [this]
    rfl
def f112_tree (a0 : Int) (a1 : List Int) (a2 : Int) (a3 : List Int) : Out (((Bool × Unit) × Unit) × (Unit × Unit × Unit)) :=
 .ite ((a0 != a2))
 (.ret (((false, ()), ()), ((), (), ())))
 (.ite (!(eqIntSV a1 a3))
 (.ret (((false, ()), ()), ((), (), ())))
 (.ret (((true, ()), ()), ((), (), ()))))
def k112 : Con := { f := 112, lend := true, its := [⟨false, true, [.i .i64, .ro (.int .i64)]⟩, ⟨false, true, [.i .i64, .ro (.int .i64)]⟩], lay := [none, none], rs := [⟨false, false, [.b]⟩], F := fun x => .ret ((((eqCpuV x.1.1 x.1.2.1 x.2.1.1 x.2.1.2.1), ()), ()), ((), (), ())) }
theorem f112_eq (x : itemsD k112.its) : bodyOut (cxOf [k42]) (fun _ => none) (codeOf Tryz.f112) k112.its k112.lay Tryz.f112.ntmps k112.rs [.tmp 4] x = f112_tree x.1.1 x.1.2.1 x.2.1.1 x.2.1.2.1 := by kernel_rfl
theorem f112_ok (hr : ∀ x : CpuD × CpuD × Unit, itemsWF k112.its x → (f112_tree x.1.1 x.1.2.1 x.2.1.1 x.2.1.2.1).eval = (k112.F x).eval) : k112.Ok Tryz.prog :=
  con_fn [k42] ⟨k42_ok, trivial⟩ (by kernel_rfl) (codeOf_eq (by kernel_rfl)) (by kernel_rfl) (by kernel_rfl) (by kernel_rfl) f112_eq fun x hw _ hy => (hr x hw).trans hy
theorem k112_ok : k112.Ok Tryz.prog := by
  refine f112_ok fun x hw => ?_
  obtain ⟨⟨a0, a1, _⟩, ⟨b0, b1, _⟩, _⟩ := x
  show (f112_tree a0 a1 b0 b1).eval = some (((eqCpuV a0 a1 b0 b1, ()), ()), ((), ((), ())))
  unfold f112_tree
  unfold eqCpuV eqIntSV
  by_cases h0 : a0 = b0
  case neg => simp [Out.eval, h0, cond_eq_ite]
  subst h0
  by_cases h1 : a1 = b1
  case neg => simp [Out.eval, h1, cond_eq_ite]
  subst h1
  simp [Out.eval, cond_eq_ite]
abbrev f46_S0 := (List CpuD × List CpuD × Int × Unit) × (Unit)
def f46_L0 (x : f46_S0) : Out (Round f46_S0 ((Unit) × (Unit)) ((Bool × Unit) × (Unit))) :=
 .ite (decide (x.1.2.2.1 < ((List.length x.1.1 : Nat) : Int)))
 (.ite (decide (0 ≤ x.1.2.2.1))
 (.get (nth x.1.1 (Int.toNat x.1.2.2.1)) fun y1 =>
 .ite (decide (0 ≤ x.1.2.2.1))
 (.get (nth x.1.2.1 (Int.toNat x.1.2.2.1)) fun y2 =>
 .ite (!(eqCpuV y1.1 y1.2.1 y2.1 y2.2.1))
 (.ret (.ret ((false, ()), ())))
 (.ret (.again ((x.1.1, x.1.2.1, (IntKind.i64.wrap (x.1.2.2.1 + (1 : Int))), ()), ()))))
 .fail)
 .fail)
 (.ret (.out ((), ())))
def f46_tree (a0 : List CpuD) (a1 : List CpuD) : Out (((Bool × Unit) × Unit) × (Unit × Unit × Unit)) :=
 .ite ((((List.length a0 : Nat) : Int) != ((List.length a1 : Nat) : Int)))
 (.ret (((false, ()), ()), ((), (), ())))
 (.get (iter f46_L0 FUEL ((a0, a1, (0 : Int), ()), ())) fun y1 => .alt y1 (fun y2 =>
 .ret (((true, ()), ()), ((), (), ()))) (fun y3 =>
 .ret (((y3.1.1, ()), ()), ((), (), ()))))
def f46_A : Nat → Option LoopAnn := fun n => annOf [(0, { head := { t := [.ro (.st (.cons (.int .i64) (.cons (.sl (.int .i64)) .nil))) (some 0), .ro (.st (.cons (.int .i64) (.cons (.sl (.int .i64)) .nil))) (some 1), .dead, .dead, .dead, .i .i64] ++ dd 21, v := [] }, out := { t := dd 27, v := [] }, ret := some { t := dd 4 ++ [.b] ++ dd 22, v := [] } })] n
def eqCpuSV (a0 : List CpuD) (b0 : List CpuD) : Bool := decide ((a0 : List CpuD) = b0)
def k46 : Con := { f := 46, lend := true, its := [⟨false, false, [.ro (.st (.cons (.int .i64) (.cons (.sl (.int .i64)) .nil)))]⟩, ⟨false, false, [.ro (.st (.cons (.int .i64) (.cons (.sl (.int .i64)) .nil)))]⟩], lay := [none, none], rs := [⟨false, false, [.b]⟩], F := fun x => .ret ((((eqCpuSV x.1.1 x.2.1.1), ()), ()), ((), (), ())) }
theorem f46_eq (x : itemsD k46.its) : bodyOut (cxOf [k112]) (f46_A) (codeOf Tryz.f46) k46.its k46.lay Tryz.f46.ntmps k46.rs [.tmp 4] x = f46_tree x.1.1 x.2.1.1 := by kernel_rfl
theorem f46_ok (hr : ∀ x : (List CpuD × Unit) × (List CpuD × Unit) × Unit, itemsWF k46.its x → (f46_tree x.1.1 x.2.1.1).eval = (k46.F x).eval) : k46.Ok Tryz.prog :=
  con_fn [k112] ⟨k112_ok, trivial⟩ (by kernel_rfl) (codeOf_eq (by kernel_rfl)) (by kernel_rfl) (by kernel_rfl) (by kernel_rfl) f46_eq fun x hw _ hy => (hr x hw).trans hy
theorem k46_ok : k46.Ok Tryz.prog := by
  refine f46_ok fun x hw => ?_
  obtain ⟨⟨a0, _⟩, ⟨b0, _⟩, _⟩ := x
  show (f46_tree a0 b0).eval = some (((eqCpuSV a0 b0, ()), ()), ((), ((), ())))
  unfold f46_tree
  have ha : a0.length ≤ BIG := hw.1.1.1
  by_cases hl : a0.length = b0.length
  · rw [eval_ite_f (len_eq hl)]
    have := eq_loop (f := f46_L0) a0 b0 (fun i => ((a0, (b0, (((i : Nat) : Int), ()))), ())) (y := ((), ())) (z := ((false, ()), ())) hl ha
      (fun i hi hi' he => by
        have := wrap_succ (i := i) (by omega)
        have h3 : ∀ x y : CpuD, eqCpuV x.1 x.2.1 y.1 y.2.1 = decide (x = y) := fun _ _ => rfl
        simp [f46_L0, Out.eval, hi, hi', he, this, h3])
      (fun i hi hi' he => by
        have h3 : ∀ x y : CpuD, eqCpuV x.1 x.2.1 y.1 y.2.1 = decide (x = y) := fun _ _ => rfl
        simp [f46_L0, Out.eval, hi, hi', he, cond_eq_ite, h3])
      (by simp [f46_L0, Out.eval])
    refine (eval_get_some this).trans ?_
    unfold eqCpuSV
    by_cases hab : a0 = b0
    · simp only [if_pos hab, decide_eq_true hab]; rfl
    · simp only [if_neg hab, decide_eq_false hab]; rfl
  · rw [eval_ite_t (len_ne hl)]
    have : eqCpuSV a0 b0 = false := decide_eq_false fun e => hl (by rw [e])
    rw [this]
    rfl
def f113_tree (a0 : Int) (a1 : List Int) (a2 : Int) (a3 : List Int) : Out (((Bool × Unit) × Unit) × (Unit × Unit × Unit)) :=
 .ite ((a0 != a2))
 (.ret (((false, ()), ()), ((), (), ())))
 (.ite (!(eqIntSV a1 a3))
 (.ret (((false, ()), ()), ((), (), ())))
 (.ret (((true, ()), ()), ((), (), ()))))
def k113 : Con := { f := 113, lend := true, its := [⟨false, true, [.i .i64, .ro (.int .i64)]⟩, ⟨false, true, [.i .i64, .ro (.int .i64)]⟩], lay := [none, none], rs := [⟨false, false, [.b]⟩], F := fun x => .ret ((((eqCpuV x.1.1 x.1.2.1 x.2.1.1 x.2.1.2.1), ()), ()), ((), (), ())) }
theorem f113_eq (x : itemsD k113.its) : bodyOut (cxOf [k42]) (fun _ => none) (codeOf Tryz.f113) k113.its k113.lay Tryz.f113.ntmps k113.rs [.tmp 4] x = f113_tree x.1.1 x.1.2.1 x.2.1.1 x.2.1.2.1 := by kernel_rfl
theorem f113_ok (hr : ∀ x : CpuD × CpuD × Unit, itemsWF k113.its x → (f113_tree x.1.1 x.1.2.1 x.2.1.1 x.2.1.2.1).eval = (k113.F x).eval) : k113.Ok Tryz.prog :=
  con_fn [k42] ⟨k42_ok, trivial⟩ (by kernel_rfl) (codeOf_eq (by kernel_rfl)) (by kernel_rfl) (by kernel_rfl) (by kernel_rfl) f113_eq fun x hw _ hy => (hr x hw).trans hy
theorem k113_ok : k113.Ok Tryz.prog := by
  refine f113_ok fun x hw => ?_
  obtain ⟨⟨a0, a1, _⟩, ⟨b0, b1, _⟩, _⟩ := x
  show (f113_tree a0 a1 b0 b1).eval = some (((eqCpuV a0 a1 b0 b1, ()), ()), ((), ((), ())))
  unfold f113_tree
  unfold eqCpuV eqIntSV
  by_cases h0 : a0 = b0
  case neg => simp [Out.eval, h0, cond_eq_ite]
  subst h0
  by_cases h1 : a1 = b1
  case neg => simp [Out.eval, h1, cond_eq_ite]
  subst h1
  simp [Out.eval, cond_eq_ite]
abbrev f47_S0 := (List CpuD × List CpuD × Int × Unit) × (Unit)
def f47_L0 (x : f47_S0) : Out (Round f47_S0 ((Unit) × (Unit)) ((Bool × Unit) × (Unit))) :=
 .ite (decide (x.1.2.2.1 < ((List.length x.1.1 : Nat) : Int)))
 (.ite (decide (0 ≤ x.1.2.2.1))
 (.get (nth x.1.1 (Int.toNat x.1.2.2.1)) fun y1 =>
 .ite (decide (0 ≤ x.1.2.2.1))
 (.get (nth x.1.2.1 (Int.toNat x.1.2.2.1)) fun y2 =>
 .ite (!(eqCpuV y1.1 y1.2.1 y2.1 y2.2.1))
 (.ret (.ret ((false, ()), ())))
 (.ret (.again ((x.1.1, x.1.2.1, (IntKind.i64.wrap (x.1.2.2.1 + (1 : Int))), ()), ()))))
 .fail)
 .fail)
 (.ret (.out ((), ())))
def f47_tree (a0 : List CpuD) (a1 : List CpuD) : Out (((Bool × Unit) × Unit) × (Unit × Unit × Unit)) :=
 .ite ((((List.length a0 : Nat) : Int) != ((List.length a1 : Nat) : Int)))
 (.ret (((false, ()), ()), ((), (), ())))
 (.get (iter f47_L0 FUEL ((a0, a1, (0 : Int), ()), ())) fun y1 => .alt y1 (fun y2 =>
 .ret (((true, ()), ()), ((), (), ()))) (fun y3 =>
 .ret (((y3.1.1, ()), ()), ((), (), ()))))
def f47_A : Nat → Option LoopAnn := fun n => annOf [(0, { head := { t := [.ro (.st (.cons (.int .i64) (.cons (.sl (.int .i64)) .nil))) (some 0), .ro (.st (.cons (.int .i64) (.cons (.sl (.int .i64)) .nil))) (some 1), .dead, .dead, .dead, .i .i64] ++ dd 21, v := [] }, out := { t := dd 27, v := [] }, ret := some { t := dd 4 ++ [.b] ++ dd 22, v := [] } })] n
def k47 : Con := { f := 47, lend := true, its := [⟨false, false, [.ro (.st (.cons (.int .i64) (.cons (.sl (.int .i64)) .nil)))]⟩, ⟨false, false, [.ro (.st (.cons (.int .i64) (.cons (.sl (.int .i64)) .nil)))]⟩], lay := [none, none], rs := [⟨false, false, [.b]⟩], F := fun x => .ret ((((eqCpuSV x.1.1 x.2.1.1), ()), ()), ((), (), ())) }
theorem f47_eq (x : itemsD k47.its) : bodyOut (cxOf [k113]) (f47_A) (codeOf Tryz.f47) k47.its k47.lay Tryz.f47.ntmps k47.rs [.tmp 4] x = f47_tree x.1.1 x.2.1.1 := by kernel_rfl
theorem f47_ok (hr : ∀ x : (List CpuD × Unit) × (List CpuD × Unit) × Unit, itemsWF k47.its x → (f47_tree x.1.1 x.2.1.1).eval = (k47.F x).eval) : k47.Ok Tryz.prog :=
  con_fn [k113] ⟨k113_ok, trivial⟩ (by kernel_rfl) (codeOf_eq (by kernel_rfl)) (by kernel_rfl) (by kernel_rfl) (by kernel_rfl) f47_eq fun x hw _ hy => (hr x hw).trans hy
theorem k47_ok : k47.Ok Tryz.prog := by
  refine f47_ok fun x hw => ?_
  obtain ⟨⟨a0, _⟩, ⟨b0, _⟩, _⟩ := x
  show (f47_tree a0 b0).eval = some (((eqCpuSV a0 b0, ()), ()), ((), ((), ())))
  unfold f47_tree
  have ha : a0.length ≤ BIG := hw.1.1.1
  by_cases hl : a0.length = b0.length
  · rw [eval_ite_f (len_eq hl)]
    have := eq_loop (f := f47_L0) a0 b0 (fun i => ((a0, (b0, (((i : Nat) : Int), ()))), ())) (y := ((), ())) (z := ((false, ()), ())) hl ha
      (fun i hi hi' he => by
        have := wrap_succ (i := i) (by omega)
        have h3 : ∀ x y : CpuD, eqCpuV x.1 x.2.1 y.1 y.2.1 = decide (x = y) := fun _ _ => rfl
        simp [f47_L0, Out.eval, hi, hi', he, this, h3])
      (fun i hi hi' he => by
        have h3 : ∀ x y : CpuD, eqCpuV x.1 x.2.1 y.1 y.2.1 = decide (x = y) := fun _ _ => rfl
        simp [f47_L0, Out.eval, hi, hi', he, cond_eq_ite, h3])
      (by simp [f47_L0, Out.eval])
    refine (eval_get_some this).trans ?_
    unfold eqCpuSV
    by_cases hab : a0 = b0
    · simp only [if_pos hab, decide_eq_true hab]; rfl
    · simp only [if_neg hab, decide_eq_false hab]; rfl
  · rw [eval_ite_t (len_ne hl)]
    have : eqCpuSV a0 b0 = false := decide_eq_false fun e => hl (by rw [e])
    rw [this]
    rfl
def f12_tree (a0 : Int) (a1 : Int) (a2 : List (List InsD)) (a3 : List ProcD) (a4 : List OpenD) (a5 : List CpuD) (a6 : List CpuD) (a7 : List Int) (a8 : List Int) (a9 : Int) (a10 : Int) (a11 : List (List InsD)) (a12 : List ProcD) (a13 : List OpenD) (a14 : List CpuD) (a15 : List CpuD) (a16 : List Int) (a17 : List Int) : Out (((Bool × Unit) × Unit) × (Unit × Unit × Unit)) :=
 .ite ((a0 != a9))
 (.ret (((false, ()), ()), ((), (), ())))
 (.ite ((a1 != a10))
 (.ret (((false, ()), ()), ((), (), ())))
 (.ite (!(eqInsSSV a2 a11))
 (.ret (((false, ()), ()), ((), (), ())))
 (.ite (!(eqProcSV a3 a12))
 (.ret (((false, ()), ()), ((), (), ())))
 (.ite (!(eqOpenSV a4 a13))
 (.ret (((false, ()), ()), ((), (), ())))
 (.ite (!(eqCpuSV a5 a14))
 (.ret (((false, ()), ()), ((), (), ())))
 (.ite (!(eqCpuSV a6 a15))
 (.ret (((false, ()), ()), ((), (), ())))
 (.ite (!(eqIntSV a7 a16))
 (.ret (((false, ()), ()), ((), (), ())))
 (.ite (!(eqIntSV a8 a17))
 (.ret (((false, ()), ()), ((), (), ())))
 (.ret (((true, ()), ()), ((), (), ())))))))))))
def eqUnixV (a0 : Int) (a1 : Int) (a2 : List (List InsD)) (a3 : List ProcD) (a4 : List OpenD) (a5 : List CpuD) (a6 : List CpuD) (a7 : List Int) (a8 : List Int) (b0 : Int) (b1 : Int) (b2 : List (List InsD)) (b3 : List ProcD) (b4 : List OpenD) (b5 : List CpuD) (b6 : List CpuD) (b7 : List Int) (b8 : List Int) : Bool := decide (((a0, a1, a2, a3, a4, a5, a6, a7, a8, ()) : UnixD) = (b0, b1, b2, b3, b4, b5, b6, b7, b8, ()))
def k12 : Con := { f := 12, lend := true, its := [⟨false, true, [.i .i64, .i .i64, .ro (.sl (.st (.cons (.int .i64) (.cons (.int .i64) (.cons (.int .i64) (.cons (.int .i64) .nil)))))), .ro (.st (.cons (.int .i64) (.cons (.int .i64) (.cons (.int .i64) (.cons (.int .i64) (.cons (.st (.cons (.int .i64) (.cons (.sl (.int .i64)) .nil))) (.cons (.sl (.int .i64)) (.cons (.sl (.int .i64)) (.cons (.int .i64) (.cons (.int .i64) .nil)))))))))), .ro (.st (.cons (.int .i64) (.cons (.int .i64) (.cons (.int .i64) (.cons (.int .i64) (.cons (.int .i64) .nil)))))), .ro (.st (.cons (.int .i64) (.cons (.sl (.int .i64)) .nil))), .ro (.st (.cons (.int .i64) (.cons (.sl (.int .i64)) .nil))), .ro (.int .i64), .ro (.int .i64)]⟩, ⟨false, true, [.i .i64, .i .i64, .ro (.sl (.st (.cons (.int .i64) (.cons (.int .i64) (.cons (.int .i64) (.cons (.int .i64) .nil)))))), .ro (.st (.cons (.int .i64) (.cons (.int .i64) (.cons (.int .i64) (.cons (.int .i64) (.cons (.st (.cons (.int .i64) (.cons (.sl (.int .i64)) .nil))) (.cons (.sl (.int .i64)) (.cons (.sl (.int .i64)) (.cons (.int .i64) (.cons (.int .i64) .nil)))))))))), .ro (.st (.cons (.int .i64) (.cons (.int .i64) (.cons (.int .i64) (.cons (.int .i64) (.cons (.int .i64) .nil)))))), .ro (.st (.cons (.int .i64) (.cons (.sl (.int .i64)) .nil))), .ro (.st (.cons (.int .i64) (.cons (.sl (.int .i64)) .nil))), .ro (.int .i64), .ro (.int .i64)]⟩], lay := [none, none], rs := [⟨false, false, [.b]⟩], F := fun x => .ret ((((eqUnixV x.1.1 x.1.2.1 x.1.2.2.1 x.1.2.2.2.1 x.1.2.2.2.2.1 x.1.2.2.2.2.2.1 x.1.2.2.2.2.2.2.1 x.1.2.2.2.2.2.2.2.1 x.1.2.2.2.2.2.2.2.2.1 x.2.1.1 x.2.1.2.1 x.2.1.2.2.1 x.2.1.2.2.2.1 x.2.1.2.2.2.2.1 x.2.1.2.2.2.2.2.1 x.2.1.2.2.2.2.2.2.1 x.2.1.2.2.2.2.2.2.2.1 x.2.1.2.2.2.2.2.2.2.2.1), ()), ()), ((), (), ())) }
theorem f12_eq (x : itemsD k12.its) : bodyOut (cxOf [k43, k44, k45, k46, k47, k42]) (fun _ => none) (codeOf Tryz.f12) k12.its k12.lay Tryz.f12.ntmps k12.rs [.tmp 4] x = f12_tree x.1.1 x.1.2.1 x.1.2.2.1 x.1.2.2.2.1 x.1.2.2.2.2.1 x.1.2.2.2.2.2.1 x.1.2.2.2.2.2.2.1 x.1.2.2.2.2.2.2.2.1 x.1.2.2.2.2.2.2.2.2.1 x.2.1.1 x.2.1.2.1 x.2.1.2.2.1 x.2.1.2.2.2.1 x.2.1.2.2.2.2.1 x.2.1.2.2.2.2.2.1 x.2.1.2.2.2.2.2.2.1 x.2.1.2.2.2.2.2.2.2.1 x.2.1.2.2.2.2.2.2.2.2.1 := by kernel_rfl
theorem f12_ok (hr : ∀ x : UnixD × UnixD × Unit, itemsWF k12.its x → (f12_tree x.1.1 x.1.2.1 x.1.2.2.1 x.1.2.2.2.1 x.1.2.2.2.2.1 x.1.2.2.2.2.2.1 x.1.2.2.2.2.2.2.1 x.1.2.2.2.2.2.2.2.1 x.1.2.2.2.2.2.2.2.2.1 x.2.1.1 x.2.1.2.1 x.2.1.2.2.1 x.2.1.2.2.2.1 x.2.1.2.2.2.2.1 x.2.1.2.2.2.2.2.1 x.2.1.2.2.2.2.2.2.1 x.2.1.2.2.2.2.2.2.2.1 x.2.1.2.2.2.2.2.2.2.2.1).eval = (k12.F x).eval) : k12.Ok Tryz.prog :=
  con_fn [k43, k44, k45, k46, k47, k42] ⟨k43_ok, k44_ok, k45_ok, k46_ok, k47_ok, k42_ok, trivial⟩ (by kernel_rfl) (codeOf_eq (by kernel_rfl)) (by kernel_rfl) (by kernel_rfl) (by kernel_rfl) f12_eq fun x hw _ hy => (hr x hw).trans hy
theorem k12_ok : k12.Ok Tryz.prog := by
  refine f12_ok fun x hw => ?_
  obtain ⟨⟨a0, a1, a2, a3, a4, a5, a6, a7, a8, _⟩, ⟨b0, b1, b2, b3, b4, b5, b6, b7, b8, _⟩, _⟩ := x
  show (f12_tree a0 a1 a2 a3 a4 a5 a6 a7 a8 b0 b1 b2 b3 b4 b5 b6 b7 b8).eval = some (((eqUnixV a0 a1 a2 a3 a4 a5 a6 a7 a8 b0 b1 b2 b3 b4 b5 b6 b7 b8, ()), ()), ((), ((), ())))
  unfold f12_tree
  unfold eqUnixV eqCpuSV eqInsSSV eqIntSV eqOpenSV eqProcSV
  by_cases h0 : a0 = b0
  case neg => simp [Out.eval, h0, cond_eq_ite]
  subst h0
  by_cases h1 : a1 = b1
  case neg => simp [Out.eval, h1, cond_eq_ite]
  subst h1
  by_cases h2 : a2 = b2
  case neg => simp [Out.eval, h2, cond_eq_ite]
  subst h2
  by_cases h3 : a3 = b3
  case neg => simp [Out.eval, h3, cond_eq_ite]
  subst h3
  by_cases h4 : a4 = b4
  case neg => simp [Out.eval, h4, cond_eq_ite]
  subst h4
  by_cases h5 : a5 = b5
  case neg => simp [Out.eval, h5, cond_eq_ite]
  subst h5
  by_cases h6 : a6 = b6
  case neg => simp [Out.eval, h6, cond_eq_ite]
  subst h6
  by_cases h7 : a7 = b7
  case neg => simp [Out.eval, h7, cond_eq_ite]
  subst h7
  by_cases h8 : a8 = b8
  case neg => simp [Out.eval, h8, cond_eq_ite]
  subst h8
  simp [Out.eval, cond_eq_ite]
abbrev ViewD := CpuD × (List Int × (List Int × Unit))
instance dqView : DecidableEq ViewD := (@instDecidableEqProd _ _ inferInstance (@instDecidableEqProd _ _ inferInstance (@instDecidableEqProd _ _ inferInstance inferInstance)))
abbrev f53_S0 := (Int × Int × Unit) × (List Int × Unit)
abbrev f114_S0 := (Int × Int × Unit) × (List InsD × Unit)
abbrev f48_S0 := (Int × Int × Unit) × (List (List InsD) × Unit)
abbrev f49_S0 := (Int × Int × Unit) × (List ProcD × Unit)
abbrev f50_S0 := (Int × Int × Unit) × (List OpenD × Unit)
abbrev f51_S0 := (Int × Int × Unit) × (List CpuD × Unit)
abbrev f52_S0 := (Int × Int × Unit) × (List CpuD × Unit)
abbrev f56_S0 := (List Int × Int × Int × Unit) × (Unit)
abbrev f135_S0 := (List InsD × Int × Int × Unit) × (Unit)
abbrev f71_S0 := (List (List InsD) × Int × Int × Unit) × (Unit)
abbrev f72_S0 := (List ProcD × Int × Int × Unit) × (Unit)
abbrev f73_S0 := (List OpenD × Int × Int × Unit) × (Unit)
abbrev f74_S0 := (List CpuD × Int × Int × Unit) × (Unit)
abbrev f75_S0 := (List CpuD × Int × Int × Unit) × (Unit)
end Go.Proofs.YtcinpcncclhejaaGreat.Dm
