/- Functions of the program, and what they compute. -/
import Derived.Test.YtcpjdjgipmjhdaaGreatDoorQ1
namespace Go.Proofs.YtcpjdjgipmjhdaaGreatDoor.Dm
open Go Go.ChangeShapes Go.WideShapes Go.ChangeAt Go.RowKit
def szcIntS (a : List Int) : Nat := a.length
def f17_tree (a0 : List Int) (a1 : Int) : Out (((Int × Unit) × Unit) × (Unit × Unit × Unit)) :=
 .ite (decide ((IntKind.i64.wrap (a1 - ((List.length a0 : Nat) : Int))) < (0 : Int)))
 (.ret ((((-1 : Int), ()), ()), ((), (), ())))
 (.ret ((((IntKind.i64.wrap (a1 - ((List.length a0 : Nat) : Int))), ()), ()), ((), (), ())))
def szIntSV (a0 : List Int) (l : Int) : Option Int := szP (szcIntS a0) l
def k17 : Con := { f := 17, lend := true, its := [⟨false, false, [.ro (.int .i64)]⟩, ⟨false, false, [.i .i64]⟩], lay := [none, none], rs := [⟨false, false, [.i .i64]⟩], F := fun x => .get (szIntSV x.1.1 x.2.1.1) fun y => .ret (((y, ()), ()), ((), (), ())) }
theorem f17_eq (x : itemsD k17.its) : bo [] (fun _ => none) Tryz.f17 k17 [.tmp 4] x = f17_tree x.1.1 x.2.1.1 := by kernel_rfl
theorem f17_okp (hr : ∀ x : (List Int × Unit) × (Int × Unit) × Unit, itemsWF k17.its x → ∀ y, (k17.F x).eval = some y → (f17_tree x.1.1 x.2.1.1).eval = some y) : k17.Ok Tryz.prog := con_fn [] trivial f17_eq hr
theorem k17_ok : k17.Ok Tryz.prog := by
  refine f17_okp fun x hw y hy => ?_
  obtain ⟨⟨a0, _⟩, ⟨l, _⟩, _⟩ := x
  change (Out.get (szIntSV a0 l) fun y => Out.ret (((y, ()), ()), ((), ((), ())))).eval = some y at hy
  obtain ⟨⟨h0, h1⟩, hy⟩ := szP_get hy
  refine Eq.trans ?_ hy
  show (f17_tree a0 l).eval = _
  unfold f17_tree
  have ha : a0.length ≤ BIG := hw.1.1.1
  have hb : a0.length ≤ 9223372036854775807 := ha
  have w : IntKind.i64.wrap (l - ((a0.length : Nat) : Int)) = l - ((a0.length : Nat) : Int) := wrap_le (by omega) (by omega)
  rw [w]
  unfold szcIntS
  by_cases q : l - ((a0.length : Nat) : Int) < 0
  · rw [eval_ite_t (decide_eq_true q), if_neg (by omega)]; try rfl
  · rw [eval_ite_f (decide_eq_false q), if_pos (by omega)]; try rfl
instance dqIns : DecidableEq InsD := (@instDecidableEqProd _ _ inferInstance (@instDecidableEqProd _ _ inferInstance (@instDecidableEqProd _ _ inferInstance (@instDecidableEqProd _ _ inferInstance inferInstance))))
def szcIns (x : InsD) : Nat := 0
def szcInsS (a : List InsD) : Nat := a.length
def f34_tree (a0 : List InsD) (a1 : Int) : Out (((Int × Unit) × Unit) × (Unit × Unit × Unit)) :=
 .ite (decide ((IntKind.i64.wrap (a1 - ((List.length a0 : Nat) : Int))) < (0 : Int)))
 (.ret ((((-1 : Int), ()), ()), ((), (), ())))
 (.ret ((((IntKind.i64.wrap (a1 - ((List.length a0 : Nat) : Int))), ()), ()), ((), (), ())))
def szInsSV (a0 : List InsD) (l : Int) : Option Int := szP (szcInsS a0) l
def k34 : Con := { f := 34, lend := true, its := [⟨false, false, [.ro tyN]⟩, ⟨false, false, [.i .i64]⟩], lay := [none, none], rs := [⟨false, false, [.i .i64]⟩], F := fun x => .get (szInsSV x.1.1 x.2.1.1) fun y => .ret (((y, ()), ()), ((), (), ())) }
theorem f34_eq (x : itemsD k34.its) : bo [] (fun _ => none) Tryz.f34 k34 [.tmp 4] x = f34_tree x.1.1 x.2.1.1 := by kernel_rfl
theorem f34_okp (hr : ∀ x : (List InsD × Unit) × (Int × Unit) × Unit, itemsWF k34.its x → ∀ y, (k34.F x).eval = some y → (f34_tree x.1.1 x.2.1.1).eval = some y) : k34.Ok Tryz.prog := con_fn [] trivial f34_eq hr
theorem k34_ok : k34.Ok Tryz.prog := by
  refine f34_okp fun x hw y hy => ?_
  obtain ⟨⟨a0, _⟩, ⟨l, _⟩, _⟩ := x
  change (Out.get (szInsSV a0 l) fun y => Out.ret (((y, ()), ()), ((), ((), ())))).eval = some y at hy
  obtain ⟨⟨h0, h1⟩, hy⟩ := szP_get hy
  refine Eq.trans ?_ hy
  show (f34_tree a0 l).eval = _
  unfold f34_tree
  have ha : a0.length ≤ BIG := hw.1.1.1
  have hb : a0.length ≤ 9223372036854775807 := ha
  have w : IntKind.i64.wrap (l - ((a0.length : Nat) : Int)) = l - ((a0.length : Nat) : Int) := wrap_le (by omega) (by omega)
  rw [w]
  unfold szcInsS
  by_cases q : l - ((a0.length : Nat) : Int) < 0
  · rw [eval_ite_t (decide_eq_true q), if_neg (by omega)]; try rfl
  · rw [eval_ite_f (decide_eq_false q), if_pos (by omega)]; try rfl
def szcInsSS (a : List (List InsD)) : Nat := a.length + sumBy (fun x => szcInsS x) a
abbrev f12_S0 := (List (List InsD) × Int × Int × Unit) × (Unit)
def f12_L0 : f12_S0 → Out (Round f12_S0 ((Int × Unit) × (Unit)) ((Int × Unit) × (Unit)))
| ((p0, p1, p2, _), _) =>
 .ite (decide (p2 < ((List.length p0 : Nat) : Int)))
 (.ite (decide (0 ≤ p2))
 (.get (nth p0 (Int.toNat p2)) fun y1 =>
 .get (szInsSV y1 p1) fun y2 =>
 .ite (decide (y2 < (0 : Int)))
 (.ret (.ret (((-1 : Int), ()), ())))
 (.ret (.again ((p0, y2, (IntKind.i64.wrap (p2 + (1 : Int))), ()), ()))))
 .fail)
 (.ret (.out ((p1, ()), ())))
def f12_tree (a0 : List (List InsD)) (a1 : Int) : Out (((Int × Unit) × Unit) × (Unit × Unit × Unit)) :=
 .ite (decide ((IntKind.i64.wrap (a1 - ((List.length a0 : Nat) : Int))) < (0 : Int)))
 (.ret ((((-1 : Int), ()), ()), ((), (), ())))
 (.get (iter f12_L0 FUEL ((a0, (IntKind.i64.wrap (a1 - ((List.length a0 : Nat) : Int))), (0 : Int), ()), ())) fun y1 => .alt y1 (fun y2 =>
 .ret (((y2.1.1, ()), ()), ((), (), ()))) (fun y3 =>
 .ret (((y3.1.1, ()), ()), ((), (), ()))))
def f12_A : Nat → Option LoopAnn := fun n => annOf [(0, { head := { t := [.ro (.sl tyN) (some 0), .i .i64, .dead, .dead, .dead, .i .i64] ++ dd 21, v := [] }, out := { t := [.dead, .i .i64] ++ dd 25, v := [] }, ret := some { t := dd 4 ++ [.i .i64] ++ dd 22, v := [] } })] n
def szInsSSV (a0 : List (List InsD)) (l : Int) : Option Int := szP (szcInsSS a0) l
def k12 : Con := { f := 12, lend := true, its := [⟨false, false, [.ro (.sl tyN)]⟩, ⟨false, false, [.i .i64]⟩], lay := [none, none], rs := [⟨false, false, [.i .i64]⟩], F := fun x => .get (szInsSSV x.1.1 x.2.1.1) fun y => .ret (((y, ()), ()), ((), (), ())) }
theorem f12_eq (x : itemsD k12.its) : bo [k34] f12_A Tryz.f12 k12 [.tmp 4] x = f12_tree x.1.1 x.2.1.1 := by kernel_rfl
theorem f12_okp (hr : ∀ x : (List (List InsD) × Unit) × (Int × Unit) × Unit, itemsWF k12.its x → ∀ y, (k12.F x).eval = some y → (f12_tree x.1.1 x.2.1.1).eval = some y) : k12.Ok Tryz.prog := con_fn [k34] ⟨k34_ok, trivial⟩ f12_eq hr
theorem k12_ok : k12.Ok Tryz.prog := by
  refine f12_okp fun x hw y hy => ?_
  obtain ⟨⟨a0, _⟩, ⟨l, _⟩, _⟩ := x
  change (Out.get (szInsSSV a0 l) fun y => Out.ret (((y, ()), ()), ((), ((), ())))).eval = some y at hy
  obtain ⟨⟨h0, h1⟩, hy⟩ := szP_get hy
  refine Eq.trans ?_ hy
  show (f12_tree a0 l).eval = _
  unfold f12_tree
  have ha : a0.length ≤ BIG := hw.1.1.1
  have hb : a0.length ≤ 9223372036854775807 := ha
  have w : IntKind.i64.wrap (l - ((a0.length : Nat) : Int)) = l - ((a0.length : Nat) : Int) := wrap_le (by omega) (by omega)
  rw [w]
  unfold szcInsSS
  by_cases q : l - ((a0.length : Nat) : Int) < 0
  · rw [eval_ite_t (decide_eq_true q), if_neg (by omega)]; try rfl
  · rw [eval_ite_f (decide_eq_false q)]
    have := sz_loop (f := f12_L0) a0 (fun x : List InsD => szcInsS x) (fun l i => ((a0, (l, (((i : Nat) : Int), ()))), ())) (y := fun l => ((l, ()), ())) (z := ((-1, ()), ()))
      (fun i hi l h0 h1 => by
        have h2 := wrap_succ (i := i) (by omega)
        have e : szInsSV a0[i] l = some (if ((szcInsS a0[i] : Nat) : Int) ≤ l then l - ((szcInsS a0[i] : Nat) : Int) else -1) := szP_in h0 h1
        by_cases q : ((szcInsS a0[i] : Nat) : Int) ≤ l
        · have q2 : ¬ l - ((szcInsS a0[i] : Nat) : Int) < 0 := by omega
          rw [if_pos q] at e
          simp [f12_L0, Out.eval, hi, h2, e, q, q2]
        · rw [if_neg q] at e
          simp [f12_L0, Out.eval, hi, e, q])
      (fun l => by simp [f12_L0, Out.eval]) ha (l := l - ((a0.length : Nat) : Int)) (by omega) (by omega)
    refine (eval_get_some this).trans ?_
    by_cases q2 : ((sumBy (fun x : List InsD => szcInsS x) a0 : Nat) : Int) ≤ l - ((a0.length : Nat) : Int)
    · have e3 : l - ((a0.length : Nat) : Int) - ((sumBy (fun x : List InsD => szcInsS x) a0 : Nat) : Int) = l - ((a0.length + sumBy (fun x : List InsD => szcInsS x) a0 : Nat) : Int) := by omega
      rw [if_pos q2, if_pos (by omega), ← e3]; rfl
    · rw [if_neg q2, if_neg (by omega)]; rfl
abbrev CpuD := Int × (List Int × Unit)
instance dqCpu : DecidableEq CpuD := (@instDecidableEqProd _ _ inferInstance (@instDecidableEqProd _ _ inferInstance inferInstance))
def szcCpu (x : CpuD) : Nat := szcIntS x.2.1
def f67_tree (a0 : Int) (a1 : List Int) (a2 : Int) : Out (((Int × Unit) × Unit) × (Unit × Unit × Unit)) :=
 .get (szIntSV a1 a2) fun y1 =>
 .ite (decide (y1 < (0 : Int)))
 (.ret ((((-1 : Int), ()), ()), ((), (), ())))
 (.ret (((y1, ()), ()), ((), (), ())))
def szCpuV (a0 : Int) (a1 : List Int) (l : Int) : Option Int := szP (szcCpu (a0, a1, ())) l
def k67 : Con := { f := 67, lend := true, its := [⟨false, true, [.i .i64, .ro (.int .i64)]⟩, ⟨false, false, [.i .i64]⟩], lay := [none, none], rs := [⟨false, false, [.i .i64]⟩], F := fun x => .get (szCpuV x.1.1 x.1.2.1 x.2.1.1) fun y => .ret (((y, ()), ()), ((), (), ())) }
theorem f67_eq (x : itemsD k67.its) : bo [k17] (fun _ => none) Tryz.f67 k67 [.tmp 4] x = f67_tree x.1.1 x.1.2.1 x.2.1.1 := by kernel_rfl
theorem f67_okp (hr : ∀ x : CpuD × (Int × Unit) × Unit, itemsWF k67.its x → ∀ y, (k67.F x).eval = some y → (f67_tree x.1.1 x.1.2.1 x.2.1.1).eval = some y) : k67.Ok Tryz.prog := con_fn [k17] ⟨k17_ok, trivial⟩ f67_eq hr
theorem k67_ok : k67.Ok Tryz.prog := by
  refine f67_okp fun x hw y hy => ?_
  obtain ⟨⟨a0, a1, _⟩, ⟨l, _⟩, _⟩ := x
  change (Out.get (szCpuV a0 a1 l) fun y => Out.ret (((y, ()), ()), ((), ((), ())))).eval = some y at hy
  obtain ⟨⟨h0, h1⟩, hy⟩ := szP_get hy
  refine Eq.trans ?_ hy
  show (f67_tree a0 a1 l).eval = _
  unfold f67_tree
  have hc : szcCpu (a0, a1, ()) = szcIntS a1 := rfl
  have e0 : szIntSV a1 (l) = some (if ((szcIntS a1 : Nat) : Int) ≤ l then l - ((szcIntS a1 : Nat) : Int) else -1) := szP_in (by omega) (by omega)
  rw [eval_get_some e0]
  by_cases q0 : ((szcIntS a1 : Nat) : Int) ≤ l
  case neg => rw [if_neg q0, eval_ite_t (by decide), if_neg (by omega)]; try rfl
  rw [if_pos q0, eval_ite_f (decide_eq_false (by omega))]
  have e : l - ((szcCpu (a0, a1, ()) : Nat) : Int) = l - ((szcIntS a1 : Nat) : Int) := by omega
  rw [if_pos (by omega), e]; try rfl
abbrev ProcD := Int × (Int × (Int × (Int × (CpuD × (List Int × (List Int × (Int × (Int × Unit))))))))
instance dqProc : DecidableEq ProcD := (@instDecidableEqProd _ _ inferInstance (@instDecidableEqProd _ _ inferInstance (@instDecidableEqProd _ _ inferInstance (@instDecidableEqProd _ _ inferInstance (@instDecidableEqProd _ _ inferInstance (@instDecidableEqProd _ _ inferInstance (@instDecidableEqProd _ _ inferInstance (@instDecidableEqProd _ _ inferInstance (@instDecidableEqProd _ _ inferInstance inferInstance)))))))))
def szcProc (x : ProcD) : Nat := szcCpu x.2.2.2.2.1 + szcIntS x.2.2.2.2.2.1 + szcIntS x.2.2.2.2.2.2.1
def f35_tree (a0 : Int) (a1 : Int) (a2 : Int) (a3 : Int) (a4 : Int) (a5 : List Int) (a6 : List Int) (a7 : List Int) (a8 : Int) (a9 : Int) (a10 : Int) : Out (((Int × Unit) × Unit) × (Unit × Unit × Unit)) :=
 .get (szCpuV a4 a5 a10) fun y1 =>
 .ite (decide (y1 < (0 : Int)))
 (.ret ((((-1 : Int), ()), ()), ((), (), ())))
 (.get (szIntSV a6 y1) fun y2 =>
 .ite (decide (y2 < (0 : Int)))
 (.ret ((((-1 : Int), ()), ()), ((), (), ())))
 (.get (szIntSV a7 y2) fun y3 =>
 .ite (decide (y3 < (0 : Int)))
 (.ret ((((-1 : Int), ()), ()), ((), (), ())))
 (.ret (((y3, ()), ()), ((), (), ())))))
def szProcV (a0 : Int) (a1 : Int) (a2 : Int) (a3 : Int) (a4 : Int) (a5 : List Int) (a6 : List Int) (a7 : List Int) (a8 : Int) (a9 : Int) (l : Int) : Option Int := szP (szcProc (a0, a1, a2, a3, (a4, a5, ()), a6, a7, a8, a9, ())) l
def k35 : Con := { f := 35, lend := true, its := [⟨false, true, [.i .i64, .i .i64, .i .i64, .i .i64, .i .i64, .ro (.int .i64), .ro (.int .i64), .ro (.int .i64), .i .i64, .i .i64]⟩, ⟨false, false, [.i .i64]⟩], lay := [none, none], rs := [⟨false, false, [.i .i64]⟩], F := fun x => .get (szProcV x.1.1 x.1.2.1 x.1.2.2.1 x.1.2.2.2.1 x.1.2.2.2.2.1 x.1.2.2.2.2.2.1 x.1.2.2.2.2.2.2.1 x.1.2.2.2.2.2.2.2.1 x.1.2.2.2.2.2.2.2.2.1 x.1.2.2.2.2.2.2.2.2.2.1 x.2.1.1) fun y => .ret (((y, ()), ()), ((), (), ())) }
theorem f35_eq (x : itemsD k35.its) : bo [k67, k17] (fun _ => none) Tryz.f35 k35 [.tmp 4] x = f35_tree x.1.1 x.1.2.1 x.1.2.2.1 x.1.2.2.2.1 x.1.2.2.2.2.1 x.1.2.2.2.2.2.1 x.1.2.2.2.2.2.2.1 x.1.2.2.2.2.2.2.2.1 x.1.2.2.2.2.2.2.2.2.1 x.1.2.2.2.2.2.2.2.2.2.1 x.2.1.1 := by kernel_rfl
theorem f35_okp (hr : ∀ x : (Int × Int × Int × Int × Int × List Int × List Int × List Int × Int × Int × Unit) × (Int × Unit) × Unit, itemsWF k35.its x → ∀ y, (k35.F x).eval = some y → (f35_tree x.1.1 x.1.2.1 x.1.2.2.1 x.1.2.2.2.1 x.1.2.2.2.2.1 x.1.2.2.2.2.2.1 x.1.2.2.2.2.2.2.1 x.1.2.2.2.2.2.2.2.1 x.1.2.2.2.2.2.2.2.2.1 x.1.2.2.2.2.2.2.2.2.2.1 x.2.1.1).eval = some y) : k35.Ok Tryz.prog := con_fn [k67, k17] ⟨k67_ok, k17_ok, trivial⟩ f35_eq hr
theorem k35_ok : k35.Ok Tryz.prog := by
  refine f35_okp fun x hw y hy => ?_
  obtain ⟨⟨a0, a1, a2, a3, a4, a5, a6, a7, a8, a9, _⟩, ⟨l, _⟩, _⟩ := x
  change (Out.get (szProcV a0 a1 a2 a3 a4 a5 a6 a7 a8 a9 l) fun y => Out.ret (((y, ()), ()), ((), ((), ())))).eval = some y at hy
  obtain ⟨⟨h0, h1⟩, hy⟩ := szP_get hy
  refine Eq.trans ?_ hy
  show (f35_tree a0 a1 a2 a3 a4 a5 a6 a7 a8 a9 l).eval = _
  unfold f35_tree
  have hc : szcProc (a0, a1, a2, a3, (a4, a5, ()), a6, a7, a8, a9, ()) = szcCpu (a4, a5, ()) + szcIntS a6 + szcIntS a7 := rfl
  have e0 : szCpuV a4 a5 (l) = some (if ((szcCpu (a4, a5, ()) : Nat) : Int) ≤ l then l - ((szcCpu (a4, a5, ()) : Nat) : Int) else -1) := szP_in (by omega) (by omega)
  rw [eval_get_some e0]
  by_cases q0 : ((szcCpu (a4, a5, ()) : Nat) : Int) ≤ l
  case neg => rw [if_neg q0, eval_ite_t (by decide), if_neg (by omega)]; try rfl
  rw [if_pos q0, eval_ite_f (decide_eq_false (by omega))]
  have e1 : szIntSV a6 (l - ((szcCpu (a4, a5, ()) : Nat) : Int)) = some (if ((szcIntS a6 : Nat) : Int) ≤ l - ((szcCpu (a4, a5, ()) : Nat) : Int) then l - ((szcCpu (a4, a5, ()) : Nat) : Int) - ((szcIntS a6 : Nat) : Int) else -1) := szP_in (by omega) (by omega)
  rw [eval_get_some e1]
  by_cases q1 : ((szcIntS a6 : Nat) : Int) ≤ l - ((szcCpu (a4, a5, ()) : Nat) : Int)
  case neg => rw [if_neg q1, eval_ite_t (by decide), if_neg (by omega)]; try rfl
  rw [if_pos q1, eval_ite_f (decide_eq_false (by omega))]
  have e2 : szIntSV a7 (l - ((szcCpu (a4, a5, ()) : Nat) : Int) - ((szcIntS a6 : Nat) : Int)) = some (if ((szcIntS a7 : Nat) : Int) ≤ l - ((szcCpu (a4, a5, ()) : Nat) : Int) - ((szcIntS a6 : Nat) : Int) then l - ((szcCpu (a4, a5, ()) : Nat) : Int) - ((szcIntS a6 : Nat) : Int) - ((szcIntS a7 : Nat) : Int) else -1) := szP_in (by omega) (by omega)
  rw [eval_get_some e2]
  by_cases q2 : ((szcIntS a7 : Nat) : Int) ≤ l - ((szcCpu (a4, a5, ()) : Nat) : Int) - ((szcIntS a6 : Nat) : Int)
  case neg => rw [if_neg q2, eval_ite_t (by decide), if_neg (by omega)]; try rfl
  rw [if_pos q2, eval_ite_f (decide_eq_false (by omega))]
  have e : l - ((szcProc (a0, a1, a2, a3, (a4, a5, ()), a6, a7, a8, a9, ()) : Nat) : Int) = l - ((szcCpu (a4, a5, ()) : Nat) : Int) - ((szcIntS a6 : Nat) : Int) - ((szcIntS a7 : Nat) : Int) := by omega
  rw [if_pos (by omega), e]; try rfl
def szcProcS (a : List ProcD) : Nat := a.length + sumBy (fun x => szcProc x) a
abbrev f13_S0 := (List ProcD × Int × Int × Unit) × (Unit)
def f13_L0 : f13_S0 → Out (Round f13_S0 ((Int × Unit) × (Unit)) ((Int × Unit) × (Unit)))
| ((p0, p1, p2, _), _) =>
 .ite (decide (p2 < ((List.length p0 : Nat) : Int)))
 (.ite (decide (0 ≤ p2))
 (.get (nth p0 (Int.toNat p2)) fun y1 =>
 .get (szProcV y1.1 y1.2.1 y1.2.2.1 y1.2.2.2.1 y1.2.2.2.2.1.1 y1.2.2.2.2.1.2.1 y1.2.2.2.2.2.1 y1.2.2.2.2.2.2.1 y1.2.2.2.2.2.2.2.1 y1.2.2.2.2.2.2.2.2.1 p1) fun y2 =>
 .ite (decide (y2 < (0 : Int)))
 (.ret (.ret (((-1 : Int), ()), ())))
 (.ret (.again ((p0, y2, (IntKind.i64.wrap (p2 + (1 : Int))), ()), ()))))
 .fail)
 (.ret (.out ((p1, ()), ())))
def f13_tree (a0 : List ProcD) (a1 : Int) : Out (((Int × Unit) × Unit) × (Unit × Unit × Unit)) :=
 .ite (decide ((IntKind.i64.wrap (a1 - ((List.length a0 : Nat) : Int))) < (0 : Int)))
 (.ret ((((-1 : Int), ()), ()), ((), (), ())))
 (.get (iter f13_L0 FUEL ((a0, (IntKind.i64.wrap (a1 - ((List.length a0 : Nat) : Int))), (0 : Int), ()), ())) fun y1 => .alt y1 (fun y2 =>
 .ret (((y2.1.1, ()), ()), ((), (), ()))) (fun y3 =>
 .ret (((y3.1.1, ()), ()), ((), (), ()))))
def f13_A : Nat → Option LoopAnn := fun n => annOf [(0, { head := { t := [.ro tyP (some 0), .i .i64, .dead, .dead, .dead, .i .i64] ++ dd 21, v := [] }, out := { t := [.dead, .i .i64] ++ dd 25, v := [] }, ret := some { t := dd 4 ++ [.i .i64] ++ dd 22, v := [] } })] n
def szProcSV (a0 : List ProcD) (l : Int) : Option Int := szP (szcProcS a0) l
def k13 : Con := { f := 13, lend := true, its := [⟨false, false, [.ro tyP]⟩, ⟨false, false, [.i .i64]⟩], lay := [none, none], rs := [⟨false, false, [.i .i64]⟩], F := fun x => .get (szProcSV x.1.1 x.2.1.1) fun y => .ret (((y, ()), ()), ((), (), ())) }
theorem f13_eq (x : itemsD k13.its) : bo [k35] f13_A Tryz.f13 k13 [.tmp 4] x = f13_tree x.1.1 x.2.1.1 := by kernel_rfl
theorem f13_okp (hr : ∀ x : (List ProcD × Unit) × (Int × Unit) × Unit, itemsWF k13.its x → ∀ y, (k13.F x).eval = some y → (f13_tree x.1.1 x.2.1.1).eval = some y) : k13.Ok Tryz.prog := con_fn [k35] ⟨k35_ok, trivial⟩ f13_eq hr
theorem k13_ok : k13.Ok Tryz.prog := by
  refine f13_okp fun x hw y hy => ?_
  obtain ⟨⟨a0, _⟩, ⟨l, _⟩, _⟩ := x
  change (Out.get (szProcSV a0 l) fun y => Out.ret (((y, ()), ()), ((), ((), ())))).eval = some y at hy
  obtain ⟨⟨h0, h1⟩, hy⟩ := szP_get hy
  refine Eq.trans ?_ hy
  show (f13_tree a0 l).eval = _
  unfold f13_tree
  have ha : a0.length ≤ BIG := hw.1.1.1
  have hb : a0.length ≤ 9223372036854775807 := ha
  have w : IntKind.i64.wrap (l - ((a0.length : Nat) : Int)) = l - ((a0.length : Nat) : Int) := wrap_le (by omega) (by omega)
  rw [w]
  unfold szcProcS
  by_cases q : l - ((a0.length : Nat) : Int) < 0
  · rw [eval_ite_t (decide_eq_true q), if_neg (by omega)]; try rfl
  · rw [eval_ite_f (decide_eq_false q)]
    have := sz_loop (f := f13_L0) a0 (fun x : ProcD => szcProc x) (fun l i => ((a0, (l, (((i : Nat) : Int), ()))), ())) (y := fun l => ((l, ()), ())) (z := ((-1, ()), ()))
      (fun i hi l h0 h1 => by
        have h2 := wrap_succ (i := i) (by omega)
        have e : szProcV a0[i].1 a0[i].2.1 a0[i].2.2.1 a0[i].2.2.2.1 a0[i].2.2.2.2.1.1 a0[i].2.2.2.2.1.2.1 a0[i].2.2.2.2.2.1 a0[i].2.2.2.2.2.2.1 a0[i].2.2.2.2.2.2.2.1 a0[i].2.2.2.2.2.2.2.2.1 l = some (if ((szcProc a0[i] : Nat) : Int) ≤ l then l - ((szcProc a0[i] : Nat) : Int) else -1) := szP_in h0 h1
        by_cases q : ((szcProc a0[i] : Nat) : Int) ≤ l
        · have q2 : ¬ l - ((szcProc a0[i] : Nat) : Int) < 0 := by omega
          rw [if_pos q] at e
          simp [f13_L0, Out.eval, hi, h2, e, q, q2]
        · rw [if_neg q] at e
          simp [f13_L0, Out.eval, hi, e, q])
      (fun l => by simp [f13_L0, Out.eval]) ha (l := l - ((a0.length : Nat) : Int)) (by omega) (by omega)
    refine (eval_get_some this).trans ?_
    by_cases q2 : ((sumBy (fun x : ProcD => szcProc x) a0 : Nat) : Int) ≤ l - ((a0.length : Nat) : Int)
    · have e3 : l - ((a0.length : Nat) : Int) - ((sumBy (fun x : ProcD => szcProc x) a0 : Nat) : Int) = l - ((a0.length + sumBy (fun x : ProcD => szcProc x) a0 : Nat) : Int) := by omega
      rw [if_pos q2, if_pos (by omega), ← e3]; rfl
    · rw [if_neg q2, if_neg (by omega)]; rfl
abbrev OpenD := Int × (Int × (Int × (Int × (Int × Unit))))
instance dqOpen : DecidableEq OpenD := (@instDecidableEqProd _ _ inferInstance (@instDecidableEqProd _ _ inferInstance (@instDecidableEqProd _ _ inferInstance (@instDecidableEqProd _ _ inferInstance (@instDecidableEqProd _ _ inferInstance inferInstance)))))
def szcOpen (x : OpenD) : Nat := 0
def szcOpenS (a : List OpenD) : Nat := a.length
def f14_tree (a0 : List OpenD) (a1 : Int) : Out (((Int × Unit) × Unit) × (Unit × Unit × Unit)) :=
 .ite (decide ((IntKind.i64.wrap (a1 - ((List.length a0 : Nat) : Int))) < (0 : Int)))
 (.ret ((((-1 : Int), ()), ()), ((), (), ())))
 (.ret ((((IntKind.i64.wrap (a1 - ((List.length a0 : Nat) : Int))), ()), ()), ((), (), ())))
def szOpenSV (a0 : List OpenD) (l : Int) : Option Int := szP (szcOpenS a0) l
def k14 : Con := { f := 14, lend := true, its := [⟨false, false, [.ro tyO]⟩, ⟨false, false, [.i .i64]⟩], lay := [none, none], rs := [⟨false, false, [.i .i64]⟩], F := fun x => .get (szOpenSV x.1.1 x.2.1.1) fun y => .ret (((y, ()), ()), ((), (), ())) }
theorem f14_eq (x : itemsD k14.its) : bo [] (fun _ => none) Tryz.f14 k14 [.tmp 4] x = f14_tree x.1.1 x.2.1.1 := by kernel_rfl
theorem f14_okp (hr : ∀ x : (List OpenD × Unit) × (Int × Unit) × Unit, itemsWF k14.its x → ∀ y, (k14.F x).eval = some y → (f14_tree x.1.1 x.2.1.1).eval = some y) : k14.Ok Tryz.prog := con_fn [] trivial f14_eq hr
theorem k14_ok : k14.Ok Tryz.prog := by
  refine f14_okp fun x hw y hy => ?_
  obtain ⟨⟨a0, _⟩, ⟨l, _⟩, _⟩ := x
  change (Out.get (szOpenSV a0 l) fun y => Out.ret (((y, ()), ()), ((), ((), ())))).eval = some y at hy
  obtain ⟨⟨h0, h1⟩, hy⟩ := szP_get hy
  refine Eq.trans ?_ hy
  show (f14_tree a0 l).eval = _
  unfold f14_tree
  have ha : a0.length ≤ BIG := hw.1.1.1
  have hb : a0.length ≤ 9223372036854775807 := ha
  have w : IntKind.i64.wrap (l - ((a0.length : Nat) : Int)) = l - ((a0.length : Nat) : Int) := wrap_le (by omega) (by omega)
  rw [w]
  unfold szcOpenS
  by_cases q : l - ((a0.length : Nat) : Int) < 0
  · rw [eval_ite_t (decide_eq_true q), if_neg (by omega)]; try rfl
  · rw [eval_ite_f (decide_eq_false q), if_pos (by omega)]; try rfl
def f36_tree (a0 : Int) (a1 : List Int) (a2 : Int) : Out (((Int × Unit) × Unit) × (Unit × Unit × Unit)) :=
 .get (szIntSV a1 a2) fun y1 =>
 .ite (decide (y1 < (0 : Int)))
 (.ret ((((-1 : Int), ()), ()), ((), (), ())))
 (.ret (((y1, ()), ()), ((), (), ())))
def k36 : Con := { f := 36, lend := true, its := [⟨false, true, [.i .i64, .ro (.int .i64)]⟩, ⟨false, false, [.i .i64]⟩], lay := [none, none], rs := [⟨false, false, [.i .i64]⟩], F := fun x => .get (szCpuV x.1.1 x.1.2.1 x.2.1.1) fun y => .ret (((y, ()), ()), ((), (), ())) }
theorem f36_eq (x : itemsD k36.its) : bo [k17] (fun _ => none) Tryz.f36 k36 [.tmp 4] x = f36_tree x.1.1 x.1.2.1 x.2.1.1 := by kernel_rfl
theorem f36_okp (hr : ∀ x : CpuD × (Int × Unit) × Unit, itemsWF k36.its x → ∀ y, (k36.F x).eval = some y → (f36_tree x.1.1 x.1.2.1 x.2.1.1).eval = some y) : k36.Ok Tryz.prog := con_fn [k17] ⟨k17_ok, trivial⟩ f36_eq hr
theorem k36_ok : k36.Ok Tryz.prog := by
  refine f36_okp fun x hw y hy => ?_
  obtain ⟨⟨a0, a1, _⟩, ⟨l, _⟩, _⟩ := x
  change (Out.get (szCpuV a0 a1 l) fun y => Out.ret (((y, ()), ()), ((), ((), ())))).eval = some y at hy
  obtain ⟨⟨h0, h1⟩, hy⟩ := szP_get hy
  refine Eq.trans ?_ hy
  show (f36_tree a0 a1 l).eval = _
  unfold f36_tree
  have hc : szcCpu (a0, a1, ()) = szcIntS a1 := rfl
  have e0 : szIntSV a1 (l) = some (if ((szcIntS a1 : Nat) : Int) ≤ l then l - ((szcIntS a1 : Nat) : Int) else -1) := szP_in (by omega) (by omega)
  rw [eval_get_some e0]
  by_cases q0 : ((szcIntS a1 : Nat) : Int) ≤ l
  case neg => rw [if_neg q0, eval_ite_t (by decide), if_neg (by omega)]; try rfl
  rw [if_pos q0, eval_ite_f (decide_eq_false (by omega))]
  have e : l - ((szcCpu (a0, a1, ()) : Nat) : Int) = l - ((szcIntS a1 : Nat) : Int) := by omega
  rw [if_pos (by omega), e]; try rfl
def szcCpuS (a : List CpuD) : Nat := a.length + sumBy (fun x => szcCpu x) a
abbrev f15_S0 := (List CpuD × Int × Int × Unit) × (Unit)
def f15_L0 : f15_S0 → Out (Round f15_S0 ((Int × Unit) × (Unit)) ((Int × Unit) × (Unit)))
| ((p0, p1, p2, _), _) =>
 .ite (decide (p2 < ((List.length p0 : Nat) : Int)))
 (.ite (decide (0 ≤ p2))
 (.get (nth p0 (Int.toNat p2)) fun y1 =>
 .get (szCpuV y1.1 y1.2.1 p1) fun y2 =>
 .ite (decide (y2 < (0 : Int)))
 (.ret (.ret (((-1 : Int), ()), ())))
 (.ret (.again ((p0, y2, (IntKind.i64.wrap (p2 + (1 : Int))), ()), ()))))
 .fail)
 (.ret (.out ((p1, ()), ())))
def f15_tree (a0 : List CpuD) (a1 : Int) : Out (((Int × Unit) × Unit) × (Unit × Unit × Unit)) :=
 .ite (decide ((IntKind.i64.wrap (a1 - ((List.length a0 : Nat) : Int))) < (0 : Int)))
 (.ret ((((-1 : Int), ()), ()), ((), (), ())))
 (.get (iter f15_L0 FUEL ((a0, (IntKind.i64.wrap (a1 - ((List.length a0 : Nat) : Int))), (0 : Int), ()), ())) fun y1 => .alt y1 (fun y2 =>
 .ret (((y2.1.1, ()), ()), ((), (), ()))) (fun y3 =>
 .ret (((y3.1.1, ()), ()), ((), (), ()))))
def f15_A : Nat → Option LoopAnn := fun n => annOf [(0, { head := { t := [.ro tyF (some 0), .i .i64, .dead, .dead, .dead, .i .i64] ++ dd 21, v := [] }, out := { t := [.dead, .i .i64] ++ dd 25, v := [] }, ret := some { t := dd 4 ++ [.i .i64] ++ dd 22, v := [] } })] n
def szCpuSV (a0 : List CpuD) (l : Int) : Option Int := szP (szcCpuS a0) l
def k15 : Con := { f := 15, lend := true, its := [⟨false, false, [.ro tyF]⟩, ⟨false, false, [.i .i64]⟩], lay := [none, none], rs := [⟨false, false, [.i .i64]⟩], F := fun x => .get (szCpuSV x.1.1 x.2.1.1) fun y => .ret (((y, ()), ()), ((), (), ())) }
theorem f15_eq (x : itemsD k15.its) : bo [k36] f15_A Tryz.f15 k15 [.tmp 4] x = f15_tree x.1.1 x.2.1.1 := by kernel_rfl
theorem f15_okp (hr : ∀ x : (List CpuD × Unit) × (Int × Unit) × Unit, itemsWF k15.its x → ∀ y, (k15.F x).eval = some y → (f15_tree x.1.1 x.2.1.1).eval = some y) : k15.Ok Tryz.prog := con_fn [k36] ⟨k36_ok, trivial⟩ f15_eq hr
theorem k15_ok : k15.Ok Tryz.prog := by
  refine f15_okp fun x hw y hy => ?_
  obtain ⟨⟨a0, _⟩, ⟨l, _⟩, _⟩ := x
  change (Out.get (szCpuSV a0 l) fun y => Out.ret (((y, ()), ()), ((), ((), ())))).eval = some y at hy
  obtain ⟨⟨h0, h1⟩, hy⟩ := szP_get hy
  refine Eq.trans ?_ hy
  show (f15_tree a0 l).eval = _
  unfold f15_tree
  have ha : a0.length ≤ BIG := hw.1.1.1
  have hb : a0.length ≤ 9223372036854775807 := ha
  have w : IntKind.i64.wrap (l - ((a0.length : Nat) : Int)) = l - ((a0.length : Nat) : Int) := wrap_le (by omega) (by omega)
  rw [w]
  unfold szcCpuS
  by_cases q : l - ((a0.length : Nat) : Int) < 0
  · rw [eval_ite_t (decide_eq_true q), if_neg (by omega)]; try rfl
  · rw [eval_ite_f (decide_eq_false q)]
    have := sz_loop (f := f15_L0) a0 (fun x : CpuD => szcCpu x) (fun l i => ((a0, (l, (((i : Nat) : Int), ()))), ())) (y := fun l => ((l, ()), ())) (z := ((-1, ()), ()))
      (fun i hi l h0 h1 => by
        have h2 := wrap_succ (i := i) (by omega)
        have e : szCpuV a0[i].1 a0[i].2.1 l = some (if ((szcCpu a0[i] : Nat) : Int) ≤ l then l - ((szcCpu a0[i] : Nat) : Int) else -1) := szP_in h0 h1
        by_cases q : ((szcCpu a0[i] : Nat) : Int) ≤ l
        · have q2 : ¬ l - ((szcCpu a0[i] : Nat) : Int) < 0 := by omega
          rw [if_pos q] at e
          simp [f15_L0, Out.eval, hi, h2, e, q, q2]
        · rw [if_neg q] at e
          simp [f15_L0, Out.eval, hi, e, q])
      (fun l => by simp [f15_L0, Out.eval]) ha (l := l - ((a0.length : Nat) : Int)) (by omega) (by omega)
    refine (eval_get_some this).trans ?_
    by_cases q2 : ((sumBy (fun x : CpuD => szcCpu x) a0 : Nat) : Int) ≤ l - ((a0.length : Nat) : Int)
    · have e3 : l - ((a0.length : Nat) : Int) - ((sumBy (fun x : CpuD => szcCpu x) a0 : Nat) : Int) = l - ((a0.length + sumBy (fun x : CpuD => szcCpu x) a0 : Nat) : Int) := by omega
      rw [if_pos q2, if_pos (by omega), ← e3]; rfl
    · rw [if_neg q2, if_neg (by omega)]; rfl
def f37_tree (a0 : Int) (a1 : List Int) (a2 : Int) : Out (((Int × Unit) × Unit) × (Unit × Unit × Unit)) :=
 .get (szIntSV a1 a2) fun y1 =>
 .ite (decide (y1 < (0 : Int)))
 (.ret ((((-1 : Int), ()), ()), ((), (), ())))
 (.ret (((y1, ()), ()), ((), (), ())))
def k37 : Con := { f := 37, lend := true, its := [⟨false, true, [.i .i64, .ro (.int .i64)]⟩, ⟨false, false, [.i .i64]⟩], lay := [none, none], rs := [⟨false, false, [.i .i64]⟩], F := fun x => .get (szCpuV x.1.1 x.1.2.1 x.2.1.1) fun y => .ret (((y, ()), ()), ((), (), ())) }
theorem f37_eq (x : itemsD k37.its) : bo [k17] (fun _ => none) Tryz.f37 k37 [.tmp 4] x = f37_tree x.1.1 x.1.2.1 x.2.1.1 := by kernel_rfl
theorem f37_okp (hr : ∀ x : CpuD × (Int × Unit) × Unit, itemsWF k37.its x → ∀ y, (k37.F x).eval = some y → (f37_tree x.1.1 x.1.2.1 x.2.1.1).eval = some y) : k37.Ok Tryz.prog := con_fn [k17] ⟨k17_ok, trivial⟩ f37_eq hr
theorem k37_ok : k37.Ok Tryz.prog := by
  refine f37_okp fun x hw y hy => ?_
  obtain ⟨⟨a0, a1, _⟩, ⟨l, _⟩, _⟩ := x
  change (Out.get (szCpuV a0 a1 l) fun y => Out.ret (((y, ()), ()), ((), ((), ())))).eval = some y at hy
  obtain ⟨⟨h0, h1⟩, hy⟩ := szP_get hy
  refine Eq.trans ?_ hy
  show (f37_tree a0 a1 l).eval = _
  unfold f37_tree
  have hc : szcCpu (a0, a1, ()) = szcIntS a1 := rfl
  have e0 : szIntSV a1 (l) = some (if ((szcIntS a1 : Nat) : Int) ≤ l then l - ((szcIntS a1 : Nat) : Int) else -1) := szP_in (by omega) (by omega)
  rw [eval_get_some e0]
  by_cases q0 : ((szcIntS a1 : Nat) : Int) ≤ l
  case neg => rw [if_neg q0, eval_ite_t (by decide), if_neg (by omega)]; try rfl
  rw [if_pos q0, eval_ite_f (decide_eq_false (by omega))]
  have e : l - ((szcCpu (a0, a1, ()) : Nat) : Int) = l - ((szcIntS a1 : Nat) : Int) := by omega
  rw [if_pos (by omega), e]; try rfl
abbrev f16_S0 := (List CpuD × Int × Int × Unit) × (Unit)
def f16_L0 : f16_S0 → Out (Round f16_S0 ((Int × Unit) × (Unit)) ((Int × Unit) × (Unit)))
| ((p0, p1, p2, _), _) =>
 .ite (decide (p2 < ((List.length p0 : Nat) : Int)))
 (.ite (decide (0 ≤ p2))
 (.get (nth p0 (Int.toNat p2)) fun y1 =>
 .get (szCpuV y1.1 y1.2.1 p1) fun y2 =>
 .ite (decide (y2 < (0 : Int)))
 (.ret (.ret (((-1 : Int), ()), ())))
 (.ret (.again ((p0, y2, (IntKind.i64.wrap (p2 + (1 : Int))), ()), ()))))
 .fail)
 (.ret (.out ((p1, ()), ())))
def f16_tree (a0 : List CpuD) (a1 : Int) : Out (((Int × Unit) × Unit) × (Unit × Unit × Unit)) :=
 .ite (decide ((IntKind.i64.wrap (a1 - ((List.length a0 : Nat) : Int))) < (0 : Int)))
 (.ret ((((-1 : Int), ()), ()), ((), (), ())))
 (.get (iter f16_L0 FUEL ((a0, (IntKind.i64.wrap (a1 - ((List.length a0 : Nat) : Int))), (0 : Int), ()), ())) fun y1 => .alt y1 (fun y2 =>
 .ret (((y2.1.1, ()), ()), ((), (), ()))) (fun y3 =>
 .ret (((y3.1.1, ()), ()), ((), (), ()))))
def f16_A : Nat → Option LoopAnn := fun n => annOf [(0, { head := { t := [.ro tyF (some 0), .i .i64, .dead, .dead, .dead, .i .i64] ++ dd 21, v := [] }, out := { t := [.dead, .i .i64] ++ dd 25, v := [] }, ret := some { t := dd 4 ++ [.i .i64] ++ dd 22, v := [] } })] n
def k16 : Con := { f := 16, lend := true, its := [⟨false, false, [.ro tyF]⟩, ⟨false, false, [.i .i64]⟩], lay := [none, none], rs := [⟨false, false, [.i .i64]⟩], F := fun x => .get (szCpuSV x.1.1 x.2.1.1) fun y => .ret (((y, ()), ()), ((), (), ())) }
theorem f16_eq (x : itemsD k16.its) : bo [k37] f16_A Tryz.f16 k16 [.tmp 4] x = f16_tree x.1.1 x.2.1.1 := by kernel_rfl
theorem f16_okp (hr : ∀ x : (List CpuD × Unit) × (Int × Unit) × Unit, itemsWF k16.its x → ∀ y, (k16.F x).eval = some y → (f16_tree x.1.1 x.2.1.1).eval = some y) : k16.Ok Tryz.prog := con_fn [k37] ⟨k37_ok, trivial⟩ f16_eq hr
theorem k16_ok : k16.Ok Tryz.prog := by
  refine f16_okp fun x hw y hy => ?_
  obtain ⟨⟨a0, _⟩, ⟨l, _⟩, _⟩ := x
  change (Out.get (szCpuSV a0 l) fun y => Out.ret (((y, ()), ()), ((), ((), ())))).eval = some y at hy
  obtain ⟨⟨h0, h1⟩, hy⟩ := szP_get hy
  refine Eq.trans ?_ hy
  show (f16_tree a0 l).eval = _
  unfold f16_tree
  have ha : a0.length ≤ BIG := hw.1.1.1
  have hb : a0.length ≤ 9223372036854775807 := ha
  have w : IntKind.i64.wrap (l - ((a0.length : Nat) : Int)) = l - ((a0.length : Nat) : Int) := wrap_le (by omega) (by omega)
  rw [w]
  unfold szcCpuS
  by_cases q : l - ((a0.length : Nat) : Int) < 0
  · rw [eval_ite_t (decide_eq_true q), if_neg (by omega)]; try rfl
  · rw [eval_ite_f (decide_eq_false q)]
    have := sz_loop (f := f16_L0) a0 (fun x : CpuD => szcCpu x) (fun l i => ((a0, (l, (((i : Nat) : Int), ()))), ())) (y := fun l => ((l, ()), ())) (z := ((-1, ()), ()))
      (fun i hi l h0 h1 => by
        have h2 := wrap_succ (i := i) (by omega)
        have e : szCpuV a0[i].1 a0[i].2.1 l = some (if ((szcCpu a0[i] : Nat) : Int) ≤ l then l - ((szcCpu a0[i] : Nat) : Int) else -1) := szP_in h0 h1
        by_cases q : ((szcCpu a0[i] : Nat) : Int) ≤ l
        · have q2 : ¬ l - ((szcCpu a0[i] : Nat) : Int) < 0 := by omega
          rw [if_pos q] at e
          simp [f16_L0, Out.eval, hi, h2, e, q, q2]
        · rw [if_neg q] at e
          simp [f16_L0, Out.eval, hi, e, q])
      (fun l => by simp [f16_L0, Out.eval]) ha (l := l - ((a0.length : Nat) : Int)) (by omega) (by omega)
    refine (eval_get_some this).trans ?_
    by_cases q2 : ((sumBy (fun x : CpuD => szcCpu x) a0 : Nat) : Int) ≤ l - ((a0.length : Nat) : Int)
    · have e3 : l - ((a0.length : Nat) : Int) - ((sumBy (fun x : CpuD => szcCpu x) a0 : Nat) : Int) = l - ((a0.length + sumBy (fun x : CpuD => szcCpu x) a0 : Nat) : Int) := by omega
      rw [if_pos q2, if_pos (by omega), ← e3]; rfl
    · rw [if_neg q2, if_neg (by omega)]; rfl
abbrev UnixD := Int × (Int × (List (List InsD) × (List ProcD × (List OpenD × (List CpuD × (List CpuD × (List Int × (List Int × Unit))))))))
instance dqUnix : DecidableEq UnixD := (@instDecidableEqProd _ _ inferInstance (@instDecidableEqProd _ _ inferInstance (@instDecidableEqProd _ _ inferInstance (@instDecidableEqProd _ _ inferInstance (@instDecidableEqProd _ _ inferInstance (@instDecidableEqProd _ _ inferInstance (@instDecidableEqProd _ _ inferInstance (@instDecidableEqProd _ _ inferInstance (@instDecidableEqProd _ _ inferInstance inferInstance)))))))))
def szcUnix (x : UnixD) : Nat := szcInsSS x.2.2.1 + szcProcS x.2.2.2.1 + szcOpenS x.2.2.2.2.1 + szcCpuS x.2.2.2.2.2.1 + szcCpuS x.2.2.2.2.2.2.1 + szcIntS x.2.2.2.2.2.2.2.1 + szcIntS x.2.2.2.2.2.2.2.2.1
def f5_tree (a0 : Int) (a1 : Int) (a2 : List (List InsD)) (a3 : List ProcD) (a4 : List OpenD) (a5 : List CpuD) (a6 : List CpuD) (a7 : List Int) (a8 : List Int) (a9 : Int) : Out (((Int × Unit) × Unit) × (Unit × Unit × Unit)) :=
 .get (szInsSSV a2 a9) fun y1 =>
 .ite (decide (y1 < (0 : Int)))
 (.ret ((((-1 : Int), ()), ()), ((), (), ())))
 (.get (szProcSV a3 y1) fun y2 =>
 .ite (decide (y2 < (0 : Int)))
 (.ret ((((-1 : Int), ()), ()), ((), (), ())))
 (.get (szOpenSV a4 y2) fun y3 =>
 .ite (decide (y3 < (0 : Int)))
 (.ret ((((-1 : Int), ()), ()), ((), (), ())))
 (.get (szCpuSV a5 y3) fun y4 =>
 .ite (decide (y4 < (0 : Int)))
 (.ret ((((-1 : Int), ()), ()), ((), (), ())))
 (.get (szCpuSV a6 y4) fun y5 =>
 .ite (decide (y5 < (0 : Int)))
 (.ret ((((-1 : Int), ()), ()), ((), (), ())))
 (.get (szIntSV a7 y5) fun y6 =>
 .ite (decide (y6 < (0 : Int)))
 (.ret ((((-1 : Int), ()), ()), ((), (), ())))
 (.get (szIntSV a8 y6) fun y7 =>
 .ite (decide (y7 < (0 : Int)))
 (.ret ((((-1 : Int), ()), ()), ((), (), ())))
 (.ret (((y7, ()), ()), ((), (), ())))))))))
def szUnixV (a0 : Int) (a1 : Int) (a2 : List (List InsD)) (a3 : List ProcD) (a4 : List OpenD) (a5 : List CpuD) (a6 : List CpuD) (a7 : List Int) (a8 : List Int) (l : Int) : Option Int := szP (szcUnix (a0, a1, a2, a3, a4, a5, a6, a7, a8, ())) l
def k5 : Con := { f := 5, lend := true, its := [⟨false, true, [.i .i64, .i .i64, .ro (.sl tyN), .ro tyP, .ro tyO, .ro tyF, .ro tyF, .ro (.int .i64), .ro (.int .i64)]⟩, ⟨false, false, [.i .i64]⟩], lay := [none, none], rs := [⟨false, false, [.i .i64]⟩], F := fun x => .get (szUnixV x.1.1 x.1.2.1 x.1.2.2.1 x.1.2.2.2.1 x.1.2.2.2.2.1 x.1.2.2.2.2.2.1 x.1.2.2.2.2.2.2.1 x.1.2.2.2.2.2.2.2.1 x.1.2.2.2.2.2.2.2.2.1 x.2.1.1) fun y => .ret (((y, ()), ()), ((), (), ())) }
theorem f5_eq (x : itemsD k5.its) : bo [k12, k13, k14, k15, k16, k17] (fun _ => none) Tryz.f5 k5 [.tmp 4] x = f5_tree x.1.1 x.1.2.1 x.1.2.2.1 x.1.2.2.2.1 x.1.2.2.2.2.1 x.1.2.2.2.2.2.1 x.1.2.2.2.2.2.2.1 x.1.2.2.2.2.2.2.2.1 x.1.2.2.2.2.2.2.2.2.1 x.2.1.1 := by kernel_rfl
theorem f5_okp (hr : ∀ x : UnixD × (Int × Unit) × Unit, itemsWF k5.its x → ∀ y, (k5.F x).eval = some y → (f5_tree x.1.1 x.1.2.1 x.1.2.2.1 x.1.2.2.2.1 x.1.2.2.2.2.1 x.1.2.2.2.2.2.1 x.1.2.2.2.2.2.2.1 x.1.2.2.2.2.2.2.2.1 x.1.2.2.2.2.2.2.2.2.1 x.2.1.1).eval = some y) : k5.Ok Tryz.prog := con_fn [k12, k13, k14, k15, k16, k17] ⟨k12_ok, k13_ok, k14_ok, k15_ok, k16_ok, k17_ok, trivial⟩ f5_eq hr
theorem k5_ok : k5.Ok Tryz.prog := by
  refine f5_okp fun x hw y hy => ?_
  obtain ⟨⟨a0, a1, a2, a3, a4, a5, a6, a7, a8, _⟩, ⟨l, _⟩, _⟩ := x
  change (Out.get (szUnixV a0 a1 a2 a3 a4 a5 a6 a7 a8 l) fun y => Out.ret (((y, ()), ()), ((), ((), ())))).eval = some y at hy
  obtain ⟨⟨h0, h1⟩, hy⟩ := szP_get hy
  refine Eq.trans ?_ hy
  show (f5_tree a0 a1 a2 a3 a4 a5 a6 a7 a8 l).eval = _
  unfold f5_tree
  have hc : szcUnix (a0, a1, a2, a3, a4, a5, a6, a7, a8, ()) = szcInsSS a2 + szcProcS a3 + szcOpenS a4 + szcCpuS a5 + szcCpuS a6 + szcIntS a7 + szcIntS a8 := rfl
  have e0 : szInsSSV a2 (l) = some (if ((szcInsSS a2 : Nat) : Int) ≤ l then l - ((szcInsSS a2 : Nat) : Int) else -1) := szP_in (by omega) (by omega)
  rw [eval_get_some e0]
  by_cases q0 : ((szcInsSS a2 : Nat) : Int) ≤ l
  case neg => rw [if_neg q0, eval_ite_t (by decide), if_neg (by omega)]; try rfl
  rw [if_pos q0, eval_ite_f (decide_eq_false (by omega))]
  have e1 : szProcSV a3 (l - ((szcInsSS a2 : Nat) : Int)) = some (if ((szcProcS a3 : Nat) : Int) ≤ l - ((szcInsSS a2 : Nat) : Int) then l - ((szcInsSS a2 : Nat) : Int) - ((szcProcS a3 : Nat) : Int) else -1) := szP_in (by omega) (by omega)
  rw [eval_get_some e1]
  by_cases q1 : ((szcProcS a3 : Nat) : Int) ≤ l - ((szcInsSS a2 : Nat) : Int)
  case neg => rw [if_neg q1, eval_ite_t (by decide), if_neg (by omega)]; try rfl
  rw [if_pos q1, eval_ite_f (decide_eq_false (by omega))]
  have e2 : szOpenSV a4 (l - ((szcInsSS a2 : Nat) : Int) - ((szcProcS a3 : Nat) : Int)) = some (if ((szcOpenS a4 : Nat) : Int) ≤ l - ((szcInsSS a2 : Nat) : Int) - ((szcProcS a3 : Nat) : Int) then l - ((szcInsSS a2 : Nat) : Int) - ((szcProcS a3 : Nat) : Int) - ((szcOpenS a4 : Nat) : Int) else -1) := szP_in (by omega) (by omega)
  rw [eval_get_some e2]
  by_cases q2 : ((szcOpenS a4 : Nat) : Int) ≤ l - ((szcInsSS a2 : Nat) : Int) - ((szcProcS a3 : Nat) : Int)
  case neg => rw [if_neg q2, eval_ite_t (by decide), if_neg (by omega)]; try rfl
  rw [if_pos q2, eval_ite_f (decide_eq_false (by omega))]
  have e3 : szCpuSV a5 (l - ((szcInsSS a2 : Nat) : Int) - ((szcProcS a3 : Nat) : Int) - ((szcOpenS a4 : Nat) : Int)) = some (if ((szcCpuS a5 : Nat) : Int) ≤ l - ((szcInsSS a2 : Nat) : Int) - ((szcProcS a3 : Nat) : Int) - ((szcOpenS a4 : Nat) : Int) then l - ((szcInsSS a2 : Nat) : Int) - ((szcProcS a3 : Nat) : Int) - ((szcOpenS a4 : Nat) : Int) - ((szcCpuS a5 : Nat) : Int) else -1) := szP_in (by omega) (by omega)
  rw [eval_get_some e3]
  by_cases q3 : ((szcCpuS a5 : Nat) : Int) ≤ l - ((szcInsSS a2 : Nat) : Int) - ((szcProcS a3 : Nat) : Int) - ((szcOpenS a4 : Nat) : Int)
  case neg => rw [if_neg q3, eval_ite_t (by decide), if_neg (by omega)]; try rfl
  rw [if_pos q3, eval_ite_f (decide_eq_false (by omega))]
  have e4 : szCpuSV a6 (l - ((szcInsSS a2 : Nat) : Int) - ((szcProcS a3 : Nat) : Int) - ((szcOpenS a4 : Nat) : Int) - ((szcCpuS a5 : Nat) : Int)) = some (if ((szcCpuS a6 : Nat) : Int) ≤ l - ((szcInsSS a2 : Nat) : Int) - ((szcProcS a3 : Nat) : Int) - ((szcOpenS a4 : Nat) : Int) - ((szcCpuS a5 : Nat) : Int) then l - ((szcInsSS a2 : Nat) : Int) - ((szcProcS a3 : Nat) : Int) - ((szcOpenS a4 : Nat) : Int) - ((szcCpuS a5 : Nat) : Int) - ((szcCpuS a6 : Nat) : Int) else -1) := szP_in (by omega) (by omega)
  rw [eval_get_some e4]
  by_cases q4 : ((szcCpuS a6 : Nat) : Int) ≤ l - ((szcInsSS a2 : Nat) : Int) - ((szcProcS a3 : Nat) : Int) - ((szcOpenS a4 : Nat) : Int) - ((szcCpuS a5 : Nat) : Int)
  case neg => rw [if_neg q4, eval_ite_t (by decide), if_neg (by omega)]; try rfl
  rw [if_pos q4, eval_ite_f (decide_eq_false (by omega))]
  have e5 : szIntSV a7 (l - ((szcInsSS a2 : Nat) : Int) - ((szcProcS a3 : Nat) : Int) - ((szcOpenS a4 : Nat) : Int) - ((szcCpuS a5 : Nat) : Int) - ((szcCpuS a6 : Nat) : Int)) = some (if ((szcIntS a7 : Nat) : Int) ≤ l - ((szcInsSS a2 : Nat) : Int) - ((szcProcS a3 : Nat) : Int) - ((szcOpenS a4 : Nat) : Int) - ((szcCpuS a5 : Nat) : Int) - ((szcCpuS a6 : Nat) : Int) then l - ((szcInsSS a2 : Nat) : Int) - ((szcProcS a3 : Nat) : Int) - ((szcOpenS a4 : Nat) : Int) - ((szcCpuS a5 : Nat) : Int) - ((szcCpuS a6 : Nat) : Int) - ((szcIntS a7 : Nat) : Int) else -1) := szP_in (by omega) (by omega)
  rw [eval_get_some e5]
  by_cases q5 : ((szcIntS a7 : Nat) : Int) ≤ l - ((szcInsSS a2 : Nat) : Int) - ((szcProcS a3 : Nat) : Int) - ((szcOpenS a4 : Nat) : Int) - ((szcCpuS a5 : Nat) : Int) - ((szcCpuS a6 : Nat) : Int)
  case neg => rw [if_neg q5, eval_ite_t (by decide), if_neg (by omega)]; try rfl
  rw [if_pos q5, eval_ite_f (decide_eq_false (by omega))]
  have e6 : szIntSV a8 (l - ((szcInsSS a2 : Nat) : Int) - ((szcProcS a3 : Nat) : Int) - ((szcOpenS a4 : Nat) : Int) - ((szcCpuS a5 : Nat) : Int) - ((szcCpuS a6 : Nat) : Int) - ((szcIntS a7 : Nat) : Int)) = some (if ((szcIntS a8 : Nat) : Int) ≤ l - ((szcInsSS a2 : Nat) : Int) - ((szcProcS a3 : Nat) : Int) - ((szcOpenS a4 : Nat) : Int) - ((szcCpuS a5 : Nat) : Int) - ((szcCpuS a6 : Nat) : Int) - ((szcIntS a7 : Nat) : Int) then l - ((szcInsSS a2 : Nat) : Int) - ((szcProcS a3 : Nat) : Int) - ((szcOpenS a4 : Nat) : Int) - ((szcCpuS a5 : Nat) : Int) - ((szcCpuS a6 : Nat) : Int) - ((szcIntS a7 : Nat) : Int) - ((szcIntS a8 : Nat) : Int) else -1) := szP_in (by omega) (by omega)
  rw [eval_get_some e6]
  by_cases q6 : ((szcIntS a8 : Nat) : Int) ≤ l - ((szcInsSS a2 : Nat) : Int) - ((szcProcS a3 : Nat) : Int) - ((szcOpenS a4 : Nat) : Int) - ((szcCpuS a5 : Nat) : Int) - ((szcCpuS a6 : Nat) : Int) - ((szcIntS a7 : Nat) : Int)
  case neg => rw [if_neg q6, eval_ite_t (by decide), if_neg (by omega)]; try rfl
  rw [if_pos q6, eval_ite_f (decide_eq_false (by omega))]
  have e : l - ((szcUnix (a0, a1, a2, a3, a4, a5, a6, a7, a8, ()) : Nat) : Int) = l - ((szcInsSS a2 : Nat) : Int) - ((szcProcS a3 : Nat) : Int) - ((szcOpenS a4 : Nat) : Int) - ((szcCpuS a5 : Nat) : Int) - ((szcCpuS a6 : Nat) : Int) - ((szcIntS a7 : Nat) : Int) - ((szcIntS a8 : Nat) : Int) := by omega
  rw [if_pos (by omega), e]; try rfl
abbrev f25_S0 := (List Int × Int × Unit) × (List Int × Unit)
def f25_L0 : f25_S0 → Out (Round f25_S0 ((Unit) × (List Int × Unit)) Empty)
| ((p0, p1, _), p2, _) =>
 .ite (decide (p1 < ((List.length p0 : Nat) : Int)))
 (.ite (decide (0 ≤ p1))
 (.get (nth p0 (Int.toNat p1)) fun y1 =>
 .ite (decide (0 ≤ p1 ∧ p1 < ((List.length p2 : Nat) : Int)))
 (.get (nth p2 (Int.toNat p1)) fun y2 =>
 .ret (.again ((p0, (IntKind.i64.wrap (p1 + (1 : Int))), ()), ((List.set p2 (Int.toNat p1) y1), ()))))
 .fail)
 .fail)
 (.ret (.out ((), (p2, ()))))
def f25_tree (a0 : List Int) : Out (((List Int × Unit) × Unit) × (Unit × Unit)) :=
 .ite (decide (0 ≤ ((List.length a0 : Nat) : Int) ∧ ((List.length a0 : Nat) : Int) ≤ ((List.length a0 : Nat) : Int) ∧ ((List.length a0 : Nat) : Int) ≤ (LIM : Int)))
 (.get (iter1 f25_L0 FUEL ((a0, (0 : Int), ()), ((List.replicate (Int.toNat ((List.length a0 : Nat) : Int)) (0 : Int)), ()))) fun y1 =>
 .ret (((y1.2.1, ()), ()), ((), ())))
 .fail
def f25_A : Nat → Option LoopAnn := fun n => annOf [(0, { head := { t := [.ro (.int .i64) (some 0), .dead, .dead, .srf 64000000, .i .i64] ++ dd 17, v := [(64000000, .arr (.int .i64))] }, out := { t := [.dead, .dead, .dead, .srf 64000256] ++ dd 18, v := [(64000256, .arr (.int .i64))] }, ret := none })] n
def toIntSV (a0 : List Int) : Option ((List Int)) := toP (szcIntS a0) a0
def k25 : Con := { f := 25, lend := true, its := [⟨false, false, [.ro (.int .i64)]⟩], lay := [none], rs := [⟨false, false, [.own (.int .i64)]⟩], F := fun x => .get (toIntSV x.1.1) fun y => .ret (((y, ()), ()), ((), ())) }
theorem f25_eq (x : itemsD k25.its) : bo [] f25_A Tryz.f25 k25 [.tmp 2] x = f25_tree x.1.1 := by kernel_rfl
theorem f25_okp (hr : ∀ x : (List Int × Unit) × Unit, itemsWF k25.its x → ∀ y, (k25.F x).eval = some y → (f25_tree x.1.1).eval = some y) : k25.Ok Tryz.prog := con_fn [] trivial f25_eq hr
theorem k25_ok : k25.Ok Tryz.prog := by
  refine f25_okp fun x hw y hy => ?_
  obtain ⟨⟨a0, _⟩, _⟩ := x
  change (Out.get (toIntSV a0) fun y => Out.ret (((y, ()), ()), ((), ()))).eval = some y at hy
  obtain ⟨h, hy⟩ := toP_get hy
  refine Eq.trans ?_ hy
  show (f25_tree a0).eval = _
  unfold f25_tree
  have ha : a0.length ≤ BIG := hw.1.1.1
  unfold szcIntS at h
  have hl : a0.length ≤ LIM := by rw [LIM_eq]; omega
  rw [eval_ite_t (lim_cond hl), Int.toNat_natCast]
  have := copy_loop (f := f25_L0) a0 (fun x : Int => x) (List.replicate a0.length (0 : Int)) (fun i l => ((a0, (((i : Nat) : Int), ())), (l, ()))) (by simp) ha
    (fun i hi l hl' => by
      have h1 := wrap_succ (i := i) (by omega)
      have h2 : i < l.length := by omega
      simp [f25_L0, Out.eval, hi, h1, h2])
    (fun l => by simp [f25_L0, Out.eval])
  refine (eval_get_some this).trans ?_
  rw [List.map_id']
  try rfl
def f76_tree (a0 : Int) (a1 : Int) (a2 : Int) (a3 : Int) : Out ((InsD × Unit) × (Unit × Unit)) :=
 .ret (((a0, a1, a2, a3, ()), ()), ((), ()))
def toInsV (a0 : Int) (a1 : Int) (a2 : Int) (a3 : Int) : Option (Int × Int × Int × Int) := toP (szcIns (a0, a1, a2, a3, ())) (a0, a1, a2, a3)
def k76 : Con := { f := 76, lend := true, its := [⟨false, true, [.i .i64, .i .i64, .i .i64, .i .i64]⟩], lay := [none], rs := [⟨false, true, [.i .i64, .i .i64, .i .i64, .i .i64]⟩], F := fun x => .get (toInsV x.1.1 x.1.2.1 x.1.2.2.1 x.1.2.2.2.1) fun y => .ret (((y.1, y.2.1, y.2.2.1, y.2.2.2, ()), ()), ((), ())) }
theorem f76_eq (x : itemsD k76.its) : bo [] (fun _ => none) Tryz.f76 k76 [.cell 2 112] x = f76_tree x.1.1 x.1.2.1 x.1.2.2.1 x.1.2.2.2.1 := by kernel_rfl
theorem f76_okp (hr : ∀ x : InsD × Unit, itemsWF k76.its x → ∀ y, (k76.F x).eval = some y → (f76_tree x.1.1 x.1.2.1 x.1.2.2.1 x.1.2.2.2.1).eval = some y) : k76.Ok Tryz.prog := con_fn [] trivial f76_eq hr
theorem k76_ok : k76.Ok Tryz.prog := by
  refine f76_okp fun x hw y hy => ?_
  obtain ⟨⟨a0, a1, a2, a3, _⟩, _⟩ := x
  change (Out.get (toInsV a0 a1 a2 a3) fun y => Out.ret (((y.1, y.2.1, y.2.2.1, y.2.2.2, ()), ()), ((), ()))).eval = some y at hy
  obtain ⟨h, hy⟩ := toP_get hy
  refine Eq.trans ?_ hy
  show (f76_tree a0 a1 a2 a3).eval = _
  unfold f76_tree
  rfl
abbrev f45_S0 := (List InsD × Int × Unit) × (List InsD × Unit)
def f45_L0 : f45_S0 → Out (Round f45_S0 ((Unit) × (List InsD × Unit)) Empty)
| ((p0, p1, _), p2, _) =>
 .ite (decide (p1 < ((List.length p0 : Nat) : Int)))
 (.ite (decide (0 ≤ p1))
 (.get (nth p0 (Int.toNat p1)) fun y1 =>
 .get (toInsV y1.1 y1.2.1 y1.2.2.1 y1.2.2.2.1) fun y2 =>
 .ite (decide (0 ≤ p1 ∧ p1 < ((List.length p2 : Nat) : Int)))
 (.get (nth p2 (Int.toNat p1)) fun y3 =>
 .ret (.again ((p0, (IntKind.i64.wrap (p1 + (1 : Int))), ()), ((List.set p2 (Int.toNat p1) (y2.1, y2.2.1, y2.2.2.1, y2.2.2.2, ())), ()))))
 .fail)
 .fail)
 (.ret (.out ((), (p2, ()))))
def f45_tree (a0 : List InsD) : Out (((List InsD × Unit) × Unit) × (Unit × Unit)) :=
 .ite (decide (0 ≤ ((List.length a0 : Nat) : Int) ∧ ((List.length a0 : Nat) : Int) ≤ ((List.length a0 : Nat) : Int) ∧ ((List.length a0 : Nat) : Int) ≤ (LIM : Int)))
 (.get (iter1 f45_L0 FUEL ((a0, (0 : Int), ()), ((List.replicate (Int.toNat ((List.length a0 : Nat) : Int)) ((0 : Int), ((0 : Int), ((0 : Int), ((0 : Int), ()))))), ()))) fun y1 =>
 .ret (((y1.2.1, ()), ()), ((), ())))
 .fail
def f45_A : Nat → Option LoopAnn := fun n => annOf [(0, { head := { t := [.ro tyN (some 0), .dead, .dead, .srf 64000000, .i .i64] ++ dd 18, v := [(64000000, .arr tyN)] }, out := { t := [.dead, .dead, .dead, .srf 64000256] ++ dd 19, v := [(64000256, .arr tyN)] }, ret := none })] n
def toInsSV (a0 : List InsD) : Option ((List InsD)) := toP (szcInsS a0) a0
def k45 : Con := { f := 45, lend := true, its := [⟨false, false, [.ro tyN]⟩], lay := [none], rs := [⟨false, false, [.own tyN]⟩], F := fun x => .get (toInsSV x.1.1) fun y => .ret (((y, ()), ()), ((), ())) }
theorem f45_eq (x : itemsD k45.its) : bo [k76] f45_A Tryz.f45 k45 [.tmp 2] x = f45_tree x.1.1 := by kernel_rfl
theorem f45_okp (hr : ∀ x : (List InsD × Unit) × Unit, itemsWF k45.its x → ∀ y, (k45.F x).eval = some y → (f45_tree x.1.1).eval = some y) : k45.Ok Tryz.prog := con_fn [k76] ⟨k76_ok, trivial⟩ f45_eq hr
theorem k45_ok : k45.Ok Tryz.prog := by
  refine f45_okp fun x hw y hy => ?_
  obtain ⟨⟨a0, _⟩, _⟩ := x
  change (Out.get (toInsSV a0) fun y => Out.ret (((y, ()), ()), ((), ()))).eval = some y at hy
  obtain ⟨h, hy⟩ := toP_get hy
  refine Eq.trans ?_ hy
  show (f45_tree a0).eval = _
  unfold f45_tree
  have ha : a0.length ≤ BIG := hw.1.1.1
  unfold szcInsS at h
  have hl : a0.length ≤ LIM := by rw [LIM_eq]; omega
  rw [eval_ite_t (lim_cond hl), Int.toNat_natCast]
  have := copy_loop (f := f45_L0) a0 (fun x : InsD => x) (List.replicate a0.length ((0 : Int), ((0 : Int), ((0 : Int), ((0 : Int), ()))))) (fun i l => ((a0, (((i : Nat) : Int), ())), (l, ()))) (by simp) ha
    (fun i hi l hl' => by
      have h1 := wrap_succ (i := i) (by omega)
      have h2 : i < l.length := by omega
      have h4 : toInsV a0[i].1 a0[i].2.1 a0[i].2.2.1 a0[i].2.2.2.1 = some (a0[i].1, a0[i].2.1, a0[i].2.2.1, a0[i].2.2.2.1) := toP_in (by simp [szcIns])
      simp [f45_L0, Out.eval, hi, h1, h2, h4])
    (fun l => by simp [f45_L0, Out.eval])
  refine (eval_get_some this).trans ?_
  rw [List.map_id']
  try rfl
abbrev f20_S0 := (List (List InsD) × Int × Unit) × (List (List InsD) × Unit)
def f20_L0 : f20_S0 → Out (Round f20_S0 ((Unit) × (List (List InsD) × Unit)) Empty)
| ((p0, p1, _), p2, _) =>
 .ite (decide (p1 < ((List.length p0 : Nat) : Int)))
 (.ite (decide (0 ≤ p1))
 (.get (nth p0 (Int.toNat p1)) fun y1 =>
 .get (toInsSV y1) fun y2 =>
 .ite (decide (0 ≤ p1 ∧ p1 < ((List.length p2 : Nat) : Int)))
 (.get (nth p2 (Int.toNat p1)) fun y3 =>
 .ret (.again ((p0, (IntKind.i64.wrap (p1 + (1 : Int))), ()), ((List.set p2 (Int.toNat p1) y2), ()))))
 .fail)
 .fail)
 (.ret (.out ((), (p2, ()))))
def f20_tree (a0 : List (List InsD)) : Out (((List (List InsD) × Unit) × Unit) × (Unit × Unit)) :=
 .ite (decide (0 ≤ ((List.length a0 : Nat) : Int) ∧ ((List.length a0 : Nat) : Int) ≤ ((List.length a0 : Nat) : Int) ∧ ((List.length a0 : Nat) : Int) ≤ (LIM : Int)))
 (.get (iter1 f20_L0 FUEL ((a0, (0 : Int), ()), ((List.replicate (Int.toNat ((List.length a0 : Nat) : Int)) ([] : List InsD)), ()))) fun y1 =>
 .ret (((y1.2.1, ()), ()), ((), ())))
 .fail
def f20_A : Nat → Option LoopAnn := fun n => annOf [(0, { head := { t := [.ro (.sl tyN) (some 0), .dead, .dead, .srf 64000000, .i .i64] ++ dd 18, v := [(64000000, .arr (.sl tyN))] }, out := { t := [.dead, .dead, .dead, .srf 64000256] ++ dd 19, v := [(64000256, .arr (.sl tyN))] }, ret := none })] n
def toInsSSV (a0 : List (List InsD)) : Option ((List (List InsD))) := toP (szcInsSS a0) a0
def k20 : Con := { f := 20, lend := true, its := [⟨false, false, [.ro (.sl tyN)]⟩], lay := [none], rs := [⟨false, false, [.own (.sl tyN)]⟩], F := fun x => .get (toInsSSV x.1.1) fun y => .ret (((y, ()), ()), ((), ())) }
theorem f20_eq (x : itemsD k20.its) : bo [k45] f20_A Tryz.f20 k20 [.tmp 2] x = f20_tree x.1.1 := by kernel_rfl
theorem f20_okp (hr : ∀ x : (List (List InsD) × Unit) × Unit, itemsWF k20.its x → ∀ y, (k20.F x).eval = some y → (f20_tree x.1.1).eval = some y) : k20.Ok Tryz.prog := con_fn [k45] ⟨k45_ok, trivial⟩ f20_eq hr
theorem k20_ok : k20.Ok Tryz.prog := by
  refine f20_okp fun x hw y hy => ?_
  obtain ⟨⟨a0, _⟩, _⟩ := x
  change (Out.get (toInsSSV a0) fun y => Out.ret (((y, ()), ()), ((), ()))).eval = some y at hy
  obtain ⟨h, hy⟩ := toP_get hy
  refine Eq.trans ?_ hy
  show (f20_tree a0).eval = _
  unfold f20_tree
  have ha : a0.length ≤ BIG := hw.1.1.1
  unfold szcInsSS at h
  have hl : a0.length ≤ LIM := by rw [LIM_eq]; omega
  rw [eval_ite_t (lim_cond hl), Int.toNat_natCast]
  have := copy_loop (f := f20_L0) a0 (fun x : List InsD => x) (List.replicate a0.length ([] : List InsD)) (fun i l => ((a0, (((i : Nat) : Int), ())), (l, ()))) (by simp) ha
    (fun i hi l hl' => by
      have h1 := wrap_succ (i := i) (by omega)
      have h2 : i < l.length := by omega
      have h3 : szcInsS a0[i] ≤ sumBy (fun x : List InsD => szcInsS x) a0 := sumBy_mem (c := fun x : List InsD => szcInsS x) (List.getElem_mem hi)
      have h4 : toInsSV a0[i] = some a0[i] := toP_in (show szcInsS a0[i] ≤ 1048576 by omega)
      simp [f20_L0, Out.eval, hi, h1, h2, h4])
    (fun l => by simp [f20_L0, Out.eval])
  refine (eval_get_some this).trans ?_
  rw [List.map_id']
  try rfl
def f77_tree (a0 : Int) (a1 : List Int) : Out ((CpuD × Unit) × (Unit × Unit)) :=
 .get (toIntSV a1) fun y1 =>
 .ret (((a0, y1, ()), ()), ((), ()))
def toCpuV (a0 : Int) (a1 : List Int) : Option (Int × (List Int)) := toP (szcCpu (a0, a1, ())) (a0, a1)
def k77 : Con := { f := 77, lend := true, its := [⟨false, true, [.i .i64, .ro (.int .i64)]⟩], lay := [none], rs := [⟨false, true, [.i .i64, .own (.int .i64)]⟩], F := fun x => .get (toCpuV x.1.1 x.1.2.1) fun y => .ret (((y.1, y.2, ()), ()), ((), ())) }
theorem f77_eq (x : itemsD k77.its) : bo [k25] (fun _ => none) Tryz.f77 k77 [.cell 2 66] x = f77_tree x.1.1 x.1.2.1 := by kernel_rfl
theorem f77_okp (hr : ∀ x : CpuD × Unit, itemsWF k77.its x → ∀ y, (k77.F x).eval = some y → (f77_tree x.1.1 x.1.2.1).eval = some y) : k77.Ok Tryz.prog := con_fn [k25] ⟨k25_ok, trivial⟩ f77_eq hr
theorem k77_ok : k77.Ok Tryz.prog := by
  refine f77_okp fun x hw y hy => ?_
  obtain ⟨⟨a0, a1, _⟩, _⟩ := x
  change (Out.get (toCpuV a0 a1) fun y => Out.ret (((y.1, y.2, ()), ()), ((), ()))).eval = some y at hy
  obtain ⟨h, hy⟩ := toP_get hy
  refine Eq.trans ?_ hy
  show (f77_tree a0 a1).eval = _
  unfold f77_tree
  have h : szcIntS a1 ≤ 1048576 := h
  have e0 : toIntSV a1 = some a1 := toP_in (by omega)
  simp [e0, Out.eval]
def f46_tree (a0 : Int) (a1 : Int) (a2 : Int) (a3 : Int) (a4 : Int) (a5 : List Int) (a6 : List Int) (a7 : List Int) (a8 : Int) (a9 : Int) : Out (((Int × Int × Int × Int × Int × List Int × List Int × List Int × Int × Int × Unit) × Unit) × (Unit × Unit)) :=
 .get (toCpuV a4 a5) fun y1 =>
 .get (toIntSV a6) fun y2 =>
 .get (toIntSV a7) fun y3 =>
 .ret (((a0, a1, a2, a3, y1.1, y1.2, y2, y3, a8, a9, ()), ()), ((), ()))
def toProcV (a0 : Int) (a1 : Int) (a2 : Int) (a3 : Int) (a4 : Int) (a5 : List Int) (a6 : List Int) (a7 : List Int) (a8 : Int) (a9 : Int) : Option (Int × Int × Int × Int × Int × (List Int) × (List Int) × (List Int) × Int × Int) := toP (szcProc (a0, a1, a2, a3, (a4, a5, ()), a6, a7, a8, a9, ())) (a0, a1, a2, a3, a4, a5, a6, a7, a8, a9)
def k46 : Con := { f := 46, lend := true, its := [⟨false, true, [.i .i64, .i .i64, .i .i64, .i .i64, .i .i64, .ro (.int .i64), .ro (.int .i64), .ro (.int .i64), .i .i64, .i .i64]⟩], lay := [none], rs := [⟨false, true, [.i .i64, .i .i64, .i .i64, .i .i64, .i .i64, .own (.int .i64), .own (.int .i64), .own (.int .i64), .i .i64, .i .i64]⟩], F := fun x => .get (toProcV x.1.1 x.1.2.1 x.1.2.2.1 x.1.2.2.2.1 x.1.2.2.2.2.1 x.1.2.2.2.2.2.1 x.1.2.2.2.2.2.2.1 x.1.2.2.2.2.2.2.2.1 x.1.2.2.2.2.2.2.2.2.1 x.1.2.2.2.2.2.2.2.2.2.1) fun y => .ret (((y.1, y.2.1, y.2.2.1, y.2.2.2.1, y.2.2.2.2.1, y.2.2.2.2.2.1, y.2.2.2.2.2.2.1, y.2.2.2.2.2.2.2.1, y.2.2.2.2.2.2.2.2.1, y.2.2.2.2.2.2.2.2.2, ()), ()), ((), ())) }
theorem f46_eq (x : itemsD k46.its) : bo [k77, k25] (fun _ => none) Tryz.f46 k46 [.cell 2 68] x = f46_tree x.1.1 x.1.2.1 x.1.2.2.1 x.1.2.2.2.1 x.1.2.2.2.2.1 x.1.2.2.2.2.2.1 x.1.2.2.2.2.2.2.1 x.1.2.2.2.2.2.2.2.1 x.1.2.2.2.2.2.2.2.2.1 x.1.2.2.2.2.2.2.2.2.2.1 := by kernel_rfl
theorem f46_okp (hr : ∀ x : (Int × Int × Int × Int × Int × List Int × List Int × List Int × Int × Int × Unit) × Unit, itemsWF k46.its x → ∀ y, (k46.F x).eval = some y → (f46_tree x.1.1 x.1.2.1 x.1.2.2.1 x.1.2.2.2.1 x.1.2.2.2.2.1 x.1.2.2.2.2.2.1 x.1.2.2.2.2.2.2.1 x.1.2.2.2.2.2.2.2.1 x.1.2.2.2.2.2.2.2.2.1 x.1.2.2.2.2.2.2.2.2.2.1).eval = some y) : k46.Ok Tryz.prog := con_fn [k77, k25] ⟨k77_ok, k25_ok, trivial⟩ f46_eq hr
theorem k46_ok : k46.Ok Tryz.prog := by
  refine f46_okp fun x hw y hy => ?_
  obtain ⟨⟨a0, a1, a2, a3, a4, a5, a6, a7, a8, a9, _⟩, _⟩ := x
  change (Out.get (toProcV a0 a1 a2 a3 a4 a5 a6 a7 a8 a9) fun y => Out.ret (((y.1, y.2.1, y.2.2.1, y.2.2.2.1, y.2.2.2.2.1, y.2.2.2.2.2.1, y.2.2.2.2.2.2.1, y.2.2.2.2.2.2.2.1, y.2.2.2.2.2.2.2.2.1, y.2.2.2.2.2.2.2.2.2, ()), ()), ((), ()))).eval = some y at hy
  obtain ⟨h, hy⟩ := toP_get hy
  refine Eq.trans ?_ hy
  show (f46_tree a0 a1 a2 a3 a4 a5 a6 a7 a8 a9).eval = _
  unfold f46_tree
  have h : szcCpu (a4, a5, ()) + szcIntS a6 + szcIntS a7 ≤ 1048576 := h
  have e0 : toCpuV a4 a5 = some (a4, a5) := toP_in (by omega)
  have e1 : toIntSV a6 = some a6 := toP_in (by omega)
  have e2 : toIntSV a7 = some a7 := toP_in (by omega)
  simp [e0, e1, e2, Out.eval]
abbrev f21_S0 := (List ProcD × Int × Unit) × (List ProcD × Unit)
def f21_L0 : f21_S0 → Out (Round f21_S0 ((Unit) × (List ProcD × Unit)) Empty)
| ((p0, p1, _), p2, _) =>
 .ite (decide (p1 < ((List.length p0 : Nat) : Int)))
 (.ite (decide (0 ≤ p1))
 (.get (nth p0 (Int.toNat p1)) fun y1 =>
 .get (toProcV y1.1 y1.2.1 y1.2.2.1 y1.2.2.2.1 y1.2.2.2.2.1.1 y1.2.2.2.2.1.2.1 y1.2.2.2.2.2.1 y1.2.2.2.2.2.2.1 y1.2.2.2.2.2.2.2.1 y1.2.2.2.2.2.2.2.2.1) fun y2 =>
 .ite (decide (0 ≤ p1 ∧ p1 < ((List.length p2 : Nat) : Int)))
 (.get (nth p2 (Int.toNat p1)) fun y3 =>
 .ret (.again ((p0, (IntKind.i64.wrap (p1 + (1 : Int))), ()), ((List.set p2 (Int.toNat p1) (y2.1, y2.2.1, y2.2.2.1, y2.2.2.2.1, (y2.2.2.2.2.1, y2.2.2.2.2.2.1, ()), y2.2.2.2.2.2.2.1, y2.2.2.2.2.2.2.2.1, y2.2.2.2.2.2.2.2.2.1, y2.2.2.2.2.2.2.2.2.2, ())), ()))))
 .fail)
 .fail)
 (.ret (.out ((), (p2, ()))))
def f21_tree (a0 : List ProcD) : Out (((List ProcD × Unit) × Unit) × (Unit × Unit)) :=
 .ite (decide (0 ≤ ((List.length a0 : Nat) : Int) ∧ ((List.length a0 : Nat) : Int) ≤ ((List.length a0 : Nat) : Int) ∧ ((List.length a0 : Nat) : Int) ≤ (LIM : Int)))
 (.get (iter1 f21_L0 FUEL ((a0, (0 : Int), ()), ((List.replicate (Int.toNat ((List.length a0 : Nat) : Int)) ((0 : Int), ((0 : Int), ((0 : Int), ((0 : Int), (((0 : Int), (([] : List Int), ())), (([] : List Int), (([] : List Int), ((0 : Int), ((0 : Int), ())))))))))), ()))) fun y1 =>
 .ret (((y1.2.1, ()), ()), ((), ())))
 .fail
def f21_A : Nat → Option LoopAnn := fun n => annOf [(0, { head := { t := [.ro tyP (some 0), .dead, .dead, .srf 64000000, .i .i64] ++ dd 18, v := [(64000000, .arr tyP)] }, out := { t := [.dead, .dead, .dead, .srf 64000256] ++ dd 19, v := [(64000256, .arr tyP)] }, ret := none })] n
def toProcSV (a0 : List ProcD) : Option ((List ProcD)) := toP (szcProcS a0) a0
def k21 : Con := { f := 21, lend := true, its := [⟨false, false, [.ro tyP]⟩], lay := [none], rs := [⟨false, false, [.own tyP]⟩], F := fun x => .get (toProcSV x.1.1) fun y => .ret (((y, ()), ()), ((), ())) }
theorem f21_eq (x : itemsD k21.its) : bo [k46] f21_A Tryz.f21 k21 [.tmp 2] x = f21_tree x.1.1 := by kernel_rfl
theorem f21_okp (hr : ∀ x : (List ProcD × Unit) × Unit, itemsWF k21.its x → ∀ y, (k21.F x).eval = some y → (f21_tree x.1.1).eval = some y) : k21.Ok Tryz.prog := con_fn [k46] ⟨k46_ok, trivial⟩ f21_eq hr
theorem k21_ok : k21.Ok Tryz.prog := by
  refine f21_okp fun x hw y hy => ?_
  obtain ⟨⟨a0, _⟩, _⟩ := x
  change (Out.get (toProcSV a0) fun y => Out.ret (((y, ()), ()), ((), ()))).eval = some y at hy
  obtain ⟨h, hy⟩ := toP_get hy
  refine Eq.trans ?_ hy
  show (f21_tree a0).eval = _
  unfold f21_tree
  have ha : a0.length ≤ BIG := hw.1.1.1
  unfold szcProcS at h
  have hl : a0.length ≤ LIM := by rw [LIM_eq]; omega
  rw [eval_ite_t (lim_cond hl), Int.toNat_natCast]
  have := copy_loop (f := f21_L0) a0 (fun x : ProcD => x) (List.replicate a0.length ((0 : Int), ((0 : Int), ((0 : Int), ((0 : Int), (((0 : Int), (([] : List Int), ())), (([] : List Int), (([] : List Int), ((0 : Int), ((0 : Int), ())))))))))) (fun i l => ((a0, (((i : Nat) : Int), ())), (l, ()))) (by simp) ha
    (fun i hi l hl' => by
      have h1 := wrap_succ (i := i) (by omega)
      have h2 : i < l.length := by omega
      have h3 : szcProc a0[i] ≤ sumBy (fun x : ProcD => szcProc x) a0 := sumBy_mem (c := fun x : ProcD => szcProc x) (List.getElem_mem hi)
      have h4 : toProcV a0[i].1 a0[i].2.1 a0[i].2.2.1 a0[i].2.2.2.1 a0[i].2.2.2.2.1.1 a0[i].2.2.2.2.1.2.1 a0[i].2.2.2.2.2.1 a0[i].2.2.2.2.2.2.1 a0[i].2.2.2.2.2.2.2.1 a0[i].2.2.2.2.2.2.2.2.1 = some (a0[i].1, a0[i].2.1, a0[i].2.2.1, a0[i].2.2.2.1, a0[i].2.2.2.2.1.1, a0[i].2.2.2.2.1.2.1, a0[i].2.2.2.2.2.1, a0[i].2.2.2.2.2.2.1, a0[i].2.2.2.2.2.2.2.1, a0[i].2.2.2.2.2.2.2.2.1) := toP_in (show szcProc a0[i] ≤ 1048576 by omega)
      simp [f21_L0, Out.eval, hi, h1, h2, h4])
    (fun l => by simp [f21_L0, Out.eval])
  refine (eval_get_some this).trans ?_
  rw [List.map_id']
  try rfl
def f47_tree (a0 : Int) (a1 : Int) (a2 : Int) (a3 : Int) (a4 : Int) : Out ((OpenD × Unit) × (Unit × Unit)) :=
 .ret (((a0, a1, a2, a3, a4, ()), ()), ((), ()))
def toOpenV (a0 : Int) (a1 : Int) (a2 : Int) (a3 : Int) (a4 : Int) : Option (Int × Int × Int × Int × Int) := toP (szcOpen (a0, a1, a2, a3, a4, ())) (a0, a1, a2, a3, a4)
def k47 : Con := { f := 47, lend := true, its := [⟨false, true, [.i .i64, .i .i64, .i .i64, .i .i64, .i .i64]⟩], lay := [none], rs := [⟨false, true, [.i .i64, .i .i64, .i .i64, .i .i64, .i .i64]⟩], F := fun x => .get (toOpenV x.1.1 x.1.2.1 x.1.2.2.1 x.1.2.2.2.1 x.1.2.2.2.2.1) fun y => .ret (((y.1, y.2.1, y.2.2.1, y.2.2.2.1, y.2.2.2.2, ()), ()), ((), ())) }
theorem f47_eq (x : itemsD k47.its) : bo [] (fun _ => none) Tryz.f47 k47 [.cell 2 51] x = f47_tree x.1.1 x.1.2.1 x.1.2.2.1 x.1.2.2.2.1 x.1.2.2.2.2.1 := by kernel_rfl
theorem f47_okp (hr : ∀ x : OpenD × Unit, itemsWF k47.its x → ∀ y, (k47.F x).eval = some y → (f47_tree x.1.1 x.1.2.1 x.1.2.2.1 x.1.2.2.2.1 x.1.2.2.2.2.1).eval = some y) : k47.Ok Tryz.prog := con_fn [] trivial f47_eq hr
theorem k47_ok : k47.Ok Tryz.prog := by
  refine f47_okp fun x hw y hy => ?_
  obtain ⟨⟨a0, a1, a2, a3, a4, _⟩, _⟩ := x
  change (Out.get (toOpenV a0 a1 a2 a3 a4) fun y => Out.ret (((y.1, y.2.1, y.2.2.1, y.2.2.2.1, y.2.2.2.2, ()), ()), ((), ()))).eval = some y at hy
  obtain ⟨h, hy⟩ := toP_get hy
  refine Eq.trans ?_ hy
  show (f47_tree a0 a1 a2 a3 a4).eval = _
  unfold f47_tree
  rfl
abbrev f22_S0 := (List OpenD × Int × Unit) × (List OpenD × Unit)
def f22_L0 : f22_S0 → Out (Round f22_S0 ((Unit) × (List OpenD × Unit)) Empty)
| ((p0, p1, _), p2, _) =>
 .ite (decide (p1 < ((List.length p0 : Nat) : Int)))
 (.ite (decide (0 ≤ p1))
 (.get (nth p0 (Int.toNat p1)) fun y1 =>
 .get (toOpenV y1.1 y1.2.1 y1.2.2.1 y1.2.2.2.1 y1.2.2.2.2.1) fun y2 =>
 .ite (decide (0 ≤ p1 ∧ p1 < ((List.length p2 : Nat) : Int)))
 (.get (nth p2 (Int.toNat p1)) fun y3 =>
 .ret (.again ((p0, (IntKind.i64.wrap (p1 + (1 : Int))), ()), ((List.set p2 (Int.toNat p1) (y2.1, y2.2.1, y2.2.2.1, y2.2.2.2.1, y2.2.2.2.2, ())), ()))))
 .fail)
 .fail)
 (.ret (.out ((), (p2, ()))))
def f22_tree (a0 : List OpenD) : Out (((List OpenD × Unit) × Unit) × (Unit × Unit)) :=
 .ite (decide (0 ≤ ((List.length a0 : Nat) : Int) ∧ ((List.length a0 : Nat) : Int) ≤ ((List.length a0 : Nat) : Int) ∧ ((List.length a0 : Nat) : Int) ≤ (LIM : Int)))
 (.get (iter1 f22_L0 FUEL ((a0, (0 : Int), ()), ((List.replicate (Int.toNat ((List.length a0 : Nat) : Int)) ((0 : Int), ((0 : Int), ((0 : Int), ((0 : Int), ((0 : Int), ())))))), ()))) fun y1 =>
 .ret (((y1.2.1, ()), ()), ((), ())))
 .fail
def f22_A : Nat → Option LoopAnn := fun n => annOf [(0, { head := { t := [.ro tyO (some 0), .dead, .dead, .srf 64000000, .i .i64] ++ dd 18, v := [(64000000, .arr tyO)] }, out := { t := [.dead, .dead, .dead, .srf 64000256] ++ dd 19, v := [(64000256, .arr tyO)] }, ret := none })] n
def toOpenSV (a0 : List OpenD) : Option ((List OpenD)) := toP (szcOpenS a0) a0
def k22 : Con := { f := 22, lend := true, its := [⟨false, false, [.ro tyO]⟩], lay := [none], rs := [⟨false, false, [.own tyO]⟩], F := fun x => .get (toOpenSV x.1.1) fun y => .ret (((y, ()), ()), ((), ())) }
theorem f22_eq (x : itemsD k22.its) : bo [k47] f22_A Tryz.f22 k22 [.tmp 2] x = f22_tree x.1.1 := by kernel_rfl
theorem f22_okp (hr : ∀ x : (List OpenD × Unit) × Unit, itemsWF k22.its x → ∀ y, (k22.F x).eval = some y → (f22_tree x.1.1).eval = some y) : k22.Ok Tryz.prog := con_fn [k47] ⟨k47_ok, trivial⟩ f22_eq hr
theorem k22_ok : k22.Ok Tryz.prog := by
  refine f22_okp fun x hw y hy => ?_
  obtain ⟨⟨a0, _⟩, _⟩ := x
  change (Out.get (toOpenSV a0) fun y => Out.ret (((y, ()), ()), ((), ()))).eval = some y at hy
  obtain ⟨h, hy⟩ := toP_get hy
  refine Eq.trans ?_ hy
  show (f22_tree a0).eval = _
  unfold f22_tree
  have ha : a0.length ≤ BIG := hw.1.1.1
  unfold szcOpenS at h
  have hl : a0.length ≤ LIM := by rw [LIM_eq]; omega
  rw [eval_ite_t (lim_cond hl), Int.toNat_natCast]
  have := copy_loop (f := f22_L0) a0 (fun x : OpenD => x) (List.replicate a0.length ((0 : Int), ((0 : Int), ((0 : Int), ((0 : Int), ((0 : Int), ())))))) (fun i l => ((a0, (((i : Nat) : Int), ())), (l, ()))) (by simp) ha
    (fun i hi l hl' => by
      have h1 := wrap_succ (i := i) (by omega)
      have h2 : i < l.length := by omega
      have h4 : toOpenV a0[i].1 a0[i].2.1 a0[i].2.2.1 a0[i].2.2.2.1 a0[i].2.2.2.2.1 = some (a0[i].1, a0[i].2.1, a0[i].2.2.1, a0[i].2.2.2.1, a0[i].2.2.2.2.1) := toP_in (by simp [szcOpen])
      simp [f22_L0, Out.eval, hi, h1, h2, h4])
    (fun l => by simp [f22_L0, Out.eval])
  refine (eval_get_some this).trans ?_
  rw [List.map_id']
  try rfl
def f48_tree (a0 : Int) (a1 : List Int) : Out ((CpuD × Unit) × (Unit × Unit)) :=
 .get (toIntSV a1) fun y1 =>
 .ret (((a0, y1, ()), ()), ((), ()))
def k48 : Con := { f := 48, lend := true, its := [⟨false, true, [.i .i64, .ro (.int .i64)]⟩], lay := [none], rs := [⟨false, true, [.i .i64, .own (.int .i64)]⟩], F := fun x => .get (toCpuV x.1.1 x.1.2.1) fun y => .ret (((y.1, y.2, ()), ()), ((), ())) }
theorem f48_eq (x : itemsD k48.its) : bo [k25] (fun _ => none) Tryz.f48 k48 [.cell 2 92] x = f48_tree x.1.1 x.1.2.1 := by kernel_rfl
theorem f48_okp (hr : ∀ x : CpuD × Unit, itemsWF k48.its x → ∀ y, (k48.F x).eval = some y → (f48_tree x.1.1 x.1.2.1).eval = some y) : k48.Ok Tryz.prog := con_fn [k25] ⟨k25_ok, trivial⟩ f48_eq hr
theorem k48_ok : k48.Ok Tryz.prog := by
  refine f48_okp fun x hw y hy => ?_
  obtain ⟨⟨a0, a1, _⟩, _⟩ := x
  change (Out.get (toCpuV a0 a1) fun y => Out.ret (((y.1, y.2, ()), ()), ((), ()))).eval = some y at hy
  obtain ⟨h, hy⟩ := toP_get hy
  refine Eq.trans ?_ hy
  show (f48_tree a0 a1).eval = _
  unfold f48_tree
  have h : szcIntS a1 ≤ 1048576 := h
  have e0 : toIntSV a1 = some a1 := toP_in (by omega)
  simp [e0, Out.eval]
abbrev f23_S0 := (List CpuD × Int × Unit) × (List CpuD × Unit)
def f23_L0 : f23_S0 → Out (Round f23_S0 ((Unit) × (List CpuD × Unit)) Empty)
| ((p0, p1, _), p2, _) =>
 .ite (decide (p1 < ((List.length p0 : Nat) : Int)))
 (.ite (decide (0 ≤ p1))
 (.get (nth p0 (Int.toNat p1)) fun y1 =>
 .get (toCpuV y1.1 y1.2.1) fun y2 =>
 .ite (decide (0 ≤ p1 ∧ p1 < ((List.length p2 : Nat) : Int)))
 (.get (nth p2 (Int.toNat p1)) fun y3 =>
 .ret (.again ((p0, (IntKind.i64.wrap (p1 + (1 : Int))), ()), ((List.set p2 (Int.toNat p1) (y2.1, y2.2, ())), ()))))
 .fail)
 .fail)
 (.ret (.out ((), (p2, ()))))
def f23_tree (a0 : List CpuD) : Out (((List CpuD × Unit) × Unit) × (Unit × Unit)) :=
 .ite (decide (0 ≤ ((List.length a0 : Nat) : Int) ∧ ((List.length a0 : Nat) : Int) ≤ ((List.length a0 : Nat) : Int) ∧ ((List.length a0 : Nat) : Int) ≤ (LIM : Int)))
 (.get (iter1 f23_L0 FUEL ((a0, (0 : Int), ()), ((List.replicate (Int.toNat ((List.length a0 : Nat) : Int)) ((0 : Int), (([] : List Int), ()))), ()))) fun y1 =>
 .ret (((y1.2.1, ()), ()), ((), ())))
 .fail
def f23_A : Nat → Option LoopAnn := fun n => annOf [(0, { head := { t := [.ro tyF (some 0), .dead, .dead, .srf 64000000, .i .i64] ++ dd 18, v := [(64000000, .arr tyF)] }, out := { t := [.dead, .dead, .dead, .srf 64000256] ++ dd 19, v := [(64000256, .arr tyF)] }, ret := none })] n
def toCpuSV (a0 : List CpuD) : Option ((List CpuD)) := toP (szcCpuS a0) a0
def k23 : Con := { f := 23, lend := true, its := [⟨false, false, [.ro tyF]⟩], lay := [none], rs := [⟨false, false, [.own tyF]⟩], F := fun x => .get (toCpuSV x.1.1) fun y => .ret (((y, ()), ()), ((), ())) }
theorem f23_eq (x : itemsD k23.its) : bo [k48] f23_A Tryz.f23 k23 [.tmp 2] x = f23_tree x.1.1 := by kernel_rfl
theorem f23_okp (hr : ∀ x : (List CpuD × Unit) × Unit, itemsWF k23.its x → ∀ y, (k23.F x).eval = some y → (f23_tree x.1.1).eval = some y) : k23.Ok Tryz.prog := con_fn [k48] ⟨k48_ok, trivial⟩ f23_eq hr
theorem k23_ok : k23.Ok Tryz.prog := by
  refine f23_okp fun x hw y hy => ?_
  obtain ⟨⟨a0, _⟩, _⟩ := x
  change (Out.get (toCpuSV a0) fun y => Out.ret (((y, ()), ()), ((), ()))).eval = some y at hy
  obtain ⟨h, hy⟩ := toP_get hy
  refine Eq.trans ?_ hy
  show (f23_tree a0).eval = _
  unfold f23_tree
  have ha : a0.length ≤ BIG := hw.1.1.1
  unfold szcCpuS at h
  have hl : a0.length ≤ LIM := by rw [LIM_eq]; omega
  rw [eval_ite_t (lim_cond hl), Int.toNat_natCast]
  have := copy_loop (f := f23_L0) a0 (fun x : CpuD => x) (List.replicate a0.length ((0 : Int), (([] : List Int), ()))) (fun i l => ((a0, (((i : Nat) : Int), ())), (l, ()))) (by simp) ha
    (fun i hi l hl' => by
      have h1 := wrap_succ (i := i) (by omega)
      have h2 : i < l.length := by omega
      have h3 : szcCpu a0[i] ≤ sumBy (fun x : CpuD => szcCpu x) a0 := sumBy_mem (c := fun x : CpuD => szcCpu x) (List.getElem_mem hi)
      have h4 : toCpuV a0[i].1 a0[i].2.1 = some (a0[i].1, a0[i].2.1) := toP_in (show szcCpu a0[i] ≤ 1048576 by omega)
      simp [f23_L0, Out.eval, hi, h1, h2, h4])
    (fun l => by simp [f23_L0, Out.eval])
  refine (eval_get_some this).trans ?_
  rw [List.map_id']
  try rfl
def f49_tree (a0 : Int) (a1 : List Int) : Out ((CpuD × Unit) × (Unit × Unit)) :=
 .get (toIntSV a1) fun y1 =>
 .ret (((a0, y1, ()), ()), ((), ()))
def k49 : Con := { f := 49, lend := true, its := [⟨false, true, [.i .i64, .ro (.int .i64)]⟩], lay := [none], rs := [⟨false, true, [.i .i64, .own (.int .i64)]⟩], F := fun x => .get (toCpuV x.1.1 x.1.2.1) fun y => .ret (((y.1, y.2, ()), ()), ((), ())) }
theorem f49_eq (x : itemsD k49.its) : bo [k25] (fun _ => none) Tryz.f49 k49 [.cell 2 94] x = f49_tree x.1.1 x.1.2.1 := by kernel_rfl
theorem f49_okp (hr : ∀ x : CpuD × Unit, itemsWF k49.its x → ∀ y, (k49.F x).eval = some y → (f49_tree x.1.1 x.1.2.1).eval = some y) : k49.Ok Tryz.prog := con_fn [k25] ⟨k25_ok, trivial⟩ f49_eq hr
theorem k49_ok : k49.Ok Tryz.prog := by
  refine f49_okp fun x hw y hy => ?_
  obtain ⟨⟨a0, a1, _⟩, _⟩ := x
  change (Out.get (toCpuV a0 a1) fun y => Out.ret (((y.1, y.2, ()), ()), ((), ()))).eval = some y at hy
  obtain ⟨h, hy⟩ := toP_get hy
  refine Eq.trans ?_ hy
  show (f49_tree a0 a1).eval = _
  unfold f49_tree
  have h : szcIntS a1 ≤ 1048576 := h
  have e0 : toIntSV a1 = some a1 := toP_in (by omega)
  simp [e0, Out.eval]
abbrev f24_S0 := (List CpuD × Int × Unit) × (List CpuD × Unit)
def f24_L0 : f24_S0 → Out (Round f24_S0 ((Unit) × (List CpuD × Unit)) Empty)
| ((p0, p1, _), p2, _) =>
 .ite (decide (p1 < ((List.length p0 : Nat) : Int)))
 (.ite (decide (0 ≤ p1))
 (.get (nth p0 (Int.toNat p1)) fun y1 =>
 .get (toCpuV y1.1 y1.2.1) fun y2 =>
 .ite (decide (0 ≤ p1 ∧ p1 < ((List.length p2 : Nat) : Int)))
 (.get (nth p2 (Int.toNat p1)) fun y3 =>
 .ret (.again ((p0, (IntKind.i64.wrap (p1 + (1 : Int))), ()), ((List.set p2 (Int.toNat p1) (y2.1, y2.2, ())), ()))))
 .fail)
 .fail)
 (.ret (.out ((), (p2, ()))))
def f24_tree (a0 : List CpuD) : Out (((List CpuD × Unit) × Unit) × (Unit × Unit)) :=
 .ite (decide (0 ≤ ((List.length a0 : Nat) : Int) ∧ ((List.length a0 : Nat) : Int) ≤ ((List.length a0 : Nat) : Int) ∧ ((List.length a0 : Nat) : Int) ≤ (LIM : Int)))
 (.get (iter1 f24_L0 FUEL ((a0, (0 : Int), ()), ((List.replicate (Int.toNat ((List.length a0 : Nat) : Int)) ((0 : Int), (([] : List Int), ()))), ()))) fun y1 =>
 .ret (((y1.2.1, ()), ()), ((), ())))
 .fail
def f24_A : Nat → Option LoopAnn := fun n => annOf [(0, { head := { t := [.ro tyF (some 0), .dead, .dead, .srf 64000000, .i .i64] ++ dd 18, v := [(64000000, .arr tyF)] }, out := { t := [.dead, .dead, .dead, .srf 64000256] ++ dd 19, v := [(64000256, .arr tyF)] }, ret := none })] n
def k24 : Con := { f := 24, lend := true, its := [⟨false, false, [.ro tyF]⟩], lay := [none], rs := [⟨false, false, [.own tyF]⟩], F := fun x => .get (toCpuSV x.1.1) fun y => .ret (((y, ()), ()), ((), ())) }
theorem f24_eq (x : itemsD k24.its) : bo [k49] f24_A Tryz.f24 k24 [.tmp 2] x = f24_tree x.1.1 := by kernel_rfl
theorem f24_okp (hr : ∀ x : (List CpuD × Unit) × Unit, itemsWF k24.its x → ∀ y, (k24.F x).eval = some y → (f24_tree x.1.1).eval = some y) : k24.Ok Tryz.prog := con_fn [k49] ⟨k49_ok, trivial⟩ f24_eq hr
theorem k24_ok : k24.Ok Tryz.prog := by
  refine f24_okp fun x hw y hy => ?_
  obtain ⟨⟨a0, _⟩, _⟩ := x
  change (Out.get (toCpuSV a0) fun y => Out.ret (((y, ()), ()), ((), ()))).eval = some y at hy
  obtain ⟨h, hy⟩ := toP_get hy
  refine Eq.trans ?_ hy
  show (f24_tree a0).eval = _
  unfold f24_tree
  have ha : a0.length ≤ BIG := hw.1.1.1
  unfold szcCpuS at h
  have hl : a0.length ≤ LIM := by rw [LIM_eq]; omega
  rw [eval_ite_t (lim_cond hl), Int.toNat_natCast]
  have := copy_loop (f := f24_L0) a0 (fun x : CpuD => x) (List.replicate a0.length ((0 : Int), (([] : List Int), ()))) (fun i l => ((a0, (((i : Nat) : Int), ())), (l, ()))) (by simp) ha
    (fun i hi l hl' => by
      have h1 := wrap_succ (i := i) (by omega)
      have h2 : i < l.length := by omega
      have h3 : szcCpu a0[i] ≤ sumBy (fun x : CpuD => szcCpu x) a0 := sumBy_mem (c := fun x : CpuD => szcCpu x) (List.getElem_mem hi)
      have h4 : toCpuV a0[i].1 a0[i].2.1 = some (a0[i].1, a0[i].2.1) := toP_in (show szcCpu a0[i] ≤ 1048576 by omega)
      simp [f24_L0, Out.eval, hi, h1, h2, h4])
    (fun l => by simp [f24_L0, Out.eval])
  refine (eval_get_some this).trans ?_
  rw [List.map_id']
  try rfl
def f7_tree (a0 : Int) (a1 : Int) (a2 : List (List InsD)) (a3 : List ProcD) (a4 : List OpenD) (a5 : List CpuD) (a6 : List CpuD) (a7 : List Int) (a8 : List Int) : Out ((UnixD × Unit) × (Unit × Unit)) :=
 .get (toInsSSV a2) fun y1 =>
 .get (toProcSV a3) fun y2 =>
 .get (toOpenSV a4) fun y3 =>
 .get (toCpuSV a5) fun y4 =>
 .get (toCpuSV a6) fun y5 =>
 .get (toIntSV a7) fun y6 =>
 .get (toIntSV a8) fun y7 =>
 .ret (((a0, a1, y1, y2, y3, y4, y5, y6, y7, ()), ()), ((), ()))
def toUnixV (a0 : Int) (a1 : Int) (a2 : List (List InsD)) (a3 : List ProcD) (a4 : List OpenD) (a5 : List CpuD) (a6 : List CpuD) (a7 : List Int) (a8 : List Int) : Option (Int × Int × (List (List InsD)) × (List ProcD) × (List OpenD) × (List CpuD) × (List CpuD) × (List Int) × (List Int)) := toP (szcUnix (a0, a1, a2, a3, a4, a5, a6, a7, a8, ())) (a0, a1, a2, a3, a4, a5, a6, a7, a8)
def k7 : Con := { f := 7, lend := true, its := [⟨false, true, [.i .i64, .i .i64, .ro (.sl tyN), .ro tyP, .ro tyO, .ro tyF, .ro tyF, .ro (.int .i64), .ro (.int .i64)]⟩], lay := [none], rs := [⟨false, true, [.i .i64, .i .i64, .own (.sl tyN), .own tyP, .own tyO, .own tyF, .own tyF, .own (.int .i64), .own (.int .i64)]⟩], F := fun x => .get (toUnixV x.1.1 x.1.2.1 x.1.2.2.1 x.1.2.2.2.1 x.1.2.2.2.2.1 x.1.2.2.2.2.2.1 x.1.2.2.2.2.2.2.1 x.1.2.2.2.2.2.2.2.1 x.1.2.2.2.2.2.2.2.2.1) fun y => .ret (((y.1, y.2.1, y.2.2.1, y.2.2.2.1, y.2.2.2.2.1, y.2.2.2.2.2.1, y.2.2.2.2.2.2.1, y.2.2.2.2.2.2.2.1, y.2.2.2.2.2.2.2.2, ()), ()), ((), ())) }
theorem f7_eq (x : itemsD k7.its) : bo [k20, k21, k22, k23, k24, k25] (fun _ => none) Tryz.f7 k7 [.cell 2 38] x = f7_tree x.1.1 x.1.2.1 x.1.2.2.1 x.1.2.2.2.1 x.1.2.2.2.2.1 x.1.2.2.2.2.2.1 x.1.2.2.2.2.2.2.1 x.1.2.2.2.2.2.2.2.1 x.1.2.2.2.2.2.2.2.2.1 := by kernel_rfl
theorem f7_okp (hr : ∀ x : UnixD × Unit, itemsWF k7.its x → ∀ y, (k7.F x).eval = some y → (f7_tree x.1.1 x.1.2.1 x.1.2.2.1 x.1.2.2.2.1 x.1.2.2.2.2.1 x.1.2.2.2.2.2.1 x.1.2.2.2.2.2.2.1 x.1.2.2.2.2.2.2.2.1 x.1.2.2.2.2.2.2.2.2.1).eval = some y) : k7.Ok Tryz.prog := con_fn [k20, k21, k22, k23, k24, k25] ⟨k20_ok, k21_ok, k22_ok, k23_ok, k24_ok, k25_ok, trivial⟩ f7_eq hr
theorem k7_ok : k7.Ok Tryz.prog := by
  refine f7_okp fun x hw y hy => ?_
  obtain ⟨⟨a0, a1, a2, a3, a4, a5, a6, a7, a8, _⟩, _⟩ := x
  change (Out.get (toUnixV a0 a1 a2 a3 a4 a5 a6 a7 a8) fun y => Out.ret (((y.1, y.2.1, y.2.2.1, y.2.2.2.1, y.2.2.2.2.1, y.2.2.2.2.2.1, y.2.2.2.2.2.2.1, y.2.2.2.2.2.2.2.1, y.2.2.2.2.2.2.2.2, ()), ()), ((), ()))).eval = some y at hy
  obtain ⟨h, hy⟩ := toP_get hy
  refine Eq.trans ?_ hy
  show (f7_tree a0 a1 a2 a3 a4 a5 a6 a7 a8).eval = _
  unfold f7_tree
  have h : szcInsSS a2 + szcProcS a3 + szcOpenS a4 + szcCpuS a5 + szcCpuS a6 + szcIntS a7 + szcIntS a8 ≤ 1048576 := h
  have e0 : toInsSSV a2 = some a2 := toP_in (by omega)
  have e1 : toProcSV a3 = some a3 := toP_in (by omega)
  have e2 : toOpenSV a4 = some a4 := toP_in (by omega)
  have e3 : toCpuSV a5 = some a5 := toP_in (by omega)
  have e4 : toCpuSV a6 = some a6 := toP_in (by omega)
  have e5 : toIntSV a7 = some a7 := toP_in (by omega)
  have e6 : toIntSV a8 = some a8 := toP_in (by omega)
  simp [e0, e1, e2, e3, e4, e5, e6, Out.eval]
abbrev f33_S0 := (List Int × List Int × Int × Unit) × (Unit)
def f33_L0 : f33_S0 → Out (Round f33_S0 ((Unit) × (Unit)) ((Bool × Unit) × (Unit)))
| ((p0, p1, p2, _), _) =>
 .ite (decide (p2 < ((List.length p0 : Nat) : Int)))
 (.ite (decide (0 ≤ p2))
 (.get (nth p0 (Int.toNat p2)) fun y1 =>
 .ite (decide (0 ≤ p2))
 (.get (nth p1 (Int.toNat p2)) fun y2 =>
 .ite ((y1 != y2))
 (.ret (.ret ((false, ()), ())))
 (.ret (.again ((p0, p1, (IntKind.i64.wrap (p2 + (1 : Int))), ()), ()))))
 .fail)
 .fail)
 (.ret (.out ((), ())))
def f33_tree (a0 : List Int) (a1 : List Int) : Out (((Bool × Unit) × Unit) × (Unit × Unit × Unit)) :=
 .ite ((((List.length a0 : Nat) : Int) != ((List.length a1 : Nat) : Int)))
 (.ret (((false, ()), ()), ((), (), ())))
 (.get (iter f33_L0 FUEL ((a0, a1, (0 : Int), ()), ())) fun y1 => .alt y1 (fun y2 =>
 .ret (((true, ()), ()), ((), (), ()))) (fun y3 =>
 .ret (((y3.1.1, ()), ()), ((), (), ()))))
def f33_A : Nat → Option LoopAnn := fun n => annOf [(0, { head := { t := [.ro (.int .i64) (some 0), .ro (.int .i64) (some 1), .dead, .dead, .dead, .i .i64] ++ dd 20, v := [] }, out := { t := dd 26, v := [] }, ret := some { t := dd 4 ++ [.b] ++ dd 21, v := [] } })] n
def eqIntSV (a0 : List Int) (b0 : List Int) : Bool := decide ((a0 : List Int) = b0)
def k33 : Con := { f := 33, lend := true, its := [⟨false, false, [.ro (.int .i64)]⟩, ⟨false, false, [.ro (.int .i64)]⟩], lay := [none, none], rs := [⟨false, false, [.b]⟩], F := fun x => .ret ((((eqIntSV x.1.1 x.2.1.1), ()), ()), ((), (), ())) }
theorem f33_eq (x : itemsD k33.its) : bo [] f33_A Tryz.f33 k33 [.tmp 4] x = f33_tree x.1.1 x.2.1.1 := by kernel_rfl
theorem f33_ok (hr : ∀ x : (List Int × Unit) × (List Int × Unit) × Unit, itemsWF k33.its x → (f33_tree x.1.1 x.2.1.1).eval = (k33.F x).eval) : k33.Ok Tryz.prog := con_fn [] trivial f33_eq fun x hw _ hy => (hr x hw).trans hy
theorem k33_ok : k33.Ok Tryz.prog := by
  refine f33_ok fun x hw => ?_
  obtain ⟨⟨a0, _⟩, ⟨b0, _⟩, _⟩ := x
  show (f33_tree a0 b0).eval = some (((eqIntSV a0 b0, ()), ()), ((), ((), ())))
  unfold f33_tree
  have ha : a0.length ≤ BIG := hw.1.1.1
  by_cases hl : a0.length = b0.length
  · rw [eval_ite_f (len_eq hl)]
    have := eq_loop (f := f33_L0) a0 b0 (fun i => ((a0, (b0, (((i : Nat) : Int), ()))), ())) (y := ((), ())) (z := ((false, ()), ())) hl ha
      (fun i hi hi' he => by
        have := wrap_succ (i := i) (by omega)
        simp [f33_L0, Out.eval, hi, hi', he, this])
      (fun i hi hi' he => by
        simp [f33_L0, Out.eval, hi, hi', he, cond_eq_ite])
      (by simp [f33_L0, Out.eval])
    refine (eval_get_some this).trans ?_
    unfold eqIntSV
    by_cases hab : a0 = b0
    · simp only [if_pos hab, decide_eq_true hab]; rfl
    · simp only [if_neg hab, decide_eq_false hab]; rfl
  · rw [eval_ite_t (len_ne hl)]
    have : eqIntSV a0 b0 = false := decide_eq_false fun e => hl (by rw [e])
    rw [this]
    rfl
def f101_tree (a0 : Int) (a1 : Int) (a2 : Int) (a3 : Int) (a4 : Int) (a5 : Int) (a6 : Int) (a7 : Int) : Out (((Bool × Unit) × Unit) × (Unit × Unit × Unit)) :=
 .ite ((a0 != a4))
 (.ret (((false, ()), ()), ((), (), ())))
 (.ite ((a1 != a5))
 (.ret (((false, ()), ()), ((), (), ())))
 (.ite ((a2 != a6))
 (.ret (((false, ()), ()), ((), (), ())))
 (.ite ((a3 != a7))
 (.ret (((false, ()), ()), ((), (), ())))
 (.ret (((true, ()), ()), ((), (), ()))))))
def eqInsV (a0 : Int) (a1 : Int) (a2 : Int) (a3 : Int) (b0 : Int) (b1 : Int) (b2 : Int) (b3 : Int) : Bool := decide (((a0, a1, a2, a3, ()) : InsD) = (b0, b1, b2, b3, ()))
def k101 : Con := { f := 101, lend := true, its := [⟨false, true, [.i .i64, .i .i64, .i .i64, .i .i64]⟩, ⟨false, true, [.i .i64, .i .i64, .i .i64, .i .i64]⟩], lay := [none, none], rs := [⟨false, false, [.b]⟩], F := fun x => .ret ((((eqInsV x.1.1 x.1.2.1 x.1.2.2.1 x.1.2.2.2.1 x.2.1.1 x.2.1.2.1 x.2.1.2.2.1 x.2.1.2.2.2.1), ()), ()), ((), (), ())) }
theorem f101_eq (x : itemsD k101.its) : bo [] (fun _ => none) Tryz.f101 k101 [.tmp 4] x = f101_tree x.1.1 x.1.2.1 x.1.2.2.1 x.1.2.2.2.1 x.2.1.1 x.2.1.2.1 x.2.1.2.2.1 x.2.1.2.2.2.1 := by kernel_rfl
theorem f101_ok (hr : ∀ x : InsD × InsD × Unit, itemsWF k101.its x → (f101_tree x.1.1 x.1.2.1 x.1.2.2.1 x.1.2.2.2.1 x.2.1.1 x.2.1.2.1 x.2.1.2.2.1 x.2.1.2.2.2.1).eval = (k101.F x).eval) : k101.Ok Tryz.prog := con_fn [] trivial f101_eq fun x hw _ hy => (hr x hw).trans hy
theorem k101_ok : k101.Ok Tryz.prog := by
  refine f101_ok fun x hw => ?_
  obtain ⟨⟨a0, a1, a2, a3, _⟩, ⟨b0, b1, b2, b3, _⟩, _⟩ := x
  show (f101_tree a0 a1 a2 a3 b0 b1 b2 b3).eval = some (((eqInsV a0 a1 a2 a3 b0 b1 b2 b3, ()), ()), ((), ((), ())))
  unfold f101_tree
  unfold eqInsV
  by_cases h0 : a0 = b0
  case neg => simp [Out.eval, h0, cond_eq_ite]
  subst h0
  by_cases h1 : a1 = b1
  case neg => simp [Out.eval, h1, cond_eq_ite]
  subst h1
  by_cases h2 : a2 = b2
  case neg => simp [Out.eval, h2, cond_eq_ite]
  subst h2
  by_cases h3 : a3 = b3
  case neg => simp [Out.eval, h3, cond_eq_ite]
  subst h3
  simp [Out.eval, cond_eq_ite]
abbrev f62_S0 := (List InsD × List InsD × Int × Unit) × (Unit)
def f62_L0 : f62_S0 → Out (Round f62_S0 ((Unit) × (Unit)) ((Bool × Unit) × (Unit)))
| ((p0, p1, p2, _), _) =>
 .ite (decide (p2 < ((List.length p0 : Nat) : Int)))
 (.ite (decide (0 ≤ p2))
 (.get (nth p0 (Int.toNat p2)) fun y1 =>
 .ite (decide (0 ≤ p2))
 (.get (nth p1 (Int.toNat p2)) fun y2 =>
 .ite (!(eqInsV y1.1 y1.2.1 y1.2.2.1 y1.2.2.2.1 y2.1 y2.2.1 y2.2.2.1 y2.2.2.2.1))
 (.ret (.ret ((false, ()), ())))
 (.ret (.again ((p0, p1, (IntKind.i64.wrap (p2 + (1 : Int))), ()), ()))))
 .fail)
 .fail)
 (.ret (.out ((), ())))
def f62_tree (a0 : List InsD) (a1 : List InsD) : Out (((Bool × Unit) × Unit) × (Unit × Unit × Unit)) :=
 .ite ((((List.length a0 : Nat) : Int) != ((List.length a1 : Nat) : Int)))
 (.ret (((false, ()), ()), ((), (), ())))
 (.get (iter f62_L0 FUEL ((a0, a1, (0 : Int), ()), ())) fun y1 => .alt y1 (fun y2 =>
 .ret (((true, ()), ()), ((), (), ()))) (fun y3 =>
 .ret (((y3.1.1, ()), ()), ((), (), ()))))
def f62_A : Nat → Option LoopAnn := fun n => annOf [(0, { head := { t := [.ro tyN (some 0), .ro tyN (some 1), .dead, .dead, .dead, .i .i64] ++ dd 21, v := [] }, out := { t := dd 27, v := [] }, ret := some { t := dd 4 ++ [.b] ++ dd 22, v := [] } })] n
def eqInsSV (a0 : List InsD) (b0 : List InsD) : Bool := decide ((a0 : List InsD) = b0)
def k62 : Con := { f := 62, lend := true, its := [⟨false, false, [.ro tyN]⟩, ⟨false, false, [.ro tyN]⟩], lay := [none, none], rs := [⟨false, false, [.b]⟩], F := fun x => .ret ((((eqInsSV x.1.1 x.2.1.1), ()), ()), ((), (), ())) }
theorem f62_eq (x : itemsD k62.its) : bo [k101] f62_A Tryz.f62 k62 [.tmp 4] x = f62_tree x.1.1 x.2.1.1 := by kernel_rfl
theorem f62_ok (hr : ∀ x : (List InsD × Unit) × (List InsD × Unit) × Unit, itemsWF k62.its x → (f62_tree x.1.1 x.2.1.1).eval = (k62.F x).eval) : k62.Ok Tryz.prog := con_fn [k101] ⟨k101_ok, trivial⟩ f62_eq fun x hw _ hy => (hr x hw).trans hy
theorem k62_ok : k62.Ok Tryz.prog := by
  refine f62_ok fun x hw => ?_
  obtain ⟨⟨a0, _⟩, ⟨b0, _⟩, _⟩ := x
  show (f62_tree a0 b0).eval = some (((eqInsSV a0 b0, ()), ()), ((), ((), ())))
  unfold f62_tree
  have ha : a0.length ≤ BIG := hw.1.1.1
  by_cases hl : a0.length = b0.length
  · rw [eval_ite_f (len_eq hl)]
    have := eq_loop (f := f62_L0) a0 b0 (fun i => ((a0, (b0, (((i : Nat) : Int), ()))), ())) (y := ((), ())) (z := ((false, ()), ())) hl ha
      (fun i hi hi' he => by
        have := wrap_succ (i := i) (by omega)
        have h3 : ∀ x y : InsD, eqInsV x.1 x.2.1 x.2.2.1 x.2.2.2.1 y.1 y.2.1 y.2.2.1 y.2.2.2.1 = decide (x = y) := fun _ _ => rfl
        simp [f62_L0, Out.eval, hi, hi', he, this, h3])
      (fun i hi hi' he => by
        have h3 : ∀ x y : InsD, eqInsV x.1 x.2.1 x.2.2.1 x.2.2.2.1 y.1 y.2.1 y.2.2.1 y.2.2.2.1 = decide (x = y) := fun _ _ => rfl
        simp [f62_L0, Out.eval, hi, hi', he, cond_eq_ite, h3])
      (by simp [f62_L0, Out.eval])
    refine (eval_get_some this).trans ?_
    unfold eqInsSV
    by_cases hab : a0 = b0
    · simp only [if_pos hab, decide_eq_true hab]; rfl
    · simp only [if_neg hab, decide_eq_false hab]; rfl
  · rw [eval_ite_t (len_ne hl)]
    have : eqInsSV a0 b0 = false := decide_eq_false fun e => hl (by rw [e])
    rw [this]
    rfl
abbrev f28_S0 := (List (List InsD) × List (List InsD) × Int × Unit) × (Unit)
def f28_L0 : f28_S0 → Out (Round f28_S0 ((Unit) × (Unit)) ((Bool × Unit) × (Unit)))
| ((p0, p1, p2, _), _) =>
 .ite (decide (p2 < ((List.length p0 : Nat) : Int)))
 (.ite (decide (0 ≤ p2))
 (.get (nth p0 (Int.toNat p2)) fun y1 =>
 .ite (decide (0 ≤ p2))
 (.get (nth p1 (Int.toNat p2)) fun y2 =>
 .ite (!(eqInsSV y1 y2))
 (.ret (.ret ((false, ()), ())))
 (.ret (.again ((p0, p1, (IntKind.i64.wrap (p2 + (1 : Int))), ()), ()))))
 .fail)
 .fail)
 (.ret (.out ((), ())))
def f28_tree (a0 : List (List InsD)) (a1 : List (List InsD)) : Out (((Bool × Unit) × Unit) × (Unit × Unit × Unit)) :=
 .ite ((((List.length a0 : Nat) : Int) != ((List.length a1 : Nat) : Int)))
 (.ret (((false, ()), ()), ((), (), ())))
 (.get (iter f28_L0 FUEL ((a0, a1, (0 : Int), ()), ())) fun y1 => .alt y1 (fun y2 =>
 .ret (((true, ()), ()), ((), (), ()))) (fun y3 =>
 .ret (((y3.1.1, ()), ()), ((), (), ()))))
def f28_A : Nat → Option LoopAnn := fun n => annOf [(0, { head := { t := [.ro (.sl tyN) (some 0), .ro (.sl tyN) (some 1), .dead, .dead, .dead, .i .i64] ++ dd 21, v := [] }, out := { t := dd 27, v := [] }, ret := some { t := dd 4 ++ [.b] ++ dd 22, v := [] } })] n
def eqInsSSV (a0 : List (List InsD)) (b0 : List (List InsD)) : Bool := decide ((a0 : List (List InsD)) = b0)
def k28 : Con := { f := 28, lend := true, its := [⟨false, false, [.ro (.sl tyN)]⟩, ⟨false, false, [.ro (.sl tyN)]⟩], lay := [none, none], rs := [⟨false, false, [.b]⟩], F := fun x => .ret ((((eqInsSSV x.1.1 x.2.1.1), ()), ()), ((), (), ())) }
theorem f28_eq (x : itemsD k28.its) : bo [k62] f28_A Tryz.f28 k28 [.tmp 4] x = f28_tree x.1.1 x.2.1.1 := by kernel_rfl
theorem f28_ok (hr : ∀ x : (List (List InsD) × Unit) × (List (List InsD) × Unit) × Unit, itemsWF k28.its x → (f28_tree x.1.1 x.2.1.1).eval = (k28.F x).eval) : k28.Ok Tryz.prog := con_fn [k62] ⟨k62_ok, trivial⟩ f28_eq fun x hw _ hy => (hr x hw).trans hy
theorem k28_ok : k28.Ok Tryz.prog := by
  refine f28_ok fun x hw => ?_
  obtain ⟨⟨a0, _⟩, ⟨b0, _⟩, _⟩ := x
  show (f28_tree a0 b0).eval = some (((eqInsSSV a0 b0, ()), ()), ((), ((), ())))
  unfold f28_tree
  have ha : a0.length ≤ BIG := hw.1.1.1
  by_cases hl : a0.length = b0.length
  · rw [eval_ite_f (len_eq hl)]
    have := eq_loop (f := f28_L0) a0 b0 (fun i => ((a0, (b0, (((i : Nat) : Int), ()))), ())) (y := ((), ())) (z := ((false, ()), ())) hl ha
      (fun i hi hi' he => by
        have := wrap_succ (i := i) (by omega)
        have h3 : ∀ x y : List InsD, eqInsSV x y = decide (x = y) := fun _ _ => rfl
        simp [f28_L0, Out.eval, hi, hi', he, this, h3])
      (fun i hi hi' he => by
        have h3 : ∀ x y : List InsD, eqInsSV x y = decide (x = y) := fun _ _ => rfl
        simp [f28_L0, Out.eval, hi, hi', he, cond_eq_ite, h3])
      (by simp [f28_L0, Out.eval])
    refine (eval_get_some this).trans ?_
    unfold eqInsSSV
    by_cases hab : a0 = b0
    · simp only [if_pos hab, decide_eq_true hab]; rfl
    · simp only [if_neg hab, decide_eq_false hab]; rfl
  · rw [eval_ite_t (len_ne hl)]
    have : eqInsSSV a0 b0 = false := decide_eq_false fun e => hl (by rw [e])
    rw [this]
    rfl
def f102_tree (a0 : Int) (a1 : List Int) (a2 : Int) (a3 : List Int) : Out (((Bool × Unit) × Unit) × (Unit × Unit × Unit)) :=
 .ite ((a0 != a2))
 (.ret (((false, ()), ()), ((), (), ())))
 (.ite (!(eqIntSV a1 a3))
 (.ret (((false, ()), ()), ((), (), ())))
 (.ret (((true, ()), ()), ((), (), ()))))
def eqCpuV (a0 : Int) (a1 : List Int) (b0 : Int) (b1 : List Int) : Bool := decide (((a0, a1, ()) : CpuD) = (b0, b1, ()))
def k102 : Con := { f := 102, lend := true, its := [⟨false, true, [.i .i64, .ro (.int .i64)]⟩, ⟨false, true, [.i .i64, .ro (.int .i64)]⟩], lay := [none, none], rs := [⟨false, false, [.b]⟩], F := fun x => .ret ((((eqCpuV x.1.1 x.1.2.1 x.2.1.1 x.2.1.2.1), ()), ()), ((), (), ())) }
theorem f102_eq (x : itemsD k102.its) : bo [k33] (fun _ => none) Tryz.f102 k102 [.tmp 4] x = f102_tree x.1.1 x.1.2.1 x.2.1.1 x.2.1.2.1 := by kernel_rfl
theorem f102_ok (hr : ∀ x : CpuD × CpuD × Unit, itemsWF k102.its x → (f102_tree x.1.1 x.1.2.1 x.2.1.1 x.2.1.2.1).eval = (k102.F x).eval) : k102.Ok Tryz.prog := con_fn [k33] ⟨k33_ok, trivial⟩ f102_eq fun x hw _ hy => (hr x hw).trans hy
theorem k102_ok : k102.Ok Tryz.prog := by
  refine f102_ok fun x hw => ?_
  obtain ⟨⟨a0, a1, _⟩, ⟨b0, b1, _⟩, _⟩ := x
  show (f102_tree a0 a1 b0 b1).eval = some (((eqCpuV a0 a1 b0 b1, ()), ()), ((), ((), ())))
  unfold f102_tree
  unfold eqCpuV eqIntSV
  by_cases h0 : a0 = b0
  case neg => simp [Out.eval, h0, cond_eq_ite]
  subst h0
  by_cases h1 : a1 = b1
  case neg => simp [Out.eval, h1, cond_eq_ite]
  subst h1
  simp [Out.eval, cond_eq_ite]
def f63_tree (a0 : Int) (a1 : Int) (a2 : Int) (a3 : Int) (a4 : Int) (a5 : List Int) (a6 : List Int) (a7 : List Int) (a8 : Int) (a9 : Int) (a10 : Int) (a11 : Int) (a12 : Int) (a13 : Int) (a14 : Int) (a15 : List Int) (a16 : List Int) (a17 : List Int) (a18 : Int) (a19 : Int) : Out (((Bool × Unit) × Unit) × (Unit × Unit × Unit)) :=
 .ite ((a0 != a10))
 (.ret (((false, ()), ()), ((), (), ())))
 (.ite ((a1 != a11))
 (.ret (((false, ()), ()), ((), (), ())))
 (.ite ((a2 != a12))
 (.ret (((false, ()), ()), ((), (), ())))
 (.ite ((a3 != a13))
 (.ret (((false, ()), ()), ((), (), ())))
 (.ite (!(eqCpuV a4 a5 a14 a15))
 (.ret (((false, ()), ()), ((), (), ())))
 (.ite (!(eqIntSV a6 a16))
 (.ret (((false, ()), ()), ((), (), ())))
 (.ite (!(eqIntSV a7 a17))
 (.ret (((false, ()), ()), ((), (), ())))
 (.ite ((a8 != a18))
 (.ret (((false, ()), ()), ((), (), ())))
 (.ite ((a9 != a19))
 (.ret (((false, ()), ()), ((), (), ())))
 (.ret (((true, ()), ()), ((), (), ())))))))))))
def eqProcV (a0 : Int) (a1 : Int) (a2 : Int) (a3 : Int) (a4 : Int) (a5 : List Int) (a6 : List Int) (a7 : List Int) (a8 : Int) (a9 : Int) (b0 : Int) (b1 : Int) (b2 : Int) (b3 : Int) (b4 : Int) (b5 : List Int) (b6 : List Int) (b7 : List Int) (b8 : Int) (b9 : Int) : Bool := decide (((a0, a1, a2, a3, (a4, a5, ()), a6, a7, a8, a9, ()) : ProcD) = (b0, b1, b2, b3, (b4, b5, ()), b6, b7, b8, b9, ()))
def k63 : Con := { f := 63, lend := true, its := [⟨false, true, [.i .i64, .i .i64, .i .i64, .i .i64, .i .i64, .ro (.int .i64), .ro (.int .i64), .ro (.int .i64), .i .i64, .i .i64]⟩, ⟨false, true, [.i .i64, .i .i64, .i .i64, .i .i64, .i .i64, .ro (.int .i64), .ro (.int .i64), .ro (.int .i64), .i .i64, .i .i64]⟩], lay := [none, none], rs := [⟨false, false, [.b]⟩], F := fun x => .ret ((((eqProcV x.1.1 x.1.2.1 x.1.2.2.1 x.1.2.2.2.1 x.1.2.2.2.2.1 x.1.2.2.2.2.2.1 x.1.2.2.2.2.2.2.1 x.1.2.2.2.2.2.2.2.1 x.1.2.2.2.2.2.2.2.2.1 x.1.2.2.2.2.2.2.2.2.2.1 x.2.1.1 x.2.1.2.1 x.2.1.2.2.1 x.2.1.2.2.2.1 x.2.1.2.2.2.2.1 x.2.1.2.2.2.2.2.1 x.2.1.2.2.2.2.2.2.1 x.2.1.2.2.2.2.2.2.2.1 x.2.1.2.2.2.2.2.2.2.2.1 x.2.1.2.2.2.2.2.2.2.2.2.1), ()), ()), ((), (), ())) }
theorem f63_eq (x : itemsD k63.its) : bo [k102, k33] (fun _ => none) Tryz.f63 k63 [.tmp 4] x = f63_tree x.1.1 x.1.2.1 x.1.2.2.1 x.1.2.2.2.1 x.1.2.2.2.2.1 x.1.2.2.2.2.2.1 x.1.2.2.2.2.2.2.1 x.1.2.2.2.2.2.2.2.1 x.1.2.2.2.2.2.2.2.2.1 x.1.2.2.2.2.2.2.2.2.2.1 x.2.1.1 x.2.1.2.1 x.2.1.2.2.1 x.2.1.2.2.2.1 x.2.1.2.2.2.2.1 x.2.1.2.2.2.2.2.1 x.2.1.2.2.2.2.2.2.1 x.2.1.2.2.2.2.2.2.2.1 x.2.1.2.2.2.2.2.2.2.2.1 x.2.1.2.2.2.2.2.2.2.2.2.1 := by kernel_rfl
theorem f63_ok (hr : ∀ x : (Int × Int × Int × Int × Int × List Int × List Int × List Int × Int × Int × Unit) × (Int × Int × Int × Int × Int × List Int × List Int × List Int × Int × Int × Unit) × Unit, itemsWF k63.its x → (f63_tree x.1.1 x.1.2.1 x.1.2.2.1 x.1.2.2.2.1 x.1.2.2.2.2.1 x.1.2.2.2.2.2.1 x.1.2.2.2.2.2.2.1 x.1.2.2.2.2.2.2.2.1 x.1.2.2.2.2.2.2.2.2.1 x.1.2.2.2.2.2.2.2.2.2.1 x.2.1.1 x.2.1.2.1 x.2.1.2.2.1 x.2.1.2.2.2.1 x.2.1.2.2.2.2.1 x.2.1.2.2.2.2.2.1 x.2.1.2.2.2.2.2.2.1 x.2.1.2.2.2.2.2.2.2.1 x.2.1.2.2.2.2.2.2.2.2.1 x.2.1.2.2.2.2.2.2.2.2.2.1).eval = (k63.F x).eval) : k63.Ok Tryz.prog := con_fn [k102, k33] ⟨k102_ok, k33_ok, trivial⟩ f63_eq fun x hw _ hy => (hr x hw).trans hy
theorem k63_ok : k63.Ok Tryz.prog := by
  refine f63_ok fun x hw => ?_
  obtain ⟨⟨a0, a1, a2, a3, a4, a5, a6, a7, a8, a9, _⟩, ⟨b0, b1, b2, b3, b4, b5, b6, b7, b8, b9, _⟩, _⟩ := x
  show (f63_tree a0 a1 a2 a3 a4 a5 a6 a7 a8 a9 b0 b1 b2 b3 b4 b5 b6 b7 b8 b9).eval = some (((eqProcV a0 a1 a2 a3 a4 a5 a6 a7 a8 a9 b0 b1 b2 b3 b4 b5 b6 b7 b8 b9, ()), ()), ((), ((), ())))
  unfold f63_tree
  unfold eqProcV eqCpuV eqIntSV
  by_cases h0 : a0 = b0
  case neg => simp [Out.eval, h0, cond_eq_ite]
  subst h0
  by_cases h1 : a1 = b1
  case neg => simp [Out.eval, h1, cond_eq_ite]
  subst h1
  by_cases h2 : a2 = b2
  case neg => simp [Out.eval, h2, cond_eq_ite]
  subst h2
  by_cases h3 : a3 = b3
  case neg => simp [Out.eval, h3, cond_eq_ite]
  subst h3
  by_cases h4 : a4 = b4
  case neg => simp [Out.eval, h4, cond_eq_ite]
  subst h4
  by_cases h5 : a5 = b5
  case neg => simp [Out.eval, h5, cond_eq_ite]
  subst h5
  by_cases h6 : a6 = b6
  case neg => simp [Out.eval, h6, cond_eq_ite]
  subst h6
  by_cases h7 : a7 = b7
  case neg => simp [Out.eval, h7, cond_eq_ite]
  subst h7
  by_cases h8 : a8 = b8
  case neg => simp [Out.eval, h8, cond_eq_ite]
  subst h8
  by_cases h9 : a9 = b9
  case neg => simp [Out.eval, h9, cond_eq_ite]
  subst h9
  simp [Out.eval, cond_eq_ite]
abbrev f29_S0 := (List ProcD × List ProcD × Int × Unit) × (Unit)
def f29_L0 : f29_S0 → Out (Round f29_S0 ((Unit) × (Unit)) ((Bool × Unit) × (Unit)))
| ((p0, p1, p2, _), _) =>
 .ite (decide (p2 < ((List.length p0 : Nat) : Int)))
 (.ite (decide (0 ≤ p2))
 (.get (nth p0 (Int.toNat p2)) fun y1 =>
 .ite (decide (0 ≤ p2))
 (.get (nth p1 (Int.toNat p2)) fun y2 =>
 .ite (!(eqProcV y1.1 y1.2.1 y1.2.2.1 y1.2.2.2.1 y1.2.2.2.2.1.1 y1.2.2.2.2.1.2.1 y1.2.2.2.2.2.1 y1.2.2.2.2.2.2.1 y1.2.2.2.2.2.2.2.1 y1.2.2.2.2.2.2.2.2.1 y2.1 y2.2.1 y2.2.2.1 y2.2.2.2.1 y2.2.2.2.2.1.1 y2.2.2.2.2.1.2.1 y2.2.2.2.2.2.1 y2.2.2.2.2.2.2.1 y2.2.2.2.2.2.2.2.1 y2.2.2.2.2.2.2.2.2.1))
 (.ret (.ret ((false, ()), ())))
 (.ret (.again ((p0, p1, (IntKind.i64.wrap (p2 + (1 : Int))), ()), ()))))
 .fail)
 .fail)
 (.ret (.out ((), ())))
def f29_tree (a0 : List ProcD) (a1 : List ProcD) : Out (((Bool × Unit) × Unit) × (Unit × Unit × Unit)) :=
 .ite ((((List.length a0 : Nat) : Int) != ((List.length a1 : Nat) : Int)))
 (.ret (((false, ()), ()), ((), (), ())))
 (.get (iter f29_L0 FUEL ((a0, a1, (0 : Int), ()), ())) fun y1 => .alt y1 (fun y2 =>
 .ret (((true, ()), ()), ((), (), ()))) (fun y3 =>
 .ret (((y3.1.1, ()), ()), ((), (), ()))))
def f29_A : Nat → Option LoopAnn := fun n => annOf [(0, { head := { t := [.ro tyP (some 0), .ro tyP (some 1), .dead, .dead, .dead, .i .i64] ++ dd 21, v := [] }, out := { t := dd 27, v := [] }, ret := some { t := dd 4 ++ [.b] ++ dd 22, v := [] } })] n
def eqProcSV (a0 : List ProcD) (b0 : List ProcD) : Bool := decide ((a0 : List ProcD) = b0)
def k29 : Con := { f := 29, lend := true, its := [⟨false, false, [.ro tyP]⟩, ⟨false, false, [.ro tyP]⟩], lay := [none, none], rs := [⟨false, false, [.b]⟩], F := fun x => .ret ((((eqProcSV x.1.1 x.2.1.1), ()), ()), ((), (), ())) }
theorem f29_eq (x : itemsD k29.its) : bo [k63] f29_A Tryz.f29 k29 [.tmp 4] x = f29_tree x.1.1 x.2.1.1 := by kernel_rfl
theorem f29_ok (hr : ∀ x : (List ProcD × Unit) × (List ProcD × Unit) × Unit, itemsWF k29.its x → (f29_tree x.1.1 x.2.1.1).eval = (k29.F x).eval) : k29.Ok Tryz.prog := con_fn [k63] ⟨k63_ok, trivial⟩ f29_eq fun x hw _ hy => (hr x hw).trans hy
theorem k29_ok : k29.Ok Tryz.prog := by
  refine f29_ok fun x hw => ?_
  obtain ⟨⟨a0, _⟩, ⟨b0, _⟩, _⟩ := x
  show (f29_tree a0 b0).eval = some (((eqProcSV a0 b0, ()), ()), ((), ((), ())))
  unfold f29_tree
  have ha : a0.length ≤ BIG := hw.1.1.1
  by_cases hl : a0.length = b0.length
  · rw [eval_ite_f (len_eq hl)]
    have := eq_loop (f := f29_L0) a0 b0 (fun i => ((a0, (b0, (((i : Nat) : Int), ()))), ())) (y := ((), ())) (z := ((false, ()), ())) hl ha
      (fun i hi hi' he => by
        have := wrap_succ (i := i) (by omega)
        have h3 : ∀ x y : ProcD, eqProcV x.1 x.2.1 x.2.2.1 x.2.2.2.1 x.2.2.2.2.1.1 x.2.2.2.2.1.2.1 x.2.2.2.2.2.1 x.2.2.2.2.2.2.1 x.2.2.2.2.2.2.2.1 x.2.2.2.2.2.2.2.2.1 y.1 y.2.1 y.2.2.1 y.2.2.2.1 y.2.2.2.2.1.1 y.2.2.2.2.1.2.1 y.2.2.2.2.2.1 y.2.2.2.2.2.2.1 y.2.2.2.2.2.2.2.1 y.2.2.2.2.2.2.2.2.1 = decide (x = y) := fun _ _ => rfl
        simp [f29_L0, Out.eval, hi, hi', he, this, h3])
      (fun i hi hi' he => by
        have h3 : ∀ x y : ProcD, eqProcV x.1 x.2.1 x.2.2.1 x.2.2.2.1 x.2.2.2.2.1.1 x.2.2.2.2.1.2.1 x.2.2.2.2.2.1 x.2.2.2.2.2.2.1 x.2.2.2.2.2.2.2.1 x.2.2.2.2.2.2.2.2.1 y.1 y.2.1 y.2.2.1 y.2.2.2.1 y.2.2.2.2.1.1 y.2.2.2.2.1.2.1 y.2.2.2.2.2.1 y.2.2.2.2.2.2.1 y.2.2.2.2.2.2.2.1 y.2.2.2.2.2.2.2.2.1 = decide (x = y) := fun _ _ => rfl
        simp [f29_L0, Out.eval, hi, hi', he, cond_eq_ite, h3])
      (by simp [f29_L0, Out.eval])
    refine (eval_get_some this).trans ?_
    unfold eqProcSV
    by_cases hab : a0 = b0
    · simp only [if_pos hab, decide_eq_true hab]; rfl
    · simp only [if_neg hab, decide_eq_false hab]; rfl
  · rw [eval_ite_t (len_ne hl)]
    have : eqProcSV a0 b0 = false := decide_eq_false fun e => hl (by rw [e])
    rw [this]
    rfl
def f64_tree (a0 : Int) (a1 : Int) (a2 : Int) (a3 : Int) (a4 : Int) (a5 : Int) (a6 : Int) (a7 : Int) (a8 : Int) (a9 : Int) : Out (((Bool × Unit) × Unit) × (Unit × Unit × Unit)) :=
 .ite ((a0 != a5))
 (.ret (((false, ()), ()), ((), (), ())))
 (.ite ((a1 != a6))
 (.ret (((false, ()), ()), ((), (), ())))
 (.ite ((a2 != a7))
 (.ret (((false, ()), ()), ((), (), ())))
 (.ite ((a3 != a8))
 (.ret (((false, ()), ()), ((), (), ())))
 (.ite ((a4 != a9))
 (.ret (((false, ()), ()), ((), (), ())))
 (.ret (((true, ()), ()), ((), (), ())))))))
def eqOpenV (a0 : Int) (a1 : Int) (a2 : Int) (a3 : Int) (a4 : Int) (b0 : Int) (b1 : Int) (b2 : Int) (b3 : Int) (b4 : Int) : Bool := decide (((a0, a1, a2, a3, a4, ()) : OpenD) = (b0, b1, b2, b3, b4, ()))
def k64 : Con := { f := 64, lend := true, its := [⟨false, true, [.i .i64, .i .i64, .i .i64, .i .i64, .i .i64]⟩, ⟨false, true, [.i .i64, .i .i64, .i .i64, .i .i64, .i .i64]⟩], lay := [none, none], rs := [⟨false, false, [.b]⟩], F := fun x => .ret ((((eqOpenV x.1.1 x.1.2.1 x.1.2.2.1 x.1.2.2.2.1 x.1.2.2.2.2.1 x.2.1.1 x.2.1.2.1 x.2.1.2.2.1 x.2.1.2.2.2.1 x.2.1.2.2.2.2.1), ()), ()), ((), (), ())) }
theorem f64_eq (x : itemsD k64.its) : bo [] (fun _ => none) Tryz.f64 k64 [.tmp 4] x = f64_tree x.1.1 x.1.2.1 x.1.2.2.1 x.1.2.2.2.1 x.1.2.2.2.2.1 x.2.1.1 x.2.1.2.1 x.2.1.2.2.1 x.2.1.2.2.2.1 x.2.1.2.2.2.2.1 := by kernel_rfl
theorem f64_ok (hr : ∀ x : OpenD × OpenD × Unit, itemsWF k64.its x → (f64_tree x.1.1 x.1.2.1 x.1.2.2.1 x.1.2.2.2.1 x.1.2.2.2.2.1 x.2.1.1 x.2.1.2.1 x.2.1.2.2.1 x.2.1.2.2.2.1 x.2.1.2.2.2.2.1).eval = (k64.F x).eval) : k64.Ok Tryz.prog := con_fn [] trivial f64_eq fun x hw _ hy => (hr x hw).trans hy
theorem k64_ok : k64.Ok Tryz.prog := by
  refine f64_ok fun x hw => ?_
  obtain ⟨⟨a0, a1, a2, a3, a4, _⟩, ⟨b0, b1, b2, b3, b4, _⟩, _⟩ := x
  show (f64_tree a0 a1 a2 a3 a4 b0 b1 b2 b3 b4).eval = some (((eqOpenV a0 a1 a2 a3 a4 b0 b1 b2 b3 b4, ()), ()), ((), ((), ())))
  unfold f64_tree
  unfold eqOpenV
  by_cases h0 : a0 = b0
  case neg => simp [Out.eval, h0, cond_eq_ite]
  subst h0
  by_cases h1 : a1 = b1
  case neg => simp [Out.eval, h1, cond_eq_ite]
  subst h1
  by_cases h2 : a2 = b2
  case neg => simp [Out.eval, h2, cond_eq_ite]
  subst h2
  by_cases h3 : a3 = b3
  case neg => simp [Out.eval, h3, cond_eq_ite]
  subst h3
  by_cases h4 : a4 = b4
  case neg => simp [Out.eval, h4, cond_eq_ite]
  subst h4
  simp [Out.eval, cond_eq_ite]
abbrev f30_S0 := (List OpenD × List OpenD × Int × Unit) × (Unit)
def f30_L0 : f30_S0 → Out (Round f30_S0 ((Unit) × (Unit)) ((Bool × Unit) × (Unit)))
| ((p0, p1, p2, _), _) =>
 .ite (decide (p2 < ((List.length p0 : Nat) : Int)))
 (.ite (decide (0 ≤ p2))
 (.get (nth p0 (Int.toNat p2)) fun y1 =>
 .ite (decide (0 ≤ p2))
 (.get (nth p1 (Int.toNat p2)) fun y2 =>
 .ite (!(eqOpenV y1.1 y1.2.1 y1.2.2.1 y1.2.2.2.1 y1.2.2.2.2.1 y2.1 y2.2.1 y2.2.2.1 y2.2.2.2.1 y2.2.2.2.2.1))
 (.ret (.ret ((false, ()), ())))
 (.ret (.again ((p0, p1, (IntKind.i64.wrap (p2 + (1 : Int))), ()), ()))))
 .fail)
 .fail)
 (.ret (.out ((), ())))
def f30_tree (a0 : List OpenD) (a1 : List OpenD) : Out (((Bool × Unit) × Unit) × (Unit × Unit × Unit)) :=
 .ite ((((List.length a0 : Nat) : Int) != ((List.length a1 : Nat) : Int)))
 (.ret (((false, ()), ()), ((), (), ())))
 (.get (iter f30_L0 FUEL ((a0, a1, (0 : Int), ()), ())) fun y1 => .alt y1 (fun y2 =>
 .ret (((true, ()), ()), ((), (), ()))) (fun y3 =>
 .ret (((y3.1.1, ()), ()), ((), (), ()))))
def f30_A : Nat → Option LoopAnn := fun n => annOf [(0, { head := { t := [.ro tyO (some 0), .ro tyO (some 1), .dead, .dead, .dead, .i .i64] ++ dd 21, v := [] }, out := { t := dd 27, v := [] }, ret := some { t := dd 4 ++ [.b] ++ dd 22, v := [] } })] n
def eqOpenSV (a0 : List OpenD) (b0 : List OpenD) : Bool := decide ((a0 : List OpenD) = b0)
def k30 : Con := { f := 30, lend := true, its := [⟨false, false, [.ro tyO]⟩, ⟨false, false, [.ro tyO]⟩], lay := [none, none], rs := [⟨false, false, [.b]⟩], F := fun x => .ret ((((eqOpenSV x.1.1 x.2.1.1), ()), ()), ((), (), ())) }
theorem f30_eq (x : itemsD k30.its) : bo [k64] f30_A Tryz.f30 k30 [.tmp 4] x = f30_tree x.1.1 x.2.1.1 := by kernel_rfl
theorem f30_ok (hr : ∀ x : (List OpenD × Unit) × (List OpenD × Unit) × Unit, itemsWF k30.its x → (f30_tree x.1.1 x.2.1.1).eval = (k30.F x).eval) : k30.Ok Tryz.prog := con_fn [k64] ⟨k64_ok, trivial⟩ f30_eq fun x hw _ hy => (hr x hw).trans hy
theorem k30_ok : k30.Ok Tryz.prog := by
  refine f30_ok fun x hw => ?_
  obtain ⟨⟨a0, _⟩, ⟨b0, _⟩, _⟩ := x
  show (f30_tree a0 b0).eval = some (((eqOpenSV a0 b0, ()), ()), ((), ((), ())))
  unfold f30_tree
  have ha : a0.length ≤ BIG := hw.1.1.1
  by_cases hl : a0.length = b0.length
  · rw [eval_ite_f (len_eq hl)]
    have := eq_loop (f := f30_L0) a0 b0 (fun i => ((a0, (b0, (((i : Nat) : Int), ()))), ())) (y := ((), ())) (z := ((false, ()), ())) hl ha
      (fun i hi hi' he => by
        have := wrap_succ (i := i) (by omega)
        have h3 : ∀ x y : OpenD, eqOpenV x.1 x.2.1 x.2.2.1 x.2.2.2.1 x.2.2.2.2.1 y.1 y.2.1 y.2.2.1 y.2.2.2.1 y.2.2.2.2.1 = decide (x = y) := fun _ _ => rfl
        simp [f30_L0, Out.eval, hi, hi', he, this, h3])
      (fun i hi hi' he => by
        have h3 : ∀ x y : OpenD, eqOpenV x.1 x.2.1 x.2.2.1 x.2.2.2.1 x.2.2.2.2.1 y.1 y.2.1 y.2.2.1 y.2.2.2.1 y.2.2.2.2.1 = decide (x = y) := fun _ _ => rfl
        simp [f30_L0, Out.eval, hi, hi', he, cond_eq_ite, h3])
      (by simp [f30_L0, Out.eval])
    refine (eval_get_some this).trans ?_
    unfold eqOpenSV
    by_cases hab : a0 = b0
    · simp only [if_pos hab, decide_eq_true hab]; rfl
    · simp only [if_neg hab, decide_eq_false hab]; rfl
  · rw [eval_ite_t (len_ne hl)]
    have : eqOpenSV a0 b0 = false := decide_eq_false fun e => hl (by rw [e])
    rw [this]
    rfl
def f65_tree (a0 : Int) (a1 : List Int) (a2 : Int) (a3 : List Int) : Out (((Bool × Unit) × Unit) × (Unit × Unit × Unit)) :=
 .ite ((a0 != a2))
 (.ret (((false, ()), ()), ((), (), ())))
 (.ite (!(eqIntSV a1 a3))
 (.ret (((false, ()), ()), ((), (), ())))
 (.ret (((true, ()), ()), ((), (), ()))))
def k65 : Con := { f := 65, lend := true, its := [⟨false, true, [.i .i64, .ro (.int .i64)]⟩, ⟨false, true, [.i .i64, .ro (.int .i64)]⟩], lay := [none, none], rs := [⟨false, false, [.b]⟩], F := fun x => .ret ((((eqCpuV x.1.1 x.1.2.1 x.2.1.1 x.2.1.2.1), ()), ()), ((), (), ())) }
theorem f65_eq (x : itemsD k65.its) : bo [k33] (fun _ => none) Tryz.f65 k65 [.tmp 4] x = f65_tree x.1.1 x.1.2.1 x.2.1.1 x.2.1.2.1 := by kernel_rfl
theorem f65_ok (hr : ∀ x : CpuD × CpuD × Unit, itemsWF k65.its x → (f65_tree x.1.1 x.1.2.1 x.2.1.1 x.2.1.2.1).eval = (k65.F x).eval) : k65.Ok Tryz.prog := con_fn [k33] ⟨k33_ok, trivial⟩ f65_eq fun x hw _ hy => (hr x hw).trans hy
theorem k65_ok : k65.Ok Tryz.prog := by
  refine f65_ok fun x hw => ?_
  obtain ⟨⟨a0, a1, _⟩, ⟨b0, b1, _⟩, _⟩ := x
  show (f65_tree a0 a1 b0 b1).eval = some (((eqCpuV a0 a1 b0 b1, ()), ()), ((), ((), ())))
  unfold f65_tree
  unfold eqCpuV eqIntSV
  by_cases h0 : a0 = b0
  case neg => simp [Out.eval, h0, cond_eq_ite]
  subst h0
  by_cases h1 : a1 = b1
  case neg => simp [Out.eval, h1, cond_eq_ite]
  subst h1
  simp [Out.eval, cond_eq_ite]
abbrev f31_S0 := (List CpuD × List CpuD × Int × Unit) × (Unit)
def f31_L0 : f31_S0 → Out (Round f31_S0 ((Unit) × (Unit)) ((Bool × Unit) × (Unit)))
| ((p0, p1, p2, _), _) =>
 .ite (decide (p2 < ((List.length p0 : Nat) : Int)))
 (.ite (decide (0 ≤ p2))
 (.get (nth p0 (Int.toNat p2)) fun y1 =>
 .ite (decide (0 ≤ p2))
 (.get (nth p1 (Int.toNat p2)) fun y2 =>
 .ite (!(eqCpuV y1.1 y1.2.1 y2.1 y2.2.1))
 (.ret (.ret ((false, ()), ())))
 (.ret (.again ((p0, p1, (IntKind.i64.wrap (p2 + (1 : Int))), ()), ()))))
 .fail)
 .fail)
 (.ret (.out ((), ())))
def f31_tree (a0 : List CpuD) (a1 : List CpuD) : Out (((Bool × Unit) × Unit) × (Unit × Unit × Unit)) :=
 .ite ((((List.length a0 : Nat) : Int) != ((List.length a1 : Nat) : Int)))
 (.ret (((false, ()), ()), ((), (), ())))
 (.get (iter f31_L0 FUEL ((a0, a1, (0 : Int), ()), ())) fun y1 => .alt y1 (fun y2 =>
 .ret (((true, ()), ()), ((), (), ()))) (fun y3 =>
 .ret (((y3.1.1, ()), ()), ((), (), ()))))
def f31_A : Nat → Option LoopAnn := fun n => annOf [(0, { head := { t := [.ro tyF (some 0), .ro tyF (some 1), .dead, .dead, .dead, .i .i64] ++ dd 21, v := [] }, out := { t := dd 27, v := [] }, ret := some { t := dd 4 ++ [.b] ++ dd 22, v := [] } })] n
def eqCpuSV (a0 : List CpuD) (b0 : List CpuD) : Bool := decide ((a0 : List CpuD) = b0)
def k31 : Con := { f := 31, lend := true, its := [⟨false, false, [.ro tyF]⟩, ⟨false, false, [.ro tyF]⟩], lay := [none, none], rs := [⟨false, false, [.b]⟩], F := fun x => .ret ((((eqCpuSV x.1.1 x.2.1.1), ()), ()), ((), (), ())) }
theorem f31_eq (x : itemsD k31.its) : bo [k65] f31_A Tryz.f31 k31 [.tmp 4] x = f31_tree x.1.1 x.2.1.1 := by kernel_rfl
theorem f31_ok (hr : ∀ x : (List CpuD × Unit) × (List CpuD × Unit) × Unit, itemsWF k31.its x → (f31_tree x.1.1 x.2.1.1).eval = (k31.F x).eval) : k31.Ok Tryz.prog := con_fn [k65] ⟨k65_ok, trivial⟩ f31_eq fun x hw _ hy => (hr x hw).trans hy
theorem k31_ok : k31.Ok Tryz.prog := by
  refine f31_ok fun x hw => ?_
  obtain ⟨⟨a0, _⟩, ⟨b0, _⟩, _⟩ := x
  show (f31_tree a0 b0).eval = some (((eqCpuSV a0 b0, ()), ()), ((), ((), ())))
  unfold f31_tree
  have ha : a0.length ≤ BIG := hw.1.1.1
  by_cases hl : a0.length = b0.length
  · rw [eval_ite_f (len_eq hl)]
    have := eq_loop (f := f31_L0) a0 b0 (fun i => ((a0, (b0, (((i : Nat) : Int), ()))), ())) (y := ((), ())) (z := ((false, ()), ())) hl ha
      (fun i hi hi' he => by
        have := wrap_succ (i := i) (by omega)
        have h3 : ∀ x y : CpuD, eqCpuV x.1 x.2.1 y.1 y.2.1 = decide (x = y) := fun _ _ => rfl
        simp [f31_L0, Out.eval, hi, hi', he, this, h3])
      (fun i hi hi' he => by
        have h3 : ∀ x y : CpuD, eqCpuV x.1 x.2.1 y.1 y.2.1 = decide (x = y) := fun _ _ => rfl
        simp [f31_L0, Out.eval, hi, hi', he, cond_eq_ite, h3])
      (by simp [f31_L0, Out.eval])
    refine (eval_get_some this).trans ?_
    unfold eqCpuSV
    by_cases hab : a0 = b0
    · simp only [if_pos hab, decide_eq_true hab]; rfl
    · simp only [if_neg hab, decide_eq_false hab]; rfl
  · rw [eval_ite_t (len_ne hl)]
    have : eqCpuSV a0 b0 = false := decide_eq_false fun e => hl (by rw [e])
    rw [this]
    rfl
def f66_tree (a0 : Int) (a1 : List Int) (a2 : Int) (a3 : List Int) : Out (((Bool × Unit) × Unit) × (Unit × Unit × Unit)) :=
 .ite ((a0 != a2))
 (.ret (((false, ()), ()), ((), (), ())))
 (.ite (!(eqIntSV a1 a3))
 (.ret (((false, ()), ()), ((), (), ())))
 (.ret (((true, ()), ()), ((), (), ()))))
def k66 : Con := { f := 66, lend := true, its := [⟨false, true, [.i .i64, .ro (.int .i64)]⟩, ⟨false, true, [.i .i64, .ro (.int .i64)]⟩], lay := [none, none], rs := [⟨false, false, [.b]⟩], F := fun x => .ret ((((eqCpuV x.1.1 x.1.2.1 x.2.1.1 x.2.1.2.1), ()), ()), ((), (), ())) }
theorem f66_eq (x : itemsD k66.its) : bo [k33] (fun _ => none) Tryz.f66 k66 [.tmp 4] x = f66_tree x.1.1 x.1.2.1 x.2.1.1 x.2.1.2.1 := by kernel_rfl
theorem f66_ok (hr : ∀ x : CpuD × CpuD × Unit, itemsWF k66.its x → (f66_tree x.1.1 x.1.2.1 x.2.1.1 x.2.1.2.1).eval = (k66.F x).eval) : k66.Ok Tryz.prog := con_fn [k33] ⟨k33_ok, trivial⟩ f66_eq fun x hw _ hy => (hr x hw).trans hy
theorem k66_ok : k66.Ok Tryz.prog := by
  refine f66_ok fun x hw => ?_
  obtain ⟨⟨a0, a1, _⟩, ⟨b0, b1, _⟩, _⟩ := x
  show (f66_tree a0 a1 b0 b1).eval = some (((eqCpuV a0 a1 b0 b1, ()), ()), ((), ((), ())))
  unfold f66_tree
  unfold eqCpuV eqIntSV
  by_cases h0 : a0 = b0
  case neg => simp [Out.eval, h0, cond_eq_ite]
  subst h0
  by_cases h1 : a1 = b1
  case neg => simp [Out.eval, h1, cond_eq_ite]
  subst h1
  simp [Out.eval, cond_eq_ite]
abbrev f32_S0 := (List CpuD × List CpuD × Int × Unit) × (Unit)
def f32_L0 : f32_S0 → Out (Round f32_S0 ((Unit) × (Unit)) ((Bool × Unit) × (Unit)))
| ((p0, p1, p2, _), _) =>
 .ite (decide (p2 < ((List.length p0 : Nat) : Int)))
 (.ite (decide (0 ≤ p2))
 (.get (nth p0 (Int.toNat p2)) fun y1 =>
 .ite (decide (0 ≤ p2))
 (.get (nth p1 (Int.toNat p2)) fun y2 =>
 .ite (!(eqCpuV y1.1 y1.2.1 y2.1 y2.2.1))
 (.ret (.ret ((false, ()), ())))
 (.ret (.again ((p0, p1, (IntKind.i64.wrap (p2 + (1 : Int))), ()), ()))))
 .fail)
 .fail)
 (.ret (.out ((), ())))
def f32_tree (a0 : List CpuD) (a1 : List CpuD) : Out (((Bool × Unit) × Unit) × (Unit × Unit × Unit)) :=
 .ite ((((List.length a0 : Nat) : Int) != ((List.length a1 : Nat) : Int)))
 (.ret (((false, ()), ()), ((), (), ())))
 (.get (iter f32_L0 FUEL ((a0, a1, (0 : Int), ()), ())) fun y1 => .alt y1 (fun y2 =>
 .ret (((true, ()), ()), ((), (), ()))) (fun y3 =>
 .ret (((y3.1.1, ()), ()), ((), (), ()))))
def f32_A : Nat → Option LoopAnn := fun n => annOf [(0, { head := { t := [.ro tyF (some 0), .ro tyF (some 1), .dead, .dead, .dead, .i .i64] ++ dd 21, v := [] }, out := { t := dd 27, v := [] }, ret := some { t := dd 4 ++ [.b] ++ dd 22, v := [] } })] n
def k32 : Con := { f := 32, lend := true, its := [⟨false, false, [.ro tyF]⟩, ⟨false, false, [.ro tyF]⟩], lay := [none, none], rs := [⟨false, false, [.b]⟩], F := fun x => .ret ((((eqCpuSV x.1.1 x.2.1.1), ()), ()), ((), (), ())) }
theorem f32_eq (x : itemsD k32.its) : bo [k66] f32_A Tryz.f32 k32 [.tmp 4] x = f32_tree x.1.1 x.2.1.1 := by kernel_rfl
theorem f32_ok (hr : ∀ x : (List CpuD × Unit) × (List CpuD × Unit) × Unit, itemsWF k32.its x → (f32_tree x.1.1 x.2.1.1).eval = (k32.F x).eval) : k32.Ok Tryz.prog := con_fn [k66] ⟨k66_ok, trivial⟩ f32_eq fun x hw _ hy => (hr x hw).trans hy
theorem k32_ok : k32.Ok Tryz.prog := by
  refine f32_ok fun x hw => ?_
  obtain ⟨⟨a0, _⟩, ⟨b0, _⟩, _⟩ := x
  show (f32_tree a0 b0).eval = some (((eqCpuSV a0 b0, ()), ()), ((), ((), ())))
  unfold f32_tree
  have ha : a0.length ≤ BIG := hw.1.1.1
  by_cases hl : a0.length = b0.length
  · rw [eval_ite_f (len_eq hl)]
    have := eq_loop (f := f32_L0) a0 b0 (fun i => ((a0, (b0, (((i : Nat) : Int), ()))), ())) (y := ((), ())) (z := ((false, ()), ())) hl ha
      (fun i hi hi' he => by
        have := wrap_succ (i := i) (by omega)
        have h3 : ∀ x y : CpuD, eqCpuV x.1 x.2.1 y.1 y.2.1 = decide (x = y) := fun _ _ => rfl
        simp [f32_L0, Out.eval, hi, hi', he, this, h3])
      (fun i hi hi' he => by
        have h3 : ∀ x y : CpuD, eqCpuV x.1 x.2.1 y.1 y.2.1 = decide (x = y) := fun _ _ => rfl
        simp [f32_L0, Out.eval, hi, hi', he, cond_eq_ite, h3])
      (by simp [f32_L0, Out.eval])
    refine (eval_get_some this).trans ?_
    unfold eqCpuSV
    by_cases hab : a0 = b0
    · simp only [if_pos hab, decide_eq_true hab]; rfl
    · simp only [if_neg hab, decide_eq_false hab]; rfl
  · rw [eval_ite_t (len_ne hl)]
    have : eqCpuSV a0 b0 = false := decide_eq_false fun e => hl (by rw [e])
    rw [this]
    rfl
def f9_tree (a0 : Int) (a1 : Int) (a2 : List (List InsD)) (a3 : List ProcD) (a4 : List OpenD) (a5 : List CpuD) (a6 : List CpuD) (a7 : List Int) (a8 : List Int) (a9 : Int) (a10 : Int) (a11 : List (List InsD)) (a12 : List ProcD) (a13 : List OpenD) (a14 : List CpuD) (a15 : List CpuD) (a16 : List Int) (a17 : List Int) : Out (((Bool × Unit) × Unit) × (Unit × Unit × Unit)) :=
 .ite ((a0 != a9))
 (.ret (((false, ()), ()), ((), (), ())))
 (.ite ((a1 != a10))
 (.ret (((false, ()), ()), ((), (), ())))
 (.ite (!(eqInsSSV a2 a11))
 (.ret (((false, ()), ()), ((), (), ())))
 (.ite (!(eqProcSV a3 a12))
 (.ret (((false, ()), ()), ((), (), ())))
 (.ite (!(eqOpenSV a4 a13))
 (.ret (((false, ()), ()), ((), (), ())))
 (.ite (!(eqCpuSV a5 a14))
 (.ret (((false, ()), ()), ((), (), ())))
 (.ite (!(eqCpuSV a6 a15))
 (.ret (((false, ()), ()), ((), (), ())))
 (.ite (!(eqIntSV a7 a16))
 (.ret (((false, ()), ()), ((), (), ())))
 (.ite (!(eqIntSV a8 a17))
 (.ret (((false, ()), ()), ((), (), ())))
 (.ret (((true, ()), ()), ((), (), ())))))))))))
def eqUnixV (a0 : Int) (a1 : Int) (a2 : List (List InsD)) (a3 : List ProcD) (a4 : List OpenD) (a5 : List CpuD) (a6 : List CpuD) (a7 : List Int) (a8 : List Int) (b0 : Int) (b1 : Int) (b2 : List (List InsD)) (b3 : List ProcD) (b4 : List OpenD) (b5 : List CpuD) (b6 : List CpuD) (b7 : List Int) (b8 : List Int) : Bool := decide (((a0, a1, a2, a3, a4, a5, a6, a7, a8, ()) : UnixD) = (b0, b1, b2, b3, b4, b5, b6, b7, b8, ()))
def k9 : Con := { f := 9, lend := true, its := [⟨false, true, [.i .i64, .i .i64, .ro (.sl tyN), .ro tyP, .ro tyO, .ro tyF, .ro tyF, .ro (.int .i64), .ro (.int .i64)]⟩, ⟨false, true, [.i .i64, .i .i64, .ro (.sl tyN), .ro tyP, .ro tyO, .ro tyF, .ro tyF, .ro (.int .i64), .ro (.int .i64)]⟩], lay := [none, none], rs := [⟨false, false, [.b]⟩], F := fun x => .ret ((((eqUnixV x.1.1 x.1.2.1 x.1.2.2.1 x.1.2.2.2.1 x.1.2.2.2.2.1 x.1.2.2.2.2.2.1 x.1.2.2.2.2.2.2.1 x.1.2.2.2.2.2.2.2.1 x.1.2.2.2.2.2.2.2.2.1 x.2.1.1 x.2.1.2.1 x.2.1.2.2.1 x.2.1.2.2.2.1 x.2.1.2.2.2.2.1 x.2.1.2.2.2.2.2.1 x.2.1.2.2.2.2.2.2.1 x.2.1.2.2.2.2.2.2.2.1 x.2.1.2.2.2.2.2.2.2.2.1), ()), ()), ((), (), ())) }
theorem f9_eq (x : itemsD k9.its) : bo [k28, k29, k30, k31, k32, k33] (fun _ => none) Tryz.f9 k9 [.tmp 4] x = f9_tree x.1.1 x.1.2.1 x.1.2.2.1 x.1.2.2.2.1 x.1.2.2.2.2.1 x.1.2.2.2.2.2.1 x.1.2.2.2.2.2.2.1 x.1.2.2.2.2.2.2.2.1 x.1.2.2.2.2.2.2.2.2.1 x.2.1.1 x.2.1.2.1 x.2.1.2.2.1 x.2.1.2.2.2.1 x.2.1.2.2.2.2.1 x.2.1.2.2.2.2.2.1 x.2.1.2.2.2.2.2.2.1 x.2.1.2.2.2.2.2.2.2.1 x.2.1.2.2.2.2.2.2.2.2.1 := by kernel_rfl
theorem f9_ok (hr : ∀ x : UnixD × UnixD × Unit, itemsWF k9.its x → (f9_tree x.1.1 x.1.2.1 x.1.2.2.1 x.1.2.2.2.1 x.1.2.2.2.2.1 x.1.2.2.2.2.2.1 x.1.2.2.2.2.2.2.1 x.1.2.2.2.2.2.2.2.1 x.1.2.2.2.2.2.2.2.2.1 x.2.1.1 x.2.1.2.1 x.2.1.2.2.1 x.2.1.2.2.2.1 x.2.1.2.2.2.2.1 x.2.1.2.2.2.2.2.1 x.2.1.2.2.2.2.2.2.1 x.2.1.2.2.2.2.2.2.2.1 x.2.1.2.2.2.2.2.2.2.2.1).eval = (k9.F x).eval) : k9.Ok Tryz.prog := con_fn [k28, k29, k30, k31, k32, k33] ⟨k28_ok, k29_ok, k30_ok, k31_ok, k32_ok, k33_ok, trivial⟩ f9_eq fun x hw _ hy => (hr x hw).trans hy
theorem k9_ok : k9.Ok Tryz.prog := by
  refine f9_ok fun x hw => ?_
  obtain ⟨⟨a0, a1, a2, a3, a4, a5, a6, a7, a8, _⟩, ⟨b0, b1, b2, b3, b4, b5, b6, b7, b8, _⟩, _⟩ := x
  show (f9_tree a0 a1 a2 a3 a4 a5 a6 a7 a8 b0 b1 b2 b3 b4 b5 b6 b7 b8).eval = some (((eqUnixV a0 a1 a2 a3 a4 a5 a6 a7 a8 b0 b1 b2 b3 b4 b5 b6 b7 b8, ()), ()), ((), ((), ())))
  unfold f9_tree
  unfold eqUnixV eqCpuSV eqInsSSV eqIntSV eqOpenSV eqProcSV
  by_cases h0 : a0 = b0
  case neg => simp [Out.eval, h0, cond_eq_ite]
  subst h0
  by_cases h1 : a1 = b1
  case neg => simp [Out.eval, h1, cond_eq_ite]
  subst h1
  by_cases h2 : a2 = b2
  case neg => simp [Out.eval, h2, cond_eq_ite]
  subst h2
  by_cases h3 : a3 = b3
  case neg => simp [Out.eval, h3, cond_eq_ite]
  subst h3
  by_cases h4 : a4 = b4
  case neg => simp [Out.eval, h4, cond_eq_ite]
  subst h4
  by_cases h5 : a5 = b5
  case neg => simp [Out.eval, h5, cond_eq_ite]
  subst h5
  by_cases h6 : a6 = b6
  case neg => simp [Out.eval, h6, cond_eq_ite]
  subst h6
  by_cases h7 : a7 = b7
  case neg => simp [Out.eval, h7, cond_eq_ite]
  subst h7
  by_cases h8 : a8 = b8
  case neg => simp [Out.eval, h8, cond_eq_ite]
  subst h8
  simp [Out.eval, cond_eq_ite]
end Go.Proofs.YtcpjdjgipmjhdaaGreatDoor.Dm
