/- Functions of the program, and what they compute. -/
import Derived.Test.YtcpjdjgipmjhdaaGreatQ1
namespace Go.Proofs.YtcpjdjgipmjhdaaGreat.Dm
open Go Go.ChangeShapes Go.WideShapes Go.ChangeAt Go.RowKit
def szcIntS (a : List Int) : Nat := a.length
def mkcIntS (a : List Int) : Nat := sumBy mkcInt a
def mkdIntS (k : Int) (a : List Int) : List Int := mkdL mkcInt mkdInt k a
theorem mkcIntS_d (k : Int) (a : List Int) : mkcIntS (mkdIntS k a) = mkcIntS a := mkcL_d mkcInt_d k a
theorem mkdIntS_d (j k : Int) (a : List Int) : mkdIntS j (mkdIntS k a) = mkdIntS j a := mkdL_d mkcInt_d mkdInt_d j k a
theorem mkcIntS_le (a : List Int) : mkcIntS a ≤ 64 * szcIntS a := mkcL_le0 (fun x => by show 1 ≤ 64; omega) a
abbrev f28_S0 := (List Int × List Int × Int × Unit) × (Unit)
def f28_L0 : f28_S0 → Out (Round f28_S0 ((Unit) × (Unit)) ((Bool × Unit) × (Unit)))
| ((p0, p1, p2, _), _) =>
 .ite (decide (p2 < ((List.length p0 : Nat) : Int)))
 (.ite (decide (0 ≤ p2))
 (.get (nth p0 (Int.toNat p2)) fun y1 =>
 .ite (decide (0 ≤ p2))
 (.get (nth p1 (Int.toNat p2)) fun y2 =>
 .ite ((y1 != y2))
 (.ret (.ret ((false, ()), ())))
 (.ret (.again ((p0, p1, (IntKind.i64.wrap (p2 + (1 : Int))), ()), ()))))
 .fail)
 .fail)
 (.ret (.out ((), ())))
def f28_tree (a0 : List Int) (a1 : List Int) : Out (((Bool × Unit) × Unit) × (Unit × Unit × Unit)) :=
 .ite ((((List.length a0 : Nat) : Int) != ((List.length a1 : Nat) : Int)))
 (.ret (((false, ()), ()), ((), (), ())))
 (.get (iter f28_L0 FUEL ((a0, a1, (0 : Int), ()), ())) fun y1 => .alt y1 (fun y2 =>
 .ret (((true, ()), ()), ((), (), ()))) (fun y3 =>
 .ret (((y3.1.1, ()), ()), ((), (), ()))))
def f28_A : Nat → Option LoopAnn := fun n => annOf [(0, { head := { t := [.ro (.int .i64) (some 0), .ro (.int .i64) (some 1), .dead, .dead, .dead, .i .i64] ++ dd 20, v := [] }, out := { t := dd 26, v := [] }, ret := some { t := dd 4 ++ [.b] ++ dd 21, v := [] } })] n
def eqIntSV (a0 : List Int) (b0 : List Int) : Bool := decide ((a0 : List Int) = b0)
def k28 : Con := { f := 28, lend := true, its := [⟨false, false, [.ro (.int .i64)]⟩, ⟨false, false, [.ro (.int .i64)]⟩], lay := [none, none], rs := [⟨false, false, [.b]⟩], F := fun x => .ret ((((eqIntSV x.1.1 x.2.1.1), ()), ()), ((), (), ())) }
theorem f28_eq (x : itemsD k28.its) : bo [] f28_A Tryz.f28 k28 [.tmp 4] x = f28_tree x.1.1 x.2.1.1 := by kernel_rfl
theorem f28_ok (hr : ∀ x : (List Int × Unit) × (List Int × Unit) × Unit, itemsWF k28.its x → (f28_tree x.1.1 x.2.1.1).eval = (k28.F x).eval) : k28.Ok Tryz.prog := con_fn [] trivial f28_eq fun x hw _ hy => (hr x hw).trans hy
theorem k28_ok : k28.Ok Tryz.prog := by
  refine f28_ok fun x hw => ?_
  obtain ⟨⟨a0, _⟩, ⟨b0, _⟩, _⟩ := x
  show (f28_tree a0 b0).eval = some (((eqIntSV a0 b0, ()), ()), ((), ((), ())))
  unfold f28_tree
  have ha : a0.length ≤ BIG := hw.1.1.1
  by_cases hl : a0.length = b0.length
  · rw [eval_ite_f (len_eq hl)]
    have := eq_loop (f := f28_L0) a0 b0 (fun i => ((a0, (b0, (((i : Nat) : Int), ()))), ())) (y := ((), ())) (z := ((false, ()), ())) hl ha
      (fun i hi hi' he => by
        have := wrap_succ (i := i) (by omega)
        simp [f28_L0, Out.eval, hi, hi', he, this])
      (fun i hi hi' he => by
        simp [f28_L0, Out.eval, hi, hi', he, cond_eq_ite])
      (by simp [f28_L0, Out.eval])
    refine (eval_get_some this).trans ?_
    unfold eqIntSV
    by_cases hab : a0 = b0
    · simp only [if_pos hab, decide_eq_true hab]; rfl
    · simp only [if_neg hab, decide_eq_false hab]; rfl
  · rw [eval_ite_t (len_ne hl)]
    have : eqIntSV a0 b0 = false := decide_eq_false fun e => hl (by rw [e])
    rw [this]
    rfl
instance dqIns : DecidableEq InsD := (@instDecidableEqProd _ _ inferInstance (@instDecidableEqProd _ _ inferInstance (@instDecidableEqProd _ _ inferInstance (@instDecidableEqProd _ _ inferInstance inferInstance))))
def mkcIns (x : InsD) : Nat := 1 + 1 + 1 + 1
def mkdIns (k : Int) (x : InsD) : InsD := (mkdInt k x.1, mkdInt (k + 1) x.2.1, mkdInt (k + 1 + 1) x.2.2.1, mkdInt (k + 1 + 1 + 1) x.2.2.2.1, ())
theorem mkcIns_d (k : Int) (x : InsD) : mkcIns (mkdIns k x) = mkcIns x := by simp only [mkcIns, mkdIns]
theorem mkdIns_d (j k : Int) (x : InsD) : mkdIns j (mkdIns k x) = mkdIns j x := by simp only [mkdIns, mkdInt]
def f102_tree (a0 : Int) (a1 : Int) (a2 : Int) (a3 : Int) (a4 : Int) (a5 : Int) (a6 : Int) (a7 : Int) : Out (((Bool × Unit) × Unit) × (Unit × Unit × Unit)) :=
 .ite ((a0 != a4))
 (.ret (((false, ()), ()), ((), (), ())))
 (.ite ((a1 != a5))
 (.ret (((false, ()), ()), ((), (), ())))
 (.ite ((a2 != a6))
 (.ret (((false, ()), ()), ((), (), ())))
 (.ite ((a3 != a7))
 (.ret (((false, ()), ()), ((), (), ())))
 (.ret (((true, ()), ()), ((), (), ()))))))
def eqInsV (a0 : Int) (a1 : Int) (a2 : Int) (a3 : Int) (b0 : Int) (b1 : Int) (b2 : Int) (b3 : Int) : Bool := decide (((a0, a1, a2, a3, ()) : InsD) = (b0, b1, b2, b3, ()))
def k102 : Con := { f := 102, lend := true, its := [⟨false, true, [.i .i64, .i .i64, .i .i64, .i .i64]⟩, ⟨false, true, [.i .i64, .i .i64, .i .i64, .i .i64]⟩], lay := [none, none], rs := [⟨false, false, [.b]⟩], F := fun x => .ret ((((eqInsV x.1.1 x.1.2.1 x.1.2.2.1 x.1.2.2.2.1 x.2.1.1 x.2.1.2.1 x.2.1.2.2.1 x.2.1.2.2.2.1), ()), ()), ((), (), ())) }
theorem f102_eq (x : itemsD k102.its) : bo [] (fun _ => none) Tryz.f102 k102 [.tmp 4] x = f102_tree x.1.1 x.1.2.1 x.1.2.2.1 x.1.2.2.2.1 x.2.1.1 x.2.1.2.1 x.2.1.2.2.1 x.2.1.2.2.2.1 := by kernel_rfl
theorem f102_ok (hr : ∀ x : InsD × InsD × Unit, itemsWF k102.its x → (f102_tree x.1.1 x.1.2.1 x.1.2.2.1 x.1.2.2.2.1 x.2.1.1 x.2.1.2.1 x.2.1.2.2.1 x.2.1.2.2.2.1).eval = (k102.F x).eval) : k102.Ok Tryz.prog := con_fn [] trivial f102_eq fun x hw _ hy => (hr x hw).trans hy
theorem k102_ok : k102.Ok Tryz.prog := by
  refine f102_ok fun x hw => ?_
  obtain ⟨⟨a0, a1, a2, a3, _⟩, ⟨b0, b1, b2, b3, _⟩, _⟩ := x
  show (f102_tree a0 a1 a2 a3 b0 b1 b2 b3).eval = some (((eqInsV a0 a1 a2 a3 b0 b1 b2 b3, ()), ()), ((), ((), ())))
  unfold f102_tree
  unfold eqInsV
  by_cases h0 : a0 = b0
  case neg => simp [Out.eval, h0, cond_eq_ite]
  subst h0
  by_cases h1 : a1 = b1
  case neg => simp [Out.eval, h1, cond_eq_ite]
  subst h1
  by_cases h2 : a2 = b2
  case neg => simp [Out.eval, h2, cond_eq_ite]
  subst h2
  by_cases h3 : a3 = b3
  case neg => simp [Out.eval, h3, cond_eq_ite]
  subst h3
  simp [Out.eval, cond_eq_ite]
def szcInsS (a : List InsD) : Nat := a.length
def mkcInsS (a : List InsD) : Nat := sumBy mkcIns a
def mkdInsS (k : Int) (a : List InsD) : List InsD := mkdL mkcIns mkdIns k a
theorem mkcInsS_d (k : Int) (a : List InsD) : mkcInsS (mkdInsS k a) = mkcInsS a := mkcL_d mkcIns_d k a
theorem mkdInsS_d (j k : Int) (a : List InsD) : mkdInsS j (mkdInsS k a) = mkdInsS j a := mkdL_d mkcIns_d mkdIns_d j k a
theorem mkcInsS_le (a : List InsD) : mkcInsS a ≤ 64 * szcInsS a := mkcL_le0 (fun x => by unfold mkcIns; omega) a
abbrev f63_S0 := (List InsD × List InsD × Int × Unit) × (Unit)
def f63_L0 : f63_S0 → Out (Round f63_S0 ((Unit) × (Unit)) ((Bool × Unit) × (Unit)))
| ((p0, p1, p2, _), _) =>
 .ite (decide (p2 < ((List.length p0 : Nat) : Int)))
 (.ite (decide (0 ≤ p2))
 (.get (nth p0 (Int.toNat p2)) fun y1 =>
 .ite (decide (0 ≤ p2))
 (.get (nth p1 (Int.toNat p2)) fun y2 =>
 .ite (!(eqInsV y1.1 y1.2.1 y1.2.2.1 y1.2.2.2.1 y2.1 y2.2.1 y2.2.2.1 y2.2.2.2.1))
 (.ret (.ret ((false, ()), ())))
 (.ret (.again ((p0, p1, (IntKind.i64.wrap (p2 + (1 : Int))), ()), ()))))
 .fail)
 .fail)
 (.ret (.out ((), ())))
def f63_tree (a0 : List InsD) (a1 : List InsD) : Out (((Bool × Unit) × Unit) × (Unit × Unit × Unit)) :=
 .ite ((((List.length a0 : Nat) : Int) != ((List.length a1 : Nat) : Int)))
 (.ret (((false, ()), ()), ((), (), ())))
 (.get (iter f63_L0 FUEL ((a0, a1, (0 : Int), ()), ())) fun y1 => .alt y1 (fun y2 =>
 .ret (((true, ()), ()), ((), (), ()))) (fun y3 =>
 .ret (((y3.1.1, ()), ()), ((), (), ()))))
def f63_A : Nat → Option LoopAnn := fun n => annOf [(0, { head := { t := [.ro tyN (some 0), .ro tyN (some 1), .dead, .dead, .dead, .i .i64] ++ dd 21, v := [] }, out := { t := dd 27, v := [] }, ret := some { t := dd 4 ++ [.b] ++ dd 22, v := [] } })] n
def eqInsSV (a0 : List InsD) (b0 : List InsD) : Bool := decide ((a0 : List InsD) = b0)
def k63 : Con := { f := 63, lend := true, its := [⟨false, false, [.ro tyN]⟩, ⟨false, false, [.ro tyN]⟩], lay := [none, none], rs := [⟨false, false, [.b]⟩], F := fun x => .ret ((((eqInsSV x.1.1 x.2.1.1), ()), ()), ((), (), ())) }
theorem f63_eq (x : itemsD k63.its) : bo [k102] f63_A Tryz.f63 k63 [.tmp 4] x = f63_tree x.1.1 x.2.1.1 := by kernel_rfl
theorem f63_ok (hr : ∀ x : (List InsD × Unit) × (List InsD × Unit) × Unit, itemsWF k63.its x → (f63_tree x.1.1 x.2.1.1).eval = (k63.F x).eval) : k63.Ok Tryz.prog := con_fn [k102] ⟨k102_ok, trivial⟩ f63_eq fun x hw _ hy => (hr x hw).trans hy
theorem k63_ok : k63.Ok Tryz.prog := by
  refine f63_ok fun x hw => ?_
  obtain ⟨⟨a0, _⟩, ⟨b0, _⟩, _⟩ := x
  show (f63_tree a0 b0).eval = some (((eqInsSV a0 b0, ()), ()), ((), ((), ())))
  unfold f63_tree
  have ha : a0.length ≤ BIG := hw.1.1.1
  by_cases hl : a0.length = b0.length
  · rw [eval_ite_f (len_eq hl)]
    have := eq_loop (f := f63_L0) a0 b0 (fun i => ((a0, (b0, (((i : Nat) : Int), ()))), ())) (y := ((), ())) (z := ((false, ()), ())) hl ha
      (fun i hi hi' he => by
        have := wrap_succ (i := i) (by omega)
        have h3 : ∀ x y : InsD, eqInsV x.1 x.2.1 x.2.2.1 x.2.2.2.1 y.1 y.2.1 y.2.2.1 y.2.2.2.1 = decide (x = y) := fun _ _ => rfl
        simp [f63_L0, Out.eval, hi, hi', he, this, h3])
      (fun i hi hi' he => by
        have h3 : ∀ x y : InsD, eqInsV x.1 x.2.1 x.2.2.1 x.2.2.2.1 y.1 y.2.1 y.2.2.1 y.2.2.2.1 = decide (x = y) := fun _ _ => rfl
        simp [f63_L0, Out.eval, hi, hi', he, cond_eq_ite, h3])
      (by simp [f63_L0, Out.eval])
    refine (eval_get_some this).trans ?_
    unfold eqInsSV
    by_cases hab : a0 = b0
    · simp only [if_pos hab, decide_eq_true hab]; rfl
    · simp only [if_neg hab, decide_eq_false hab]; rfl
  · rw [eval_ite_t (len_ne hl)]
    have : eqInsSV a0 b0 = false := decide_eq_false fun e => hl (by rw [e])
    rw [this]
    rfl
def szcInsSS (a : List (List InsD)) : Nat := a.length + sumBy (fun x => szcInsS x) a
def mkcInsSS (a : List (List InsD)) : Nat := sumBy mkcInsS a
def mkdInsSS (k : Int) (a : List (List InsD)) : List (List InsD) := mkdL mkcInsS mkdInsS k a
theorem mkcInsSS_d (k : Int) (a : List (List InsD)) : mkcInsSS (mkdInsSS k a) = mkcInsSS a := mkcL_d mkcInsS_d k a
theorem mkdInsSS_d (j k : Int) (a : List (List InsD)) : mkdInsSS j (mkdInsSS k a) = mkdInsSS j a := mkdL_d mkcInsS_d mkdInsS_d j k a
theorem mkcInsSS_le (a : List (List InsD)) : mkcInsSS a ≤ 64 * szcInsSS a := mkcL_le (s := fun x => szcInsS x) (fun x => by have := mkcInsS_le x; omega) a
abbrev f23_S0 := (List (List InsD) × List (List InsD) × Int × Unit) × (Unit)
def f23_L0 : f23_S0 → Out (Round f23_S0 ((Unit) × (Unit)) ((Bool × Unit) × (Unit)))
| ((p0, p1, p2, _), _) =>
 .ite (decide (p2 < ((List.length p0 : Nat) : Int)))
 (.ite (decide (0 ≤ p2))
 (.get (nth p0 (Int.toNat p2)) fun y1 =>
 .ite (decide (0 ≤ p2))
 (.get (nth p1 (Int.toNat p2)) fun y2 =>
 .ite (!(eqInsSV y1 y2))
 (.ret (.ret ((false, ()), ())))
 (.ret (.again ((p0, p1, (IntKind.i64.wrap (p2 + (1 : Int))), ()), ()))))
 .fail)
 .fail)
 (.ret (.out ((), ())))
def f23_tree (a0 : List (List InsD)) (a1 : List (List InsD)) : Out (((Bool × Unit) × Unit) × (Unit × Unit × Unit)) :=
 .ite ((((List.length a0 : Nat) : Int) != ((List.length a1 : Nat) : Int)))
 (.ret (((false, ()), ()), ((), (), ())))
 (.get (iter f23_L0 FUEL ((a0, a1, (0 : Int), ()), ())) fun y1 => .alt y1 (fun y2 =>
 .ret (((true, ()), ()), ((), (), ()))) (fun y3 =>
 .ret (((y3.1.1, ()), ()), ((), (), ()))))
def f23_A : Nat → Option LoopAnn := fun n => annOf [(0, { head := { t := [.ro (.sl tyN) (some 0), .ro (.sl tyN) (some 1), .dead, .dead, .dead, .i .i64] ++ dd 21, v := [] }, out := { t := dd 27, v := [] }, ret := some { t := dd 4 ++ [.b] ++ dd 22, v := [] } })] n
def eqInsSSV (a0 : List (List InsD)) (b0 : List (List InsD)) : Bool := decide ((a0 : List (List InsD)) = b0)
def k23 : Con := { f := 23, lend := true, its := [⟨false, false, [.ro (.sl tyN)]⟩, ⟨false, false, [.ro (.sl tyN)]⟩], lay := [none, none], rs := [⟨false, false, [.b]⟩], F := fun x => .ret ((((eqInsSSV x.1.1 x.2.1.1), ()), ()), ((), (), ())) }
theorem f23_eq (x : itemsD k23.its) : bo [k63] f23_A Tryz.f23 k23 [.tmp 4] x = f23_tree x.1.1 x.2.1.1 := by kernel_rfl
theorem f23_ok (hr : ∀ x : (List (List InsD) × Unit) × (List (List InsD) × Unit) × Unit, itemsWF k23.its x → (f23_tree x.1.1 x.2.1.1).eval = (k23.F x).eval) : k23.Ok Tryz.prog := con_fn [k63] ⟨k63_ok, trivial⟩ f23_eq fun x hw _ hy => (hr x hw).trans hy
theorem k23_ok : k23.Ok Tryz.prog := by
  refine f23_ok fun x hw => ?_
  obtain ⟨⟨a0, _⟩, ⟨b0, _⟩, _⟩ := x
  show (f23_tree a0 b0).eval = some (((eqInsSSV a0 b0, ()), ()), ((), ((), ())))
  unfold f23_tree
  have ha : a0.length ≤ BIG := hw.1.1.1
  by_cases hl : a0.length = b0.length
  · rw [eval_ite_f (len_eq hl)]
    have := eq_loop (f := f23_L0) a0 b0 (fun i => ((a0, (b0, (((i : Nat) : Int), ()))), ())) (y := ((), ())) (z := ((false, ()), ())) hl ha
      (fun i hi hi' he => by
        have := wrap_succ (i := i) (by omega)
        have h3 : ∀ x y : List InsD, eqInsSV x y = decide (x = y) := fun _ _ => rfl
        simp [f23_L0, Out.eval, hi, hi', he, this, h3])
      (fun i hi hi' he => by
        have h3 : ∀ x y : List InsD, eqInsSV x y = decide (x = y) := fun _ _ => rfl
        simp [f23_L0, Out.eval, hi, hi', he, cond_eq_ite, h3])
      (by simp [f23_L0, Out.eval])
    refine (eval_get_some this).trans ?_
    unfold eqInsSSV
    by_cases hab : a0 = b0
    · simp only [if_pos hab, decide_eq_true hab]; rfl
    · simp only [if_neg hab, decide_eq_false hab]; rfl
  · rw [eval_ite_t (len_ne hl)]
    have : eqInsSSV a0 b0 = false := decide_eq_false fun e => hl (by rw [e])
    rw [this]
    rfl
abbrev CpuD := Int × (List Int × Unit)
instance dqCpu : DecidableEq CpuD := (@instDecidableEqProd _ _ inferInstance (@instDecidableEqProd _ _ inferInstance inferInstance))
def szcCpu (x : CpuD) : Nat := szcIntS x.2.1
def mkcCpu (x : CpuD) : Nat := 1 + mkcIntS x.2.1
def mkdCpu (k : Int) (x : CpuD) : CpuD := (mkdInt k x.1, mkdIntS (k + 1) x.2.1, ())
theorem mkcCpu_d (k : Int) (x : CpuD) : mkcCpu (mkdCpu k x) = mkcCpu x := by simp only [mkcCpu, mkdCpu, mkcIntS_d]
theorem mkdCpu_d (j k : Int) (x : CpuD) : mkdCpu j (mkdCpu k x) = mkdCpu j x := by simp only [mkdCpu, mkcIntS_d, mkdIntS_d]
theorem mkcCpu_le (x : CpuD) : mkcCpu x ≤ 64 + 64 * szcCpu x := by
  have := mkcIntS_le x.2.1
  unfold mkcCpu szcCpu
  omega
def f103_tree (a0 : Int) (a1 : List Int) (a2 : Int) (a3 : List Int) : Out (((Bool × Unit) × Unit) × (Unit × Unit × Unit)) :=
 .ite ((a0 != a2))
 (.ret (((false, ()), ()), ((), (), ())))
 (.ite (!(eqIntSV a1 a3))
 (.ret (((false, ()), ()), ((), (), ())))
 (.ret (((true, ()), ()), ((), (), ()))))
def eqCpuV (a0 : Int) (a1 : List Int) (b0 : Int) (b1 : List Int) : Bool := decide (((a0, a1, ()) : CpuD) = (b0, b1, ()))
def k103 : Con := { f := 103, lend := true, its := [⟨false, true, [.i .i64, .ro (.int .i64)]⟩, ⟨false, true, [.i .i64, .ro (.int .i64)]⟩], lay := [none, none], rs := [⟨false, false, [.b]⟩], F := fun x => .ret ((((eqCpuV x.1.1 x.1.2.1 x.2.1.1 x.2.1.2.1), ()), ()), ((), (), ())) }
theorem f103_eq (x : itemsD k103.its) : bo [k28] (fun _ => none) Tryz.f103 k103 [.tmp 4] x = f103_tree x.1.1 x.1.2.1 x.2.1.1 x.2.1.2.1 := by kernel_rfl
theorem f103_ok (hr : ∀ x : CpuD × CpuD × Unit, itemsWF k103.its x → (f103_tree x.1.1 x.1.2.1 x.2.1.1 x.2.1.2.1).eval = (k103.F x).eval) : k103.Ok Tryz.prog := con_fn [k28] ⟨k28_ok, trivial⟩ f103_eq fun x hw _ hy => (hr x hw).trans hy
theorem k103_ok : k103.Ok Tryz.prog := by
  refine f103_ok fun x hw => ?_
  obtain ⟨⟨a0, a1, _⟩, ⟨b0, b1, _⟩, _⟩ := x
  show (f103_tree a0 a1 b0 b1).eval = some (((eqCpuV a0 a1 b0 b1, ()), ()), ((), ((), ())))
  unfold f103_tree
  unfold eqCpuV eqIntSV
  by_cases h0 : a0 = b0
  case neg => simp [Out.eval, h0, cond_eq_ite]
  subst h0
  by_cases h1 : a1 = b1
  case neg => simp [Out.eval, h1, cond_eq_ite]
  subst h1
  simp [Out.eval, cond_eq_ite]
abbrev ProcD := Int × (Int × (Int × (Int × (CpuD × (List Int × (List Int × (Int × (Int × Unit))))))))
instance dqProc : DecidableEq ProcD := (@instDecidableEqProd _ _ inferInstance (@instDecidableEqProd _ _ inferInstance (@instDecidableEqProd _ _ inferInstance (@instDecidableEqProd _ _ inferInstance (@instDecidableEqProd _ _ inferInstance (@instDecidableEqProd _ _ inferInstance (@instDecidableEqProd _ _ inferInstance (@instDecidableEqProd _ _ inferInstance (@instDecidableEqProd _ _ inferInstance inferInstance)))))))))
def szcProc (x : ProcD) : Nat := szcCpu x.2.2.2.2.1 + szcIntS x.2.2.2.2.2.1 + szcIntS x.2.2.2.2.2.2.1
def mkcProc (x : ProcD) : Nat := 1 + 1 + 1 + 1 + 1 + mkcIntS x.2.2.2.2.1.2.1 + mkcIntS x.2.2.2.2.2.1 + mkcIntS x.2.2.2.2.2.2.1 + 1 + 1
def mkdProc (k : Int) (x : ProcD) : ProcD := (mkdInt k x.1, mkdInt (k + 1) x.2.1, mkdInt (k + 1 + 1) x.2.2.1, mkdInt (k + 1 + 1 + 1) x.2.2.2.1, (mkdInt (k + 1 + 1 + 1 + 1) x.2.2.2.2.1.1, mkdIntS (k + 1 + 1 + 1 + 1 + 1) x.2.2.2.2.1.2.1, ()), mkdIntS (k + 1 + 1 + 1 + 1 + 1 + (mkcIntS x.2.2.2.2.1.2.1 : Nat)) x.2.2.2.2.2.1, mkdIntS (k + 1 + 1 + 1 + 1 + 1 + (mkcIntS x.2.2.2.2.1.2.1 : Nat) + (mkcIntS x.2.2.2.2.2.1 : Nat)) x.2.2.2.2.2.2.1, mkdInt (k + 1 + 1 + 1 + 1 + 1 + (mkcIntS x.2.2.2.2.1.2.1 : Nat) + (mkcIntS x.2.2.2.2.2.1 : Nat) + (mkcIntS x.2.2.2.2.2.2.1 : Nat)) x.2.2.2.2.2.2.2.1, mkdInt (k + 1 + 1 + 1 + 1 + 1 + (mkcIntS x.2.2.2.2.1.2.1 : Nat) + (mkcIntS x.2.2.2.2.2.1 : Nat) + (mkcIntS x.2.2.2.2.2.2.1 : Nat) + 1) x.2.2.2.2.2.2.2.2.1, ())
theorem mkcProc_d (k : Int) (x : ProcD) : mkcProc (mkdProc k x) = mkcProc x := by simp only [mkcProc, mkdProc, mkcIntS_d]
theorem mkdProc_d (j k : Int) (x : ProcD) : mkdProc j (mkdProc k x) = mkdProc j x := by simp only [mkdProc, mkcIntS_d, mkdIntS_d]
theorem mkcProc_le (x : ProcD) : mkcProc x ≤ 64 + 64 * szcProc x := by
  have := mkcIntS_le x.2.2.2.2.1.2.1
  have := mkcIntS_le x.2.2.2.2.2.1
  have := mkcIntS_le x.2.2.2.2.2.2.1
  unfold mkcProc szcProc szcCpu
  omega
def f64_tree (a0 : Int) (a1 : Int) (a2 : Int) (a3 : Int) (a4 : Int) (a5 : List Int) (a6 : List Int) (a7 : List Int) (a8 : Int) (a9 : Int) (a10 : Int) (a11 : Int) (a12 : Int) (a13 : Int) (a14 : Int) (a15 : List Int) (a16 : List Int) (a17 : List Int) (a18 : Int) (a19 : Int) : Out (((Bool × Unit) × Unit) × (Unit × Unit × Unit)) :=
 .ite ((a0 != a10))
 (.ret (((false, ()), ()), ((), (), ())))
 (.ite ((a1 != a11))
 (.ret (((false, ()), ()), ((), (), ())))
 (.ite ((a2 != a12))
 (.ret (((false, ()), ()), ((), (), ())))
 (.ite ((a3 != a13))
 (.ret (((false, ()), ()), ((), (), ())))
 (.ite (!(eqCpuV a4 a5 a14 a15))
 (.ret (((false, ()), ()), ((), (), ())))
 (.ite (!(eqIntSV a6 a16))
 (.ret (((false, ()), ()), ((), (), ())))
 (.ite (!(eqIntSV a7 a17))
 (.ret (((false, ()), ()), ((), (), ())))
 (.ite ((a8 != a18))
 (.ret (((false, ()), ()), ((), (), ())))
 (.ite ((a9 != a19))
 (.ret (((false, ()), ()), ((), (), ())))
 (.ret (((true, ()), ()), ((), (), ())))))))))))
def eqProcV (a0 : Int) (a1 : Int) (a2 : Int) (a3 : Int) (a4 : Int) (a5 : List Int) (a6 : List Int) (a7 : List Int) (a8 : Int) (a9 : Int) (b0 : Int) (b1 : Int) (b2 : Int) (b3 : Int) (b4 : Int) (b5 : List Int) (b6 : List Int) (b7 : List Int) (b8 : Int) (b9 : Int) : Bool := decide (((a0, a1, a2, a3, (a4, a5, ()), a6, a7, a8, a9, ()) : ProcD) = (b0, b1, b2, b3, (b4, b5, ()), b6, b7, b8, b9, ()))
def k64 : Con := { f := 64, lend := true, its := [⟨false, true, [.i .i64, .i .i64, .i .i64, .i .i64, .i .i64, .ro (.int .i64), .ro (.int .i64), .ro (.int .i64), .i .i64, .i .i64]⟩, ⟨false, true, [.i .i64, .i .i64, .i .i64, .i .i64, .i .i64, .ro (.int .i64), .ro (.int .i64), .ro (.int .i64), .i .i64, .i .i64]⟩], lay := [none, none], rs := [⟨false, false, [.b]⟩], F := fun x => .ret ((((eqProcV x.1.1 x.1.2.1 x.1.2.2.1 x.1.2.2.2.1 x.1.2.2.2.2.1 x.1.2.2.2.2.2.1 x.1.2.2.2.2.2.2.1 x.1.2.2.2.2.2.2.2.1 x.1.2.2.2.2.2.2.2.2.1 x.1.2.2.2.2.2.2.2.2.2.1 x.2.1.1 x.2.1.2.1 x.2.1.2.2.1 x.2.1.2.2.2.1 x.2.1.2.2.2.2.1 x.2.1.2.2.2.2.2.1 x.2.1.2.2.2.2.2.2.1 x.2.1.2.2.2.2.2.2.2.1 x.2.1.2.2.2.2.2.2.2.2.1 x.2.1.2.2.2.2.2.2.2.2.2.1), ()), ()), ((), (), ())) }
theorem f64_eq (x : itemsD k64.its) : bo [k103, k28] (fun _ => none) Tryz.f64 k64 [.tmp 4] x = f64_tree x.1.1 x.1.2.1 x.1.2.2.1 x.1.2.2.2.1 x.1.2.2.2.2.1 x.1.2.2.2.2.2.1 x.1.2.2.2.2.2.2.1 x.1.2.2.2.2.2.2.2.1 x.1.2.2.2.2.2.2.2.2.1 x.1.2.2.2.2.2.2.2.2.2.1 x.2.1.1 x.2.1.2.1 x.2.1.2.2.1 x.2.1.2.2.2.1 x.2.1.2.2.2.2.1 x.2.1.2.2.2.2.2.1 x.2.1.2.2.2.2.2.2.1 x.2.1.2.2.2.2.2.2.2.1 x.2.1.2.2.2.2.2.2.2.2.1 x.2.1.2.2.2.2.2.2.2.2.2.1 := by kernel_rfl
theorem f64_ok (hr : ∀ x : (Int × Int × Int × Int × Int × List Int × List Int × List Int × Int × Int × Unit) × (Int × Int × Int × Int × Int × List Int × List Int × List Int × Int × Int × Unit) × Unit, itemsWF k64.its x → (f64_tree x.1.1 x.1.2.1 x.1.2.2.1 x.1.2.2.2.1 x.1.2.2.2.2.1 x.1.2.2.2.2.2.1 x.1.2.2.2.2.2.2.1 x.1.2.2.2.2.2.2.2.1 x.1.2.2.2.2.2.2.2.2.1 x.1.2.2.2.2.2.2.2.2.2.1 x.2.1.1 x.2.1.2.1 x.2.1.2.2.1 x.2.1.2.2.2.1 x.2.1.2.2.2.2.1 x.2.1.2.2.2.2.2.1 x.2.1.2.2.2.2.2.2.1 x.2.1.2.2.2.2.2.2.2.1 x.2.1.2.2.2.2.2.2.2.2.1 x.2.1.2.2.2.2.2.2.2.2.2.1).eval = (k64.F x).eval) : k64.Ok Tryz.prog := con_fn [k103, k28] ⟨k103_ok, k28_ok, trivial⟩ f64_eq fun x hw _ hy => (hr x hw).trans hy
theorem k64_ok : k64.Ok Tryz.prog := by
  refine f64_ok fun x hw => ?_
  obtain ⟨⟨a0, a1, a2, a3, a4, a5, a6, a7, a8, a9, _⟩, ⟨b0, b1, b2, b3, b4, b5, b6, b7, b8, b9, _⟩, _⟩ := x
  show (f64_tree a0 a1 a2 a3 a4 a5 a6 a7 a8 a9 b0 b1 b2 b3 b4 b5 b6 b7 b8 b9).eval = some (((eqProcV a0 a1 a2 a3 a4 a5 a6 a7 a8 a9 b0 b1 b2 b3 b4 b5 b6 b7 b8 b9, ()), ()), ((), ((), ())))
  unfold f64_tree
  unfold eqProcV eqCpuV eqIntSV
  by_cases h0 : a0 = b0
  case neg => simp [Out.eval, h0, cond_eq_ite]
  subst h0
  by_cases h1 : a1 = b1
  case neg => simp [Out.eval, h1, cond_eq_ite]
  subst h1
  by_cases h2 : a2 = b2
  case neg => simp [Out.eval, h2, cond_eq_ite]
  subst h2
  by_cases h3 : a3 = b3
  case neg => simp [Out.eval, h3, cond_eq_ite]
  subst h3
  by_cases h4 : a4 = b4
  case neg => simp [Out.eval, h4, cond_eq_ite]
  subst h4
  by_cases h5 : a5 = b5
  case neg => simp [Out.eval, h5, cond_eq_ite]
  subst h5
  by_cases h6 : a6 = b6
  case neg => simp [Out.eval, h6, cond_eq_ite]
  subst h6
  by_cases h7 : a7 = b7
  case neg => simp [Out.eval, h7, cond_eq_ite]
  subst h7
  by_cases h8 : a8 = b8
  case neg => simp [Out.eval, h8, cond_eq_ite]
  subst h8
  by_cases h9 : a9 = b9
  case neg => simp [Out.eval, h9, cond_eq_ite]
  subst h9
  simp [Out.eval, cond_eq_ite]
def szcProcS (a : List ProcD) : Nat := a.length + sumBy (fun x => szcProc x) a
def mkcProcS (a : List ProcD) : Nat := sumBy mkcProc a
def mkdProcS (k : Int) (a : List ProcD) : List ProcD := mkdL mkcProc mkdProc k a
theorem mkcProcS_d (k : Int) (a : List ProcD) : mkcProcS (mkdProcS k a) = mkcProcS a := mkcL_d mkcProc_d k a
theorem mkdProcS_d (j k : Int) (a : List ProcD) : mkdProcS j (mkdProcS k a) = mkdProcS j a := mkdL_d mkcProc_d mkdProc_d j k a
theorem mkcProcS_le (a : List ProcD) : mkcProcS a ≤ 64 * szcProcS a := mkcL_le (s := fun x => szcProc x) (fun x => by have := mkcProc_le x; omega) a
abbrev f24_S0 := (List ProcD × List ProcD × Int × Unit) × (Unit)
def f24_L0 : f24_S0 → Out (Round f24_S0 ((Unit) × (Unit)) ((Bool × Unit) × (Unit)))
| ((p0, p1, p2, _), _) =>
 .ite (decide (p2 < ((List.length p0 : Nat) : Int)))
 (.ite (decide (0 ≤ p2))
 (.get (nth p0 (Int.toNat p2)) fun y1 =>
 .ite (decide (0 ≤ p2))
 (.get (nth p1 (Int.toNat p2)) fun y2 =>
 .ite (!(eqProcV y1.1 y1.2.1 y1.2.2.1 y1.2.2.2.1 y1.2.2.2.2.1.1 y1.2.2.2.2.1.2.1 y1.2.2.2.2.2.1 y1.2.2.2.2.2.2.1 y1.2.2.2.2.2.2.2.1 y1.2.2.2.2.2.2.2.2.1 y2.1 y2.2.1 y2.2.2.1 y2.2.2.2.1 y2.2.2.2.2.1.1 y2.2.2.2.2.1.2.1 y2.2.2.2.2.2.1 y2.2.2.2.2.2.2.1 y2.2.2.2.2.2.2.2.1 y2.2.2.2.2.2.2.2.2.1))
 (.ret (.ret ((false, ()), ())))
 (.ret (.again ((p0, p1, (IntKind.i64.wrap (p2 + (1 : Int))), ()), ()))))
 .fail)
 .fail)
 (.ret (.out ((), ())))
def f24_tree (a0 : List ProcD) (a1 : List ProcD) : Out (((Bool × Unit) × Unit) × (Unit × Unit × Unit)) :=
 .ite ((((List.length a0 : Nat) : Int) != ((List.length a1 : Nat) : Int)))
 (.ret (((false, ()), ()), ((), (), ())))
 (.get (iter f24_L0 FUEL ((a0, a1, (0 : Int), ()), ())) fun y1 => .alt y1 (fun y2 =>
 .ret (((true, ()), ()), ((), (), ()))) (fun y3 =>
 .ret (((y3.1.1, ()), ()), ((), (), ()))))
def f24_A : Nat → Option LoopAnn := fun n => annOf [(0, { head := { t := [.ro tyP (some 0), .ro tyP (some 1), .dead, .dead, .dead, .i .i64] ++ dd 21, v := [] }, out := { t := dd 27, v := [] }, ret := some { t := dd 4 ++ [.b] ++ dd 22, v := [] } })] n
def eqProcSV (a0 : List ProcD) (b0 : List ProcD) : Bool := decide ((a0 : List ProcD) = b0)
def k24 : Con := { f := 24, lend := true, its := [⟨false, false, [.ro tyP]⟩, ⟨false, false, [.ro tyP]⟩], lay := [none, none], rs := [⟨false, false, [.b]⟩], F := fun x => .ret ((((eqProcSV x.1.1 x.2.1.1), ()), ()), ((), (), ())) }
theorem f24_eq (x : itemsD k24.its) : bo [k64] f24_A Tryz.f24 k24 [.tmp 4] x = f24_tree x.1.1 x.2.1.1 := by kernel_rfl
theorem f24_ok (hr : ∀ x : (List ProcD × Unit) × (List ProcD × Unit) × Unit, itemsWF k24.its x → (f24_tree x.1.1 x.2.1.1).eval = (k24.F x).eval) : k24.Ok Tryz.prog := con_fn [k64] ⟨k64_ok, trivial⟩ f24_eq fun x hw _ hy => (hr x hw).trans hy
theorem k24_ok : k24.Ok Tryz.prog := by
  refine f24_ok fun x hw => ?_
  obtain ⟨⟨a0, _⟩, ⟨b0, _⟩, _⟩ := x
  show (f24_tree a0 b0).eval = some (((eqProcSV a0 b0, ()), ()), ((), ((), ())))
  unfold f24_tree
  have ha : a0.length ≤ BIG := hw.1.1.1
  by_cases hl : a0.length = b0.length
  · rw [eval_ite_f (len_eq hl)]
    have := eq_loop (f := f24_L0) a0 b0 (fun i => ((a0, (b0, (((i : Nat) : Int), ()))), ())) (y := ((), ())) (z := ((false, ()), ())) hl ha
      (fun i hi hi' he => by
        have := wrap_succ (i := i) (by omega)
        have h3 : ∀ x y : ProcD, eqProcV x.1 x.2.1 x.2.2.1 x.2.2.2.1 x.2.2.2.2.1.1 x.2.2.2.2.1.2.1 x.2.2.2.2.2.1 x.2.2.2.2.2.2.1 x.2.2.2.2.2.2.2.1 x.2.2.2.2.2.2.2.2.1 y.1 y.2.1 y.2.2.1 y.2.2.2.1 y.2.2.2.2.1.1 y.2.2.2.2.1.2.1 y.2.2.2.2.2.1 y.2.2.2.2.2.2.1 y.2.2.2.2.2.2.2.1 y.2.2.2.2.2.2.2.2.1 = decide (x = y) := fun _ _ => rfl
        simp [f24_L0, Out.eval, hi, hi', he, this, h3])
      (fun i hi hi' he => by
        have h3 : ∀ x y : ProcD, eqProcV x.1 x.2.1 x.2.2.1 x.2.2.2.1 x.2.2.2.2.1.1 x.2.2.2.2.1.2.1 x.2.2.2.2.2.1 x.2.2.2.2.2.2.1 x.2.2.2.2.2.2.2.1 x.2.2.2.2.2.2.2.2.1 y.1 y.2.1 y.2.2.1 y.2.2.2.1 y.2.2.2.2.1.1 y.2.2.2.2.1.2.1 y.2.2.2.2.2.1 y.2.2.2.2.2.2.1 y.2.2.2.2.2.2.2.1 y.2.2.2.2.2.2.2.2.1 = decide (x = y) := fun _ _ => rfl
        simp [f24_L0, Out.eval, hi, hi', he, cond_eq_ite, h3])
      (by simp [f24_L0, Out.eval])
    refine (eval_get_some this).trans ?_
    unfold eqProcSV
    by_cases hab : a0 = b0
    · simp only [if_pos hab, decide_eq_true hab]; rfl
    · simp only [if_neg hab, decide_eq_false hab]; rfl
  · rw [eval_ite_t (len_ne hl)]
    have : eqProcSV a0 b0 = false := decide_eq_false fun e => hl (by rw [e])
    rw [this]
    rfl
abbrev OpenD := Int × (Int × (Int × (Int × (Int × Unit))))
instance dqOpen : DecidableEq OpenD := (@instDecidableEqProd _ _ inferInstance (@instDecidableEqProd _ _ inferInstance (@instDecidableEqProd _ _ inferInstance (@instDecidableEqProd _ _ inferInstance (@instDecidableEqProd _ _ inferInstance inferInstance)))))
def mkcOpen (x : OpenD) : Nat := 1 + 1 + 1 + 1 + 1
def mkdOpen (k : Int) (x : OpenD) : OpenD := (mkdInt k x.1, mkdInt (k + 1) x.2.1, mkdInt (k + 1 + 1) x.2.2.1, mkdInt (k + 1 + 1 + 1) x.2.2.2.1, mkdInt (k + 1 + 1 + 1 + 1) x.2.2.2.2.1, ())
theorem mkcOpen_d (k : Int) (x : OpenD) : mkcOpen (mkdOpen k x) = mkcOpen x := by simp only [mkcOpen, mkdOpen]
theorem mkdOpen_d (j k : Int) (x : OpenD) : mkdOpen j (mkdOpen k x) = mkdOpen j x := by simp only [mkdOpen, mkdInt]
def f65_tree (a0 : Int) (a1 : Int) (a2 : Int) (a3 : Int) (a4 : Int) (a5 : Int) (a6 : Int) (a7 : Int) (a8 : Int) (a9 : Int) : Out (((Bool × Unit) × Unit) × (Unit × Unit × Unit)) :=
 .ite ((a0 != a5))
 (.ret (((false, ()), ()), ((), (), ())))
 (.ite ((a1 != a6))
 (.ret (((false, ()), ()), ((), (), ())))
 (.ite ((a2 != a7))
 (.ret (((false, ()), ()), ((), (), ())))
 (.ite ((a3 != a8))
 (.ret (((false, ()), ()), ((), (), ())))
 (.ite ((a4 != a9))
 (.ret (((false, ()), ()), ((), (), ())))
 (.ret (((true, ()), ()), ((), (), ())))))))
def eqOpenV (a0 : Int) (a1 : Int) (a2 : Int) (a3 : Int) (a4 : Int) (b0 : Int) (b1 : Int) (b2 : Int) (b3 : Int) (b4 : Int) : Bool := decide (((a0, a1, a2, a3, a4, ()) : OpenD) = (b0, b1, b2, b3, b4, ()))
def k65 : Con := { f := 65, lend := true, its := [⟨false, true, [.i .i64, .i .i64, .i .i64, .i .i64, .i .i64]⟩, ⟨false, true, [.i .i64, .i .i64, .i .i64, .i .i64, .i .i64]⟩], lay := [none, none], rs := [⟨false, false, [.b]⟩], F := fun x => .ret ((((eqOpenV x.1.1 x.1.2.1 x.1.2.2.1 x.1.2.2.2.1 x.1.2.2.2.2.1 x.2.1.1 x.2.1.2.1 x.2.1.2.2.1 x.2.1.2.2.2.1 x.2.1.2.2.2.2.1), ()), ()), ((), (), ())) }
theorem f65_eq (x : itemsD k65.its) : bo [] (fun _ => none) Tryz.f65 k65 [.tmp 4] x = f65_tree x.1.1 x.1.2.1 x.1.2.2.1 x.1.2.2.2.1 x.1.2.2.2.2.1 x.2.1.1 x.2.1.2.1 x.2.1.2.2.1 x.2.1.2.2.2.1 x.2.1.2.2.2.2.1 := by kernel_rfl
theorem f65_ok (hr : ∀ x : OpenD × OpenD × Unit, itemsWF k65.its x → (f65_tree x.1.1 x.1.2.1 x.1.2.2.1 x.1.2.2.2.1 x.1.2.2.2.2.1 x.2.1.1 x.2.1.2.1 x.2.1.2.2.1 x.2.1.2.2.2.1 x.2.1.2.2.2.2.1).eval = (k65.F x).eval) : k65.Ok Tryz.prog := con_fn [] trivial f65_eq fun x hw _ hy => (hr x hw).trans hy
theorem k65_ok : k65.Ok Tryz.prog := by
  refine f65_ok fun x hw => ?_
  obtain ⟨⟨a0, a1, a2, a3, a4, _⟩, ⟨b0, b1, b2, b3, b4, _⟩, _⟩ := x
  show (f65_tree a0 a1 a2 a3 a4 b0 b1 b2 b3 b4).eval = some (((eqOpenV a0 a1 a2 a3 a4 b0 b1 b2 b3 b4, ()), ()), ((), ((), ())))
  unfold f65_tree
  unfold eqOpenV
  by_cases h0 : a0 = b0
  case neg => simp [Out.eval, h0, cond_eq_ite]
  subst h0
  by_cases h1 : a1 = b1
  case neg => simp [Out.eval, h1, cond_eq_ite]
  subst h1
  by_cases h2 : a2 = b2
  case neg => simp [Out.eval, h2, cond_eq_ite]
  subst h2
  by_cases h3 : a3 = b3
  case neg => simp [Out.eval, h3, cond_eq_ite]
  subst h3
  by_cases h4 : a4 = b4
  case neg => simp [Out.eval, h4, cond_eq_ite]
  subst h4
  simp [Out.eval, cond_eq_ite]
def szcOpenS (a : List OpenD) : Nat := a.length
def mkcOpenS (a : List OpenD) : Nat := sumBy mkcOpen a
def mkdOpenS (k : Int) (a : List OpenD) : List OpenD := mkdL mkcOpen mkdOpen k a
theorem mkcOpenS_d (k : Int) (a : List OpenD) : mkcOpenS (mkdOpenS k a) = mkcOpenS a := mkcL_d mkcOpen_d k a
theorem mkdOpenS_d (j k : Int) (a : List OpenD) : mkdOpenS j (mkdOpenS k a) = mkdOpenS j a := mkdL_d mkcOpen_d mkdOpen_d j k a
theorem mkcOpenS_le (a : List OpenD) : mkcOpenS a ≤ 64 * szcOpenS a := mkcL_le0 (fun x => by unfold mkcOpen; omega) a
abbrev f25_S0 := (List OpenD × List OpenD × Int × Unit) × (Unit)
def f25_L0 : f25_S0 → Out (Round f25_S0 ((Unit) × (Unit)) ((Bool × Unit) × (Unit)))
| ((p0, p1, p2, _), _) =>
 .ite (decide (p2 < ((List.length p0 : Nat) : Int)))
 (.ite (decide (0 ≤ p2))
 (.get (nth p0 (Int.toNat p2)) fun y1 =>
 .ite (decide (0 ≤ p2))
 (.get (nth p1 (Int.toNat p2)) fun y2 =>
 .ite (!(eqOpenV y1.1 y1.2.1 y1.2.2.1 y1.2.2.2.1 y1.2.2.2.2.1 y2.1 y2.2.1 y2.2.2.1 y2.2.2.2.1 y2.2.2.2.2.1))
 (.ret (.ret ((false, ()), ())))
 (.ret (.again ((p0, p1, (IntKind.i64.wrap (p2 + (1 : Int))), ()), ()))))
 .fail)
 .fail)
 (.ret (.out ((), ())))
def f25_tree (a0 : List OpenD) (a1 : List OpenD) : Out (((Bool × Unit) × Unit) × (Unit × Unit × Unit)) :=
 .ite ((((List.length a0 : Nat) : Int) != ((List.length a1 : Nat) : Int)))
 (.ret (((false, ()), ()), ((), (), ())))
 (.get (iter f25_L0 FUEL ((a0, a1, (0 : Int), ()), ())) fun y1 => .alt y1 (fun y2 =>
 .ret (((true, ()), ()), ((), (), ()))) (fun y3 =>
 .ret (((y3.1.1, ()), ()), ((), (), ()))))
def f25_A : Nat → Option LoopAnn := fun n => annOf [(0, { head := { t := [.ro tyO (some 0), .ro tyO (some 1), .dead, .dead, .dead, .i .i64] ++ dd 21, v := [] }, out := { t := dd 27, v := [] }, ret := some { t := dd 4 ++ [.b] ++ dd 22, v := [] } })] n
def eqOpenSV (a0 : List OpenD) (b0 : List OpenD) : Bool := decide ((a0 : List OpenD) = b0)
def k25 : Con := { f := 25, lend := true, its := [⟨false, false, [.ro tyO]⟩, ⟨false, false, [.ro tyO]⟩], lay := [none, none], rs := [⟨false, false, [.b]⟩], F := fun x => .ret ((((eqOpenSV x.1.1 x.2.1.1), ()), ()), ((), (), ())) }
theorem f25_eq (x : itemsD k25.its) : bo [k65] f25_A Tryz.f25 k25 [.tmp 4] x = f25_tree x.1.1 x.2.1.1 := by kernel_rfl
theorem f25_ok (hr : ∀ x : (List OpenD × Unit) × (List OpenD × Unit) × Unit, itemsWF k25.its x → (f25_tree x.1.1 x.2.1.1).eval = (k25.F x).eval) : k25.Ok Tryz.prog := con_fn [k65] ⟨k65_ok, trivial⟩ f25_eq fun x hw _ hy => (hr x hw).trans hy
theorem k25_ok : k25.Ok Tryz.prog := by
  refine f25_ok fun x hw => ?_
  obtain ⟨⟨a0, _⟩, ⟨b0, _⟩, _⟩ := x
  show (f25_tree a0 b0).eval = some (((eqOpenSV a0 b0, ()), ()), ((), ((), ())))
  unfold f25_tree
  have ha : a0.length ≤ BIG := hw.1.1.1
  by_cases hl : a0.length = b0.length
  · rw [eval_ite_f (len_eq hl)]
    have := eq_loop (f := f25_L0) a0 b0 (fun i => ((a0, (b0, (((i : Nat) : Int), ()))), ())) (y := ((), ())) (z := ((false, ()), ())) hl ha
      (fun i hi hi' he => by
        have := wrap_succ (i := i) (by omega)
        have h3 : ∀ x y : OpenD, eqOpenV x.1 x.2.1 x.2.2.1 x.2.2.2.1 x.2.2.2.2.1 y.1 y.2.1 y.2.2.1 y.2.2.2.1 y.2.2.2.2.1 = decide (x = y) := fun _ _ => rfl
        simp [f25_L0, Out.eval, hi, hi', he, this, h3])
      (fun i hi hi' he => by
        have h3 : ∀ x y : OpenD, eqOpenV x.1 x.2.1 x.2.2.1 x.2.2.2.1 x.2.2.2.2.1 y.1 y.2.1 y.2.2.1 y.2.2.2.1 y.2.2.2.2.1 = decide (x = y) := fun _ _ => rfl
        simp [f25_L0, Out.eval, hi, hi', he, cond_eq_ite, h3])
      (by simp [f25_L0, Out.eval])
    refine (eval_get_some this).trans ?_
    unfold eqOpenSV
    by_cases hab : a0 = b0
    · simp only [if_pos hab, decide_eq_true hab]; rfl
    · simp only [if_neg hab, decide_eq_false hab]; rfl
  · rw [eval_ite_t (len_ne hl)]
    have : eqOpenSV a0 b0 = false := decide_eq_false fun e => hl (by rw [e])
    rw [this]
    rfl
def f66_tree (a0 : Int) (a1 : List Int) (a2 : Int) (a3 : List Int) : Out (((Bool × Unit) × Unit) × (Unit × Unit × Unit)) :=
 .ite ((a0 != a2))
 (.ret (((false, ()), ()), ((), (), ())))
 (.ite (!(eqIntSV a1 a3))
 (.ret (((false, ()), ()), ((), (), ())))
 (.ret (((true, ()), ()), ((), (), ()))))
def k66 : Con := { f := 66, lend := true, its := [⟨false, true, [.i .i64, .ro (.int .i64)]⟩, ⟨false, true, [.i .i64, .ro (.int .i64)]⟩], lay := [none, none], rs := [⟨false, false, [.b]⟩], F := fun x => .ret ((((eqCpuV x.1.1 x.1.2.1 x.2.1.1 x.2.1.2.1), ()), ()), ((), (), ())) }
theorem f66_eq (x : itemsD k66.its) : bo [k28] (fun _ => none) Tryz.f66 k66 [.tmp 4] x = f66_tree x.1.1 x.1.2.1 x.2.1.1 x.2.1.2.1 := by kernel_rfl
theorem f66_ok (hr : ∀ x : CpuD × CpuD × Unit, itemsWF k66.its x → (f66_tree x.1.1 x.1.2.1 x.2.1.1 x.2.1.2.1).eval = (k66.F x).eval) : k66.Ok Tryz.prog := con_fn [k28] ⟨k28_ok, trivial⟩ f66_eq fun x hw _ hy => (hr x hw).trans hy
theorem k66_ok : k66.Ok Tryz.prog := by
  refine f66_ok fun x hw => ?_
  obtain ⟨⟨a0, a1, _⟩, ⟨b0, b1, _⟩, _⟩ := x
  show (f66_tree a0 a1 b0 b1).eval = some (((eqCpuV a0 a1 b0 b1, ()), ()), ((), ((), ())))
  unfold f66_tree
  unfold eqCpuV eqIntSV
  by_cases h0 : a0 = b0
  case neg => simp [Out.eval, h0, cond_eq_ite]
  subst h0
  by_cases h1 : a1 = b1
  case neg => simp [Out.eval, h1, cond_eq_ite]
  subst h1
  simp [Out.eval, cond_eq_ite]
def szcCpuS (a : List CpuD) : Nat := a.length + sumBy (fun x => szcCpu x) a
def mkcCpuS (a : List CpuD) : Nat := sumBy mkcCpu a
def mkdCpuS (k : Int) (a : List CpuD) : List CpuD := mkdL mkcCpu mkdCpu k a
theorem mkcCpuS_d (k : Int) (a : List CpuD) : mkcCpuS (mkdCpuS k a) = mkcCpuS a := mkcL_d mkcCpu_d k a
theorem mkdCpuS_d (j k : Int) (a : List CpuD) : mkdCpuS j (mkdCpuS k a) = mkdCpuS j a := mkdL_d mkcCpu_d mkdCpu_d j k a
theorem mkcCpuS_le (a : List CpuD) : mkcCpuS a ≤ 64 * szcCpuS a := mkcL_le (s := fun x => szcCpu x) (fun x => by have := mkcCpu_le x; omega) a
abbrev f26_S0 := (List CpuD × List CpuD × Int × Unit) × (Unit)
def f26_L0 : f26_S0 → Out (Round f26_S0 ((Unit) × (Unit)) ((Bool × Unit) × (Unit)))
| ((p0, p1, p2, _), _) =>
 .ite (decide (p2 < ((List.length p0 : Nat) : Int)))
 (.ite (decide (0 ≤ p2))
 (.get (nth p0 (Int.toNat p2)) fun y1 =>
 .ite (decide (0 ≤ p2))
 (.get (nth p1 (Int.toNat p2)) fun y2 =>
 .ite (!(eqCpuV y1.1 y1.2.1 y2.1 y2.2.1))
 (.ret (.ret ((false, ()), ())))
 (.ret (.again ((p0, p1, (IntKind.i64.wrap (p2 + (1 : Int))), ()), ()))))
 .fail)
 .fail)
 (.ret (.out ((), ())))
def f26_tree (a0 : List CpuD) (a1 : List CpuD) : Out (((Bool × Unit) × Unit) × (Unit × Unit × Unit)) :=
 .ite ((((List.length a0 : Nat) : Int) != ((List.length a1 : Nat) : Int)))
 (.ret (((false, ()), ()), ((), (), ())))
 (.get (iter f26_L0 FUEL ((a0, a1, (0 : Int), ()), ())) fun y1 => .alt y1 (fun y2 =>
 .ret (((true, ()), ()), ((), (), ()))) (fun y3 =>
 .ret (((y3.1.1, ()), ()), ((), (), ()))))
def f26_A : Nat → Option LoopAnn := fun n => annOf [(0, { head := { t := [.ro tyF (some 0), .ro tyF (some 1), .dead, .dead, .dead, .i .i64] ++ dd 21, v := [] }, out := { t := dd 27, v := [] }, ret := some { t := dd 4 ++ [.b] ++ dd 22, v := [] } })] n
def eqCpuSV (a0 : List CpuD) (b0 : List CpuD) : Bool := decide ((a0 : List CpuD) = b0)
def k26 : Con := { f := 26, lend := true, its := [⟨false, false, [.ro tyF]⟩, ⟨false, false, [.ro tyF]⟩], lay := [none, none], rs := [⟨false, false, [.b]⟩], F := fun x => .ret ((((eqCpuSV x.1.1 x.2.1.1), ()), ()), ((), (), ())) }
theorem f26_eq (x : itemsD k26.its) : bo [k66] f26_A Tryz.f26 k26 [.tmp 4] x = f26_tree x.1.1 x.2.1.1 := by kernel_rfl
theorem f26_ok (hr : ∀ x : (List CpuD × Unit) × (List CpuD × Unit) × Unit, itemsWF k26.its x → (f26_tree x.1.1 x.2.1.1).eval = (k26.F x).eval) : k26.Ok Tryz.prog := con_fn [k66] ⟨k66_ok, trivial⟩ f26_eq fun x hw _ hy => (hr x hw).trans hy
theorem k26_ok : k26.Ok Tryz.prog := by
  refine f26_ok fun x hw => ?_
  obtain ⟨⟨a0, _⟩, ⟨b0, _⟩, _⟩ := x
  show (f26_tree a0 b0).eval = some (((eqCpuSV a0 b0, ()), ()), ((), ((), ())))
  unfold f26_tree
  have ha : a0.length ≤ BIG := hw.1.1.1
  by_cases hl : a0.length = b0.length
  · rw [eval_ite_f (len_eq hl)]
    have := eq_loop (f := f26_L0) a0 b0 (fun i => ((a0, (b0, (((i : Nat) : Int), ()))), ())) (y := ((), ())) (z := ((false, ()), ())) hl ha
      (fun i hi hi' he => by
        have := wrap_succ (i := i) (by omega)
        have h3 : ∀ x y : CpuD, eqCpuV x.1 x.2.1 y.1 y.2.1 = decide (x = y) := fun _ _ => rfl
        simp [f26_L0, Out.eval, hi, hi', he, this, h3])
      (fun i hi hi' he => by
        have h3 : ∀ x y : CpuD, eqCpuV x.1 x.2.1 y.1 y.2.1 = decide (x = y) := fun _ _ => rfl
        simp [f26_L0, Out.eval, hi, hi', he, cond_eq_ite, h3])
      (by simp [f26_L0, Out.eval])
    refine (eval_get_some this).trans ?_
    unfold eqCpuSV
    by_cases hab : a0 = b0
    · simp only [if_pos hab, decide_eq_true hab]; rfl
    · simp only [if_neg hab, decide_eq_false hab]; rfl
  · rw [eval_ite_t (len_ne hl)]
    have : eqCpuSV a0 b0 = false := decide_eq_false fun e => hl (by rw [e])
    rw [this]
    rfl
def f67_tree (a0 : Int) (a1 : List Int) (a2 : Int) (a3 : List Int) : Out (((Bool × Unit) × Unit) × (Unit × Unit × Unit)) :=
 .ite ((a0 != a2))
 (.ret (((false, ()), ()), ((), (), ())))
 (.ite (!(eqIntSV a1 a3))
 (.ret (((false, ()), ()), ((), (), ())))
 (.ret (((true, ()), ()), ((), (), ()))))
def k67 : Con := { f := 67, lend := true, its := [⟨false, true, [.i .i64, .ro (.int .i64)]⟩, ⟨false, true, [.i .i64, .ro (.int .i64)]⟩], lay := [none, none], rs := [⟨false, false, [.b]⟩], F := fun x => .ret ((((eqCpuV x.1.1 x.1.2.1 x.2.1.1 x.2.1.2.1), ()), ()), ((), (), ())) }
theorem f67_eq (x : itemsD k67.its) : bo [k28] (fun _ => none) Tryz.f67 k67 [.tmp 4] x = f67_tree x.1.1 x.1.2.1 x.2.1.1 x.2.1.2.1 := by kernel_rfl
theorem f67_ok (hr : ∀ x : CpuD × CpuD × Unit, itemsWF k67.its x → (f67_tree x.1.1 x.1.2.1 x.2.1.1 x.2.1.2.1).eval = (k67.F x).eval) : k67.Ok Tryz.prog := con_fn [k28] ⟨k28_ok, trivial⟩ f67_eq fun x hw _ hy => (hr x hw).trans hy
theorem k67_ok : k67.Ok Tryz.prog := by
  refine f67_ok fun x hw => ?_
  obtain ⟨⟨a0, a1, _⟩, ⟨b0, b1, _⟩, _⟩ := x
  show (f67_tree a0 a1 b0 b1).eval = some (((eqCpuV a0 a1 b0 b1, ()), ()), ((), ((), ())))
  unfold f67_tree
  unfold eqCpuV eqIntSV
  by_cases h0 : a0 = b0
  case neg => simp [Out.eval, h0, cond_eq_ite]
  subst h0
  by_cases h1 : a1 = b1
  case neg => simp [Out.eval, h1, cond_eq_ite]
  subst h1
  simp [Out.eval, cond_eq_ite]
abbrev f27_S0 := (List CpuD × List CpuD × Int × Unit) × (Unit)
def f27_L0 : f27_S0 → Out (Round f27_S0 ((Unit) × (Unit)) ((Bool × Unit) × (Unit)))
| ((p0, p1, p2, _), _) =>
 .ite (decide (p2 < ((List.length p0 : Nat) : Int)))
 (.ite (decide (0 ≤ p2))
 (.get (nth p0 (Int.toNat p2)) fun y1 =>
 .ite (decide (0 ≤ p2))
 (.get (nth p1 (Int.toNat p2)) fun y2 =>
 .ite (!(eqCpuV y1.1 y1.2.1 y2.1 y2.2.1))
 (.ret (.ret ((false, ()), ())))
 (.ret (.again ((p0, p1, (IntKind.i64.wrap (p2 + (1 : Int))), ()), ()))))
 .fail)
 .fail)
 (.ret (.out ((), ())))
def f27_tree (a0 : List CpuD) (a1 : List CpuD) : Out (((Bool × Unit) × Unit) × (Unit × Unit × Unit)) :=
 .ite ((((List.length a0 : Nat) : Int) != ((List.length a1 : Nat) : Int)))
 (.ret (((false, ()), ()), ((), (), ())))
 (.get (iter f27_L0 FUEL ((a0, a1, (0 : Int), ()), ())) fun y1 => .alt y1 (fun y2 =>
 .ret (((true, ()), ()), ((), (), ()))) (fun y3 =>
 .ret (((y3.1.1, ()), ()), ((), (), ()))))
def f27_A : Nat → Option LoopAnn := fun n => annOf [(0, { head := { t := [.ro tyF (some 0), .ro tyF (some 1), .dead, .dead, .dead, .i .i64] ++ dd 21, v := [] }, out := { t := dd 27, v := [] }, ret := some { t := dd 4 ++ [.b] ++ dd 22, v := [] } })] n
def k27 : Con := { f := 27, lend := true, its := [⟨false, false, [.ro tyF]⟩, ⟨false, false, [.ro tyF]⟩], lay := [none, none], rs := [⟨false, false, [.b]⟩], F := fun x => .ret ((((eqCpuSV x.1.1 x.2.1.1), ()), ()), ((), (), ())) }
theorem f27_eq (x : itemsD k27.its) : bo [k67] f27_A Tryz.f27 k27 [.tmp 4] x = f27_tree x.1.1 x.2.1.1 := by kernel_rfl
theorem f27_ok (hr : ∀ x : (List CpuD × Unit) × (List CpuD × Unit) × Unit, itemsWF k27.its x → (f27_tree x.1.1 x.2.1.1).eval = (k27.F x).eval) : k27.Ok Tryz.prog := con_fn [k67] ⟨k67_ok, trivial⟩ f27_eq fun x hw _ hy => (hr x hw).trans hy
theorem k27_ok : k27.Ok Tryz.prog := by
  refine f27_ok fun x hw => ?_
  obtain ⟨⟨a0, _⟩, ⟨b0, _⟩, _⟩ := x
  show (f27_tree a0 b0).eval = some (((eqCpuSV a0 b0, ()), ()), ((), ((), ())))
  unfold f27_tree
  have ha : a0.length ≤ BIG := hw.1.1.1
  by_cases hl : a0.length = b0.length
  · rw [eval_ite_f (len_eq hl)]
    have := eq_loop (f := f27_L0) a0 b0 (fun i => ((a0, (b0, (((i : Nat) : Int), ()))), ())) (y := ((), ())) (z := ((false, ()), ())) hl ha
      (fun i hi hi' he => by
        have := wrap_succ (i := i) (by omega)
        have h3 : ∀ x y : CpuD, eqCpuV x.1 x.2.1 y.1 y.2.1 = decide (x = y) := fun _ _ => rfl
        simp [f27_L0, Out.eval, hi, hi', he, this, h3])
      (fun i hi hi' he => by
        have h3 : ∀ x y : CpuD, eqCpuV x.1 x.2.1 y.1 y.2.1 = decide (x = y) := fun _ _ => rfl
        simp [f27_L0, Out.eval, hi, hi', he, cond_eq_ite, h3])
      (by simp [f27_L0, Out.eval])
    refine (eval_get_some this).trans ?_
    unfold eqCpuSV
    by_cases hab : a0 = b0
    · simp only [if_pos hab, decide_eq_true hab]; rfl
    · simp only [if_neg hab, decide_eq_false hab]; rfl
  · rw [eval_ite_t (len_ne hl)]
    have : eqCpuSV a0 b0 = false := decide_eq_false fun e => hl (by rw [e])
    rw [this]
    rfl
abbrev UnixD := Int × (Int × (List (List InsD) × (List ProcD × (List OpenD × (List CpuD × (List CpuD × (List Int × (List Int × Unit))))))))
instance dqUnix : DecidableEq UnixD := (@instDecidableEqProd _ _ inferInstance (@instDecidableEqProd _ _ inferInstance (@instDecidableEqProd _ _ inferInstance (@instDecidableEqProd _ _ inferInstance (@instDecidableEqProd _ _ inferInstance (@instDecidableEqProd _ _ inferInstance (@instDecidableEqProd _ _ inferInstance (@instDecidableEqProd _ _ inferInstance (@instDecidableEqProd _ _ inferInstance inferInstance)))))))))
def f7_tree (a0 : Int) (a1 : Int) (a2 : List (List InsD)) (a3 : List ProcD) (a4 : List OpenD) (a5 : List CpuD) (a6 : List CpuD) (a7 : List Int) (a8 : List Int) (a9 : Int) (a10 : Int) (a11 : List (List InsD)) (a12 : List ProcD) (a13 : List OpenD) (a14 : List CpuD) (a15 : List CpuD) (a16 : List Int) (a17 : List Int) : Out (((Bool × Unit) × Unit) × (Unit × Unit × Unit)) :=
 .ite ((a0 != a9))
 (.ret (((false, ()), ()), ((), (), ())))
 (.ite ((a1 != a10))
 (.ret (((false, ()), ()), ((), (), ())))
 (.ite (!(eqInsSSV a2 a11))
 (.ret (((false, ()), ()), ((), (), ())))
 (.ite (!(eqProcSV a3 a12))
 (.ret (((false, ()), ()), ((), (), ())))
 (.ite (!(eqOpenSV a4 a13))
 (.ret (((false, ()), ()), ((), (), ())))
 (.ite (!(eqCpuSV a5 a14))
 (.ret (((false, ()), ()), ((), (), ())))
 (.ite (!(eqCpuSV a6 a15))
 (.ret (((false, ()), ()), ((), (), ())))
 (.ite (!(eqIntSV a7 a16))
 (.ret (((false, ()), ()), ((), (), ())))
 (.ite (!(eqIntSV a8 a17))
 (.ret (((false, ()), ()), ((), (), ())))
 (.ret (((true, ()), ()), ((), (), ())))))))))))
def eqUnixV (a0 : Int) (a1 : Int) (a2 : List (List InsD)) (a3 : List ProcD) (a4 : List OpenD) (a5 : List CpuD) (a6 : List CpuD) (a7 : List Int) (a8 : List Int) (b0 : Int) (b1 : Int) (b2 : List (List InsD)) (b3 : List ProcD) (b4 : List OpenD) (b5 : List CpuD) (b6 : List CpuD) (b7 : List Int) (b8 : List Int) : Bool := decide (((a0, a1, a2, a3, a4, a5, a6, a7, a8, ()) : UnixD) = (b0, b1, b2, b3, b4, b5, b6, b7, b8, ()))
def k7 : Con := { f := 7, lend := true, its := [⟨false, true, [.i .i64, .i .i64, .ro (.sl tyN), .ro tyP, .ro tyO, .ro tyF, .ro tyF, .ro (.int .i64), .ro (.int .i64)]⟩, ⟨false, true, [.i .i64, .i .i64, .ro (.sl tyN), .ro tyP, .ro tyO, .ro tyF, .ro tyF, .ro (.int .i64), .ro (.int .i64)]⟩], lay := [none, none], rs := [⟨false, false, [.b]⟩], F := fun x => .ret ((((eqUnixV x.1.1 x.1.2.1 x.1.2.2.1 x.1.2.2.2.1 x.1.2.2.2.2.1 x.1.2.2.2.2.2.1 x.1.2.2.2.2.2.2.1 x.1.2.2.2.2.2.2.2.1 x.1.2.2.2.2.2.2.2.2.1 x.2.1.1 x.2.1.2.1 x.2.1.2.2.1 x.2.1.2.2.2.1 x.2.1.2.2.2.2.1 x.2.1.2.2.2.2.2.1 x.2.1.2.2.2.2.2.2.1 x.2.1.2.2.2.2.2.2.2.1 x.2.1.2.2.2.2.2.2.2.2.1), ()), ()), ((), (), ())) }
theorem f7_eq (x : itemsD k7.its) : bo [k23, k24, k25, k26, k27, k28] (fun _ => none) Tryz.f7 k7 [.tmp 4] x = f7_tree x.1.1 x.1.2.1 x.1.2.2.1 x.1.2.2.2.1 x.1.2.2.2.2.1 x.1.2.2.2.2.2.1 x.1.2.2.2.2.2.2.1 x.1.2.2.2.2.2.2.2.1 x.1.2.2.2.2.2.2.2.2.1 x.2.1.1 x.2.1.2.1 x.2.1.2.2.1 x.2.1.2.2.2.1 x.2.1.2.2.2.2.1 x.2.1.2.2.2.2.2.1 x.2.1.2.2.2.2.2.2.1 x.2.1.2.2.2.2.2.2.2.1 x.2.1.2.2.2.2.2.2.2.2.1 := by kernel_rfl
theorem f7_ok (hr : ∀ x : UnixD × UnixD × Unit, itemsWF k7.its x → (f7_tree x.1.1 x.1.2.1 x.1.2.2.1 x.1.2.2.2.1 x.1.2.2.2.2.1 x.1.2.2.2.2.2.1 x.1.2.2.2.2.2.2.1 x.1.2.2.2.2.2.2.2.1 x.1.2.2.2.2.2.2.2.2.1 x.2.1.1 x.2.1.2.1 x.2.1.2.2.1 x.2.1.2.2.2.1 x.2.1.2.2.2.2.1 x.2.1.2.2.2.2.2.1 x.2.1.2.2.2.2.2.2.1 x.2.1.2.2.2.2.2.2.2.1 x.2.1.2.2.2.2.2.2.2.2.1).eval = (k7.F x).eval) : k7.Ok Tryz.prog := con_fn [k23, k24, k25, k26, k27, k28] ⟨k23_ok, k24_ok, k25_ok, k26_ok, k27_ok, k28_ok, trivial⟩ f7_eq fun x hw _ hy => (hr x hw).trans hy
theorem k7_ok : k7.Ok Tryz.prog := by
  refine f7_ok fun x hw => ?_
  obtain ⟨⟨a0, a1, a2, a3, a4, a5, a6, a7, a8, _⟩, ⟨b0, b1, b2, b3, b4, b5, b6, b7, b8, _⟩, _⟩ := x
  show (f7_tree a0 a1 a2 a3 a4 a5 a6 a7 a8 b0 b1 b2 b3 b4 b5 b6 b7 b8).eval = some (((eqUnixV a0 a1 a2 a3 a4 a5 a6 a7 a8 b0 b1 b2 b3 b4 b5 b6 b7 b8, ()), ()), ((), ((), ())))
  unfold f7_tree
  unfold eqUnixV eqCpuSV eqInsSSV eqIntSV eqOpenSV eqProcSV
  by_cases h0 : a0 = b0
  case neg => simp [Out.eval, h0, cond_eq_ite]
  subst h0
  by_cases h1 : a1 = b1
  case neg => simp [Out.eval, h1, cond_eq_ite]
  subst h1
  by_cases h2 : a2 = b2
  case neg => simp [Out.eval, h2, cond_eq_ite]
  subst h2
  by_cases h3 : a3 = b3
  case neg => simp [Out.eval, h3, cond_eq_ite]
  subst h3
  by_cases h4 : a4 = b4
  case neg => simp [Out.eval, h4, cond_eq_ite]
  subst h4
  by_cases h5 : a5 = b5
  case neg => simp [Out.eval, h5, cond_eq_ite]
  subst h5
  by_cases h6 : a6 = b6
  case neg => simp [Out.eval, h6, cond_eq_ite]
  subst h6
  by_cases h7 : a7 = b7
  case neg => simp [Out.eval, h7, cond_eq_ite]
  subst h7
  by_cases h8 : a8 = b8
  case neg => simp [Out.eval, h8, cond_eq_ite]
  subst h8
  simp [Out.eval, cond_eq_ite]
abbrev f34_S0 := (Int × Int × Unit) × (List Int × Unit)
def f34_L0 : f34_S0 → Out (Round f34_S0 ((Int × Unit) × (List Int × Unit)) Empty)
| ((p0, p1, _), p2, _) =>
 .ite (decide (p1 < ((List.length p2 : Nat) : Int)))
 (.ite (decide (0 ≤ p1 ∧ p1 < ((List.length p2 : Nat) : Int)))
 (.get (nth p2 (Int.toNat p1)) fun y1 =>
 .ret (.again (((IntKind.i64.wrap (p0 + (1 : Int))), (IntKind.i64.wrap (p1 + (1 : Int))), ()), ((List.set p2 (Int.toNat p1) p0), ()))))
 .fail)
 (.ret (.out ((p0, ()), (p2, ()))))
def f34_tree (a0 : List Int) (a1 : Int) : Out (((Int × Unit) × Unit) × ((List Int × Unit) × Unit × Unit)) :=
 .get (iter1 f34_L0 FUEL ((a1, (0 : Int), ()), (a0, ()))) fun y1 =>
 .ret (((y1.1.1, ()), ()), ((y1.2.1, ()), (), ()))
def f34_A : Nat → Option LoopAnn := fun n => annOf [(0, { head := { t := [.srf 0, .i .i64, .dead, .dead, .dead, .i .i64] ++ dd 13, v := [(0, .arr (.int .i64))] }, out := { t := [.srf 0, .i .i64] ++ dd 17, v := [(0, .arr (.int .i64))] }, ret := none })] n
def markIntSV (a0 : List Int) (k : Int) : Option (Int × (List Int)) := mkP (mkcIntS a0) k (mkdIntS (k) a0)
def k34 : Con := { f := 34, lend := true, its := [⟨false, false, [.mut (.int .i64)]⟩, ⟨false, false, [.i .i64]⟩], lay := [none, none], rs := [⟨false, false, [.i .i64]⟩], F := fun x => .get (markIntSV x.1.1 x.2.1.1) fun y => .ret (((y.1, ()), ()), ((y.2, ()), (), ())) }
theorem f34_eq (x : itemsD k34.its) : bo [] f34_A Tryz.f34 k34 [.tmp 4] x = f34_tree x.1.1 x.2.1.1 := by kernel_rfl
theorem f34_okp (hr : ∀ x : (List Int × Unit) × (Int × Unit) × Unit, itemsWF k34.its x → ∀ y, (k34.F x).eval = some y → (f34_tree x.1.1 x.2.1.1).eval = some y) : k34.Ok Tryz.prog := con_fn [] trivial f34_eq hr
theorem k34_ok : k34.Ok Tryz.prog := by
  refine f34_okp fun x hw y hy => ?_
  obtain ⟨⟨a0, _⟩, ⟨k, _⟩, _⟩ := x
  change (Out.get (markIntSV a0 k) fun y => Out.ret (((y.1, ()), ()), ((y.2, ()), (), ()))).eval = some y at hy
  obtain ⟨h0, h1, hy⟩ := mkP_get hy
  refine Eq.trans ?_ hy
  show (f34_tree a0 k).eval = _
  unfold f34_tree
  have ha : a0.length ≤ BIG := hw.1.1.1
  have := mk_loop (f := f34_L0) a0 mkcInt mkdInt (fun k l i => ((k, (((i : Nat) : Int), ())), (l, ()))) (fun k l => ((k, ()), (l, ())))
    (fun i hi k l hl h3 h0 hk => by
      have h1 := wrap_succ (i := i) (by omega)
      have h2 : i < l.length := by omega
      have h4 : l[i] = a0[i] := by rw [List.getElem?_eq_getElem h2] at h3; exact Option.some.inj h3
      have w1 : IntKind.i64.wrap (k + 1) = k + 1 := wrap1 (by omega) (by omega)
      simp [f34_L0, Out.eval, h1, h2, h3, h4, hl, hi, mkcInt, mkdInt, w1] <;> omega)
    (fun k l hl => by simp [f34_L0, Out.eval, hl]) ha h0 h1
  refine (eval_get_some this).trans ?_
  rfl
abbrev f68_S0 := (Int × Int × Unit) × (List InsD × Unit)
def f68_L0 : f68_S0 → Out (Round f68_S0 ((Int × Unit) × (List InsD × Unit)) Empty)
| ((p0, p1, _), p2, _) =>
 .ite (decide (p1 < ((List.length p2 : Nat) : Int)))
 (.ite (decide (0 ≤ p1 ∧ p1 < ((List.length p2 : Nat) : Int)))
 (.get (nth p2 (Int.toNat p1)) fun y1 =>
 .ite (decide (0 ≤ p1 ∧ p1 < ((List.length (List.set p2 (Int.toNat p1) (p0, y1.2)) : Nat) : Int)))
 (.get (nth (List.set p2 (Int.toNat p1) (p0, y1.2)) (Int.toNat p1)) fun y2 =>
 .ite (decide (0 ≤ p1 ∧ p1 < ((List.length (List.set (List.set p2 (Int.toNat p1) (p0, y1.2)) (Int.toNat p1) (y2.1, ((IntKind.i64.wrap (p0 + (1 : Int))), y2.2.2))) : Nat) : Int)))
 (.get (nth (List.set (List.set p2 (Int.toNat p1) (p0, y1.2)) (Int.toNat p1) (y2.1, ((IntKind.i64.wrap (p0 + (1 : Int))), y2.2.2))) (Int.toNat p1)) fun y3 =>
 .ite (decide (0 ≤ p1 ∧ p1 < ((List.length (List.set (List.set (List.set p2 (Int.toNat p1) (p0, y1.2)) (Int.toNat p1) (y2.1, ((IntKind.i64.wrap (p0 + (1 : Int))), y2.2.2))) (Int.toNat p1) (y3.1, (y3.2.1, ((IntKind.i64.wrap ((IntKind.i64.wrap (p0 + (1 : Int))) + (1 : Int))), y3.2.2.2)))) : Nat) : Int)))
 (.get (nth (List.set (List.set (List.set p2 (Int.toNat p1) (p0, y1.2)) (Int.toNat p1) (y2.1, ((IntKind.i64.wrap (p0 + (1 : Int))), y2.2.2))) (Int.toNat p1) (y3.1, (y3.2.1, ((IntKind.i64.wrap ((IntKind.i64.wrap (p0 + (1 : Int))) + (1 : Int))), y3.2.2.2)))) (Int.toNat p1)) fun y4 =>
 .ret (.again (((IntKind.i64.wrap ((IntKind.i64.wrap ((IntKind.i64.wrap ((IntKind.i64.wrap (p0 + (1 : Int))) + (1 : Int))) + (1 : Int))) + (1 : Int))), (IntKind.i64.wrap (p1 + (1 : Int))), ()), ((List.set (List.set (List.set (List.set p2 (Int.toNat p1) (p0, y1.2)) (Int.toNat p1) (y2.1, ((IntKind.i64.wrap (p0 + (1 : Int))), y2.2.2))) (Int.toNat p1) (y3.1, (y3.2.1, ((IntKind.i64.wrap ((IntKind.i64.wrap (p0 + (1 : Int))) + (1 : Int))), y3.2.2.2)))) (Int.toNat p1) (y4.1, (y4.2.1, (y4.2.2.1, ((IntKind.i64.wrap ((IntKind.i64.wrap ((IntKind.i64.wrap (p0 + (1 : Int))) + (1 : Int))) + (1 : Int))), y4.2.2.2.2))))), ()))))
 .fail)
 .fail)
 .fail)
 .fail)
 (.ret (.out ((p0, ()), (p2, ()))))
def f68_tree (a0 : List InsD) (a1 : Int) : Out (((Int × Unit) × Unit) × ((List InsD × Unit) × Unit × Unit)) :=
 .get (iter1 f68_L0 FUEL ((a1, (0 : Int), ()), (a0, ()))) fun y1 =>
 .ret (((y1.1.1, ()), ()), ((y1.2.1, ()), (), ()))
def f68_A : Nat → Option LoopAnn := fun n => annOf [(0, { head := { t := [.srf 0, .i .i64, .dead, .dead, .dead, .i .i64] ++ dd 35, v := [(0, .arr tyN)] }, out := { t := [.srf 0, .i .i64] ++ dd 39, v := [(0, .arr tyN)] }, ret := none })] n
def markInsSV (a0 : List InsD) (k : Int) : Option (Int × (List InsD)) := mkP (mkcInsS a0) k (mkdInsS (k) a0)
def k68 : Con := { f := 68, lend := true, its := [⟨false, false, [.mut tyN]⟩, ⟨false, false, [.i .i64]⟩], lay := [none, none], rs := [⟨false, false, [.i .i64]⟩], F := fun x => .get (markInsSV x.1.1 x.2.1.1) fun y => .ret (((y.1, ()), ()), ((y.2, ()), (), ())) }
theorem f68_eq (x : itemsD k68.its) : bo [] f68_A Tryz.f68 k68 [.tmp 4] x = f68_tree x.1.1 x.2.1.1 := by kernel_rfl
theorem f68_okp (hr : ∀ x : (List InsD × Unit) × (Int × Unit) × Unit, itemsWF k68.its x → ∀ y, (k68.F x).eval = some y → (f68_tree x.1.1 x.2.1.1).eval = some y) : k68.Ok Tryz.prog := con_fn [] trivial f68_eq hr
theorem k68_ok : k68.Ok Tryz.prog := by
  refine f68_okp fun x hw y hy => ?_
  obtain ⟨⟨a0, _⟩, ⟨k, _⟩, _⟩ := x
  change (Out.get (markInsSV a0 k) fun y => Out.ret (((y.1, ()), ()), ((y.2, ()), (), ()))).eval = some y at hy
  obtain ⟨h0, h1, hy⟩ := mkP_get hy
  refine Eq.trans ?_ hy
  show (f68_tree a0 k).eval = _
  unfold f68_tree
  have ha : a0.length ≤ BIG := hw.1.1.1
  have := mk_loop (f := f68_L0) a0 mkcIns mkdIns (fun k l i => ((k, (((i : Nat) : Int), ())), (l, ()))) (fun k l => ((k, ()), (l, ())))
    (fun i hi k l hl h3 h0 hk => by
      have h1 := wrap_succ (i := i) (by omega)
      have h2 : i < l.length := by omega
      have h4 : l[i] = a0[i] := by rw [List.getElem?_eq_getElem h2] at h3; exact Option.some.inj h3
      unfold mkcIns at hk
      have w1 : IntKind.i64.wrap (k + 1) = k + 1 := wrap1 (by omega) (by omega)
      have w2 : IntKind.i64.wrap (k + 1 + 1) = k + 1 + 1 := wrap1 (by omega) (by omega)
      have w3 : IntKind.i64.wrap (k + 1 + 1 + 1) = k + 1 + 1 + 1 := wrap1 (by omega) (by omega)
      have w4 : IntKind.i64.wrap (k + 1 + 1 + 1 + 1) = k + 1 + 1 + 1 + 1 := wrap1 (by omega) (by omega)
      simp [f68_L0, Out.eval, h1, h2, h3, h4, hl, hi, mkcIns, mkdIns, w1, w2, w3, w4] <;> omega)
    (fun k l hl => by simp [f68_L0, Out.eval, hl]) ha h0 h1
  refine (eval_get_some this).trans ?_
  rfl
abbrev f29_S0 := (Int × Int × Unit) × (List (List InsD) × Unit)
def f29_L0 : f29_S0 → Out (Round f29_S0 ((Int × Unit) × (List (List InsD) × Unit)) Empty)
| ((p0, p1, _), p2, _) =>
 .ite (decide (p1 < ((List.length p2 : Nat) : Int)))
 (.ite (decide (0 ≤ p1 ∧ p1 < ((List.length p2 : Nat) : Int)))
 (.get (nth p2 (Int.toNat p1)) fun y1 =>
 .get (markInsSV y1 p0) fun y2 =>
 .ret (.again ((y2.1, (IntKind.i64.wrap (p1 + (1 : Int))), ()), ((List.set p2 (Int.toNat p1) y2.2), ()))))
 .fail)
 (.ret (.out ((p0, ()), (p2, ()))))
def f29_tree (a0 : List (List InsD)) (a1 : Int) : Out (((Int × Unit) × Unit) × ((List (List InsD) × Unit) × Unit × Unit)) :=
 .get (iter1 f29_L0 FUEL ((a1, (0 : Int), ()), (a0, ()))) fun y1 =>
 .ret (((y1.1.1, ()), ()), ((y1.2.1, ()), (), ()))
def f29_A : Nat → Option LoopAnn := fun n => annOf [(0, { head := { t := [.srf 0, .i .i64, .dead, .dead, .dead, .i .i64] ++ dd 13, v := [(0, .arr (.sl tyN))] }, out := { t := [.srf 0, .i .i64] ++ dd 17, v := [(0, .arr (.sl tyN))] }, ret := none })] n
def markInsSSV (a0 : List (List InsD)) (k : Int) : Option (Int × (List (List InsD))) := mkP (mkcInsSS a0) k (mkdInsSS (k) a0)
def k29 : Con := { f := 29, lend := true, its := [⟨false, false, [.mut (.sl tyN)]⟩, ⟨false, false, [.i .i64]⟩], lay := [none, none], rs := [⟨false, false, [.i .i64]⟩], F := fun x => .get (markInsSSV x.1.1 x.2.1.1) fun y => .ret (((y.1, ()), ()), ((y.2, ()), (), ())) }
theorem f29_eq (x : itemsD k29.its) : bo [k68] f29_A Tryz.f29 k29 [.tmp 4] x = f29_tree x.1.1 x.2.1.1 := by kernel_rfl
theorem f29_okp (hr : ∀ x : (List (List InsD) × Unit) × (Int × Unit) × Unit, itemsWF k29.its x → ∀ y, (k29.F x).eval = some y → (f29_tree x.1.1 x.2.1.1).eval = some y) : k29.Ok Tryz.prog := con_fn [k68] ⟨k68_ok, trivial⟩ f29_eq hr
theorem k29_ok : k29.Ok Tryz.prog := by
  refine f29_okp fun x hw y hy => ?_
  obtain ⟨⟨a0, _⟩, ⟨k, _⟩, _⟩ := x
  change (Out.get (markInsSSV a0 k) fun y => Out.ret (((y.1, ()), ()), ((y.2, ()), (), ()))).eval = some y at hy
  obtain ⟨h0, h1, hy⟩ := mkP_get hy
  refine Eq.trans ?_ hy
  show (f29_tree a0 k).eval = _
  unfold f29_tree
  have ha : a0.length ≤ BIG := hw.1.1.1
  have := mk_loop (f := f29_L0) a0 mkcInsS mkdInsS (fun k l i => ((k, (((i : Nat) : Int), ())), (l, ()))) (fun k l => ((k, ()), (l, ())))
    (fun i hi k l hl h3 h0 hk => by
      have h1 := wrap_succ (i := i) (by omega)
      have h2 : i < l.length := by omega
      have h4 : l[i] = a0[i] := by rw [List.getElem?_eq_getElem h2] at h3; exact Option.some.inj h3
      have w1 : markInsSV a0[i] (k) = some (k + (mkcInsS a0[i] : Nat), mkdInsS (k) a0[i]) := mkP_in (by omega) (by omega)
      simp [f29_L0, Out.eval, h1, h2, h3, h4, hl, hi, w1] <;> omega)
    (fun k l hl => by simp [f29_L0, Out.eval, hl]) ha h0 h1
  refine (eval_get_some this).trans ?_
  rfl
abbrev f30_S0 := (Int × Int × Unit) × (List ProcD × Unit)
def f30_L0 : f30_S0 → Out (Round f30_S0 ((Int × Unit) × (List ProcD × Unit)) Empty)
| ((p0, p1, _), p2, _) =>
 .ite (decide (p1 < ((List.length p2 : Nat) : Int)))
 (.ite (decide (0 ≤ p1 ∧ p1 < ((List.length p2 : Nat) : Int)))
 (.get (nth p2 (Int.toNat p1)) fun y1 =>
 .ite (decide (0 ≤ p1 ∧ p1 < ((List.length (List.set p2 (Int.toNat p1) (p0, y1.2)) : Nat) : Int)))
 (.get (nth (List.set p2 (Int.toNat p1) (p0, y1.2)) (Int.toNat p1)) fun y2 =>
 .ite (decide (0 ≤ p1 ∧ p1 < ((List.length (List.set (List.set p2 (Int.toNat p1) (p0, y1.2)) (Int.toNat p1) (y2.1, ((IntKind.i64.wrap (p0 + (1 : Int))), y2.2.2))) : Nat) : Int)))
 (.get (nth (List.set (List.set p2 (Int.toNat p1) (p0, y1.2)) (Int.toNat p1) (y2.1, ((IntKind.i64.wrap (p0 + (1 : Int))), y2.2.2))) (Int.toNat p1)) fun y3 =>
 .ite (decide (0 ≤ p1 ∧ p1 < ((List.length (List.set (List.set (List.set p2 (Int.toNat p1) (p0, y1.2)) (Int.toNat p1) (y2.1, ((IntKind.i64.wrap (p0 + (1 : Int))), y2.2.2))) (Int.toNat p1) (y3.1, (y3.2.1, ((IntKind.i64.wrap ((IntKind.i64.wrap (p0 + (1 : Int))) + (1 : Int))), y3.2.2.2)))) : Nat) : Int)))
 (.get (nth (List.set (List.set (List.set p2 (Int.toNat p1) (p0, y1.2)) (Int.toNat p1) (y2.1, ((IntKind.i64.wrap (p0 + (1 : Int))), y2.2.2))) (Int.toNat p1) (y3.1, (y3.2.1, ((IntKind.i64.wrap ((IntKind.i64.wrap (p0 + (1 : Int))) + (1 : Int))), y3.2.2.2)))) (Int.toNat p1)) fun y4 =>
 .ite (decide (0 ≤ p1 ∧ p1 < ((List.length (List.set (List.set (List.set (List.set p2 (Int.toNat p1) (p0, y1.2)) (Int.toNat p1) (y2.1, ((IntKind.i64.wrap (p0 + (1 : Int))), y2.2.2))) (Int.toNat p1) (y3.1, (y3.2.1, ((IntKind.i64.wrap ((IntKind.i64.wrap (p0 + (1 : Int))) + (1 : Int))), y3.2.2.2)))) (Int.toNat p1) (y4.1, (y4.2.1, (y4.2.2.1, ((IntKind.i64.wrap ((IntKind.i64.wrap ((IntKind.i64.wrap (p0 + (1 : Int))) + (1 : Int))) + (1 : Int))), y4.2.2.2.2))))) : Nat) : Int)))
 (.get (nth (List.set (List.set (List.set (List.set p2 (Int.toNat p1) (p0, y1.2)) (Int.toNat p1) (y2.1, ((IntKind.i64.wrap (p0 + (1 : Int))), y2.2.2))) (Int.toNat p1) (y3.1, (y3.2.1, ((IntKind.i64.wrap ((IntKind.i64.wrap (p0 + (1 : Int))) + (1 : Int))), y3.2.2.2)))) (Int.toNat p1) (y4.1, (y4.2.1, (y4.2.2.1, ((IntKind.i64.wrap ((IntKind.i64.wrap ((IntKind.i64.wrap (p0 + (1 : Int))) + (1 : Int))) + (1 : Int))), y4.2.2.2.2))))) (Int.toNat p1)) fun y5 =>
 .ite (decide (0 ≤ p1 ∧ p1 < ((List.length (List.set (List.set (List.set (List.set (List.set p2 (Int.toNat p1) (p0, y1.2)) (Int.toNat p1) (y2.1, ((IntKind.i64.wrap (p0 + (1 : Int))), y2.2.2))) (Int.toNat p1) (y3.1, (y3.2.1, ((IntKind.i64.wrap ((IntKind.i64.wrap (p0 + (1 : Int))) + (1 : Int))), y3.2.2.2)))) (Int.toNat p1) (y4.1, (y4.2.1, (y4.2.2.1, ((IntKind.i64.wrap ((IntKind.i64.wrap ((IntKind.i64.wrap (p0 + (1 : Int))) + (1 : Int))) + (1 : Int))), y4.2.2.2.2))))) (Int.toNat p1) (y5.1, (y5.2.1, (y5.2.2.1, (y5.2.2.2.1, (((IntKind.i64.wrap ((IntKind.i64.wrap ((IntKind.i64.wrap ((IntKind.i64.wrap (p0 + (1 : Int))) + (1 : Int))) + (1 : Int))) + (1 : Int))), y5.2.2.2.2.1.2), y5.2.2.2.2.2)))))) : Nat) : Int)))
 (.get (nth (List.set (List.set (List.set (List.set (List.set p2 (Int.toNat p1) (p0, y1.2)) (Int.toNat p1) (y2.1, ((IntKind.i64.wrap (p0 + (1 : Int))), y2.2.2))) (Int.toNat p1) (y3.1, (y3.2.1, ((IntKind.i64.wrap ((IntKind.i64.wrap (p0 + (1 : Int))) + (1 : Int))), y3.2.2.2)))) (Int.toNat p1) (y4.1, (y4.2.1, (y4.2.2.1, ((IntKind.i64.wrap ((IntKind.i64.wrap ((IntKind.i64.wrap (p0 + (1 : Int))) + (1 : Int))) + (1 : Int))), y4.2.2.2.2))))) (Int.toNat p1) (y5.1, (y5.2.1, (y5.2.2.1, (y5.2.2.2.1, (((IntKind.i64.wrap ((IntKind.i64.wrap ((IntKind.i64.wrap ((IntKind.i64.wrap (p0 + (1 : Int))) + (1 : Int))) + (1 : Int))) + (1 : Int))), y5.2.2.2.2.1.2), y5.2.2.2.2.2)))))) (Int.toNat p1)) fun y6 =>
 .get (markIntSV y6.2.2.2.2.1.2.1 (IntKind.i64.wrap ((IntKind.i64.wrap ((IntKind.i64.wrap ((IntKind.i64.wrap ((IntKind.i64.wrap (p0 + (1 : Int))) + (1 : Int))) + (1 : Int))) + (1 : Int))) + (1 : Int)))) fun y7 =>
 .ite (decide (0 ≤ p1 ∧ p1 < ((List.length (List.set (List.set (List.set (List.set (List.set p2 (Int.toNat p1) (p0, y1.2)) (Int.toNat p1) (y2.1, ((IntKind.i64.wrap (p0 + (1 : Int))), y2.2.2))) (Int.toNat p1) (y3.1, (y3.2.1, ((IntKind.i64.wrap ((IntKind.i64.wrap (p0 + (1 : Int))) + (1 : Int))), y3.2.2.2)))) (Int.toNat p1) (y4.1, (y4.2.1, (y4.2.2.1, ((IntKind.i64.wrap ((IntKind.i64.wrap ((IntKind.i64.wrap (p0 + (1 : Int))) + (1 : Int))) + (1 : Int))), y4.2.2.2.2))))) (Int.toNat p1) (y5.1, (y5.2.1, (y5.2.2.1, (y5.2.2.2.1, (((IntKind.i64.wrap ((IntKind.i64.wrap ((IntKind.i64.wrap ((IntKind.i64.wrap (p0 + (1 : Int))) + (1 : Int))) + (1 : Int))) + (1 : Int))), y5.2.2.2.2.1.2), y5.2.2.2.2.2)))))) : Nat) : Int)))
 (.get (nth (List.set (List.set (List.set (List.set (List.set (List.set p2 (Int.toNat p1) (p0, y1.2)) (Int.toNat p1) (y2.1, ((IntKind.i64.wrap (p0 + (1 : Int))), y2.2.2))) (Int.toNat p1) (y3.1, (y3.2.1, ((IntKind.i64.wrap ((IntKind.i64.wrap (p0 + (1 : Int))) + (1 : Int))), y3.2.2.2)))) (Int.toNat p1) (y4.1, (y4.2.1, (y4.2.2.1, ((IntKind.i64.wrap ((IntKind.i64.wrap ((IntKind.i64.wrap (p0 + (1 : Int))) + (1 : Int))) + (1 : Int))), y4.2.2.2.2))))) (Int.toNat p1) (y5.1, (y5.2.1, (y5.2.2.1, (y5.2.2.2.1, (((IntKind.i64.wrap ((IntKind.i64.wrap ((IntKind.i64.wrap ((IntKind.i64.wrap (p0 + (1 : Int))) + (1 : Int))) + (1 : Int))) + (1 : Int))), y5.2.2.2.2.1.2), y5.2.2.2.2.2)))))) (Int.toNat p1) (y6.1, (y6.2.1, (y6.2.2.1, (y6.2.2.2.1, ((y6.2.2.2.2.1.1, (y7.2, y6.2.2.2.2.1.2.2)), y6.2.2.2.2.2)))))) (Int.toNat p1)) fun y8 =>
 .get (markIntSV y8.2.2.2.2.2.1 y7.1) fun y9 =>
 .ite (decide (0 ≤ p1 ∧ p1 < ((List.length (List.set (List.set (List.set (List.set (List.set (List.set p2 (Int.toNat p1) (p0, y1.2)) (Int.toNat p1) (y2.1, ((IntKind.i64.wrap (p0 + (1 : Int))), y2.2.2))) (Int.toNat p1) (y3.1, (y3.2.1, ((IntKind.i64.wrap ((IntKind.i64.wrap (p0 + (1 : Int))) + (1 : Int))), y3.2.2.2)))) (Int.toNat p1) (y4.1, (y4.2.1, (y4.2.2.1, ((IntKind.i64.wrap ((IntKind.i64.wrap ((IntKind.i64.wrap (p0 + (1 : Int))) + (1 : Int))) + (1 : Int))), y4.2.2.2.2))))) (Int.toNat p1) (y5.1, (y5.2.1, (y5.2.2.1, (y5.2.2.2.1, (((IntKind.i64.wrap ((IntKind.i64.wrap ((IntKind.i64.wrap ((IntKind.i64.wrap (p0 + (1 : Int))) + (1 : Int))) + (1 : Int))) + (1 : Int))), y5.2.2.2.2.1.2), y5.2.2.2.2.2)))))) (Int.toNat p1) (y6.1, (y6.2.1, (y6.2.2.1, (y6.2.2.2.1, ((y6.2.2.2.2.1.1, (y7.2, y6.2.2.2.2.1.2.2)), y6.2.2.2.2.2)))))) : Nat) : Int)))
 (.get (nth (List.set (List.set (List.set (List.set (List.set (List.set (List.set p2 (Int.toNat p1) (p0, y1.2)) (Int.toNat p1) (y2.1, ((IntKind.i64.wrap (p0 + (1 : Int))), y2.2.2))) (Int.toNat p1) (y3.1, (y3.2.1, ((IntKind.i64.wrap ((IntKind.i64.wrap (p0 + (1 : Int))) + (1 : Int))), y3.2.2.2)))) (Int.toNat p1) (y4.1, (y4.2.1, (y4.2.2.1, ((IntKind.i64.wrap ((IntKind.i64.wrap ((IntKind.i64.wrap (p0 + (1 : Int))) + (1 : Int))) + (1 : Int))), y4.2.2.2.2))))) (Int.toNat p1) (y5.1, (y5.2.1, (y5.2.2.1, (y5.2.2.2.1, (((IntKind.i64.wrap ((IntKind.i64.wrap ((IntKind.i64.wrap ((IntKind.i64.wrap (p0 + (1 : Int))) + (1 : Int))) + (1 : Int))) + (1 : Int))), y5.2.2.2.2.1.2), y5.2.2.2.2.2)))))) (Int.toNat p1) (y6.1, (y6.2.1, (y6.2.2.1, (y6.2.2.2.1, ((y6.2.2.2.2.1.1, (y7.2, y6.2.2.2.2.1.2.2)), y6.2.2.2.2.2)))))) (Int.toNat p1) (y8.1, (y8.2.1, (y8.2.2.1, (y8.2.2.2.1, (y8.2.2.2.2.1, (y9.2, y8.2.2.2.2.2.2))))))) (Int.toNat p1)) fun y10 =>
 .get (markIntSV y10.2.2.2.2.2.2.1 y9.1) fun y11 =>
 .ite (decide (0 ≤ p1 ∧ p1 < ((List.length (List.set (List.set (List.set (List.set (List.set (List.set (List.set p2 (Int.toNat p1) (p0, y1.2)) (Int.toNat p1) (y2.1, ((IntKind.i64.wrap (p0 + (1 : Int))), y2.2.2))) (Int.toNat p1) (y3.1, (y3.2.1, ((IntKind.i64.wrap ((IntKind.i64.wrap (p0 + (1 : Int))) + (1 : Int))), y3.2.2.2)))) (Int.toNat p1) (y4.1, (y4.2.1, (y4.2.2.1, ((IntKind.i64.wrap ((IntKind.i64.wrap ((IntKind.i64.wrap (p0 + (1 : Int))) + (1 : Int))) + (1 : Int))), y4.2.2.2.2))))) (Int.toNat p1) (y5.1, (y5.2.1, (y5.2.2.1, (y5.2.2.2.1, (((IntKind.i64.wrap ((IntKind.i64.wrap ((IntKind.i64.wrap ((IntKind.i64.wrap (p0 + (1 : Int))) + (1 : Int))) + (1 : Int))) + (1 : Int))), y5.2.2.2.2.1.2), y5.2.2.2.2.2)))))) (Int.toNat p1) (y6.1, (y6.2.1, (y6.2.2.1, (y6.2.2.2.1, ((y6.2.2.2.2.1.1, (y7.2, y6.2.2.2.2.1.2.2)), y6.2.2.2.2.2)))))) (Int.toNat p1) (y8.1, (y8.2.1, (y8.2.2.1, (y8.2.2.2.1, (y8.2.2.2.2.1, (y9.2, y8.2.2.2.2.2.2))))))) : Nat) : Int)))
 (.get (nth (List.set (List.set (List.set (List.set (List.set (List.set (List.set (List.set p2 (Int.toNat p1) (p0, y1.2)) (Int.toNat p1) (y2.1, ((IntKind.i64.wrap (p0 + (1 : Int))), y2.2.2))) (Int.toNat p1) (y3.1, (y3.2.1, ((IntKind.i64.wrap ((IntKind.i64.wrap (p0 + (1 : Int))) + (1 : Int))), y3.2.2.2)))) (Int.toNat p1) (y4.1, (y4.2.1, (y4.2.2.1, ((IntKind.i64.wrap ((IntKind.i64.wrap ((IntKind.i64.wrap (p0 + (1 : Int))) + (1 : Int))) + (1 : Int))), y4.2.2.2.2))))) (Int.toNat p1) (y5.1, (y5.2.1, (y5.2.2.1, (y5.2.2.2.1, (((IntKind.i64.wrap ((IntKind.i64.wrap ((IntKind.i64.wrap ((IntKind.i64.wrap (p0 + (1 : Int))) + (1 : Int))) + (1 : Int))) + (1 : Int))), y5.2.2.2.2.1.2), y5.2.2.2.2.2)))))) (Int.toNat p1) (y6.1, (y6.2.1, (y6.2.2.1, (y6.2.2.2.1, ((y6.2.2.2.2.1.1, (y7.2, y6.2.2.2.2.1.2.2)), y6.2.2.2.2.2)))))) (Int.toNat p1) (y8.1, (y8.2.1, (y8.2.2.1, (y8.2.2.2.1, (y8.2.2.2.2.1, (y9.2, y8.2.2.2.2.2.2))))))) (Int.toNat p1) (y10.1, (y10.2.1, (y10.2.2.1, (y10.2.2.2.1, (y10.2.2.2.2.1, (y10.2.2.2.2.2.1, (y11.2, y10.2.2.2.2.2.2.2)))))))) (Int.toNat p1)) fun y12 =>
 .ite (decide (0 ≤ p1 ∧ p1 < ((List.length (List.set (List.set (List.set (List.set (List.set (List.set (List.set (List.set (List.set p2 (Int.toNat p1) (p0, y1.2)) (Int.toNat p1) (y2.1, ((IntKind.i64.wrap (p0 + (1 : Int))), y2.2.2))) (Int.toNat p1) (y3.1, (y3.2.1, ((IntKind.i64.wrap ((IntKind.i64.wrap (p0 + (1 : Int))) + (1 : Int))), y3.2.2.2)))) (Int.toNat p1) (y4.1, (y4.2.1, (y4.2.2.1, ((IntKind.i64.wrap ((IntKind.i64.wrap ((IntKind.i64.wrap (p0 + (1 : Int))) + (1 : Int))) + (1 : Int))), y4.2.2.2.2))))) (Int.toNat p1) (y5.1, (y5.2.1, (y5.2.2.1, (y5.2.2.2.1, (((IntKind.i64.wrap ((IntKind.i64.wrap ((IntKind.i64.wrap ((IntKind.i64.wrap (p0 + (1 : Int))) + (1 : Int))) + (1 : Int))) + (1 : Int))), y5.2.2.2.2.1.2), y5.2.2.2.2.2)))))) (Int.toNat p1) (y6.1, (y6.2.1, (y6.2.2.1, (y6.2.2.2.1, ((y6.2.2.2.2.1.1, (y7.2, y6.2.2.2.2.1.2.2)), y6.2.2.2.2.2)))))) (Int.toNat p1) (y8.1, (y8.2.1, (y8.2.2.1, (y8.2.2.2.1, (y8.2.2.2.2.1, (y9.2, y8.2.2.2.2.2.2))))))) (Int.toNat p1) (y10.1, (y10.2.1, (y10.2.2.1, (y10.2.2.2.1, (y10.2.2.2.2.1, (y10.2.2.2.2.2.1, (y11.2, y10.2.2.2.2.2.2.2)))))))) (Int.toNat p1) (y12.1, (y12.2.1, (y12.2.2.1, (y12.2.2.2.1, (y12.2.2.2.2.1, (y12.2.2.2.2.2.1, (y12.2.2.2.2.2.2.1, (y11.1, y12.2.2.2.2.2.2.2.2))))))))) : Nat) : Int)))
 (.get (nth (List.set (List.set (List.set (List.set (List.set (List.set (List.set (List.set (List.set p2 (Int.toNat p1) (p0, y1.2)) (Int.toNat p1) (y2.1, ((IntKind.i64.wrap (p0 + (1 : Int))), y2.2.2))) (Int.toNat p1) (y3.1, (y3.2.1, ((IntKind.i64.wrap ((IntKind.i64.wrap (p0 + (1 : Int))) + (1 : Int))), y3.2.2.2)))) (Int.toNat p1) (y4.1, (y4.2.1, (y4.2.2.1, ((IntKind.i64.wrap ((IntKind.i64.wrap ((IntKind.i64.wrap (p0 + (1 : Int))) + (1 : Int))) + (1 : Int))), y4.2.2.2.2))))) (Int.toNat p1) (y5.1, (y5.2.1, (y5.2.2.1, (y5.2.2.2.1, (((IntKind.i64.wrap ((IntKind.i64.wrap ((IntKind.i64.wrap ((IntKind.i64.wrap (p0 + (1 : Int))) + (1 : Int))) + (1 : Int))) + (1 : Int))), y5.2.2.2.2.1.2), y5.2.2.2.2.2)))))) (Int.toNat p1) (y6.1, (y6.2.1, (y6.2.2.1, (y6.2.2.2.1, ((y6.2.2.2.2.1.1, (y7.2, y6.2.2.2.2.1.2.2)), y6.2.2.2.2.2)))))) (Int.toNat p1) (y8.1, (y8.2.1, (y8.2.2.1, (y8.2.2.2.1, (y8.2.2.2.2.1, (y9.2, y8.2.2.2.2.2.2))))))) (Int.toNat p1) (y10.1, (y10.2.1, (y10.2.2.1, (y10.2.2.2.1, (y10.2.2.2.2.1, (y10.2.2.2.2.2.1, (y11.2, y10.2.2.2.2.2.2.2)))))))) (Int.toNat p1) (y12.1, (y12.2.1, (y12.2.2.1, (y12.2.2.2.1, (y12.2.2.2.2.1, (y12.2.2.2.2.2.1, (y12.2.2.2.2.2.2.1, (y11.1, y12.2.2.2.2.2.2.2.2))))))))) (Int.toNat p1)) fun y13 =>
 .ret (.again (((IntKind.i64.wrap ((IntKind.i64.wrap (y11.1 + (1 : Int))) + (1 : Int))), (IntKind.i64.wrap (p1 + (1 : Int))), ()), ((List.set (List.set (List.set (List.set (List.set (List.set (List.set (List.set (List.set (List.set p2 (Int.toNat p1) (p0, y1.2)) (Int.toNat p1) (y2.1, ((IntKind.i64.wrap (p0 + (1 : Int))), y2.2.2))) (Int.toNat p1) (y3.1, (y3.2.1, ((IntKind.i64.wrap ((IntKind.i64.wrap (p0 + (1 : Int))) + (1 : Int))), y3.2.2.2)))) (Int.toNat p1) (y4.1, (y4.2.1, (y4.2.2.1, ((IntKind.i64.wrap ((IntKind.i64.wrap ((IntKind.i64.wrap (p0 + (1 : Int))) + (1 : Int))) + (1 : Int))), y4.2.2.2.2))))) (Int.toNat p1) (y5.1, (y5.2.1, (y5.2.2.1, (y5.2.2.2.1, (((IntKind.i64.wrap ((IntKind.i64.wrap ((IntKind.i64.wrap ((IntKind.i64.wrap (p0 + (1 : Int))) + (1 : Int))) + (1 : Int))) + (1 : Int))), y5.2.2.2.2.1.2), y5.2.2.2.2.2)))))) (Int.toNat p1) (y6.1, (y6.2.1, (y6.2.2.1, (y6.2.2.2.1, ((y6.2.2.2.2.1.1, (y7.2, y6.2.2.2.2.1.2.2)), y6.2.2.2.2.2)))))) (Int.toNat p1) (y8.1, (y8.2.1, (y8.2.2.1, (y8.2.2.2.1, (y8.2.2.2.2.1, (y9.2, y8.2.2.2.2.2.2))))))) (Int.toNat p1) (y10.1, (y10.2.1, (y10.2.2.1, (y10.2.2.2.1, (y10.2.2.2.2.1, (y10.2.2.2.2.2.1, (y11.2, y10.2.2.2.2.2.2.2)))))))) (Int.toNat p1) (y12.1, (y12.2.1, (y12.2.2.1, (y12.2.2.2.1, (y12.2.2.2.2.1, (y12.2.2.2.2.2.1, (y12.2.2.2.2.2.2.1, (y11.1, y12.2.2.2.2.2.2.2.2))))))))) (Int.toNat p1) (y13.1, (y13.2.1, (y13.2.2.1, (y13.2.2.2.1, (y13.2.2.2.2.1, (y13.2.2.2.2.2.1, (y13.2.2.2.2.2.2.1, (y13.2.2.2.2.2.2.2.1, ((IntKind.i64.wrap (y11.1 + (1 : Int))), y13.2.2.2.2.2.2.2.2.2)))))))))), ()))))
 .fail)
 .fail)
 .fail)
 .fail)
 .fail)
 .fail)
 .fail)
 .fail)
 .fail)
 .fail)
 (.ret (.out ((p0, ()), (p2, ()))))
def f30_tree (a0 : List ProcD) (a1 : Int) : Out (((Int × Unit) × Unit) × ((List ProcD × Unit) × Unit × Unit)) :=
 .get (iter1 f30_L0 FUEL ((a1, (0 : Int), ()), (a0, ()))) fun y1 =>
 .ret (((y1.1.1, ()), ()), ((y1.2.1, ()), (), ()))
def f30_A : Nat → Option LoopAnn := fun n => annOf [(0, { head := { t := [.srf 0, .i .i64, .dead, .dead, .dead, .i .i64] ++ dd 79, v := [(0, .arr tyP)] }, out := { t := [.srf 0, .i .i64] ++ dd 83, v := [(0, .arr tyP)] }, ret := none })] n
def markProcSV (a0 : List ProcD) (k : Int) : Option (Int × (List ProcD)) := mkP (mkcProcS a0) k (mkdProcS (k) a0)
def k30 : Con := { f := 30, lend := true, its := [⟨false, false, [.mut tyP]⟩, ⟨false, false, [.i .i64]⟩], lay := [none, none], rs := [⟨false, false, [.i .i64]⟩], F := fun x => .get (markProcSV x.1.1 x.2.1.1) fun y => .ret (((y.1, ()), ()), ((y.2, ()), (), ())) }
theorem f30_eq (x : itemsD k30.its) : bo [k34] f30_A Tryz.f30 k30 [.tmp 4] x = f30_tree x.1.1 x.2.1.1 := by kernel_rfl
theorem f30_okp (hr : ∀ x : (List ProcD × Unit) × (Int × Unit) × Unit, itemsWF k30.its x → ∀ y, (k30.F x).eval = some y → (f30_tree x.1.1 x.2.1.1).eval = some y) : k30.Ok Tryz.prog := con_fn [k34] ⟨k34_ok, trivial⟩ f30_eq hr
theorem k30_ok : k30.Ok Tryz.prog := by
  refine f30_okp fun x hw y hy => ?_
  obtain ⟨⟨a0, _⟩, ⟨k, _⟩, _⟩ := x
  change (Out.get (markProcSV a0 k) fun y => Out.ret (((y.1, ()), ()), ((y.2, ()), (), ()))).eval = some y at hy
  obtain ⟨h0, h1, hy⟩ := mkP_get hy
  refine Eq.trans ?_ hy
  show (f30_tree a0 k).eval = _
  unfold f30_tree
  have ha : a0.length ≤ BIG := hw.1.1.1
  have := mk_loop (f := f30_L0) a0 mkcProc mkdProc (fun k l i => ((k, (((i : Nat) : Int), ())), (l, ()))) (fun k l => ((k, ()), (l, ())))
    (fun i hi k l hl h3 h0 hk => by
      have h1 := wrap_succ (i := i) (by omega)
      have h2 : i < l.length := by omega
      have h4 : l[i] = a0[i] := by rw [List.getElem?_eq_getElem h2] at h3; exact Option.some.inj h3
      unfold mkcProc at hk
      have w1 : IntKind.i64.wrap (k + 1) = k + 1 := wrap1 (by omega) (by omega)
      have w2 : IntKind.i64.wrap (k + 1 + 1) = k + 1 + 1 := wrap1 (by omega) (by omega)
      have w3 : IntKind.i64.wrap (k + 1 + 1 + 1) = k + 1 + 1 + 1 := wrap1 (by omega) (by omega)
      have w4 : IntKind.i64.wrap (k + 1 + 1 + 1 + 1) = k + 1 + 1 + 1 + 1 := wrap1 (by omega) (by omega)
      have w5 : IntKind.i64.wrap (k + 1 + 1 + 1 + 1 + 1) = k + 1 + 1 + 1 + 1 + 1 := wrap1 (by omega) (by omega)
      have w6 : markIntSV a0[i].2.2.2.2.1.2.1 (k + 1 + 1 + 1 + 1 + 1) = some (k + 1 + 1 + 1 + 1 + 1 + (mkcIntS a0[i].2.2.2.2.1.2.1 : Nat), mkdIntS (k + 1 + 1 + 1 + 1 + 1) a0[i].2.2.2.2.1.2.1) := mkP_in (by omega) (by omega)
      have w7 : markIntSV a0[i].2.2.2.2.2.1 (k + 1 + 1 + 1 + 1 + 1 + (mkcIntS a0[i].2.2.2.2.1.2.1 : Nat)) = some (k + 1 + 1 + 1 + 1 + 1 + (mkcIntS a0[i].2.2.2.2.1.2.1 : Nat) + (mkcIntS a0[i].2.2.2.2.2.1 : Nat), mkdIntS (k + 1 + 1 + 1 + 1 + 1 + (mkcIntS a0[i].2.2.2.2.1.2.1 : Nat)) a0[i].2.2.2.2.2.1) := mkP_in (by omega) (by omega)
      have w8 : markIntSV a0[i].2.2.2.2.2.2.1 (k + 1 + 1 + 1 + 1 + 1 + (mkcIntS a0[i].2.2.2.2.1.2.1 : Nat) + (mkcIntS a0[i].2.2.2.2.2.1 : Nat)) = some (k + 1 + 1 + 1 + 1 + 1 + (mkcIntS a0[i].2.2.2.2.1.2.1 : Nat) + (mkcIntS a0[i].2.2.2.2.2.1 : Nat) + (mkcIntS a0[i].2.2.2.2.2.2.1 : Nat), mkdIntS (k + 1 + 1 + 1 + 1 + 1 + (mkcIntS a0[i].2.2.2.2.1.2.1 : Nat) + (mkcIntS a0[i].2.2.2.2.2.1 : Nat)) a0[i].2.2.2.2.2.2.1) := mkP_in (by omega) (by omega)
      have w9 : IntKind.i64.wrap (k + 1 + 1 + 1 + 1 + 1 + (mkcIntS a0[i].2.2.2.2.1.2.1 : Nat) + (mkcIntS a0[i].2.2.2.2.2.1 : Nat) + (mkcIntS a0[i].2.2.2.2.2.2.1 : Nat) + 1) = k + 1 + 1 + 1 + 1 + 1 + (mkcIntS a0[i].2.2.2.2.1.2.1 : Nat) + (mkcIntS a0[i].2.2.2.2.2.1 : Nat) + (mkcIntS a0[i].2.2.2.2.2.2.1 : Nat) + 1 := wrap1 (by omega) (by omega)
      have w10 : IntKind.i64.wrap (k + 1 + 1 + 1 + 1 + 1 + (mkcIntS a0[i].2.2.2.2.1.2.1 : Nat) + (mkcIntS a0[i].2.2.2.2.2.1 : Nat) + (mkcIntS a0[i].2.2.2.2.2.2.1 : Nat) + 1 + 1) = k + 1 + 1 + 1 + 1 + 1 + (mkcIntS a0[i].2.2.2.2.1.2.1 : Nat) + (mkcIntS a0[i].2.2.2.2.2.1 : Nat) + (mkcIntS a0[i].2.2.2.2.2.2.1 : Nat) + 1 + 1 := wrap1 (by omega) (by omega)
      simp [f30_L0, Out.eval, h1, h2, h3, h4, hl, hi, mkcProc, mkdProc, w1, w2, w3, w4, w5, w6, w7, w8, w9, w10] <;> omega)
    (fun k l hl => by simp [f30_L0, Out.eval, hl]) ha h0 h1
  refine (eval_get_some this).trans ?_
  rfl
abbrev f31_S0 := (Int × Int × Unit) × (List OpenD × Unit)
def f31_L0 : f31_S0 → Out (Round f31_S0 ((Int × Unit) × (List OpenD × Unit)) Empty)
| ((p0, p1, _), p2, _) =>
 .ite (decide (p1 < ((List.length p2 : Nat) : Int)))
 (.ite (decide (0 ≤ p1 ∧ p1 < ((List.length p2 : Nat) : Int)))
 (.get (nth p2 (Int.toNat p1)) fun y1 =>
 .ite (decide (0 ≤ p1 ∧ p1 < ((List.length (List.set p2 (Int.toNat p1) (p0, y1.2)) : Nat) : Int)))
 (.get (nth (List.set p2 (Int.toNat p1) (p0, y1.2)) (Int.toNat p1)) fun y2 =>
 .ite (decide (0 ≤ p1 ∧ p1 < ((List.length (List.set (List.set p2 (Int.toNat p1) (p0, y1.2)) (Int.toNat p1) (y2.1, ((IntKind.i64.wrap (p0 + (1 : Int))), y2.2.2))) : Nat) : Int)))
 (.get (nth (List.set (List.set p2 (Int.toNat p1) (p0, y1.2)) (Int.toNat p1) (y2.1, ((IntKind.i64.wrap (p0 + (1 : Int))), y2.2.2))) (Int.toNat p1)) fun y3 =>
 .ite (decide (0 ≤ p1 ∧ p1 < ((List.length (List.set (List.set (List.set p2 (Int.toNat p1) (p0, y1.2)) (Int.toNat p1) (y2.1, ((IntKind.i64.wrap (p0 + (1 : Int))), y2.2.2))) (Int.toNat p1) (y3.1, (y3.2.1, ((IntKind.i64.wrap ((IntKind.i64.wrap (p0 + (1 : Int))) + (1 : Int))), y3.2.2.2)))) : Nat) : Int)))
 (.get (nth (List.set (List.set (List.set p2 (Int.toNat p1) (p0, y1.2)) (Int.toNat p1) (y2.1, ((IntKind.i64.wrap (p0 + (1 : Int))), y2.2.2))) (Int.toNat p1) (y3.1, (y3.2.1, ((IntKind.i64.wrap ((IntKind.i64.wrap (p0 + (1 : Int))) + (1 : Int))), y3.2.2.2)))) (Int.toNat p1)) fun y4 =>
 .ite (decide (0 ≤ p1 ∧ p1 < ((List.length (List.set (List.set (List.set (List.set p2 (Int.toNat p1) (p0, y1.2)) (Int.toNat p1) (y2.1, ((IntKind.i64.wrap (p0 + (1 : Int))), y2.2.2))) (Int.toNat p1) (y3.1, (y3.2.1, ((IntKind.i64.wrap ((IntKind.i64.wrap (p0 + (1 : Int))) + (1 : Int))), y3.2.2.2)))) (Int.toNat p1) (y4.1, (y4.2.1, (y4.2.2.1, ((IntKind.i64.wrap ((IntKind.i64.wrap ((IntKind.i64.wrap (p0 + (1 : Int))) + (1 : Int))) + (1 : Int))), y4.2.2.2.2))))) : Nat) : Int)))
 (.get (nth (List.set (List.set (List.set (List.set p2 (Int.toNat p1) (p0, y1.2)) (Int.toNat p1) (y2.1, ((IntKind.i64.wrap (p0 + (1 : Int))), y2.2.2))) (Int.toNat p1) (y3.1, (y3.2.1, ((IntKind.i64.wrap ((IntKind.i64.wrap (p0 + (1 : Int))) + (1 : Int))), y3.2.2.2)))) (Int.toNat p1) (y4.1, (y4.2.1, (y4.2.2.1, ((IntKind.i64.wrap ((IntKind.i64.wrap ((IntKind.i64.wrap (p0 + (1 : Int))) + (1 : Int))) + (1 : Int))), y4.2.2.2.2))))) (Int.toNat p1)) fun y5 =>
 .ret (.again (((IntKind.i64.wrap ((IntKind.i64.wrap ((IntKind.i64.wrap ((IntKind.i64.wrap ((IntKind.i64.wrap (p0 + (1 : Int))) + (1 : Int))) + (1 : Int))) + (1 : Int))) + (1 : Int))), (IntKind.i64.wrap (p1 + (1 : Int))), ()), ((List.set (List.set (List.set (List.set (List.set p2 (Int.toNat p1) (p0, y1.2)) (Int.toNat p1) (y2.1, ((IntKind.i64.wrap (p0 + (1 : Int))), y2.2.2))) (Int.toNat p1) (y3.1, (y3.2.1, ((IntKind.i64.wrap ((IntKind.i64.wrap (p0 + (1 : Int))) + (1 : Int))), y3.2.2.2)))) (Int.toNat p1) (y4.1, (y4.2.1, (y4.2.2.1, ((IntKind.i64.wrap ((IntKind.i64.wrap ((IntKind.i64.wrap (p0 + (1 : Int))) + (1 : Int))) + (1 : Int))), y4.2.2.2.2))))) (Int.toNat p1) (y5.1, (y5.2.1, (y5.2.2.1, (y5.2.2.2.1, ((IntKind.i64.wrap ((IntKind.i64.wrap ((IntKind.i64.wrap ((IntKind.i64.wrap (p0 + (1 : Int))) + (1 : Int))) + (1 : Int))) + (1 : Int))), y5.2.2.2.2.2)))))), ()))))
 .fail)
 .fail)
 .fail)
 .fail)
 .fail)
 (.ret (.out ((p0, ()), (p2, ()))))
def f31_tree (a0 : List OpenD) (a1 : Int) : Out (((Int × Unit) × Unit) × ((List OpenD × Unit) × Unit × Unit)) :=
 .get (iter1 f31_L0 FUEL ((a1, (0 : Int), ()), (a0, ()))) fun y1 =>
 .ret (((y1.1.1, ()), ()), ((y1.2.1, ()), (), ()))
def f31_A : Nat → Option LoopAnn := fun n => annOf [(0, { head := { t := [.srf 0, .i .i64, .dead, .dead, .dead, .i .i64] ++ dd 42, v := [(0, .arr tyO)] }, out := { t := [.srf 0, .i .i64] ++ dd 46, v := [(0, .arr tyO)] }, ret := none })] n
def markOpenSV (a0 : List OpenD) (k : Int) : Option (Int × (List OpenD)) := mkP (mkcOpenS a0) k (mkdOpenS (k) a0)
def k31 : Con := { f := 31, lend := true, its := [⟨false, false, [.mut tyO]⟩, ⟨false, false, [.i .i64]⟩], lay := [none, none], rs := [⟨false, false, [.i .i64]⟩], F := fun x => .get (markOpenSV x.1.1 x.2.1.1) fun y => .ret (((y.1, ()), ()), ((y.2, ()), (), ())) }
theorem f31_eq (x : itemsD k31.its) : bo [] f31_A Tryz.f31 k31 [.tmp 4] x = f31_tree x.1.1 x.2.1.1 := by kernel_rfl
theorem f31_okp (hr : ∀ x : (List OpenD × Unit) × (Int × Unit) × Unit, itemsWF k31.its x → ∀ y, (k31.F x).eval = some y → (f31_tree x.1.1 x.2.1.1).eval = some y) : k31.Ok Tryz.prog := con_fn [] trivial f31_eq hr
theorem k31_ok : k31.Ok Tryz.prog := by
  refine f31_okp fun x hw y hy => ?_
  obtain ⟨⟨a0, _⟩, ⟨k, _⟩, _⟩ := x
  change (Out.get (markOpenSV a0 k) fun y => Out.ret (((y.1, ()), ()), ((y.2, ()), (), ()))).eval = some y at hy
  obtain ⟨h0, h1, hy⟩ := mkP_get hy
  refine Eq.trans ?_ hy
  show (f31_tree a0 k).eval = _
  unfold f31_tree
  have ha : a0.length ≤ BIG := hw.1.1.1
  have := mk_loop (f := f31_L0) a0 mkcOpen mkdOpen (fun k l i => ((k, (((i : Nat) : Int), ())), (l, ()))) (fun k l => ((k, ()), (l, ())))
    (fun i hi k l hl h3 h0 hk => by
      have h1 := wrap_succ (i := i) (by omega)
      have h2 : i < l.length := by omega
      have h4 : l[i] = a0[i] := by rw [List.getElem?_eq_getElem h2] at h3; exact Option.some.inj h3
      unfold mkcOpen at hk
      have w1 : IntKind.i64.wrap (k + 1) = k + 1 := wrap1 (by omega) (by omega)
      have w2 : IntKind.i64.wrap (k + 1 + 1) = k + 1 + 1 := wrap1 (by omega) (by omega)
      have w3 : IntKind.i64.wrap (k + 1 + 1 + 1) = k + 1 + 1 + 1 := wrap1 (by omega) (by omega)
      have w4 : IntKind.i64.wrap (k + 1 + 1 + 1 + 1) = k + 1 + 1 + 1 + 1 := wrap1 (by omega) (by omega)
      have w5 : IntKind.i64.wrap (k + 1 + 1 + 1 + 1 + 1) = k + 1 + 1 + 1 + 1 + 1 := wrap1 (by omega) (by omega)
      simp [f31_L0, Out.eval, h1, h2, h3, h4, hl, hi, mkcOpen, mkdOpen, w1, w2, w3, w4, w5] <;> omega)
    (fun k l hl => by simp [f31_L0, Out.eval, hl]) ha h0 h1
  refine (eval_get_some this).trans ?_
  rfl
abbrev f32_S0 := (Int × Int × Unit) × (List CpuD × Unit)
def f32_L0 : f32_S0 → Out (Round f32_S0 ((Int × Unit) × (List CpuD × Unit)) Empty)
| ((p0, p1, _), p2, _) =>
 .ite (decide (p1 < ((List.length p2 : Nat) : Int)))
 (.ite (decide (0 ≤ p1 ∧ p1 < ((List.length p2 : Nat) : Int)))
 (.get (nth p2 (Int.toNat p1)) fun y1 =>
 .ite (decide (0 ≤ p1 ∧ p1 < ((List.length (List.set p2 (Int.toNat p1) (p0, y1.2)) : Nat) : Int)))
 (.get (nth (List.set p2 (Int.toNat p1) (p0, y1.2)) (Int.toNat p1)) fun y2 =>
 .get (markIntSV y2.2.1 (IntKind.i64.wrap (p0 + (1 : Int)))) fun y3 =>
 .ret (.again ((y3.1, (IntKind.i64.wrap (p1 + (1 : Int))), ()), ((List.set (List.set p2 (Int.toNat p1) (p0, y1.2)) (Int.toNat p1) (y2.1, (y3.2, y2.2.2))), ()))))
 .fail)
 .fail)
 (.ret (.out ((p0, ()), (p2, ()))))
def f32_tree (a0 : List CpuD) (a1 : Int) : Out (((Int × Unit) × Unit) × ((List CpuD × Unit) × Unit × Unit)) :=
 .get (iter1 f32_L0 FUEL ((a1, (0 : Int), ()), (a0, ()))) fun y1 =>
 .ret (((y1.1.1, ()), ()), ((y1.2.1, ()), (), ()))
def f32_A : Nat → Option LoopAnn := fun n => annOf [(0, { head := { t := [.srf 0, .i .i64, .dead, .dead, .dead, .i .i64] ++ dd 21, v := [(0, .arr tyF)] }, out := { t := [.srf 0, .i .i64] ++ dd 25, v := [(0, .arr tyF)] }, ret := none })] n
def markCpuSV (a0 : List CpuD) (k : Int) : Option (Int × (List CpuD)) := mkP (mkcCpuS a0) k (mkdCpuS (k) a0)
def k32 : Con := { f := 32, lend := true, its := [⟨false, false, [.mut tyF]⟩, ⟨false, false, [.i .i64]⟩], lay := [none, none], rs := [⟨false, false, [.i .i64]⟩], F := fun x => .get (markCpuSV x.1.1 x.2.1.1) fun y => .ret (((y.1, ()), ()), ((y.2, ()), (), ())) }
theorem f32_eq (x : itemsD k32.its) : bo [k34] f32_A Tryz.f32 k32 [.tmp 4] x = f32_tree x.1.1 x.2.1.1 := by kernel_rfl
theorem f32_okp (hr : ∀ x : (List CpuD × Unit) × (Int × Unit) × Unit, itemsWF k32.its x → ∀ y, (k32.F x).eval = some y → (f32_tree x.1.1 x.2.1.1).eval = some y) : k32.Ok Tryz.prog := con_fn [k34] ⟨k34_ok, trivial⟩ f32_eq hr
theorem k32_ok : k32.Ok Tryz.prog := by
  refine f32_okp fun x hw y hy => ?_
  obtain ⟨⟨a0, _⟩, ⟨k, _⟩, _⟩ := x
  change (Out.get (markCpuSV a0 k) fun y => Out.ret (((y.1, ()), ()), ((y.2, ()), (), ()))).eval = some y at hy
  obtain ⟨h0, h1, hy⟩ := mkP_get hy
  refine Eq.trans ?_ hy
  show (f32_tree a0 k).eval = _
  unfold f32_tree
  have ha : a0.length ≤ BIG := hw.1.1.1
  have := mk_loop (f := f32_L0) a0 mkcCpu mkdCpu (fun k l i => ((k, (((i : Nat) : Int), ())), (l, ()))) (fun k l => ((k, ()), (l, ())))
    (fun i hi k l hl h3 h0 hk => by
      have h1 := wrap_succ (i := i) (by omega)
      have h2 : i < l.length := by omega
      have h4 : l[i] = a0[i] := by rw [List.getElem?_eq_getElem h2] at h3; exact Option.some.inj h3
      unfold mkcCpu at hk
      have w1 : IntKind.i64.wrap (k + 1) = k + 1 := wrap1 (by omega) (by omega)
      have w2 : markIntSV a0[i].2.1 (k + 1) = some (k + 1 + (mkcIntS a0[i].2.1 : Nat), mkdIntS (k + 1) a0[i].2.1) := mkP_in (by omega) (by omega)
      simp [f32_L0, Out.eval, h1, h2, h3, h4, hl, hi, mkcCpu, mkdCpu, w1, w2] <;> omega)
    (fun k l hl => by simp [f32_L0, Out.eval, hl]) ha h0 h1
  refine (eval_get_some this).trans ?_
  rfl
abbrev f33_S0 := (Int × Int × Unit) × (List CpuD × Unit)
def f33_L0 : f33_S0 → Out (Round f33_S0 ((Int × Unit) × (List CpuD × Unit)) Empty)
| ((p0, p1, _), p2, _) =>
 .ite (decide (p1 < ((List.length p2 : Nat) : Int)))
 (.ite (decide (0 ≤ p1 ∧ p1 < ((List.length p2 : Nat) : Int)))
 (.get (nth p2 (Int.toNat p1)) fun y1 =>
 .ite (decide (0 ≤ p1 ∧ p1 < ((List.length (List.set p2 (Int.toNat p1) (p0, y1.2)) : Nat) : Int)))
 (.get (nth (List.set p2 (Int.toNat p1) (p0, y1.2)) (Int.toNat p1)) fun y2 =>
 .get (markIntSV y2.2.1 (IntKind.i64.wrap (p0 + (1 : Int)))) fun y3 =>
 .ret (.again ((y3.1, (IntKind.i64.wrap (p1 + (1 : Int))), ()), ((List.set (List.set p2 (Int.toNat p1) (p0, y1.2)) (Int.toNat p1) (y2.1, (y3.2, y2.2.2))), ()))))
 .fail)
 .fail)
 (.ret (.out ((p0, ()), (p2, ()))))
def f33_tree (a0 : List CpuD) (a1 : Int) : Out (((Int × Unit) × Unit) × ((List CpuD × Unit) × Unit × Unit)) :=
 .get (iter1 f33_L0 FUEL ((a1, (0 : Int), ()), (a0, ()))) fun y1 =>
 .ret (((y1.1.1, ()), ()), ((y1.2.1, ()), (), ()))
def f33_A : Nat → Option LoopAnn := fun n => annOf [(0, { head := { t := [.srf 0, .i .i64, .dead, .dead, .dead, .i .i64] ++ dd 21, v := [(0, .arr tyF)] }, out := { t := [.srf 0, .i .i64] ++ dd 25, v := [(0, .arr tyF)] }, ret := none })] n
def k33 : Con := { f := 33, lend := true, its := [⟨false, false, [.mut tyF]⟩, ⟨false, false, [.i .i64]⟩], lay := [none, none], rs := [⟨false, false, [.i .i64]⟩], F := fun x => .get (markCpuSV x.1.1 x.2.1.1) fun y => .ret (((y.1, ()), ()), ((y.2, ()), (), ())) }
theorem f33_eq (x : itemsD k33.its) : bo [k34] f33_A Tryz.f33 k33 [.tmp 4] x = f33_tree x.1.1 x.2.1.1 := by kernel_rfl
theorem f33_okp (hr : ∀ x : (List CpuD × Unit) × (Int × Unit) × Unit, itemsWF k33.its x → ∀ y, (k33.F x).eval = some y → (f33_tree x.1.1 x.2.1.1).eval = some y) : k33.Ok Tryz.prog := con_fn [k34] ⟨k34_ok, trivial⟩ f33_eq hr
theorem k33_ok : k33.Ok Tryz.prog := by
  refine f33_okp fun x hw y hy => ?_
  obtain ⟨⟨a0, _⟩, ⟨k, _⟩, _⟩ := x
  change (Out.get (markCpuSV a0 k) fun y => Out.ret (((y.1, ()), ()), ((y.2, ()), (), ()))).eval = some y at hy
  obtain ⟨h0, h1, hy⟩ := mkP_get hy
  refine Eq.trans ?_ hy
  show (f33_tree a0 k).eval = _
  unfold f33_tree
  have ha : a0.length ≤ BIG := hw.1.1.1
  have := mk_loop (f := f33_L0) a0 mkcCpu mkdCpu (fun k l i => ((k, (((i : Nat) : Int), ())), (l, ()))) (fun k l => ((k, ()), (l, ())))
    (fun i hi k l hl h3 h0 hk => by
      have h1 := wrap_succ (i := i) (by omega)
      have h2 : i < l.length := by omega
      have h4 : l[i] = a0[i] := by rw [List.getElem?_eq_getElem h2] at h3; exact Option.some.inj h3
      unfold mkcCpu at hk
      have w1 : IntKind.i64.wrap (k + 1) = k + 1 := wrap1 (by omega) (by omega)
      have w2 : markIntSV a0[i].2.1 (k + 1) = some (k + 1 + (mkcIntS a0[i].2.1 : Nat), mkdIntS (k + 1) a0[i].2.1) := mkP_in (by omega) (by omega)
      simp [f33_L0, Out.eval, h1, h2, h3, h4, hl, hi, mkcCpu, mkdCpu, w1, w2] <;> omega)
    (fun k l hl => by simp [f33_L0, Out.eval, hl]) ha h0 h1
  refine (eval_get_some this).trans ?_
  rfl
def f8_tree (a0 : Int) (a1 : Int) (a2 : List (List InsD)) (a3 : List ProcD) (a4 : List OpenD) (a5 : List CpuD) (a6 : List CpuD) (a7 : List Int) (a8 : List Int) (a9 : Int) : Out (((Int × Unit) × Unit) × ((List (List InsD) × List ProcD × List OpenD × List CpuD × List CpuD × List Int × List Int × Unit) × Unit × Unit)) :=
 .get (markInsSSV a2 a9) fun y1 =>
 .get (markProcSV a3 y1.1) fun y2 =>
 .get (markOpenSV a4 y2.1) fun y3 =>
 .get (markCpuSV a5 y3.1) fun y4 =>
 .get (markCpuSV a6 y4.1) fun y5 =>
 .get (markIntSV a7 y5.1) fun y6 =>
 .get (markIntSV a8 y6.1) fun y7 =>
 .ret (((y7.1, ()), ()), ((y1.2, y2.2, y3.2, y4.2, y5.2, y6.2, y7.2, ()), (), ()))
def markUnixV (_a0 : Int) (_a1 : Int) (a2 : List (List InsD)) (a3 : List ProcD) (a4 : List OpenD) (a5 : List CpuD) (a6 : List CpuD) (a7 : List Int) (a8 : List Int) (k : Int) : Option (Int × (List (List InsD)) × (List ProcD) × (List OpenD) × (List CpuD) × (List CpuD) × (List Int) × (List Int)) := mkP (mkcInsSS a2 + mkcProcS a3 + mkcOpenS a4 + mkcCpuS a5 + mkcCpuS a6 + mkcIntS a7 + mkcIntS a8) k (mkdInsSS (k) a2, mkdProcS (k + (mkcInsSS a2 : Nat)) a3, mkdOpenS (k + (mkcInsSS a2 : Nat) + (mkcProcS a3 : Nat)) a4, mkdCpuS (k + (mkcInsSS a2 : Nat) + (mkcProcS a3 : Nat) + (mkcOpenS a4 : Nat)) a5, mkdCpuS (k + (mkcInsSS a2 : Nat) + (mkcProcS a3 : Nat) + (mkcOpenS a4 : Nat) + (mkcCpuS a5 : Nat)) a6, mkdIntS (k + (mkcInsSS a2 : Nat) + (mkcProcS a3 : Nat) + (mkcOpenS a4 : Nat) + (mkcCpuS a5 : Nat) + (mkcCpuS a6 : Nat)) a7, mkdIntS (k + (mkcInsSS a2 : Nat) + (mkcProcS a3 : Nat) + (mkcOpenS a4 : Nat) + (mkcCpuS a5 : Nat) + (mkcCpuS a6 : Nat) + (mkcIntS a7 : Nat)) a8)
def k8 : Con := { f := 8, lend := true, its := [⟨false, true, [.i .i64, .i .i64, .mut (.sl tyN), .mut tyP, .mut tyO, .mut tyF, .mut tyF, .mut (.int .i64), .mut (.int .i64)]⟩, ⟨false, false, [.i .i64]⟩], lay := [none, none], rs := [⟨false, false, [.i .i64]⟩], F := fun x => .get (markUnixV x.1.1 x.1.2.1 x.1.2.2.1 x.1.2.2.2.1 x.1.2.2.2.2.1 x.1.2.2.2.2.2.1 x.1.2.2.2.2.2.2.1 x.1.2.2.2.2.2.2.2.1 x.1.2.2.2.2.2.2.2.2.1 x.2.1.1) fun y => .ret (((y.1, ()), ()), ((y.2.1, y.2.2.1, y.2.2.2.1, y.2.2.2.2.1, y.2.2.2.2.2.1, y.2.2.2.2.2.2.1, y.2.2.2.2.2.2.2, ()), (), ())) }
theorem f8_eq (x : itemsD k8.its) : bo [k29, k30, k31, k32, k33, k34] (fun _ => none) Tryz.f8 k8 [.tmp 4] x = f8_tree x.1.1 x.1.2.1 x.1.2.2.1 x.1.2.2.2.1 x.1.2.2.2.2.1 x.1.2.2.2.2.2.1 x.1.2.2.2.2.2.2.1 x.1.2.2.2.2.2.2.2.1 x.1.2.2.2.2.2.2.2.2.1 x.2.1.1 := by kernel_rfl
theorem f8_okp (hr : ∀ x : UnixD × (Int × Unit) × Unit, itemsWF k8.its x → ∀ y, (k8.F x).eval = some y → (f8_tree x.1.1 x.1.2.1 x.1.2.2.1 x.1.2.2.2.1 x.1.2.2.2.2.1 x.1.2.2.2.2.2.1 x.1.2.2.2.2.2.2.1 x.1.2.2.2.2.2.2.2.1 x.1.2.2.2.2.2.2.2.2.1 x.2.1.1).eval = some y) : k8.Ok Tryz.prog := con_fn [k29, k30, k31, k32, k33, k34] ⟨k29_ok, k30_ok, k31_ok, k32_ok, k33_ok, k34_ok, trivial⟩ f8_eq hr
theorem k8_ok : k8.Ok Tryz.prog := by
  refine f8_okp fun x hw y hy => ?_
  obtain ⟨⟨a0, a1, a2, a3, a4, a5, a6, a7, a8, _⟩, ⟨k, _⟩, _⟩ := x
  change (Out.get (markUnixV a0 a1 a2 a3 a4 a5 a6 a7 a8 k) fun y => Out.ret (((y.1, ()), ()), ((y.2.1, y.2.2.1, y.2.2.2.1, y.2.2.2.2.1, y.2.2.2.2.2.1, y.2.2.2.2.2.2.1, y.2.2.2.2.2.2.2, ()), (), ()))).eval = some y at hy
  obtain ⟨h0, h1, hy⟩ := mkP_get hy
  refine Eq.trans ?_ hy
  show (f8_tree a0 a1 a2 a3 a4 a5 a6 a7 a8 k).eval = _
  unfold f8_tree
  have e0 : markInsSSV a2 (k) = some (k + (mkcInsSS a2 : Nat), mkdInsSS (k) a2) := mkP_in (by omega) (by omega)
  have e1 : markProcSV a3 (k + (mkcInsSS a2 : Nat)) = some (k + (mkcInsSS a2 : Nat) + (mkcProcS a3 : Nat), mkdProcS (k + (mkcInsSS a2 : Nat)) a3) := mkP_in (by omega) (by omega)
  have e2 : markOpenSV a4 (k + (mkcInsSS a2 : Nat) + (mkcProcS a3 : Nat)) = some (k + (mkcInsSS a2 : Nat) + (mkcProcS a3 : Nat) + (mkcOpenS a4 : Nat), mkdOpenS (k + (mkcInsSS a2 : Nat) + (mkcProcS a3 : Nat)) a4) := mkP_in (by omega) (by omega)
  have e3 : markCpuSV a5 (k + (mkcInsSS a2 : Nat) + (mkcProcS a3 : Nat) + (mkcOpenS a4 : Nat)) = some (k + (mkcInsSS a2 : Nat) + (mkcProcS a3 : Nat) + (mkcOpenS a4 : Nat) + (mkcCpuS a5 : Nat), mkdCpuS (k + (mkcInsSS a2 : Nat) + (mkcProcS a3 : Nat) + (mkcOpenS a4 : Nat)) a5) := mkP_in (by omega) (by omega)
  have e4 : markCpuSV a6 (k + (mkcInsSS a2 : Nat) + (mkcProcS a3 : Nat) + (mkcOpenS a4 : Nat) + (mkcCpuS a5 : Nat)) = some (k + (mkcInsSS a2 : Nat) + (mkcProcS a3 : Nat) + (mkcOpenS a4 : Nat) + (mkcCpuS a5 : Nat) + (mkcCpuS a6 : Nat), mkdCpuS (k + (mkcInsSS a2 : Nat) + (mkcProcS a3 : Nat) + (mkcOpenS a4 : Nat) + (mkcCpuS a5 : Nat)) a6) := mkP_in (by omega) (by omega)
  have e5 : markIntSV a7 (k + (mkcInsSS a2 : Nat) + (mkcProcS a3 : Nat) + (mkcOpenS a4 : Nat) + (mkcCpuS a5 : Nat) + (mkcCpuS a6 : Nat)) = some (k + (mkcInsSS a2 : Nat) + (mkcProcS a3 : Nat) + (mkcOpenS a4 : Nat) + (mkcCpuS a5 : Nat) + (mkcCpuS a6 : Nat) + (mkcIntS a7 : Nat), mkdIntS (k + (mkcInsSS a2 : Nat) + (mkcProcS a3 : Nat) + (mkcOpenS a4 : Nat) + (mkcCpuS a5 : Nat) + (mkcCpuS a6 : Nat)) a7) := mkP_in (by omega) (by omega)
  have e6 : markIntSV a8 (k + (mkcInsSS a2 : Nat) + (mkcProcS a3 : Nat) + (mkcOpenS a4 : Nat) + (mkcCpuS a5 : Nat) + (mkcCpuS a6 : Nat) + (mkcIntS a7 : Nat)) = some (k + (mkcInsSS a2 : Nat) + (mkcProcS a3 : Nat) + (mkcOpenS a4 : Nat) + (mkcCpuS a5 : Nat) + (mkcCpuS a6 : Nat) + (mkcIntS a7 : Nat) + (mkcIntS a8 : Nat), mkdIntS (k + (mkcInsSS a2 : Nat) + (mkcProcS a3 : Nat) + (mkcOpenS a4 : Nat) + (mkcCpuS a5 : Nat) + (mkcCpuS a6 : Nat) + (mkcIntS a7 : Nat)) a8) := mkP_in (by omega) (by omega)
  rw [eval_get_some e0]
  rw [eval_get_some e1]
  rw [eval_get_some e2]
  rw [eval_get_some e3]
  rw [eval_get_some e4]
  rw [eval_get_some e5]
  rw [eval_get_some e6]
  all_goals (have e : k + ((mkcInsSS a2 + mkcProcS a3 + mkcOpenS a4 + mkcCpuS a5 + mkcCpuS a6 + mkcIntS a7 + mkcIntS a8 : Nat) : Int) = k + (mkcInsSS a2 : Nat) + (mkcProcS a3 : Nat) + (mkcOpenS a4 : Nat) + (mkcCpuS a5 : Nat) + (mkcCpuS a6 : Nat) + (mkcIntS a7 : Nat) + (mkcIntS a8 : Nat) := (by omega); rw [e]; try rfl)
end Go.Proofs.YtcpjdjgipmjhdaaGreat.Dm
