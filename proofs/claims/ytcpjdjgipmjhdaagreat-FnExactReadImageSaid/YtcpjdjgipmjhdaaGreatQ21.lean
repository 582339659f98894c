/- Functions of the program, and what they compute. -/
import Derived.Test.YtcpjdjgipmjhdaaGreatQ2
namespace Go.Proofs.YtcpjdjgipmjhdaaGreat.Dm
open Go Go.ChangeShapes Go.WideShapes Go.ChangeAt Go.RowKit
abbrev f40_S0 := (List Int × Int × Int × Unit) × (Unit)
def f40_L0 : f40_S0 → Out (Round f40_S0 ((Int × Unit) × (Unit)) ((Int × Unit) × (Unit)))
| ((p0, p1, p2, _), _) =>
 .ite (decide (p2 < ((List.length p0 : Nat) : Int)))
 (.ite (decide (0 ≤ p2))
 (.get (nth p0 (Int.toNat p2)) fun y1 =>
 .ite ((y1 != p1))
 (.ret (.ret (((-1 : Int), ()), ())))
 (.ret (.again ((p0, (IntKind.i64.wrap (p1 + (1 : Int))), (IntKind.i64.wrap (p2 + (1 : Int))), ()), ()))))
 .fail)
 (.ret (.out ((p1, ()), ())))
def f40_tree (a0 : List Int) (a1 : Int) : Out (((Int × Unit) × Unit) × (Unit × Unit × Unit)) :=
 .get (iter f40_L0 FUEL ((a0, a1, (0 : Int), ()), ())) fun y1 => .alt y1 (fun y2 =>
 .ret (((y2.1.1, ()), ()), ((), (), ()))) (fun y3 =>
 .ret (((y3.1.1, ()), ()), ((), (), ())))
def f40_A : Nat → Option LoopAnn := fun n => annOf [(0, { head := { t := [.ro (.int .i64) (some 0), .i .i64, .dead, .dead, .dead, .i .i64] ++ dd 15, v := [] }, out := { t := [.dead, .i .i64] ++ dd 19, v := [] }, ret := some { t := dd 4 ++ [.i .i64] ++ dd 16, v := [] } })] n
def heldIntSV (a0 : List Int) (k : Int) : Option Int := hdP (mkcIntS a0) (decide (mkdIntS (k) a0 = a0)) k
def k40 : Con := { f := 40, lend := true, its := [⟨false, false, [.ro (.int .i64)]⟩, ⟨false, false, [.i .i64]⟩], lay := [none, none], rs := [⟨false, false, [.i .i64]⟩], F := fun x => .get (heldIntSV x.1.1 x.2.1.1) fun y => .ret (((y, ()), ()), ((), (), ())) }
theorem f40_eq (x : itemsD k40.its) : bo [] f40_A Tryz.f40 k40 [.tmp 4] x = f40_tree x.1.1 x.2.1.1 := by kernel_rfl
theorem f40_okp (hr : ∀ x : (List Int × Unit) × (Int × Unit) × Unit, itemsWF k40.its x → ∀ y, (k40.F x).eval = some y → (f40_tree x.1.1 x.2.1.1).eval = some y) : k40.Ok Tryz.prog := con_fn [] trivial f40_eq hr
theorem k40_ok : k40.Ok Tryz.prog := by
  refine f40_okp fun x hw y hy => ?_
  obtain ⟨⟨a0, _⟩, ⟨k, _⟩, _⟩ := x
  change (Out.get (heldIntSV a0 k) fun y => Out.ret (((y, ()), ()), ((), ((), ())))).eval = some y at hy
  obtain ⟨h0, h1, hy⟩ := hdP_get hy
  refine Eq.trans ?_ hy
  show (f40_tree a0 k).eval = _
  unfold f40_tree
  have ha : a0.length ≤ BIG := hw.1.1.1
  have := hd_loop (f := f40_L0) a0 mkcInt mkdInt (fun k i => ((a0, (k, (((i : Nat) : Int), ()))), ())) (y := fun k => ((k, ()), ())) (z := ((-1, ()), ()))
    (fun i hi k h0 hk => by
      have h1 := wrap_succ (i := i) (by omega)
      have w1 : IntKind.i64.wrap (k + 1) = k + 1 := wrap1 (by omega) (by omega)
      by_cases q1 : a0[i] = (k : Int)
      case neg =>
        have q' : ¬ (k : Int) = a0[i] := fun e => q1 e.symm
        rw [if_neg (fun e => q' (congrArg (fun x : Int => x) e))]
        simp [f40_L0, Out.eval, hi, cond_eq_ite, q1]
      have hq : mkdInt k a0[i] = a0[i] := by
        simp only [mkdInt]
        simp only [← q1]
      rw [if_pos hq]
      simp [f40_L0, Out.eval, hi, h1, w1, q1, mkcInt] <;> omega)
    (fun k => by simp [f40_L0, Out.eval]) ha h0 h1
  refine (eval_get_some this).trans ?_
  show _ = (Out.ret _).eval
  unfold mkdIntS
  by_cases q : mkdL mkcInt mkdInt k a0 = a0
  · rw [if_pos q, if_pos (decide_eq_true q)]; rfl
  · rw [if_neg q, if_neg (by simpa using q)]; rfl
abbrev f69_S0 := (List InsD × Int × Int × Unit) × (Unit)
def f69_L0 : f69_S0 → Out (Round f69_S0 ((Int × Unit) × (Unit)) ((Int × Unit) × (Unit)))
| ((p0, p1, p2, _), _) =>
 .ite (decide (p2 < ((List.length p0 : Nat) : Int)))
 (.ite (decide (0 ≤ p2))
 (.get (nth p0 (Int.toNat p2)) fun y1 =>
 .ite ((y1.1 != p1))
 (.ret (.ret (((-1 : Int), ()), ())))
 (.ite (decide (0 ≤ p2))
 (.get (nth p0 (Int.toNat p2)) fun y2 =>
 .ite ((y2.2.1 != (IntKind.i64.wrap (p1 + (1 : Int)))))
 (.ret (.ret (((-1 : Int), ()), ())))
 (.ite (decide (0 ≤ p2))
 (.get (nth p0 (Int.toNat p2)) fun y3 =>
 .ite ((y3.2.2.1 != (IntKind.i64.wrap ((IntKind.i64.wrap (p1 + (1 : Int))) + (1 : Int)))))
 (.ret (.ret (((-1 : Int), ()), ())))
 (.ite (decide (0 ≤ p2))
 (.get (nth p0 (Int.toNat p2)) fun y4 =>
 .ite ((y4.2.2.2.1 != (IntKind.i64.wrap ((IntKind.i64.wrap ((IntKind.i64.wrap (p1 + (1 : Int))) + (1 : Int))) + (1 : Int)))))
 (.ret (.ret (((-1 : Int), ()), ())))
 (.ret (.again ((p0, (IntKind.i64.wrap ((IntKind.i64.wrap ((IntKind.i64.wrap ((IntKind.i64.wrap (p1 + (1 : Int))) + (1 : Int))) + (1 : Int))) + (1 : Int))), (IntKind.i64.wrap (p2 + (1 : Int))), ()), ()))))
 .fail))
 .fail))
 .fail))
 .fail)
 (.ret (.out ((p1, ()), ())))
def f69_tree (a0 : List InsD) (a1 : Int) : Out (((Int × Unit) × Unit) × (Unit × Unit × Unit)) :=
 .get (iter f69_L0 FUEL ((a0, a1, (0 : Int), ()), ())) fun y1 => .alt y1 (fun y2 =>
 .ret (((y2.1.1, ()), ()), ((), (), ()))) (fun y3 =>
 .ret (((y3.1.1, ()), ()), ((), (), ())))
def f69_A : Nat → Option LoopAnn := fun n => annOf [(0, { head := { t := [.ro tyN (some 0), .i .i64, .dead, .dead, .dead, .i .i64] ++ dd 43, v := [] }, out := { t := [.dead, .i .i64] ++ dd 47, v := [] }, ret := some { t := dd 4 ++ [.i .i64] ++ dd 44, v := [] } })] n
def heldInsSV (a0 : List InsD) (k : Int) : Option Int := hdP (mkcInsS a0) (decide (mkdInsS (k) a0 = a0)) k
def k69 : Con := { f := 69, lend := true, its := [⟨false, false, [.ro tyN]⟩, ⟨false, false, [.i .i64]⟩], lay := [none, none], rs := [⟨false, false, [.i .i64]⟩], F := fun x => .get (heldInsSV x.1.1 x.2.1.1) fun y => .ret (((y, ()), ()), ((), (), ())) }
theorem f69_eq (x : itemsD k69.its) : bo [] f69_A Tryz.f69 k69 [.tmp 4] x = f69_tree x.1.1 x.2.1.1 := by kernel_rfl
theorem f69_okp (hr : ∀ x : (List InsD × Unit) × (Int × Unit) × Unit, itemsWF k69.its x → ∀ y, (k69.F x).eval = some y → (f69_tree x.1.1 x.2.1.1).eval = some y) : k69.Ok Tryz.prog := con_fn [] trivial f69_eq hr
theorem k69_ok : k69.Ok Tryz.prog := by
  refine f69_okp fun x hw y hy => ?_
  obtain ⟨⟨a0, _⟩, ⟨k, _⟩, _⟩ := x
  change (Out.get (heldInsSV a0 k) fun y => Out.ret (((y, ()), ()), ((), ((), ())))).eval = some y at hy
  obtain ⟨h0, h1, hy⟩ := hdP_get hy
  refine Eq.trans ?_ hy
  show (f69_tree a0 k).eval = _
  unfold f69_tree
  have ha : a0.length ≤ BIG := hw.1.1.1
  have := hd_loop (f := f69_L0) a0 mkcIns mkdIns (fun k i => ((a0, (k, (((i : Nat) : Int), ()))), ())) (y := fun k => ((k, ()), ())) (z := ((-1, ()), ()))
    (fun i hi k h0 hk => by
      have h1 := wrap_succ (i := i) (by omega)
      unfold mkcIns at hk
      have w1 : IntKind.i64.wrap (k + 1) = k + 1 := wrap1 (by omega) (by omega)
      have w2 : IntKind.i64.wrap (k + 1 + 1) = k + 1 + 1 := wrap1 (by omega) (by omega)
      have w3 : IntKind.i64.wrap (k + 1 + 1 + 1) = k + 1 + 1 + 1 := wrap1 (by omega) (by omega)
      have w4 : IntKind.i64.wrap (k + 1 + 1 + 1 + 1) = k + 1 + 1 + 1 + 1 := wrap1 (by omega) (by omega)
      by_cases q1 : a0[i].1 = (k : Int)
      case neg =>
        have q' : ¬ (k : Int) = a0[i].1 := fun e => q1 e.symm
        rw [if_neg (fun e => q' (congrArg (fun x : InsD => x.1) e))]
        simp [f69_L0, Out.eval, hi, cond_eq_ite, q1]
      by_cases q2 : a0[i].2.1 = (k + 1 : Int)
      case neg =>
        have q' : ¬ (k + 1 : Int) = a0[i].2.1 := fun e => q2 e.symm
        rw [if_neg (fun e => q' (congrArg (fun x : InsD => x.2.1) e))]
        simp [f69_L0, Out.eval, hi, cond_eq_ite, w1, q1, q2]
      by_cases q3 : a0[i].2.2.1 = (k + 1 + 1 : Int)
      case neg =>
        have q' : ¬ (k + 1 + 1 : Int) = a0[i].2.2.1 := fun e => q3 e.symm
        rw [if_neg (fun e => q' (congrArg (fun x : InsD => x.2.2.1) e))]
        simp [f69_L0, Out.eval, hi, cond_eq_ite, w1, w2, q1, q2, q3]
      by_cases q4 : a0[i].2.2.2.1 = (k + 1 + 1 + 1 : Int)
      case neg =>
        have q' : ¬ (k + 1 + 1 + 1 : Int) = a0[i].2.2.2.1 := fun e => q4 e.symm
        rw [if_neg (fun e => q' (congrArg (fun x : InsD => x.2.2.2.1) e))]
        simp [f69_L0, Out.eval, hi, cond_eq_ite, w1, w2, w3, q1, q2, q3, q4]
      have hq : mkdIns k a0[i] = a0[i] := (Prod.ext q1.symm (Prod.ext q2.symm (Prod.ext q3.symm (Prod.ext q4.symm rfl))))
      rw [if_pos hq]
      simp [f69_L0, Out.eval, hi, h1, w1, w2, w3, w4, q1, q2, q3, q4, mkcIns] <;> omega)
    (fun k => by simp [f69_L0, Out.eval]) ha h0 h1
  refine (eval_get_some this).trans ?_
  show _ = (Out.ret _).eval
  unfold mkdInsS
  by_cases q : mkdL mkcIns mkdIns k a0 = a0
  · rw [if_pos q, if_pos (decide_eq_true q)]; rfl
  · rw [if_neg q, if_neg (by simpa using q)]; rfl
abbrev f35_S0 := (List (List InsD) × Int × Int × Unit) × (Unit)
def f35_L0 : f35_S0 → Out (Round f35_S0 ((Int × Unit) × (Unit)) ((Int × Unit) × (Unit)))
| ((p0, p1, p2, _), _) =>
 .ite (decide (p2 < ((List.length p0 : Nat) : Int)))
 (.ite (decide (0 ≤ p2))
 (.get (nth p0 (Int.toNat p2)) fun y1 =>
 .get (heldInsSV y1 p1) fun y2 =>
 .ite (decide (y2 < (0 : Int)))
 (.ret (.ret (((-1 : Int), ()), ())))
 (.ret (.again ((p0, y2, (IntKind.i64.wrap (p2 + (1 : Int))), ()), ()))))
 .fail)
 (.ret (.out ((p1, ()), ())))
def f35_tree (a0 : List (List InsD)) (a1 : Int) : Out (((Int × Unit) × Unit) × (Unit × Unit × Unit)) :=
 .get (iter f35_L0 FUEL ((a0, a1, (0 : Int), ()), ())) fun y1 => .alt y1 (fun y2 =>
 .ret (((y2.1.1, ()), ()), ((), (), ()))) (fun y3 =>
 .ret (((y3.1.1, ()), ()), ((), (), ())))
def f35_A : Nat → Option LoopAnn := fun n => annOf [(0, { head := { t := [.ro (.sl tyN) (some 0), .i .i64, .dead, .dead, .dead, .i .i64] ++ dd 15, v := [] }, out := { t := [.dead, .i .i64] ++ dd 19, v := [] }, ret := some { t := dd 4 ++ [.i .i64] ++ dd 16, v := [] } })] n
def heldInsSSV (a0 : List (List InsD)) (k : Int) : Option Int := hdP (mkcInsSS a0) (decide (mkdInsSS (k) a0 = a0)) k
def k35 : Con := { f := 35, lend := true, its := [⟨false, false, [.ro (.sl tyN)]⟩, ⟨false, false, [.i .i64]⟩], lay := [none, none], rs := [⟨false, false, [.i .i64]⟩], F := fun x => .get (heldInsSSV x.1.1 x.2.1.1) fun y => .ret (((y, ()), ()), ((), (), ())) }
theorem f35_eq (x : itemsD k35.its) : bo [k69] f35_A Tryz.f35 k35 [.tmp 4] x = f35_tree x.1.1 x.2.1.1 := by kernel_rfl
theorem f35_okp (hr : ∀ x : (List (List InsD) × Unit) × (Int × Unit) × Unit, itemsWF k35.its x → ∀ y, (k35.F x).eval = some y → (f35_tree x.1.1 x.2.1.1).eval = some y) : k35.Ok Tryz.prog := con_fn [k69] ⟨k69_ok, trivial⟩ f35_eq hr
theorem k35_ok : k35.Ok Tryz.prog := by
  refine f35_okp fun x hw y hy => ?_
  obtain ⟨⟨a0, _⟩, ⟨k, _⟩, _⟩ := x
  change (Out.get (heldInsSSV a0 k) fun y => Out.ret (((y, ()), ()), ((), ((), ())))).eval = some y at hy
  obtain ⟨h0, h1, hy⟩ := hdP_get hy
  refine Eq.trans ?_ hy
  show (f35_tree a0 k).eval = _
  unfold f35_tree
  have ha : a0.length ≤ BIG := hw.1.1.1
  have := hd_loop (f := f35_L0) a0 mkcInsS mkdInsS (fun k i => ((a0, (k, (((i : Nat) : Int), ()))), ())) (y := fun k => ((k, ()), ())) (z := ((-1, ()), ()))
    (fun i hi k h0 hk => by
      have h1 := wrap_succ (i := i) (by omega)
      have w1 : heldInsSV a0[i] (k) = some (if decide (mkdInsS (k) a0[i] = a0[i]) = true then k + (mkcInsS a0[i] : Nat) else -1) := hdP_in (by omega) (by omega)
      by_cases q1 : mkdInsS (k) a0[i] = a0[i]
      case neg =>
        have q' := q1
        rw [decide_eq_false q1, if_neg (by decide)] at w1
        rw [if_neg (fun e => q' (congrArg (fun x : List InsD => x) e))]
        simp [f35_L0, Out.eval, hi, cond_eq_ite, w1, q1]
      rw [decide_eq_true q1, if_pos rfl] at w1
      have n1 : ¬ k + (mkcInsS a0[i] : Nat) < 0 := by omega
      have hq : mkdInsS k a0[i] = a0[i] := q1
      rw [if_pos hq]
      simp [f35_L0, Out.eval, hi, h1, w1, q1, n1] <;> omega)
    (fun k => by simp [f35_L0, Out.eval]) ha h0 h1
  refine (eval_get_some this).trans ?_
  show _ = (Out.ret _).eval
  unfold mkdInsSS
  by_cases q : mkdL mkcInsS mkdInsS k a0 = a0
  · rw [if_pos q, if_pos (decide_eq_true q)]; rfl
  · rw [if_neg q, if_neg (by simpa using q)]; rfl
abbrev f36_S0 := (List ProcD × Int × Int × Unit) × (Unit)
def f36_L0 : f36_S0 → Out (Round f36_S0 ((Int × Unit) × (Unit)) ((Int × Unit) × (Unit)))
| ((p0, p1, p2, _), _) =>
 .ite (decide (p2 < ((List.length p0 : Nat) : Int)))
 (.ite (decide (0 ≤ p2))
 (.get (nth p0 (Int.toNat p2)) fun y1 =>
 .ite ((y1.1 != p1))
 (.ret (.ret (((-1 : Int), ()), ())))
 (.ite (decide (0 ≤ p2))
 (.get (nth p0 (Int.toNat p2)) fun y2 =>
 .ite ((y2.2.1 != (IntKind.i64.wrap (p1 + (1 : Int)))))
 (.ret (.ret (((-1 : Int), ()), ())))
 (.ite (decide (0 ≤ p2))
 (.get (nth p0 (Int.toNat p2)) fun y3 =>
 .ite ((y3.2.2.1 != (IntKind.i64.wrap ((IntKind.i64.wrap (p1 + (1 : Int))) + (1 : Int)))))
 (.ret (.ret (((-1 : Int), ()), ())))
 (.ite (decide (0 ≤ p2))
 (.get (nth p0 (Int.toNat p2)) fun y4 =>
 .ite ((y4.2.2.2.1 != (IntKind.i64.wrap ((IntKind.i64.wrap ((IntKind.i64.wrap (p1 + (1 : Int))) + (1 : Int))) + (1 : Int)))))
 (.ret (.ret (((-1 : Int), ()), ())))
 (.ite (decide (0 ≤ p2))
 (.get (nth p0 (Int.toNat p2)) fun y5 =>
 .ite ((y5.2.2.2.2.1.1 != (IntKind.i64.wrap ((IntKind.i64.wrap ((IntKind.i64.wrap ((IntKind.i64.wrap (p1 + (1 : Int))) + (1 : Int))) + (1 : Int))) + (1 : Int)))))
 (.ret (.ret (((-1 : Int), ()), ())))
 (.ite (decide (0 ≤ p2))
 (.get (nth p0 (Int.toNat p2)) fun y6 =>
 .get (heldIntSV y6.2.2.2.2.1.2.1 (IntKind.i64.wrap ((IntKind.i64.wrap ((IntKind.i64.wrap ((IntKind.i64.wrap ((IntKind.i64.wrap (p1 + (1 : Int))) + (1 : Int))) + (1 : Int))) + (1 : Int))) + (1 : Int)))) fun y7 =>
 .ite (decide (y7 < (0 : Int)))
 (.ret (.ret (((-1 : Int), ()), ())))
 (.ite (decide (0 ≤ p2))
 (.get (nth p0 (Int.toNat p2)) fun y8 =>
 .get (heldIntSV y8.2.2.2.2.2.1 y7) fun y9 =>
 .ite (decide (y9 < (0 : Int)))
 (.ret (.ret (((-1 : Int), ()), ())))
 (.ite (decide (0 ≤ p2))
 (.get (nth p0 (Int.toNat p2)) fun y10 =>
 .get (heldIntSV y10.2.2.2.2.2.2.1 y9) fun y11 =>
 .ite (decide (y11 < (0 : Int)))
 (.ret (.ret (((-1 : Int), ()), ())))
 (.ite (decide (0 ≤ p2))
 (.get (nth p0 (Int.toNat p2)) fun y12 =>
 .ite ((y12.2.2.2.2.2.2.2.1 != y11))
 (.ret (.ret (((-1 : Int), ()), ())))
 (.ite (decide (0 ≤ p2))
 (.get (nth p0 (Int.toNat p2)) fun y13 =>
 .ite ((y13.2.2.2.2.2.2.2.2.1 != (IntKind.i64.wrap (y11 + (1 : Int)))))
 (.ret (.ret (((-1 : Int), ()), ())))
 (.ret (.again ((p0, (IntKind.i64.wrap ((IntKind.i64.wrap (y11 + (1 : Int))) + (1 : Int))), (IntKind.i64.wrap (p2 + (1 : Int))), ()), ()))))
 .fail))
 .fail))
 .fail))
 .fail))
 .fail))
 .fail))
 .fail))
 .fail))
 .fail))
 .fail)
 (.ret (.out ((p1, ()), ())))
def f36_tree (a0 : List ProcD) (a1 : Int) : Out (((Int × Unit) × Unit) × (Unit × Unit × Unit)) :=
 .get (iter f36_L0 FUEL ((a0, a1, (0 : Int), ()), ())) fun y1 => .alt y1 (fun y2 =>
 .ret (((y2.1.1, ()), ()), ((), (), ()))) (fun y3 =>
 .ret (((y3.1.1, ()), ()), ((), (), ())))
def f36_A : Nat → Option LoopAnn := fun n => annOf [(0, { head := { t := [.ro tyP (some 0), .i .i64, .dead, .dead, .dead, .i .i64] ++ dd 99, v := [] }, out := { t := [.dead, .i .i64] ++ dd 103, v := [] }, ret := some { t := dd 4 ++ [.i .i64] ++ dd 100, v := [] } })] n
def heldProcSV (a0 : List ProcD) (k : Int) : Option Int := hdP (mkcProcS a0) (decide (mkdProcS (k) a0 = a0)) k
def k36 : Con := { f := 36, lend := true, its := [⟨false, false, [.ro tyP]⟩, ⟨false, false, [.i .i64]⟩], lay := [none, none], rs := [⟨false, false, [.i .i64]⟩], F := fun x => .get (heldProcSV x.1.1 x.2.1.1) fun y => .ret (((y, ()), ()), ((), (), ())) }
theorem f36_eq (x : itemsD k36.its) : bo [k40] f36_A Tryz.f36 k36 [.tmp 4] x = f36_tree x.1.1 x.2.1.1 := by kernel_rfl
theorem f36_okp (hr : ∀ x : (List ProcD × Unit) × (Int × Unit) × Unit, itemsWF k36.its x → ∀ y, (k36.F x).eval = some y → (f36_tree x.1.1 x.2.1.1).eval = some y) : k36.Ok Tryz.prog := con_fn [k40] ⟨k40_ok, trivial⟩ f36_eq hr
theorem k36_ok : k36.Ok Tryz.prog := by
  refine f36_okp fun x hw y hy => ?_
  obtain ⟨⟨a0, _⟩, ⟨k, _⟩, _⟩ := x
  change (Out.get (heldProcSV a0 k) fun y => Out.ret (((y, ()), ()), ((), ((), ())))).eval = some y at hy
  obtain ⟨h0, h1, hy⟩ := hdP_get hy
  refine Eq.trans ?_ hy
  show (f36_tree a0 k).eval = _
  unfold f36_tree
  have ha : a0.length ≤ BIG := hw.1.1.1
  have := hd_loop (f := f36_L0) a0 mkcProc mkdProc (fun k i => ((a0, (k, (((i : Nat) : Int), ()))), ())) (y := fun k => ((k, ()), ())) (z := ((-1, ()), ()))
    (fun i hi k h0 hk => by
      have h1 := wrap_succ (i := i) (by omega)
      unfold mkcProc at hk
      have w1 : IntKind.i64.wrap (k + 1) = k + 1 := wrap1 (by omega) (by omega)
      have w2 : IntKind.i64.wrap (k + 1 + 1) = k + 1 + 1 := wrap1 (by omega) (by omega)
      have w3 : IntKind.i64.wrap (k + 1 + 1 + 1) = k + 1 + 1 + 1 := wrap1 (by omega) (by omega)
      have w4 : IntKind.i64.wrap (k + 1 + 1 + 1 + 1) = k + 1 + 1 + 1 + 1 := wrap1 (by omega) (by omega)
      have w5 : IntKind.i64.wrap (k + 1 + 1 + 1 + 1 + 1) = k + 1 + 1 + 1 + 1 + 1 := wrap1 (by omega) (by omega)
      have w6 : heldIntSV a0[i].2.2.2.2.1.2.1 (k + 1 + 1 + 1 + 1 + 1) = some (if decide (mkdIntS (k + 1 + 1 + 1 + 1 + 1) a0[i].2.2.2.2.1.2.1 = a0[i].2.2.2.2.1.2.1) = true then k + 1 + 1 + 1 + 1 + 1 + (mkcIntS a0[i].2.2.2.2.1.2.1 : Nat) else -1) := hdP_in (by omega) (by omega)
      have w7 : heldIntSV a0[i].2.2.2.2.2.1 (k + 1 + 1 + 1 + 1 + 1 + (mkcIntS a0[i].2.2.2.2.1.2.1 : Nat)) = some (if decide (mkdIntS (k + 1 + 1 + 1 + 1 + 1 + (mkcIntS a0[i].2.2.2.2.1.2.1 : Nat)) a0[i].2.2.2.2.2.1 = a0[i].2.2.2.2.2.1) = true then k + 1 + 1 + 1 + 1 + 1 + (mkcIntS a0[i].2.2.2.2.1.2.1 : Nat) + (mkcIntS a0[i].2.2.2.2.2.1 : Nat) else -1) := hdP_in (by omega) (by omega)
      have w8 : heldIntSV a0[i].2.2.2.2.2.2.1 (k + 1 + 1 + 1 + 1 + 1 + (mkcIntS a0[i].2.2.2.2.1.2.1 : Nat) + (mkcIntS a0[i].2.2.2.2.2.1 : Nat)) = some (if decide (mkdIntS (k + 1 + 1 + 1 + 1 + 1 + (mkcIntS a0[i].2.2.2.2.1.2.1 : Nat) + (mkcIntS a0[i].2.2.2.2.2.1 : Nat)) a0[i].2.2.2.2.2.2.1 = a0[i].2.2.2.2.2.2.1) = true then k + 1 + 1 + 1 + 1 + 1 + (mkcIntS a0[i].2.2.2.2.1.2.1 : Nat) + (mkcIntS a0[i].2.2.2.2.2.1 : Nat) + (mkcIntS a0[i].2.2.2.2.2.2.1 : Nat) else -1) := hdP_in (by omega) (by omega)
      have w9 : IntKind.i64.wrap (k + 1 + 1 + 1 + 1 + 1 + (mkcIntS a0[i].2.2.2.2.1.2.1 : Nat) + (mkcIntS a0[i].2.2.2.2.2.1 : Nat) + (mkcIntS a0[i].2.2.2.2.2.2.1 : Nat) + 1) = k + 1 + 1 + 1 + 1 + 1 + (mkcIntS a0[i].2.2.2.2.1.2.1 : Nat) + (mkcIntS a0[i].2.2.2.2.2.1 : Nat) + (mkcIntS a0[i].2.2.2.2.2.2.1 : Nat) + 1 := wrap1 (by omega) (by omega)
      have w10 : IntKind.i64.wrap (k + 1 + 1 + 1 + 1 + 1 + (mkcIntS a0[i].2.2.2.2.1.2.1 : Nat) + (mkcIntS a0[i].2.2.2.2.2.1 : Nat) + (mkcIntS a0[i].2.2.2.2.2.2.1 : Nat) + 1 + 1) = k + 1 + 1 + 1 + 1 + 1 + (mkcIntS a0[i].2.2.2.2.1.2.1 : Nat) + (mkcIntS a0[i].2.2.2.2.2.1 : Nat) + (mkcIntS a0[i].2.2.2.2.2.2.1 : Nat) + 1 + 1 := wrap1 (by omega) (by omega)
      by_cases q1 : a0[i].1 = (k : Int)
      case neg =>
        have q' : ¬ (k : Int) = a0[i].1 := fun e => q1 e.symm
        rw [if_neg (fun e => q' (congrArg (fun x : ProcD => x.1) e))]
        simp [f36_L0, Out.eval, hi, cond_eq_ite, q1]
      by_cases q2 : a0[i].2.1 = (k + 1 : Int)
      case neg =>
        have q' : ¬ (k + 1 : Int) = a0[i].2.1 := fun e => q2 e.symm
        rw [if_neg (fun e => q' (congrArg (fun x : ProcD => x.2.1) e))]
        simp [f36_L0, Out.eval, hi, cond_eq_ite, w1, q1, q2]
      by_cases q3 : a0[i].2.2.1 = (k + 1 + 1 : Int)
      case neg =>
        have q' : ¬ (k + 1 + 1 : Int) = a0[i].2.2.1 := fun e => q3 e.symm
        rw [if_neg (fun e => q' (congrArg (fun x : ProcD => x.2.2.1) e))]
        simp [f36_L0, Out.eval, hi, cond_eq_ite, w1, w2, q1, q2, q3]
      by_cases q4 : a0[i].2.2.2.1 = (k + 1 + 1 + 1 : Int)
      case neg =>
        have q' : ¬ (k + 1 + 1 + 1 : Int) = a0[i].2.2.2.1 := fun e => q4 e.symm
        rw [if_neg (fun e => q' (congrArg (fun x : ProcD => x.2.2.2.1) e))]
        simp [f36_L0, Out.eval, hi, cond_eq_ite, w1, w2, w3, q1, q2, q3, q4]
      by_cases q5 : a0[i].2.2.2.2.1.1 = (k + 1 + 1 + 1 + 1 : Int)
      case neg =>
        have q' : ¬ (k + 1 + 1 + 1 + 1 : Int) = a0[i].2.2.2.2.1.1 := fun e => q5 e.symm
        rw [if_neg (fun e => q' (congrArg (fun x : ProcD => x.2.2.2.2.1.1) e))]
        simp [f36_L0, Out.eval, hi, cond_eq_ite, w1, w2, w3, w4, q1, q2, q3, q4, q5]
      by_cases q6 : mkdIntS (k + 1 + 1 + 1 + 1 + 1) a0[i].2.2.2.2.1.2.1 = a0[i].2.2.2.2.1.2.1
      case neg =>
        have q' := q6
        rw [decide_eq_false q6, if_neg (by decide)] at w6
        rw [if_neg (fun e => q' (congrArg (fun x : ProcD => x.2.2.2.2.1.2.1) e))]
        simp [f36_L0, Out.eval, hi, cond_eq_ite, w1, w2, w3, w4, w5, w6, q1, q2, q3, q4, q5, q6]
      rw [decide_eq_true q6, if_pos rfl] at w6
      have n6 : ¬ k + 1 + 1 + 1 + 1 + 1 + (mkcIntS a0[i].2.2.2.2.1.2.1 : Nat) < 0 := by omega
      by_cases q7 : mkdIntS (k + 1 + 1 + 1 + 1 + 1 + (mkcIntS a0[i].2.2.2.2.1.2.1 : Nat)) a0[i].2.2.2.2.2.1 = a0[i].2.2.2.2.2.1
      case neg =>
        have q' := q7
        rw [decide_eq_false q7, if_neg (by decide)] at w7
        rw [if_neg (fun e => q' (congrArg (fun x : ProcD => x.2.2.2.2.2.1) e))]
        simp [f36_L0, Out.eval, hi, cond_eq_ite, w1, w2, w3, w4, w5, w6, w7, q1, q2, q3, q4, q5, q6, q7]
      rw [decide_eq_true q7, if_pos rfl] at w7
      have n7 : ¬ k + 1 + 1 + 1 + 1 + 1 + (mkcIntS a0[i].2.2.2.2.1.2.1 : Nat) + (mkcIntS a0[i].2.2.2.2.2.1 : Nat) < 0 := by omega
      by_cases q8 : mkdIntS (k + 1 + 1 + 1 + 1 + 1 + (mkcIntS a0[i].2.2.2.2.1.2.1 : Nat) + (mkcIntS a0[i].2.2.2.2.2.1 : Nat)) a0[i].2.2.2.2.2.2.1 = a0[i].2.2.2.2.2.2.1
      case neg =>
        have q' := q8
        rw [decide_eq_false q8, if_neg (by decide)] at w8
        rw [if_neg (fun e => q' (congrArg (fun x : ProcD => x.2.2.2.2.2.2.1) e))]
        simp [f36_L0, Out.eval, hi, cond_eq_ite, w1, w2, w3, w4, w5, w6, w7, w8, q1, q2, q3, q4, q5, q6, q7, q8]
      rw [decide_eq_true q8, if_pos rfl] at w8
      have n8 : ¬ k + 1 + 1 + 1 + 1 + 1 + (mkcIntS a0[i].2.2.2.2.1.2.1 : Nat) + (mkcIntS a0[i].2.2.2.2.2.1 : Nat) + (mkcIntS a0[i].2.2.2.2.2.2.1 : Nat) < 0 := by omega
      by_cases q9 : a0[i].2.2.2.2.2.2.2.1 = (k + 1 + 1 + 1 + 1 + 1 + (mkcIntS a0[i].2.2.2.2.1.2.1 : Nat) + (mkcIntS a0[i].2.2.2.2.2.1 : Nat) + (mkcIntS a0[i].2.2.2.2.2.2.1 : Nat) : Int)
      case neg =>
        have q' : ¬ (k + 1 + 1 + 1 + 1 + 1 + (mkcIntS a0[i].2.2.2.2.1.2.1 : Nat) + (mkcIntS a0[i].2.2.2.2.2.1 : Nat) + (mkcIntS a0[i].2.2.2.2.2.2.1 : Nat) : Int) = a0[i].2.2.2.2.2.2.2.1 := fun e => q9 e.symm
        rw [if_neg (fun e => q' (congrArg (fun x : ProcD => x.2.2.2.2.2.2.2.1) e))]
        simp [f36_L0, Out.eval, hi, cond_eq_ite, w1, w2, w3, w4, w5, w6, w7, w8, q1, q2, q3, q4, q5, q6, q7, q8, q9]
      by_cases q10 : a0[i].2.2.2.2.2.2.2.2.1 = (k + 1 + 1 + 1 + 1 + 1 + (mkcIntS a0[i].2.2.2.2.1.2.1 : Nat) + (mkcIntS a0[i].2.2.2.2.2.1 : Nat) + (mkcIntS a0[i].2.2.2.2.2.2.1 : Nat) + 1 : Int)
      case neg =>
        have q' : ¬ (k + 1 + 1 + 1 + 1 + 1 + (mkcIntS a0[i].2.2.2.2.1.2.1 : Nat) + (mkcIntS a0[i].2.2.2.2.2.1 : Nat) + (mkcIntS a0[i].2.2.2.2.2.2.1 : Nat) + 1 : Int) = a0[i].2.2.2.2.2.2.2.2.1 := fun e => q10 e.symm
        rw [if_neg (fun e => q' (congrArg (fun x : ProcD => x.2.2.2.2.2.2.2.2.1) e))]
        simp [f36_L0, Out.eval, hi, cond_eq_ite, w1, w2, w3, w4, w5, w6, w7, w8, w9, q1, q2, q3, q4, q5, q6, q7, q8, q9, q10]
      have hq : mkdProc k a0[i] = a0[i] := (Prod.ext q1.symm (Prod.ext q2.symm (Prod.ext q3.symm (Prod.ext q4.symm (Prod.ext (Prod.ext q5.symm (Prod.ext q6 rfl)) (Prod.ext q7 (Prod.ext q8 (Prod.ext q9.symm (Prod.ext q10.symm rfl)))))))))
      rw [if_pos hq]
      simp [f36_L0, Out.eval, hi, h1, w1, w2, w3, w4, w5, w6, w7, w8, w9, w10, q1, q2, q3, q4, q5, q6, q7, q8, q9, q10, n6, n7, n8, mkcProc] <;> omega)
    (fun k => by simp [f36_L0, Out.eval]) ha h0 h1
  refine (eval_get_some this).trans ?_
  show _ = (Out.ret _).eval
  unfold mkdProcS
  by_cases q : mkdL mkcProc mkdProc k a0 = a0
  · rw [if_pos q, if_pos (decide_eq_true q)]; rfl
  · rw [if_neg q, if_neg (by simpa using q)]; rfl
abbrev f37_S0 := (List OpenD × Int × Int × Unit) × (Unit)
def f37_L0 : f37_S0 → Out (Round f37_S0 ((Int × Unit) × (Unit)) ((Int × Unit) × (Unit)))
| ((p0, p1, p2, _), _) =>
 .ite (decide (p2 < ((List.length p0 : Nat) : Int)))
 (.ite (decide (0 ≤ p2))
 (.get (nth p0 (Int.toNat p2)) fun y1 =>
 .ite ((y1.1 != p1))
 (.ret (.ret (((-1 : Int), ()), ())))
 (.ite (decide (0 ≤ p2))
 (.get (nth p0 (Int.toNat p2)) fun y2 =>
 .ite ((y2.2.1 != (IntKind.i64.wrap (p1 + (1 : Int)))))
 (.ret (.ret (((-1 : Int), ()), ())))
 (.ite (decide (0 ≤ p2))
 (.get (nth p0 (Int.toNat p2)) fun y3 =>
 .ite ((y3.2.2.1 != (IntKind.i64.wrap ((IntKind.i64.wrap (p1 + (1 : Int))) + (1 : Int)))))
 (.ret (.ret (((-1 : Int), ()), ())))
 (.ite (decide (0 ≤ p2))
 (.get (nth p0 (Int.toNat p2)) fun y4 =>
 .ite ((y4.2.2.2.1 != (IntKind.i64.wrap ((IntKind.i64.wrap ((IntKind.i64.wrap (p1 + (1 : Int))) + (1 : Int))) + (1 : Int)))))
 (.ret (.ret (((-1 : Int), ()), ())))
 (.ite (decide (0 ≤ p2))
 (.get (nth p0 (Int.toNat p2)) fun y5 =>
 .ite ((y5.2.2.2.2.1 != (IntKind.i64.wrap ((IntKind.i64.wrap ((IntKind.i64.wrap ((IntKind.i64.wrap (p1 + (1 : Int))) + (1 : Int))) + (1 : Int))) + (1 : Int)))))
 (.ret (.ret (((-1 : Int), ()), ())))
 (.ret (.again ((p0, (IntKind.i64.wrap ((IntKind.i64.wrap ((IntKind.i64.wrap ((IntKind.i64.wrap ((IntKind.i64.wrap (p1 + (1 : Int))) + (1 : Int))) + (1 : Int))) + (1 : Int))) + (1 : Int))), (IntKind.i64.wrap (p2 + (1 : Int))), ()), ()))))
 .fail))
 .fail))
 .fail))
 .fail))
 .fail)
 (.ret (.out ((p1, ()), ())))
def f37_tree (a0 : List OpenD) (a1 : Int) : Out (((Int × Unit) × Unit) × (Unit × Unit × Unit)) :=
 .get (iter f37_L0 FUEL ((a0, a1, (0 : Int), ()), ())) fun y1 => .alt y1 (fun y2 =>
 .ret (((y2.1.1, ()), ()), ((), (), ()))) (fun y3 =>
 .ret (((y3.1.1, ()), ()), ((), (), ())))
def f37_A : Nat → Option LoopAnn := fun n => annOf [(0, { head := { t := [.ro tyO (some 0), .i .i64, .dead, .dead, .dead, .i .i64] ++ dd 52, v := [] }, out := { t := [.dead, .i .i64] ++ dd 56, v := [] }, ret := some { t := dd 4 ++ [.i .i64] ++ dd 53, v := [] } })] n
def heldOpenSV (a0 : List OpenD) (k : Int) : Option Int := hdP (mkcOpenS a0) (decide (mkdOpenS (k) a0 = a0)) k
def k37 : Con := { f := 37, lend := true, its := [⟨false, false, [.ro tyO]⟩, ⟨false, false, [.i .i64]⟩], lay := [none, none], rs := [⟨false, false, [.i .i64]⟩], F := fun x => .get (heldOpenSV x.1.1 x.2.1.1) fun y => .ret (((y, ()), ()), ((), (), ())) }
theorem f37_eq (x : itemsD k37.its) : bo [] f37_A Tryz.f37 k37 [.tmp 4] x = f37_tree x.1.1 x.2.1.1 := by kernel_rfl
theorem f37_okp (hr : ∀ x : (List OpenD × Unit) × (Int × Unit) × Unit, itemsWF k37.its x → ∀ y, (k37.F x).eval = some y → (f37_tree x.1.1 x.2.1.1).eval = some y) : k37.Ok Tryz.prog := con_fn [] trivial f37_eq hr
theorem k37_ok : k37.Ok Tryz.prog := by
  refine f37_okp fun x hw y hy => ?_
  obtain ⟨⟨a0, _⟩, ⟨k, _⟩, _⟩ := x
  change (Out.get (heldOpenSV a0 k) fun y => Out.ret (((y, ()), ()), ((), ((), ())))).eval = some y at hy
  obtain ⟨h0, h1, hy⟩ := hdP_get hy
  refine Eq.trans ?_ hy
  show (f37_tree a0 k).eval = _
  unfold f37_tree
  have ha : a0.length ≤ BIG := hw.1.1.1
  have := hd_loop (f := f37_L0) a0 mkcOpen mkdOpen (fun k i => ((a0, (k, (((i : Nat) : Int), ()))), ())) (y := fun k => ((k, ()), ())) (z := ((-1, ()), ()))
    (fun i hi k h0 hk => by
      have h1 := wrap_succ (i := i) (by omega)
      unfold mkcOpen at hk
      have w1 : IntKind.i64.wrap (k + 1) = k + 1 := wrap1 (by omega) (by omega)
      have w2 : IntKind.i64.wrap (k + 1 + 1) = k + 1 + 1 := wrap1 (by omega) (by omega)
      have w3 : IntKind.i64.wrap (k + 1 + 1 + 1) = k + 1 + 1 + 1 := wrap1 (by omega) (by omega)
      have w4 : IntKind.i64.wrap (k + 1 + 1 + 1 + 1) = k + 1 + 1 + 1 + 1 := wrap1 (by omega) (by omega)
      have w5 : IntKind.i64.wrap (k + 1 + 1 + 1 + 1 + 1) = k + 1 + 1 + 1 + 1 + 1 := wrap1 (by omega) (by omega)
      by_cases q1 : a0[i].1 = (k : Int)
      case neg =>
        have q' : ¬ (k : Int) = a0[i].1 := fun e => q1 e.symm
        rw [if_neg (fun e => q' (congrArg (fun x : OpenD => x.1) e))]
        simp [f37_L0, Out.eval, hi, cond_eq_ite, q1]
      by_cases q2 : a0[i].2.1 = (k + 1 : Int)
      case neg =>
        have q' : ¬ (k + 1 : Int) = a0[i].2.1 := fun e => q2 e.symm
        rw [if_neg (fun e => q' (congrArg (fun x : OpenD => x.2.1) e))]
        simp [f37_L0, Out.eval, hi, cond_eq_ite, w1, q1, q2]
      by_cases q3 : a0[i].2.2.1 = (k + 1 + 1 : Int)
      case neg =>
        have q' : ¬ (k + 1 + 1 : Int) = a0[i].2.2.1 := fun e => q3 e.symm
        rw [if_neg (fun e => q' (congrArg (fun x : OpenD => x.2.2.1) e))]
        simp [f37_L0, Out.eval, hi, cond_eq_ite, w1, w2, q1, q2, q3]
      by_cases q4 : a0[i].2.2.2.1 = (k + 1 + 1 + 1 : Int)
      case neg =>
        have q' : ¬ (k + 1 + 1 + 1 : Int) = a0[i].2.2.2.1 := fun e => q4 e.symm
        rw [if_neg (fun e => q' (congrArg (fun x : OpenD => x.2.2.2.1) e))]
        simp [f37_L0, Out.eval, hi, cond_eq_ite, w1, w2, w3, q1, q2, q3, q4]
      by_cases q5 : a0[i].2.2.2.2.1 = (k + 1 + 1 + 1 + 1 : Int)
      case neg =>
        have q' : ¬ (k + 1 + 1 + 1 + 1 : Int) = a0[i].2.2.2.2.1 := fun e => q5 e.symm
        rw [if_neg (fun e => q' (congrArg (fun x : OpenD => x.2.2.2.2.1) e))]
        simp [f37_L0, Out.eval, hi, cond_eq_ite, w1, w2, w3, w4, q1, q2, q3, q4, q5]
      have hq : mkdOpen k a0[i] = a0[i] := (Prod.ext q1.symm (Prod.ext q2.symm (Prod.ext q3.symm (Prod.ext q4.symm (Prod.ext q5.symm rfl)))))
      rw [if_pos hq]
      simp [f37_L0, Out.eval, hi, h1, w1, w2, w3, w4, w5, q1, q2, q3, q4, q5, mkcOpen] <;> omega)
    (fun k => by simp [f37_L0, Out.eval]) ha h0 h1
  refine (eval_get_some this).trans ?_
  show _ = (Out.ret _).eval
  unfold mkdOpenS
  by_cases q : mkdL mkcOpen mkdOpen k a0 = a0
  · rw [if_pos q, if_pos (decide_eq_true q)]; rfl
  · rw [if_neg q, if_neg (by simpa using q)]; rfl
abbrev f38_S0 := (List CpuD × Int × Int × Unit) × (Unit)
def f38_L0 : f38_S0 → Out (Round f38_S0 ((Int × Unit) × (Unit)) ((Int × Unit) × (Unit)))
| ((p0, p1, p2, _), _) =>
 .ite (decide (p2 < ((List.length p0 : Nat) : Int)))
 (.ite (decide (0 ≤ p2))
 (.get (nth p0 (Int.toNat p2)) fun y1 =>
 .ite ((y1.1 != p1))
 (.ret (.ret (((-1 : Int), ()), ())))
 (.ite (decide (0 ≤ p2))
 (.get (nth p0 (Int.toNat p2)) fun y2 =>
 .get (heldIntSV y2.2.1 (IntKind.i64.wrap (p1 + (1 : Int)))) fun y3 =>
 .ite (decide (y3 < (0 : Int)))
 (.ret (.ret (((-1 : Int), ()), ())))
 (.ret (.again ((p0, y3, (IntKind.i64.wrap (p2 + (1 : Int))), ()), ()))))
 .fail))
 .fail)
 (.ret (.out ((p1, ()), ())))
def f38_tree (a0 : List CpuD) (a1 : Int) : Out (((Int × Unit) × Unit) × (Unit × Unit × Unit)) :=
 .get (iter f38_L0 FUEL ((a0, a1, (0 : Int), ()), ())) fun y1 => .alt y1 (fun y2 =>
 .ret (((y2.1.1, ()), ()), ((), (), ()))) (fun y3 =>
 .ret (((y3.1.1, ()), ()), ((), (), ())))
def f38_A : Nat → Option LoopAnn := fun n => annOf [(0, { head := { t := [.ro tyF (some 0), .i .i64, .dead, .dead, .dead, .i .i64] ++ dd 25, v := [] }, out := { t := [.dead, .i .i64] ++ dd 29, v := [] }, ret := some { t := dd 4 ++ [.i .i64] ++ dd 26, v := [] } })] n
def heldCpuSV (a0 : List CpuD) (k : Int) : Option Int := hdP (mkcCpuS a0) (decide (mkdCpuS (k) a0 = a0)) k
def k38 : Con := { f := 38, lend := true, its := [⟨false, false, [.ro tyF]⟩, ⟨false, false, [.i .i64]⟩], lay := [none, none], rs := [⟨false, false, [.i .i64]⟩], F := fun x => .get (heldCpuSV x.1.1 x.2.1.1) fun y => .ret (((y, ()), ()), ((), (), ())) }
theorem f38_eq (x : itemsD k38.its) : bo [k40] f38_A Tryz.f38 k38 [.tmp 4] x = f38_tree x.1.1 x.2.1.1 := by kernel_rfl
theorem f38_okp (hr : ∀ x : (List CpuD × Unit) × (Int × Unit) × Unit, itemsWF k38.its x → ∀ y, (k38.F x).eval = some y → (f38_tree x.1.1 x.2.1.1).eval = some y) : k38.Ok Tryz.prog := con_fn [k40] ⟨k40_ok, trivial⟩ f38_eq hr
theorem k38_ok : k38.Ok Tryz.prog := by
  refine f38_okp fun x hw y hy => ?_
  obtain ⟨⟨a0, _⟩, ⟨k, _⟩, _⟩ := x
  change (Out.get (heldCpuSV a0 k) fun y => Out.ret (((y, ()), ()), ((), ((), ())))).eval = some y at hy
  obtain ⟨h0, h1, hy⟩ := hdP_get hy
  refine Eq.trans ?_ hy
  show (f38_tree a0 k).eval = _
  unfold f38_tree
  have ha : a0.length ≤ BIG := hw.1.1.1
  have := hd_loop (f := f38_L0) a0 mkcCpu mkdCpu (fun k i => ((a0, (k, (((i : Nat) : Int), ()))), ())) (y := fun k => ((k, ()), ())) (z := ((-1, ()), ()))
    (fun i hi k h0 hk => by
      have h1 := wrap_succ (i := i) (by omega)
      unfold mkcCpu at hk
      have w1 : IntKind.i64.wrap (k + 1) = k + 1 := wrap1 (by omega) (by omega)
      have w2 : heldIntSV a0[i].2.1 (k + 1) = some (if decide (mkdIntS (k + 1) a0[i].2.1 = a0[i].2.1) = true then k + 1 + (mkcIntS a0[i].2.1 : Nat) else -1) := hdP_in (by omega) (by omega)
      by_cases q1 : a0[i].1 = (k : Int)
      case neg =>
        have q' : ¬ (k : Int) = a0[i].1 := fun e => q1 e.symm
        rw [if_neg (fun e => q' (congrArg (fun x : CpuD => x.1) e))]
        simp [f38_L0, Out.eval, hi, cond_eq_ite, q1]
      by_cases q2 : mkdIntS (k + 1) a0[i].2.1 = a0[i].2.1
      case neg =>
        have q' := q2
        rw [decide_eq_false q2, if_neg (by decide)] at w2
        rw [if_neg (fun e => q' (congrArg (fun x : CpuD => x.2.1) e))]
        simp [f38_L0, Out.eval, hi, cond_eq_ite, w1, w2, q1, q2]
      rw [decide_eq_true q2, if_pos rfl] at w2
      have n2 : ¬ k + 1 + (mkcIntS a0[i].2.1 : Nat) < 0 := by omega
      have hq : mkdCpu k a0[i] = a0[i] := (Prod.ext q1.symm (Prod.ext q2 rfl))
      rw [if_pos hq]
      simp [f38_L0, Out.eval, hi, h1, w1, w2, q1, q2, n2, mkcCpu] <;> omega)
    (fun k => by simp [f38_L0, Out.eval]) ha h0 h1
  refine (eval_get_some this).trans ?_
  show _ = (Out.ret _).eval
  unfold mkdCpuS
  by_cases q : mkdL mkcCpu mkdCpu k a0 = a0
  · rw [if_pos q, if_pos (decide_eq_true q)]; rfl
  · rw [if_neg q, if_neg (by simpa using q)]; rfl
abbrev f39_S0 := (List CpuD × Int × Int × Unit) × (Unit)
def f39_L0 : f39_S0 → Out (Round f39_S0 ((Int × Unit) × (Unit)) ((Int × Unit) × (Unit)))
| ((p0, p1, p2, _), _) =>
 .ite (decide (p2 < ((List.length p0 : Nat) : Int)))
 (.ite (decide (0 ≤ p2))
 (.get (nth p0 (Int.toNat p2)) fun y1 =>
 .ite ((y1.1 != p1))
 (.ret (.ret (((-1 : Int), ()), ())))
 (.ite (decide (0 ≤ p2))
 (.get (nth p0 (Int.toNat p2)) fun y2 =>
 .get (heldIntSV y2.2.1 (IntKind.i64.wrap (p1 + (1 : Int)))) fun y3 =>
 .ite (decide (y3 < (0 : Int)))
 (.ret (.ret (((-1 : Int), ()), ())))
 (.ret (.again ((p0, y3, (IntKind.i64.wrap (p2 + (1 : Int))), ()), ()))))
 .fail))
 .fail)
 (.ret (.out ((p1, ()), ())))
def f39_tree (a0 : List CpuD) (a1 : Int) : Out (((Int × Unit) × Unit) × (Unit × Unit × Unit)) :=
 .get (iter f39_L0 FUEL ((a0, a1, (0 : Int), ()), ())) fun y1 => .alt y1 (fun y2 =>
 .ret (((y2.1.1, ()), ()), ((), (), ()))) (fun y3 =>
 .ret (((y3.1.1, ()), ()), ((), (), ())))
def f39_A : Nat → Option LoopAnn := fun n => annOf [(0, { head := { t := [.ro tyF (some 0), .i .i64, .dead, .dead, .dead, .i .i64] ++ dd 25, v := [] }, out := { t := [.dead, .i .i64] ++ dd 29, v := [] }, ret := some { t := dd 4 ++ [.i .i64] ++ dd 26, v := [] } })] n
def k39 : Con := { f := 39, lend := true, its := [⟨false, false, [.ro tyF]⟩, ⟨false, false, [.i .i64]⟩], lay := [none, none], rs := [⟨false, false, [.i .i64]⟩], F := fun x => .get (heldCpuSV x.1.1 x.2.1.1) fun y => .ret (((y, ()), ()), ((), (), ())) }
theorem f39_eq (x : itemsD k39.its) : bo [k40] f39_A Tryz.f39 k39 [.tmp 4] x = f39_tree x.1.1 x.2.1.1 := by kernel_rfl
theorem f39_okp (hr : ∀ x : (List CpuD × Unit) × (Int × Unit) × Unit, itemsWF k39.its x → ∀ y, (k39.F x).eval = some y → (f39_tree x.1.1 x.2.1.1).eval = some y) : k39.Ok Tryz.prog := con_fn [k40] ⟨k40_ok, trivial⟩ f39_eq hr
theorem k39_ok : k39.Ok Tryz.prog := by
  refine f39_okp fun x hw y hy => ?_
  obtain ⟨⟨a0, _⟩, ⟨k, _⟩, _⟩ := x
  change (Out.get (heldCpuSV a0 k) fun y => Out.ret (((y, ()), ()), ((), ((), ())))).eval = some y at hy
  obtain ⟨h0, h1, hy⟩ := hdP_get hy
  refine Eq.trans ?_ hy
  show (f39_tree a0 k).eval = _
  unfold f39_tree
  have ha : a0.length ≤ BIG := hw.1.1.1
  have := hd_loop (f := f39_L0) a0 mkcCpu mkdCpu (fun k i => ((a0, (k, (((i : Nat) : Int), ()))), ())) (y := fun k => ((k, ()), ())) (z := ((-1, ()), ()))
    (fun i hi k h0 hk => by
      have h1 := wrap_succ (i := i) (by omega)
      unfold mkcCpu at hk
      have w1 : IntKind.i64.wrap (k + 1) = k + 1 := wrap1 (by omega) (by omega)
      have w2 : heldIntSV a0[i].2.1 (k + 1) = some (if decide (mkdIntS (k + 1) a0[i].2.1 = a0[i].2.1) = true then k + 1 + (mkcIntS a0[i].2.1 : Nat) else -1) := hdP_in (by omega) (by omega)
      by_cases q1 : a0[i].1 = (k : Int)
      case neg =>
        have q' : ¬ (k : Int) = a0[i].1 := fun e => q1 e.symm
        rw [if_neg (fun e => q' (congrArg (fun x : CpuD => x.1) e))]
        simp [f39_L0, Out.eval, hi, cond_eq_ite, q1]
      by_cases q2 : mkdIntS (k + 1) a0[i].2.1 = a0[i].2.1
      case neg =>
        have q' := q2
        rw [decide_eq_false q2, if_neg (by decide)] at w2
        rw [if_neg (fun e => q' (congrArg (fun x : CpuD => x.2.1) e))]
        simp [f39_L0, Out.eval, hi, cond_eq_ite, w1, w2, q1, q2]
      rw [decide_eq_true q2, if_pos rfl] at w2
      have n2 : ¬ k + 1 + (mkcIntS a0[i].2.1 : Nat) < 0 := by omega
      have hq : mkdCpu k a0[i] = a0[i] := (Prod.ext q1.symm (Prod.ext q2 rfl))
      rw [if_pos hq]
      simp [f39_L0, Out.eval, hi, h1, w1, w2, q1, q2, n2, mkcCpu] <;> omega)
    (fun k => by simp [f39_L0, Out.eval]) ha h0 h1
  refine (eval_get_some this).trans ?_
  show _ = (Out.ret _).eval
  unfold mkdCpuS
  by_cases q : mkdL mkcCpu mkdCpu k a0 = a0
  · rw [if_pos q, if_pos (decide_eq_true q)]; rfl
  · rw [if_neg q, if_neg (by simpa using q)]; rfl
end Go.Proofs.YtcpjdjgipmjhdaaGreat.Dm
