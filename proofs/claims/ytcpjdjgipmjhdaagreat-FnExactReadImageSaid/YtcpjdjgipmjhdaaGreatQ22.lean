/- Functions of the program, and what they compute. -/
import Derived.Test.YtcpjdjgipmjhdaaGreatQ21
namespace Go.Proofs.YtcpjdjgipmjhdaaGreat.Dm
open Go Go.ChangeShapes Go.WideShapes Go.ChangeAt Go.RowKit
def f9_tree (a0 : Int) (a1 : Int) (a2 : List (List InsD)) (a3 : List ProcD) (a4 : List OpenD) (a5 : List CpuD) (a6 : List CpuD) (a7 : List Int) (a8 : List Int) (a9 : Int) : Out (((Int × Unit) × Unit) × (Unit × Unit × Unit)) :=
 .get (heldInsSSV a2 a9) fun y1 =>
 .ite (decide (y1 < (0 : Int)))
 (.ret ((((-1 : Int), ()), ()), ((), (), ())))
 (.get (heldProcSV a3 y1) fun y2 =>
 .ite (decide (y2 < (0 : Int)))
 (.ret ((((-1 : Int), ()), ()), ((), (), ())))
 (.get (heldOpenSV a4 y2) fun y3 =>
 .ite (decide (y3 < (0 : Int)))
 (.ret ((((-1 : Int), ()), ()), ((), (), ())))
 (.get (heldCpuSV a5 y3) fun y4 =>
 .ite (decide (y4 < (0 : Int)))
 (.ret ((((-1 : Int), ()), ()), ((), (), ())))
 (.get (heldCpuSV a6 y4) fun y5 =>
 .ite (decide (y5 < (0 : Int)))
 (.ret ((((-1 : Int), ()), ()), ((), (), ())))
 (.get (heldIntSV a7 y5) fun y6 =>
 .ite (decide (y6 < (0 : Int)))
 (.ret ((((-1 : Int), ()), ()), ((), (), ())))
 (.get (heldIntSV a8 y6) fun y7 =>
 .ite (decide (y7 < (0 : Int)))
 (.ret ((((-1 : Int), ()), ()), ((), (), ())))
 (.ret (((y7, ()), ()), ((), (), ())))))))))
def heldUnixV (_a0 : Int) (_a1 : Int) (a2 : List (List InsD)) (a3 : List ProcD) (a4 : List OpenD) (a5 : List CpuD) (a6 : List CpuD) (a7 : List Int) (a8 : List Int) (k : Int) : Option Int := hdP (mkcInsSS a2 + mkcProcS a3 + mkcOpenS a4 + mkcCpuS a5 + mkcCpuS a6 + mkcIntS a7 + mkcIntS a8) (decide (mkdInsSS (k) a2 = a2) && decide (mkdProcS (k + (mkcInsSS a2 : Nat)) a3 = a3) && decide (mkdOpenS (k + (mkcInsSS a2 : Nat) + (mkcProcS a3 : Nat)) a4 = a4) && decide (mkdCpuS (k + (mkcInsSS a2 : Nat) + (mkcProcS a3 : Nat) + (mkcOpenS a4 : Nat)) a5 = a5) && decide (mkdCpuS (k + (mkcInsSS a2 : Nat) + (mkcProcS a3 : Nat) + (mkcOpenS a4 : Nat) + (mkcCpuS a5 : Nat)) a6 = a6) && decide (mkdIntS (k + (mkcInsSS a2 : Nat) + (mkcProcS a3 : Nat) + (mkcOpenS a4 : Nat) + (mkcCpuS a5 : Nat) + (mkcCpuS a6 : Nat)) a7 = a7) && decide (mkdIntS (k + (mkcInsSS a2 : Nat) + (mkcProcS a3 : Nat) + (mkcOpenS a4 : Nat) + (mkcCpuS a5 : Nat) + (mkcCpuS a6 : Nat) + (mkcIntS a7 : Nat)) a8 = a8)) k
def k9 : Con := { f := 9, lend := true, its := [⟨false, true, [.i .i64, .i .i64, .ro (.sl tyN), .ro tyP, .ro tyO, .ro tyF, .ro tyF, .ro (.int .i64), .ro (.int .i64)]⟩, ⟨false, false, [.i .i64]⟩], lay := [none, none], rs := [⟨false, false, [.i .i64]⟩], F := fun x => .get (heldUnixV x.1.1 x.1.2.1 x.1.2.2.1 x.1.2.2.2.1 x.1.2.2.2.2.1 x.1.2.2.2.2.2.1 x.1.2.2.2.2.2.2.1 x.1.2.2.2.2.2.2.2.1 x.1.2.2.2.2.2.2.2.2.1 x.2.1.1) fun y => .ret (((y, ()), ()), ((), (), ())) }
theorem f9_eq (x : itemsD k9.its) : bo [k35, k36, k37, k38, k39, k40] (fun _ => none) Tryz.f9 k9 [.tmp 4] x = f9_tree x.1.1 x.1.2.1 x.1.2.2.1 x.1.2.2.2.1 x.1.2.2.2.2.1 x.1.2.2.2.2.2.1 x.1.2.2.2.2.2.2.1 x.1.2.2.2.2.2.2.2.1 x.1.2.2.2.2.2.2.2.2.1 x.2.1.1 := by kernel_rfl
theorem f9_okp (hr : ∀ x : UnixD × (Int × Unit) × Unit, itemsWF k9.its x → ∀ y, (k9.F x).eval = some y → (f9_tree x.1.1 x.1.2.1 x.1.2.2.1 x.1.2.2.2.1 x.1.2.2.2.2.1 x.1.2.2.2.2.2.1 x.1.2.2.2.2.2.2.1 x.1.2.2.2.2.2.2.2.1 x.1.2.2.2.2.2.2.2.2.1 x.2.1.1).eval = some y) : k9.Ok Tryz.prog := con_fn [k35, k36, k37, k38, k39, k40] ⟨k35_ok, k36_ok, k37_ok, k38_ok, k39_ok, k40_ok, trivial⟩ f9_eq hr
theorem k9_ok : k9.Ok Tryz.prog := by
  refine f9_okp fun x hw y hy => ?_
  obtain ⟨⟨a0, a1, a2, a3, a4, a5, a6, a7, a8, _⟩, ⟨k, _⟩, _⟩ := x
  change (Out.get (heldUnixV a0 a1 a2 a3 a4 a5 a6 a7 a8 k) fun y => Out.ret (((y, ()), ()), ((), ((), ())))).eval = some y at hy
  obtain ⟨h0, h1, hy⟩ := hdP_get hy
  refine Eq.trans ?_ hy
  show (f9_tree a0 a1 a2 a3 a4 a5 a6 a7 a8 k).eval = _
  unfold f9_tree
  have e0 : heldInsSSV a2 (k) = some (if decide (mkdInsSS (k) a2 = a2) = true then k + (mkcInsSS a2 : Nat) else -1) := hdP_in (by omega) (by omega)
  have e1 : heldProcSV a3 (k + (mkcInsSS a2 : Nat)) = some (if decide (mkdProcS (k + (mkcInsSS a2 : Nat)) a3 = a3) = true then k + (mkcInsSS a2 : Nat) + (mkcProcS a3 : Nat) else -1) := hdP_in (by omega) (by omega)
  have e2 : heldOpenSV a4 (k + (mkcInsSS a2 : Nat) + (mkcProcS a3 : Nat)) = some (if decide (mkdOpenS (k + (mkcInsSS a2 : Nat) + (mkcProcS a3 : Nat)) a4 = a4) = true then k + (mkcInsSS a2 : Nat) + (mkcProcS a3 : Nat) + (mkcOpenS a4 : Nat) else -1) := hdP_in (by omega) (by omega)
  have e3 : heldCpuSV a5 (k + (mkcInsSS a2 : Nat) + (mkcProcS a3 : Nat) + (mkcOpenS a4 : Nat)) = some (if decide (mkdCpuS (k + (mkcInsSS a2 : Nat) + (mkcProcS a3 : Nat) + (mkcOpenS a4 : Nat)) a5 = a5) = true then k + (mkcInsSS a2 : Nat) + (mkcProcS a3 : Nat) + (mkcOpenS a4 : Nat) + (mkcCpuS a5 : Nat) else -1) := hdP_in (by omega) (by omega)
  have e4 : heldCpuSV a6 (k + (mkcInsSS a2 : Nat) + (mkcProcS a3 : Nat) + (mkcOpenS a4 : Nat) + (mkcCpuS a5 : Nat)) = some (if decide (mkdCpuS (k + (mkcInsSS a2 : Nat) + (mkcProcS a3 : Nat) + (mkcOpenS a4 : Nat) + (mkcCpuS a5 : Nat)) a6 = a6) = true then k + (mkcInsSS a2 : Nat) + (mkcProcS a3 : Nat) + (mkcOpenS a4 : Nat) + (mkcCpuS a5 : Nat) + (mkcCpuS a6 : Nat) else -1) := hdP_in (by omega) (by omega)
  have e5 : heldIntSV a7 (k + (mkcInsSS a2 : Nat) + (mkcProcS a3 : Nat) + (mkcOpenS a4 : Nat) + (mkcCpuS a5 : Nat) + (mkcCpuS a6 : Nat)) = some (if decide (mkdIntS (k + (mkcInsSS a2 : Nat) + (mkcProcS a3 : Nat) + (mkcOpenS a4 : Nat) + (mkcCpuS a5 : Nat) + (mkcCpuS a6 : Nat)) a7 = a7) = true then k + (mkcInsSS a2 : Nat) + (mkcProcS a3 : Nat) + (mkcOpenS a4 : Nat) + (mkcCpuS a5 : Nat) + (mkcCpuS a6 : Nat) + (mkcIntS a7 : Nat) else -1) := hdP_in (by omega) (by omega)
  have e6 : heldIntSV a8 (k + (mkcInsSS a2 : Nat) + (mkcProcS a3 : Nat) + (mkcOpenS a4 : Nat) + (mkcCpuS a5 : Nat) + (mkcCpuS a6 : Nat) + (mkcIntS a7 : Nat)) = some (if decide (mkdIntS (k + (mkcInsSS a2 : Nat) + (mkcProcS a3 : Nat) + (mkcOpenS a4 : Nat) + (mkcCpuS a5 : Nat) + (mkcCpuS a6 : Nat) + (mkcIntS a7 : Nat)) a8 = a8) = true then k + (mkcInsSS a2 : Nat) + (mkcProcS a3 : Nat) + (mkcOpenS a4 : Nat) + (mkcCpuS a5 : Nat) + (mkcCpuS a6 : Nat) + (mkcIntS a7 : Nat) + (mkcIntS a8 : Nat) else -1) := hdP_in (by omega) (by omega)
  rw [eval_get_some e0]
  by_cases q0 : mkdInsSS (k) a2 = a2
  case neg => rw [decide_eq_false q0, if_neg (by decide), eval_ite_t (by decide)]; try simp [Out.eval, q0]
  rw [decide_eq_true q0, if_pos rfl, eval_ite_f (decide_eq_false (by omega))]
  rw [eval_get_some e1]
  by_cases q1 : mkdProcS (k + (mkcInsSS a2 : Nat)) a3 = a3
  case neg => rw [decide_eq_false q1, if_neg (by decide), eval_ite_t (by decide)]; try simp [Out.eval, q0, q1]
  rw [decide_eq_true q1, if_pos rfl, eval_ite_f (decide_eq_false (by omega))]
  rw [eval_get_some e2]
  by_cases q2 : mkdOpenS (k + (mkcInsSS a2 : Nat) + (mkcProcS a3 : Nat)) a4 = a4
  case neg => rw [decide_eq_false q2, if_neg (by decide), eval_ite_t (by decide)]; try simp [Out.eval, q0, q1, q2]
  rw [decide_eq_true q2, if_pos rfl, eval_ite_f (decide_eq_false (by omega))]
  rw [eval_get_some e3]
  by_cases q3 : mkdCpuS (k + (mkcInsSS a2 : Nat) + (mkcProcS a3 : Nat) + (mkcOpenS a4 : Nat)) a5 = a5
  case neg => rw [decide_eq_false q3, if_neg (by decide), eval_ite_t (by decide)]; try simp [Out.eval, q0, q1, q2, q3]
  rw [decide_eq_true q3, if_pos rfl, eval_ite_f (decide_eq_false (by omega))]
  rw [eval_get_some e4]
  by_cases q4 : mkdCpuS (k + (mkcInsSS a2 : Nat) + (mkcProcS a3 : Nat) + (mkcOpenS a4 : Nat) + (mkcCpuS a5 : Nat)) a6 = a6
  case neg => rw [decide_eq_false q4, if_neg (by decide), eval_ite_t (by decide)]; try simp [Out.eval, q0, q1, q2, q3, q4]
  rw [decide_eq_true q4, if_pos rfl, eval_ite_f (decide_eq_false (by omega))]
  rw [eval_get_some e5]
  by_cases q5 : mkdIntS (k + (mkcInsSS a2 : Nat) + (mkcProcS a3 : Nat) + (mkcOpenS a4 : Nat) + (mkcCpuS a5 : Nat) + (mkcCpuS a6 : Nat)) a7 = a7
  case neg => rw [decide_eq_false q5, if_neg (by decide), eval_ite_t (by decide)]; try simp [Out.eval, q0, q1, q2, q3, q4, q5]
  rw [decide_eq_true q5, if_pos rfl, eval_ite_f (decide_eq_false (by omega))]
  rw [eval_get_some e6]
  by_cases q6 : mkdIntS (k + (mkcInsSS a2 : Nat) + (mkcProcS a3 : Nat) + (mkcOpenS a4 : Nat) + (mkcCpuS a5 : Nat) + (mkcCpuS a6 : Nat) + (mkcIntS a7 : Nat)) a8 = a8
  case neg => rw [decide_eq_false q6, if_neg (by decide), eval_ite_t (by decide)]; try simp [Out.eval, q0, q1, q2, q3, q4, q5, q6]
  rw [decide_eq_true q6, if_pos rfl, eval_ite_f (decide_eq_false (by omega))]
  all_goals (have e : k + ((mkcInsSS a2 + mkcProcS a3 + mkcOpenS a4 + mkcCpuS a5 + mkcCpuS a6 + mkcIntS a7 + mkcIntS a8 : Nat) : Int) = k + (mkcInsSS a2 : Nat) + (mkcProcS a3 : Nat) + (mkcOpenS a4 : Nat) + (mkcCpuS a5 : Nat) + (mkcCpuS a6 : Nat) + (mkcIntS a7 : Nat) + (mkcIntS a8 : Nat) := (by omega); rw [e]; try simp [Out.eval, q0, q1, q2, q3, q4, q5, q6])
end Go.Proofs.YtcpjdjgipmjhdaaGreat.Dm
