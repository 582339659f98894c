/- Functions of the program, and what they compute. -/
import Derived.Test.YtnnpnkegpkladaaGreatA5
namespace Go.Proofs.YtnnpnkegpkladaaGreat.Dm
open Go Go.ChangeShapes Go.WideShapes Go.ChangeAt Go.RowKit
def cloneV {α : Type} (a : List α) : Option (List α) := lim a a
def k84 : Con := { f := 84, lend := true, its := [⟨false, false, [.ro (.int .i64)]⟩], lay := [none], rs := [⟨false, false, [.own (.int .i64)]⟩], F := fun x => .get (cloneV x.1.1) fun y => .ret (((y, ()), ()), ((), ())) }
noncomputable def f84_c : Code := codeOf Tryz.f84
noncomputable def f84_B : Code := cSeqR (cSeqR f84_c)
noncomputable def f84_M : Code := cSeqL (cSeqR f84_c)
noncomputable def f84_X : Code := cThen (cSeqR f84_M)
theorem f84_code : codeOf Tryz.f84 = .seq (cSeqL f84_c) (.seq (.seq (.region 1 #[cOp (cSeqL f84_M) 0, cOp (cSeqL f84_M) 1] false) (.cond (.tmp 4) (.seq (.region 2 (cOps (cSeqL f84_X)) false) .ret) .skip)) f84_B) := by kernel_rfl
theorem f84_yes (x : (List Int × Unit) × Unit) : askOut (cxOf []) (fun _ => none) (cSeqL f84_c) (.seq (.region 2 (cOps (cSeqL f84_X)) false) .ret) k84.its k84.lay Tryz.f84.ntmps k84.rs [.tmp 2] x = Out.ret ((((([] : List (Int))), ()), ()), ((), ())) := by kernel_rfl
theorem f84_no (x : (List Int × Unit) × Unit) : askOut (cxOf []) (fun _ => none) (cSeqL f84_c) f84_B k84.its k84.lay Tryz.f84.ntmps k84.rs [.tmp 2] x = Out.ite (decide (List.length ([] : List (Int)) + List.length x.1.1 ≤ LIM)) (Out.ret (((([] : List (Int)) ++ x.1.1, ()), ()), ((), ()))) Out.fail := by kernel_rfl
theorem k84_ok : k84.Ok Tryz.prog := by
  refine con_of_ask (cxOf'_ok tab_ok eqT_ok []) (callL_ok [] (fun K hK => by cases hK) rfl) mixed_ok (An := fun _ => none) (rtm := [.tmp 2]) (tk := some 0) (tid := 30) (te := 3) (l := fun x => x.1.1) (by kernel_rfl) (codeOf_eq (by kernel_rfl)) (by kernel_rfl) (by kernel_rfl) (by decide) (by decide) (by decide)
    f84_code (by kernel_rfl) (by kernel_rfl) (by kernel_rfl) (by kernel_rfl) (by kernel_rfl) (by kernel_rfl) (by kernel_rfl) (fun x => by kernel_rfl) (fun x => Nat.le_of_ble_eq_true (by kernel_rfl)) (fun x y _ hy => ?_) (fun x y _ hl hy => ?_)
  · obtain ⟨⟨a, _⟩, _⟩ := x
    refine (congrArg Out.eval (f84_no _)).trans ?_
    change (Out.get (cloneV a) fun y => Out.ret (((y, ()), ()), ((), ()))).eval = some y at hy
    unfold cloneV at hy
    by_cases h : a.length ≤ LIM
    · rw [lim_some h] at hy
      exact (eval_ite_t (decide_eq_true (show 0 + a.length ≤ LIM from (Nat.zero_add _).symm ▸ h))).trans hy
    · rw [lim_not h] at hy; exact nomatch hy
  · obtain ⟨⟨a, _⟩, _⟩ := x
    obtain rfl : a = [] := hl
    exact (congrArg Out.eval (f84_yes _)).trans hy
end Go.Proofs.YtnnpnkegpkladaaGreat.Dm
