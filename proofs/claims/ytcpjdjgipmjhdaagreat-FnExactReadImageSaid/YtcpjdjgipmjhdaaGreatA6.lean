/- Functions of the program, and what they compute. -/
import Derived.Test.YtcpjdjgipmjhdaaGreatA5
namespace Go.Proofs.YtcpjdjgipmjhdaaGreat.Dm
open Go Go.ChangeShapes Go.WideShapes Go.ChangeAt Go.RowKit
def cloneV {α : Type} (a : List α) : Option (List α) := lim a a
def k133 : Con := { f := 133, lend := true, its := [⟨false, false, [.ro (.int .i64)]⟩], lay := [none], rs := [⟨false, false, [.own (.int .i64)]⟩], F := fun x => .get (cloneV x.1.1) fun y => .ret (((y, ()), ()), ((), ())) }
noncomputable def f133_c : Code := codeOf Tryz.f133
noncomputable def f133_B : Code := cSeqR (cSeqR f133_c)
noncomputable def f133_M : Code := cSeqL (cSeqR f133_c)
noncomputable def f133_X : Code := cThen (cSeqR f133_M)
theorem f133_code : codeOf Tryz.f133 = .seq (cSeqL f133_c) (.seq (.seq (.region 1 #[cOp (cSeqL f133_M) 0, cOp (cSeqL f133_M) 1] false) (.cond (.tmp 4) (.seq (.region 2 (cOps (cSeqL f133_X)) false) .ret) .skip)) f133_B) := by kernel_rfl
theorem f133_yes (x : (List Int × Unit) × Unit) : askOut (cxOf []) (fun _ => none) (cSeqL f133_c) (.seq (.region 2 (cOps (cSeqL f133_X)) false) .ret) k133.its k133.lay Tryz.f133.ntmps k133.rs [.tmp 2] x = Out.ret ((((([] : List (Int))), ()), ()), ((), ())) := by kernel_rfl
theorem f133_no (x : (List Int × Unit) × Unit) : askOut (cxOf []) (fun _ => none) (cSeqL f133_c) f133_B k133.its k133.lay Tryz.f133.ntmps k133.rs [.tmp 2] x = Out.ite (decide (List.length ([] : List (Int)) + List.length x.1.1 ≤ LIM)) (Out.ret (((([] : List (Int)) ++ x.1.1, ()), ()), ((), ()))) Out.fail := by kernel_rfl
theorem k133_ok : k133.Ok Tryz.prog := by
  refine con_of_ask (cxOf'_ok tab_ok eqT_ok []) (callL_ok [] (fun K hK => by cases hK) rfl) mixed_ok (An := fun _ => none) (rtm := [.tmp 2]) (tk := some 0) (tid := 27) (te := 3) (l := fun x => x.1.1) (by kernel_rfl) (codeOf_eq (by kernel_rfl)) (by kernel_rfl) (by kernel_rfl) (by decide) (by decide) (by decide)
    f133_code (by kernel_rfl) (by kernel_rfl) (by kernel_rfl) (by kernel_rfl) (by kernel_rfl) (by kernel_rfl) (by kernel_rfl) (fun x => by kernel_rfl) (fun x => Nat.le_of_ble_eq_true (by kernel_rfl)) (fun x y _ hy => ?_) (fun x y _ hl hy => ?_)
  · obtain ⟨⟨a, _⟩, _⟩ := x
    refine (congrArg Out.eval (f133_no _)).trans ?_
    change (Out.get (cloneV a) fun y => Out.ret (((y, ()), ()), ((), ()))).eval = some y at hy
    unfold cloneV at hy
    by_cases h : a.length ≤ LIM
    · rw [lim_some h] at hy
      exact (eval_ite_t (decide_eq_true (show 0 + a.length ≤ LIM from (Nat.zero_add _).symm ▸ h))).trans hy
    · rw [lim_not h] at hy; exact nomatch hy
  · obtain ⟨⟨a, _⟩, _⟩ := x
    obtain rfl : a = [] := hl
    exact (congrArg Out.eval (f133_yes _)).trans hy
end Go.Proofs.YtcpjdjgipmjhdaaGreat.Dm
