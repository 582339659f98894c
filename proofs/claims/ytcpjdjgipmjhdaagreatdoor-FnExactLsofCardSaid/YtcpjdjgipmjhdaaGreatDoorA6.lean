/- Functions of the program, and what they compute. -/
import Derived.Test.YtcpjdjgipmjhdaaGreatDoorA5
namespace Go.Proofs.YtcpjdjgipmjhdaaGreatDoor.Dm
open Go Go.ChangeShapes Go.WideShapes Go.ChangeAt Go.RowKit
def cloneV {α : Type} (a : List α) : Option (List α) := lim a a
def k97 : Con := { f := 97, lend := true, its := [⟨false, false, [.ro (.int .i64)]⟩], lay := [none], rs := [⟨false, false, [.own (.int .i64)]⟩], F := fun x => .get (cloneV x.1.1) fun y => .ret (((y, ()), ()), ((), ())) }
noncomputable def f97_c : Code := codeOf Tryz.f97
noncomputable def f97_B : Code := cSeqR (cSeqR f97_c)
noncomputable def f97_M : Code := cSeqL (cSeqR f97_c)
noncomputable def f97_X : Code := cThen (cSeqR f97_M)
theorem f97_code : codeOf Tryz.f97 = .seq (cSeqL f97_c) (.seq (.seq (.region 1 #[cOp (cSeqL f97_M) 0, cOp (cSeqL f97_M) 1] false) (.cond (.tmp 4) (.seq (.region 2 (cOps (cSeqL f97_X)) false) .ret) .skip)) f97_B) := by kernel_rfl
theorem f97_yes (x : (List Int × Unit) × Unit) : askOut (cxOf []) (fun _ => none) (cSeqL f97_c) (.seq (.region 2 (cOps (cSeqL f97_X)) false) .ret) k97.its k97.lay Tryz.f97.ntmps k97.rs [.tmp 2] x = Out.ret ((((([] : List (Int))), ()), ()), ((), ())) := by kernel_rfl
theorem f97_no (x : (List Int × Unit) × Unit) : askOut (cxOf []) (fun _ => none) (cSeqL f97_c) f97_B k97.its k97.lay Tryz.f97.ntmps k97.rs [.tmp 2] x = Out.ite (decide (List.length ([] : List (Int)) + List.length x.1.1 ≤ LIM)) (Out.ret (((([] : List (Int)) ++ x.1.1, ()), ()), ((), ()))) Out.fail := by kernel_rfl
theorem k97_ok : k97.Ok Tryz.prog := by
  refine con_of_ask (cxOf'_ok tab_ok eqT_ok []) (callL_ok [] (fun K hK => by cases hK) rfl) mixed_ok (An := fun _ => none) (rtm := [.tmp 2]) (tk := some 0) (tid := 27) (te := 3) (l := fun x => x.1.1) (by kernel_rfl) (codeOf_eq (by kernel_rfl)) (by kernel_rfl) (by kernel_rfl) (by decide) (by decide) (by decide)
    f97_code (by kernel_rfl) (by kernel_rfl) (by kernel_rfl) (by kernel_rfl) (by kernel_rfl) (by kernel_rfl) (by kernel_rfl) (fun x => by kernel_rfl) (fun x => Nat.le_of_ble_eq_true (by kernel_rfl)) (fun x y _ hy => ?_) (fun x y _ hl hy => ?_)
  · obtain ⟨⟨a, _⟩, _⟩ := x
    refine (congrArg Out.eval (f97_no _)).trans ?_
    change (Out.get (cloneV a) fun y => Out.ret (((y, ()), ()), ((), ()))).eval = some y at hy
    unfold cloneV at hy
    by_cases h : a.length ≤ LIM
    · rw [lim_some h] at hy
      exact (eval_ite_t (decide_eq_true (show 0 + a.length ≤ LIM from (Nat.zero_add _).symm ▸ h))).trans hy
    · rw [lim_not h] at hy; exact nomatch hy
  · obtain ⟨⟨a, _⟩, _⟩ := x
    obtain rfl : a = [] := hl
    exact (congrArg Out.eval (f97_yes _)).trans hy
end Go.Proofs.YtcpjdjgipmjhdaaGreatDoor.Dm
