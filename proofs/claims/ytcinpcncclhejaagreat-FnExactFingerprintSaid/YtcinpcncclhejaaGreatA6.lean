/- Functions of the program, and what they compute. -/
import Derived.Test.YtcinpcncclhejaaGreatA5
namespace Go.Proofs.YtcinpcncclhejaaGreat.Dm
open Go Go.ChangeShapes Go.WideShapes Go.ChangeAt Go.RowKit

/-! ## Copies of lists, by the library -/
def cloneV {α : Type} (a : List α) : Option (List α) := lim a a
def k108 : Con := { f := 108, lend := true, its := [⟨false, false, [.ro (.int .i64)]⟩], lay := [none], rs := [⟨false, false, [.own (.int .i64)]⟩], F := fun x => .get (cloneV x.1.1) fun y => .ret (((y, ()), ()), ((), ())) }
noncomputable def f108_c : Code := codeOf Tryz.f108
noncomputable def f108_B : Code := cSeqR (cSeqR f108_c)
noncomputable def f108_M : Code := cSeqL (cSeqR f108_c)
noncomputable def f108_X : Code := cThen (cSeqR f108_M)
theorem f108_code : codeOf Tryz.f108 = .seq (cSeqL f108_c) (.seq (.seq (.region 1 #[cOp (cSeqL f108_M) 0, cOp (cSeqL f108_M) 1] false) (.cond (.tmp 4) (.seq (.region 2 (cOps (cSeqL f108_X)) false) .ret) .skip)) f108_B) := by kernel_rfl
theorem f108_yes (x : (List Int × Unit) × Unit) : askOut (cxOf []) (fun _ => none) (cSeqL f108_c) (.seq (.region 2 (cOps (cSeqL f108_X)) false) .ret) k108.its k108.lay Tryz.f108.ntmps k108.rs [.tmp 2] x = Out.ret ((((([] : List (Int))), ()), ()), ((), ())) := by kernel_rfl
theorem f108_no (x : (List Int × Unit) × Unit) : askOut (cxOf []) (fun _ => none) (cSeqL f108_c) f108_B k108.its k108.lay Tryz.f108.ntmps k108.rs [.tmp 2] x = Out.ite (decide (List.length ([] : List (Int)) + List.length x.1.1 ≤ LIM)) (Out.ret (((([] : List (Int)) ++ x.1.1, ()), ()), ((), ()))) Out.fail := by kernel_rfl
theorem k108_ok : k108.Ok Tryz.prog := by
  refine con_of_ask (cxOf'_ok tab_ok eqT_ok []) (callL_ok [] (fun K hK => by cases hK) rfl) mixed_ok (An := fun _ => none) (rtm := [.tmp 2]) (tk := some 0) (tid := 27) (te := 3) (l := fun x => x.1.1) (by kernel_rfl) (codeOf_eq (by kernel_rfl)) (by kernel_rfl) (by kernel_rfl) (by decide) (by decide) (by decide)
    f108_code (by kernel_rfl) (by kernel_rfl) (by kernel_rfl) (by kernel_rfl) (by kernel_rfl) (by kernel_rfl) (by kernel_rfl) (fun x => by kernel_rfl) (fun x => Nat.le_of_ble_eq_true (by kernel_rfl)) (fun x y _ hy => ?_) (fun x y _ hl hy => ?_)
  · obtain ⟨⟨a, _⟩, _⟩ := x
    refine (congrArg Out.eval (f108_no _)).trans ?_
    change (Out.get (cloneV a) fun y => Out.ret (((y, ()), ()), ((), ()))).eval = some y at hy
    unfold cloneV at hy
    by_cases h : a.length ≤ LIM
    · rw [lim_some h] at hy
      exact (eval_ite_t (decide_eq_true (show 0 + a.length ≤ LIM from (Nat.zero_add _).symm ▸ h))).trans hy
    · rw [lim_not h] at hy; exact nomatch hy
  · obtain ⟨⟨a, _⟩, _⟩ := x
    obtain rfl : a = [] := hl
    exact (congrArg Out.eval (f108_yes _)).trans hy
end Go.Proofs.YtcinpcncclhejaaGreat.Dm
