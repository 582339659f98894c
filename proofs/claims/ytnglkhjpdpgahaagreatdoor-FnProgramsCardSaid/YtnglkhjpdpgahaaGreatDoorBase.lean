/- The types of the program, as the data machine knows them. -/
import Derived.Test.YtnglkhjpdpgahaaGreatDoorProg
import Derived.Test.YtnglkhjpdpgahaaGreatDoorM4
namespace Go.Proofs.YtnglkhjpdpgahaaGreatDoor.Dm
open Go
abbrev tyN : Ty := (.st (.cons (.int .i64) (.cons (.int .i64) (.cons (.int .i64) (.cons (.int .i64) .nil)))))
abbrev dd (n : Nat) : List Slot := List.replicate n .dead
def tab : List (Nat × Ty) := [(2, (.int .i64)), (3, (.int .i64)), (4, .bool), (5, (.int .u8)), (6, (.int .u8)), (7, (.st (.cons (.int .i64) (.cons (.int .i64) (.cons .bool (.cons (.int .u8) .nil)))))), (8, (.st (.cons (.int .i64) (.cons (.int .i64) (.cons .bool (.cons (.int .u8) .nil)))))), (9, .str), (10, .str), (11, .str), (12, (.int .u64)), (13, (.st (.cons .str (.cons (.int .u64) .nil)))), (14, (.st (.cons .str (.cons (.int .u64) .nil)))), (21, (.int .i32)), (22, (.sl (.int .u8))), (24, (.sl tyN)), (35, (.st (.cons .str (.cons .bool .nil)))), (36, (.st (.cons .str (.cons .bool .nil)))), (39, tyN), (40, tyN), (41, (.sl .str)), (46, (.sl (.int .i64))), (60, (.int .u64)), (66, (.st (.cons (.sl (.int .u8)) (.cons (.int .i64) (.cons (.int .i64) .nil))))), (67, (.st (.cons (.sl (.int .u8)) (.cons (.int .i64) (.cons (.int .i64) .nil))))), (89, (.int .i64)), (96, (.int .u64)), (109, (.int .u32)), (113, (.st (.cons (.int .u8) (.cons (.int .u8) .nil)))), (114, (.st (.cons (.int .u8) (.cons (.int .u8) .nil)))), (122, (.st (.cons .str .nil))), (123, (.st (.cons .str .nil))), (133, (.int .u8)), (134, (.int .u8)), (136, (.int .i32)), (137, (.int .i32))]
def eqT : List Nat := [40, 1000079]
theorem tab_ok : tabB Tryz.prog tab = true := by kernel_rfl
theorem eqT_ok : eqT.all (eqvB Tryz.prog) = true := by kernel_rfl
theorem mixed_ok : Tryz.prog.follows .mixedOrders = true := by kernel_rfl
abbrev cxOf (l : List Con) : Cx := cxOf' tab eqT l
theorem con_ok {K : Con} {fn : Func} {code : Code} {rtm : List ResultVar} {A : Nat → Option LoopAnn} (l : List Con) (hl : ∀ K ∈ l, K.Ok Tryz.prog) (h : BodyOk Tryz.prog (cxOf l) K fn code rtm A) : K.Ok Tryz.prog :=
  con_of_body (cxOf'_ok tab_ok eqT_ok l) (callL_ok l hl rfl) mixed_ok h
def OkL : List Con → Prop
  | [] => True
  | K :: r => K.Ok Tryz.prog ∧ OkL r
theorem okL_mem : ∀ {l : List Con}, OkL l → ∀ K ∈ l, K.Ok Tryz.prog
  | [], _, _, h => by cases h
  | K :: r, hl, K', h => by
    rcases List.mem_cons.1 h with rfl | h
    · exact hl.1
    · exact okL_mem hl.2 K' h
abbrev bo (l : List Con) (A : Nat → Option LoopAnn) (fn : Func) (K : Con) (rtm : List ResultVar) (x : itemsD K.its) : Out (itemsD K.rs × backD K.its) := bodyOut (cxOf l) A (codeOf fn) K.its K.lay fn.ntmps K.rs rtm x
theorem con_fn {K : Con} {fn : Func} {rtm : List ResultVar} {A : Nat → Option LoopAnn} {T : itemsD K.its → Out (itemsD K.rs × backD K.its)} (l : List Con) (hl : OkL l) (he : ∀ x, bo l A fn K rtm x = T x) (hr : ∀ x, itemsWF K.its x → ∀ y, (K.F x).eval = some y → (T x).eval = some y) (h1 : Tryz.prog.funcs[K.f]? = some fn := by kernel_rfl) (h2 : fn.body = some (codeOf fn) := by exact codeOf_eq (by kernel_rfl))
    (h3 : (fn.name == "runtime.NumGoroutine") = false := by kernel_rfl) (h4 : fn.results = rtm.toArray := by kernel_rfl) (h5 : (decide (rtm.length ≤ 6) && decide (itsN K.its 0 ≤ 64) && K.rs.all fun it => decide (0 < it.cs.length)) = true := by kernel_rfl) : K.Ok Tryz.prog := by
  rw [Bool.and_eq_true, Bool.and_eq_true] at h5
  exact con_ok l (okL_mem hl) ⟨h1, h2, h3, h4, of_decide_eq_true h5.1.1, of_decide_eq_true h5.1.2, h5.2, fun x y hw hy => (congrArg Out.eval (he x)).trans (hr x hw y hy)⟩
end Go.Proofs.YtnglkhjpdpgahaaGreatDoor.Dm
