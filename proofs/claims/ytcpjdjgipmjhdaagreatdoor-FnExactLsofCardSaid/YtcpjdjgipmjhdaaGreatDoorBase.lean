/- The types of the program, as the data machine knows them. -/
import Derived.Test.YtcpjdjgipmjhdaaGreatDoorProg
import Derived.Test.YtcpjdjgipmjhdaaGreatDoorM4
namespace Go.Proofs.YtcpjdjgipmjhdaaGreatDoor.Dm
open Go
abbrev tyF : Ty := (.st (.cons (.int .i64) (.cons (.sl (.int .i64)) .nil)))
abbrev tyN : Ty := (.st (.cons (.int .i64) (.cons (.int .i64) (.cons (.int .i64) (.cons (.int .i64) .nil)))))
abbrev tyO : Ty := (.st (.cons (.int .i64) (.cons (.int .i64) (.cons (.int .i64) (.cons (.int .i64) (.cons (.int .i64) .nil))))))
abbrev tyP : Ty := (.st (.cons (.int .i64) (.cons (.int .i64) (.cons (.int .i64) (.cons (.int .i64) (.cons (.st (.cons (.int .i64) (.cons (.sl (.int .i64)) .nil))) (.cons (.sl (.int .i64)) (.cons (.sl (.int .i64)) (.cons (.int .i64) (.cons (.int .i64) .nil))))))))))
abbrev dd (n : Nat) : List Slot := List.replicate n .dead
def tab : List (Nat × Ty) := [(2, (.int .i64)), (3, (.int .i64)), (4, .bool), (5, (.int .u8)), (6, (.int .u8)), (7, (.st (.cons (.int .i64) (.cons (.int .i64) (.cons .bool (.cons (.int .u8) .nil)))))), (8, (.st (.cons (.int .i64) (.cons (.int .i64) (.cons .bool (.cons (.int .u8) .nil)))))), (9, .str), (10, .str), (11, .str), (12, (.int .u64)), (13, (.st (.cons .str (.cons (.int .u64) .nil)))), (14, (.st (.cons .str (.cons (.int .u64) .nil)))), (21, (.int .i32)), (22, (.sl (.sl tyN))), (23, (.sl tyP)), (24, (.sl tyO)), (25, (.sl tyF)), (26, (.sl tyF)), (27, (.sl (.int .i64))), (28, (.st (.cons (.int .i64) (.cons (.int .i64) (.cons (.sl (.sl tyN)) (.cons (.sl tyP) (.cons (.sl tyO) (.cons (.sl tyF) (.cons (.sl tyF) (.cons (.sl (.int .i64)) (.cons (.sl (.int .i64)) .nil))))))))))), (29, (.st (.cons (.int .i64) (.cons (.int .i64) (.cons (.sl (.sl tyN)) (.cons (.sl tyP) (.cons (.sl tyO) (.cons (.sl tyF) (.cons (.sl tyF) (.cons (.sl (.int .i64)) (.cons (.sl (.int .i64)) .nil))))))))))), (32, (.sl (.sl tyN))), (33, (.sl tyP)), (34, (.sl tyO)), (35, (.sl tyF)), (36, (.sl tyF)), (37, (.st (.cons (.int .i64) (.cons (.int .i64) (.cons (.sl (.sl tyN)) (.cons (.sl tyP) (.cons (.sl tyO) (.cons (.sl tyF) (.cons (.sl tyF) (.cons (.sl (.int .i64)) (.cons (.sl (.int .i64)) .nil))))))))))), (38, (.st (.cons (.int .i64) (.cons (.int .i64) (.cons (.sl (.sl tyN)) (.cons (.sl tyP) (.cons (.sl tyO) (.cons (.sl tyF) (.cons (.sl tyF) (.cons (.sl (.int .i64)) (.cons (.sl (.int .i64)) .nil))))))))))), (49, (.sl .str)), (50, tyO), (51, tyO), (65, tyF), (66, tyF), (67, tyP), (68, tyP), (70, (.sl tyN)), (72, tyF), (73, tyP), (74, tyP), (76, tyF), (77, tyF), (79, tyF), (80, tyF), (86, (.sl (.int .u8))), (87, (.sl tyN)), (91, tyO), (92, tyF), (94, tyF), (111, tyN), (112, tyN), (114, tyN), (137, (.int .u64)), (140, (.int .i64)), (149, (.int .u32)), (151, (.int .u64)), (156, (.int .u64)), (178, (.int .u8)), (179, (.int .u8)), (182, (.int .i32)), (183, (.int .i32))]
def eqT : List Nat := [112]
theorem tab_ok : tabB Tryz.prog tab = true := by kernel_rfl
theorem eqT_ok : eqT.all (eqvB Tryz.prog) = true := by kernel_rfl
theorem mixed_ok : Tryz.prog.follows .mixedOrders = true := by kernel_rfl
abbrev cxOf (l : List Con) : Cx := cxOf' tab eqT l
theorem con_ok {K : Con} {fn : Func} {code : Code} {rtm : List ResultVar} {A : Nat → Option LoopAnn} (l : List Con) (hl : ∀ K ∈ l, K.Ok Tryz.prog) (h : BodyOk Tryz.prog (cxOf l) K fn code rtm A) : K.Ok Tryz.prog :=
  con_of_body (cxOf'_ok tab_ok eqT_ok l) (callL_ok l hl rfl) mixed_ok h
def OkL : List Con → Prop
  | [] => True
  | K :: r => K.Ok Tryz.prog ∧ OkL r
theorem okL_mem : ∀ {l : List Con}, OkL l → ∀ K ∈ l, K.Ok Tryz.prog
  | [], _, _, h => by cases h
  | K :: r, hl, K', h => by
    rcases List.mem_cons.1 h with rfl | h
    · exact hl.1
    · exact okL_mem hl.2 K' h
abbrev bo (l : List Con) (A : Nat → Option LoopAnn) (fn : Func) (K : Con) (rtm : List ResultVar) (x : itemsD K.its) : Out (itemsD K.rs × backD K.its) := bodyOut (cxOf l) A (codeOf fn) K.its K.lay fn.ntmps K.rs rtm x
theorem con_fn {K : Con} {fn : Func} {rtm : List ResultVar} {A : Nat → Option LoopAnn} {T : itemsD K.its → Out (itemsD K.rs × backD K.its)} (l : List Con) (hl : OkL l) (he : ∀ x, bo l A fn K rtm x = T x) (hr : ∀ x, itemsWF K.its x → ∀ y, (K.F x).eval = some y → (T x).eval = some y) (h1 : Tryz.prog.funcs[K.f]? = some fn := by kernel_rfl) (h2 : fn.body = some (codeOf fn) := by exact codeOf_eq (by kernel_rfl))
    (h3 : (fn.name == "runtime.NumGoroutine") = false := by kernel_rfl) (h4 : fn.results = rtm.toArray := by kernel_rfl) (h5 : (decide (rtm.length ≤ 6) && decide (itsN K.its 0 ≤ 64) && K.rs.all fun it => decide (0 < it.cs.length)) = true := by kernel_rfl) : K.Ok Tryz.prog := by
  rw [Bool.and_eq_true, Bool.and_eq_true] at h5
  exact con_ok l (okL_mem hl) ⟨h1, h2, h3, h4, of_decide_eq_true h5.1.1, of_decide_eq_true h5.1.2, h5.2, fun x y hw hy => (congrArg Out.eval (he x)).trans (hr x hw y hy)⟩
end Go.Proofs.YtcpjdjgipmjhdaaGreatDoor.Dm
