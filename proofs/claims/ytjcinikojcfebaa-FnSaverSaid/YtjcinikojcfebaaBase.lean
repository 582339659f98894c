/- The types of the program, as the data machine knows them. -/
import Derived.Test.YtjcinikojcfebaaProg
import Derived.Test.YtjcinikojcfebaaM4
namespace Go.Proofs.Ytjcinikojcfebaa.Dm
open Go
def tab : List (Nat × Ty) := [(3, (.int .i64)), (4, .bool), (5, (.int .u8)), (9, .str), (21, (.int .i32)), (22, (.sl .str)), (23, (.sl (.st (.cons (.int .i64) (.cons .str .nil))))), (25, (.st (.cons (.sl .str) (.cons (.sl (.st (.cons (.int .i64) (.cons .str .nil)))) .nil)))), (30, (.sl (.int .i64))), (32, (.st (.cons (.int .i64) (.cons (.sl (.int .i64)) .nil)))), (34, (.st (.cons (.st (.cons (.int .i64) (.cons (.sl (.int .i64)) .nil))) (.cons (.sl (.int .i64)) (.cons (.sl (.int .i64)) .nil))))), (37, (.st (.cons (.int .i64) (.cons (.sl (.int .i64)) .nil)))), (39, (.st (.cons (.st (.cons (.int .i64) (.cons (.sl (.int .i64)) .nil))) (.cons (.sl (.int .i64)) (.cons (.sl (.int .i64)) .nil))))), (42, (.sl (.st (.cons (.int .i64) (.cons .str .nil))))), (44, (.st (.cons (.sl .str) (.cons (.sl (.st (.cons (.int .i64) (.cons .str .nil)))) .nil)))), (50, (.st (.cons (.int .i64) (.cons (.sl (.st (.cons (.int .i64) (.cons .str .nil)))) .nil)))), (54, (.st (.cons (.int .i64) (.cons (.sl (.st (.cons (.int .i64) (.cons .str .nil)))) .nil)))), (58, (.sl (.int .u8))), (64, (.int .u64)), (66, (.st (.cons (.int .i64) (.cons .str .nil)))), (68, (.sl (.st (.cons (.int .i64) (.cons (.sl (.int .i64)) .nil))))), (70, (.st (.cons (.st (.cons (.sl .str) (.cons (.sl (.st (.cons (.int .i64) (.cons .str .nil)))) .nil))) (.cons (.sl (.st (.cons (.int .i64) (.cons (.sl (.int .i64)) .nil)))) (.cons (.sl (.st (.cons (.int .i64) (.cons (.sl (.int .i64)) .nil)))) (.cons (.int .i64) (.cons (.int .i64) .nil))))))), (74, (.sl (.st (.cons (.int .i64) (.cons (.sl (.int .i64)) .nil))))), (90, (.sl (.st (.cons (.int .i64) (.cons (.int .i64) (.cons (.int .i64) (.cons (.int .i64) .nil))))))), (97, (.st (.cons (.st (.cons (.sl .str) (.cons (.sl (.st (.cons (.int .i64) (.cons .str .nil)))) .nil))) (.cons (.sl (.st (.cons (.int .i64) (.cons (.sl (.int .i64)) .nil)))) (.cons (.sl (.st (.cons (.int .i64) (.cons (.sl (.int .i64)) .nil)))) (.cons (.int .i64) (.cons (.int .i64) .nil))))))), (114, (.sl (.st (.cons (.int .i64) (.cons (.int .i64) (.cons (.int .i64) (.cons (.int .i64) (.cons (.sl (.int .i64)) .nil)))))))), (117, (.sl (.st (.cons (.int .i64) (.cons (.int .i64) (.cons (.int .i64) (.cons (.int .i64) (.cons (.sl (.int .i64)) .nil)))))))), (157, (.st (.cons (.int .i64) (.cons (.sl (.int .i64)) .nil)))), (160, (.st (.cons (.int .i64) (.cons (.sl (.int .i64)) .nil)))), (164, (.st (.cons (.int .i64) (.cons .str .nil)))), (172, (.st (.cons .str (.cons .bool .nil)))), (176, (.st (.cons (.int .i64) (.cons (.int .i64) (.cons (.int .i64) (.cons (.int .i64) .nil)))))), (191, (.st (.cons (.int .i64) (.cons (.int .i64) (.cons (.int .i64) (.cons (.int .i64) (.cons (.sl (.int .i64)) .nil))))))), (192, (.st (.cons (.int .i64) (.cons (.int .i64) (.cons (.int .i64) (.cons (.int .i64) (.cons (.sl (.int .i64)) .nil))))))), (206, (.st (.cons (.sl (.int .u8)) (.cons (.int .i64) (.cons (.int .i64) .nil))))), (223, (.int .i64)), (232, (.int .u32)), (234, (.int .u64)), (236, (.int .u64))]
def eqT : List Nat := [66, 176]
theorem tab_ok : tabB Try.prog tab = true := by kernel_rfl
theorem eqT_ok : eqT.all (eqvB Try.prog) = true := by kernel_rfl
theorem mixed_ok : Try.prog.follows .mixedOrders = true := by kernel_rfl
abbrev cxOf (l : List Con) : Cx := cxOf' tab eqT l
theorem con_ok {K : Con} {fn : Func} {code : Code} {rtm : List ResultVar} {A : Nat → Option LoopAnn} (l : List Con) (hl : ∀ K ∈ l, K.Ok Try.prog) (h : BodyOk Try.prog (cxOf l) K fn code rtm A) : K.Ok Try.prog :=
  con_of_body (cxOf'_ok tab_ok eqT_ok l) (callL_ok l hl rfl) mixed_ok h
def OkL : List Con → Prop
  | [] => True
  | K :: r => K.Ok Try.prog ∧ OkL r
theorem okL_mem : ∀ {l : List Con}, OkL l → ∀ K ∈ l, K.Ok Try.prog
  | [], _, _, h => by cases h
  | K :: r, hl, K', h => by
    rcases List.mem_cons.1 h with rfl | h
    · exact hl.1
    · exact okL_mem hl.2 K' h
theorem con_fn {K : Con} {fn : Func} {rtm : List ResultVar} {A : Nat → Option LoopAnn} {T : itemsD K.its → Out (itemsD K.rs × backD K.its)} (l : List Con) (hl : OkL l) (h1 : Try.prog.funcs[K.f]? = some fn) (h2 : fn.body = some (codeOf fn))
    (h3 : (fn.name == "runtime.NumGoroutine") = false) (h4 : fn.results = rtm.toArray) (h5 : (decide (rtm.length ≤ 6) && decide (itsN K.its 0 ≤ 64) && K.rs.all fun it => decide (0 < it.cs.length)) = true)
    (he : ∀ x, bodyOut (cxOf l) A (codeOf fn) K.its K.lay fn.ntmps K.rs rtm x = T x) (hr : ∀ x, itemsWF K.its x → ∀ y, (K.F x).eval = some y → (T x).eval = some y) : K.Ok Try.prog := by
  rw [Bool.and_eq_true, Bool.and_eq_true] at h5
  exact con_ok l (okL_mem hl) ⟨h1, h2, h3, h4, of_decide_eq_true h5.1.1, of_decide_eq_true h5.1.2, h5.2, fun x y hw hy => (congrArg Out.eval (he x)).trans (hr x hw y hy)⟩
end Go.Proofs.Ytjcinikojcfebaa.Dm
