/- Functions of the program, and what they compute. -/
import Derived.Test.YtnnpnkegpkladaaGreatL8
namespace Go.Proofs.YtnnpnkegpkladaaGreat.Dm
open Go Go.ChangeShapes Go.WideShapes Go.ChangeAt Go.RowKit
abbrev FlatL := Int × Int × Int × List (List InsD) × List ASlotD × List Int × List Bool × List AOpenD × List ARingD × List AFileD × Bool × List Int × Int × Int × List Int × Int × Int × List (List InsD) × List ProcD × List Int × List (List Int) × List OpenD × List BPipeD × List CpuD × List Int × List Int × Unit
abbrev lv0 : FlatL := (0, 0, 0, [], [], [], [], [], [], [], false, [], 0, 0, [], 0, 0, [], [], [], [], [], [], [], [], [], ())
abbrev lv1 (p : List (List InsD)) : FlatL := (1, 2, 0, p, aSlots, aRam, aMap, aOpens, aPipes, aFiles, false, [1, 0, 0, 0, 0, 0], 0, 1, [], 0, 0, [], [], [], [], [], [], [], [], [], ())
abbrev lv2 (p : List (List InsD)) : FlatL := (2, 0, 0, [], [], [], [], [], [], [], false, [], 0, 0, [], 2, 0, p, bProcs, aRam, [[1], [2], [4], [8], []], bootO, [], [], [1], [], ())
theorem live_bad {p : List (List InsD)} (k : Int) (h : progsOkV p = false) : k9_V p k = some ((lv0, ((false, ()), ())), ((), ((), ()))) := by
  unfold k9_V f9_tree
  exact (eval_get_some (boot_bad h)).trans ((eval_ite_t (by rfl)).trans rfl)
theorem live_one {p : List (List InsD)} (h : progsOkV p = true) : k9_V p 1 = some ((lv1 p, ((true, ()), ())), ((), ((), ()))) := by
  have e : k33_V 2 0 p bootP bootO [] [] [1] [] 1 = some ((lv1 p, ((true, ()), ())), ((), ((), ()))) := by
    unfold k33_V f33_tree
    exact (eval_ite_t (by decide)).trans ((eval_get_some (aload h)).trans ((eval_ite_f (by rfl)).trans rfl))
  unfold k9_V f9_tree
  exact (eval_get_some (booted h)).trans ((eval_ite_f (by rfl)).trans ((eval_get_some e).trans rfl))
theorem live_two {p : List (List InsD)} (h : progsOkV p = true) : k9_V p 2 = some ((lv2 p, ((true, ()), ())), ((), ((), ()))) := by
  have e : k33_V 2 0 p bootP bootO [] [] [1] [] 2 = some ((lv2 p, ((true, ()), ())), ((), ((), ()))) := by
    unfold k33_V f33_tree
    exact (eval_ite_f (by decide)).trans ((eval_ite_t (by decide)).trans ((eval_get_some (bload h)).trans ((eval_ite_f (by rfl)).trans rfl)))
  unfold k9_V f9_tree
  exact (eval_get_some (booted h)).trans ((eval_ite_f (by rfl)).trans ((eval_get_some e).trans rfl))
end Go.Proofs.YtnnpnkegpkladaaGreat.Dm
