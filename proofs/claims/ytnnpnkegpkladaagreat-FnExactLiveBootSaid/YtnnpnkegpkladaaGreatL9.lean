/- f -/
import Derived.Test.YtnnpnkegpkladaaGreatL8
namespace Go.Proofs.YtnnpnkegpkladaaGreat.Dm
open Go Go.ChangeShapes Go.WideShapes Go.ChangeAt Go.RowKit
abbrev FlatL := Int × Int × Int × List (List InsD) × List ASlotD × List Int × List Bool × List AOpenD × List ARingD × List AFileD × Bool × List Int × Int × Int × List Int × Int × Int × List (List InsD) × List ProcD × List Int × List (List Int) × List OpenD × List BPipeD × List CpuD × List Int × List Int × Unit
abbrev lv0 : FlatL := (0, 0, 0, [], [], [], [], [], [], [], false, [], 0, 0, [], 0, 0, [], [], [], [], [], [], [], [], [], ())
abbrev lv1 (p : List (List InsD)) : FlatL := (1, 2, 0, p, aSlots, aRam, aMap, aOpens, aPipes, aFiles, false, [1, 0, 0, 0, 0, 0], 0, 1, [], 0, 0, [], [], [], [], [], [], [], [], [], ())
abbrev lv2 (p : List (List InsD)) : FlatL := (2, 0, 0, [], [], [], [], [], [], [], false, [], 0, 0, [], 2, 0, p, bProcs, aRam, [[1], [2], [4], [8], []], bootO, [], [], [1], [], ())
theorem live_bad {p : List (List InsD)} (k : Int) (h : progsOkV p = false) : k9_V p k = some ((lv0, ((false, ()), ())), ((), ((), ()))) := by
 unfold k9_V f9_tree
 exact (eval_get_some (boot_bad h)).trans ((eval_ite_t (by rfl)).trans rfl)
theorem live_bad2 {p : List (List InsD)} (k : Int) (h : progsOkV p = false) : k14_V p k = some ((lv0, ((false, ()), ())), ((), ((), ()))) := by
 unfold k14_V f14_tree
 exact (eval_get_some (boot_bad2 h)).trans ((eval_ite_f (by rfl)).trans rfl)
theorem live_none {p : List (List InsD)} {k : Int} (h : progsOkV p = true) (h1 : k ≠ 1) (h2 : k ≠ 2) : k9_V p k = some ((lv0, ((false, ()), ())), ((), ((), ()))) := by
 have e : k33_V 2 0 p bootP bootO [] [] [1] [] k = some ((lv0, ((false, ()), ())), ((), ((), ()))) := by
  unfold k33_V f33_tree
  exact (eval_ite_f (beq_false_of_ne h1)).trans ((eval_ite_f (beq_false_of_ne h2)).trans rfl)
 unfold k9_V f9_tree
 exact (eval_get_some (booted h)).trans ((eval_ite_f (by rfl)).trans ((eval_get_some e).trans rfl))
theorem live_none2 {p : List (List InsD)} {k : Int} (h : progsOkV p = true) (h1 : k ≠ 1) (h2 : k ≠ 2) : k14_V p k = some ((lv0, ((false, ()), ())), ((), ((), ()))) := by
 unfold k14_V f14_tree
 exact (eval_get_some (booted2 h)).trans ((eval_ite_t (by rfl)).trans ((eval_ite_t (by simp [h1])).trans ((eval_ite_t (by simp [h2])).trans rfl)))
theorem live_one {p : List (List InsD)} (h : progsOkV p = true) : k9_V p 1 = some ((lv1 p, ((true, ()), ())), ((), ((), ()))) := by
 have e : k33_V 2 0 p bootP bootO [] [] [1] [] 1 = some ((lv1 p, ((true, ()), ())), ((), ((), ()))) := by
  unfold k33_V f33_tree
  exact (eval_ite_t (by decide)).trans ((eval_get_some (aload h)).trans ((eval_ite_f (by rfl)).trans rfl))
 unfold k9_V f9_tree
 exact (eval_get_some (booted h)).trans ((eval_ite_f (by rfl)).trans ((eval_get_some e).trans rfl))
theorem live_one2 {p : List (List InsD)} (h : progsOkV p = true) : k14_V p 1 = some ((lv1 p, ((true, ()), ())), ((), ((), ()))) := by
 have e : k44_V 2 0 p bootP bootO [] [] [1] [] 1 = some ((lv1 p, ()), ((), ((), ()))) := by
  unfold k44_V f44_tree
  exact (eval_ite_t (by decide)).trans ((eval_get_some (aload2 h)).trans rfl)
 unfold k14_V f14_tree
 exact (eval_get_some (booted2 h)).trans ((eval_ite_t (by rfl)).trans ((eval_ite_f (by decide)).trans ((eval_get_some e).trans rfl)))
theorem live_two {p : List (List InsD)} (h : progsOkV p = true) : k9_V p 2 = some ((lv2 p, ((true, ()), ())), ((), ((), ()))) := by
 have e : k33_V 2 0 p bootP bootO [] [] [1] [] 2 = some ((lv2 p, ((true, ()), ())), ((), ((), ()))) := by
  unfold k33_V f33_tree
  exact (eval_ite_f (by decide)).trans ((eval_ite_t (by decide)).trans ((eval_get_some (bload h)).trans ((eval_ite_f (by rfl)).trans rfl)))
 unfold k9_V f9_tree
 exact (eval_get_some (booted h)).trans ((eval_ite_f (by rfl)).trans ((eval_get_some e).trans rfl))
theorem live_two2 {p : List (List InsD)} (h : progsOkV p = true) : k14_V p 2 = some ((lv2 p, ((true, ()), ())), ((), ((), ()))) := by
 have e : k44_V 2 0 p bootP bootO [] [] [1] [] 2 = some ((lv2 p, ()), ((), ((), ()))) := by
  unfold k44_V f44_tree
  exact (eval_ite_f (by decide)).trans ((eval_get_some (bload2 h)).trans rfl)
 unfold k14_V f14_tree
 exact (eval_get_some (booted2 h)).trans ((eval_ite_t (by rfl)).trans ((eval_ite_t (by decide)).trans ((eval_ite_f (by decide)).trans ((eval_get_some e).trans rfl))))
def mkN : FlatL → Nat | (_, _, _, c3, c4, c5, c6, c7, c8, c9, _, c11, _, _, c14, _, _, c17, c18, c19, c20, c21, c22, c23, c24, c25, _) => mkcInsSS c3 + mkcASlotS c4 + mkcIntS c5 + mkcBoolS c6 + mkcAOpenS c7 + mkcARingS c8 + mkcAFileS c9 + mkcIntS c11 + mkcIntS c14 + mkcInsSS c17 + mkcProcS c18 + mkcIntS c19 + mkcIntSS c20 + mkcOpenS c21 + mkcBPipeS c22 + mkcCpuS c23 + mkcIntS c24 + mkcIntS c25
theorem live_cases (p : List (List InsD)) (k : Int) (hs : szcInsSS p ≤ 1048576) : ∃ (L : FlatL) (b : Bool), k9_V p k = some ((L, ((b, ()), ())), ((), ((), ()))) ∧ k14_V p k = some ((L, ((b, ()), ())), ((), ((), ()))) ∧ mkN L ≤ 2305843009213693952 := by
 have g := mkcInsSS_le p
 cases h : progsOkV p with
 | false => exact ⟨lv0, false, live_bad k h, live_bad2 k h, by decide⟩
 | true =>
   by_cases h1 : k = 1
   . subst h1
     exact ⟨lv1 p, true, live_one h, live_one2 h, by
      have e : mkN (lv1 p) = mkcInsSS p + mkN (lv1 []) := by
       show _ = _
       simp only [mkN, Nat.add_assoc]
       rfl
      have e2 : mkN (lv1 []) ≤ 10000 := by decide
      omega⟩
   . by_cases h2 : k = 2
     . subst h2
       exact ⟨lv2 p, true, live_two h, live_two2 h, by
        have e : mkN (lv2 p) = mkcInsSS p + mkN (lv2 []) := by
         have z : mkcInsSS [] = 0 := rfl
         simp only [mkN, z]
         omega
        have e2 : mkN (lv2 []) ≤ 10000 := by decide
        omega⟩
     . exact ⟨lv0, false, live_none h h1 h2, live_none2 h h1 h2, by decide⟩
theorem live_marks (c0 : Int) (c1 : Int) (c2 : Int) (c3 : List (List InsD)) (c4 : List ASlotD) (c5 : List Int) (c6 : List Bool) (c7 : List AOpenD) (c8 : List ARingD) (c9 : List AFileD) (c10 : Bool) (c11 : List Int) (c12 : Int) (c13 : Int) (c14 : List Int) (c15 : Int) (c16 : Int) (c17 : List (List InsD)) (c18 : List ProcD) (c19 : List Int) (c20 : List (List Int)) (c21 : List OpenD) (c22 : List BPipeD) (c23 : List CpuD) (c24 : List Int) (c25 : List Int) (hb : mkN (c0, c1, c2, c3, c4, c5, c6, c7, c8, c9, c10, c11, c12, c13, c14, c15, c16, c17, c18, c19, c20, c21, c22, c23, c24, c25, ()) ≤ 2305843009213693952) : ∃ (n : Nat) (z : List (List InsD) × List ASlotD × List Int × List Bool × List AOpenD × List ARingD × List AFileD × List Int × List Int × List (List InsD) × List ProcD × List Int × List (List Int) × List OpenD × List BPipeD × List CpuD × List Int × List Int), markLiveV c0 c1 c2 c3 c4 c5 c6 c7 c8 c9 c10 c11 c12 c13 c14 c15 c16 c17 c18 c19 c20 c21 c22 c23 c24 c25 1 = some ((1 : Int) + ((n : Nat) : Int), z) ∧ heldLiveV c0 c1 c2 z.1 z.2.1 z.2.2.1 z.2.2.2.1 z.2.2.2.2.1 z.2.2.2.2.2.1 z.2.2.2.2.2.2.1 c10 z.2.2.2.2.2.2.2.1 c12 c13 z.2.2.2.2.2.2.2.2.1 c15 c16 z.2.2.2.2.2.2.2.2.2.1 z.2.2.2.2.2.2.2.2.2.2.1 z.2.2.2.2.2.2.2.2.2.2.2.1 z.2.2.2.2.2.2.2.2.2.2.2.2.1 z.2.2.2.2.2.2.2.2.2.2.2.2.2.1 z.2.2.2.2.2.2.2.2.2.2.2.2.2.2.1 z.2.2.2.2.2.2.2.2.2.2.2.2.2.2.2.1 z.2.2.2.2.2.2.2.2.2.2.2.2.2.2.2.2.1 z.2.2.2.2.2.2.2.2.2.2.2.2.2.2.2.2.2 1 = some ((1 : Int) + ((n : Nat) : Int)) := by
 have hb : mkcInsSS c3 + mkcASlotS c4 + mkcIntS c5 + mkcBoolS c6 + mkcAOpenS c7 + mkcARingS c8 + mkcAFileS c9 + mkcIntS c11 + mkcIntS c14 + mkcInsSS c17 + mkcProcS c18 + mkcIntS c19 + mkcIntSS c20 + mkcOpenS c21 + mkcBPipeS c22 + mkcCpuS c23 + mkcIntS c24 + mkcIntS c25 ≤ 2305843009213693952 := hb
 refine ⟨_, _, mkP_in (by decide) (by omega), ?_⟩
 unfold heldLiveV
 simp only [mkcInsSS_d, mkcASlotS_d, mkcIntS_d, mkcBoolS_d, mkcAOpenS_d, mkcARingS_d, mkcAFileS_d, mkcProcS_d, mkcIntSS_d, mkcOpenS_d, mkcBPipeS_d, mkcCpuS_d, mkdInsSS_d, mkdASlotS_d, mkdIntS_d, mkdBoolS_d, mkdAOpenS_d, mkdARingS_d, mkdAFileS_d, mkdProcS_d, mkdIntSS_d, mkdOpenS_d, mkdBPipeS_d, mkdCpuS_d, decide_true, Bool.and_self]
 exact (hdP_in (by decide) (by omega)).trans (by rfl)
end Go.Proofs.YtnnpnkegpkladaaGreat.Dm
