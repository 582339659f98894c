/- Functions of the program, and what they compute. -/
import Derived.Test.YtnnpnkegpkladaaGreatL7
import Derived.Test.YtnnpnkegpkladaaGreatL6
import Derived.Test.YtnnpnkegpkladaaGreatL4
namespace Go.Proofs.YtnnpnkegpkladaaGreat.Dm
open Go Go.ChangeShapes Go.WideShapes Go.ChangeAt Go.RowKit
theorem progs_copied2 {p : List (List InsD)} (hl : p.length ≤ 4) (hx : ∀ x ∈ p, x.length ≤ 40) : k205_V p = some (((p, ()), ()), ((), ())) := by
  unfold k205_V f205_tree
  have h := foldl_loop (f := f205_L0) (fun l i => l.length = i) (fun l x => l ++ [x]) p (fun l i => ((p, (((i : Nat) : Int), ())), (l, ()))) (fun l => ((), (l, ())))
    (fun i hi l hP => by
      have hP : l.length = i := hP
      have w1 := wrap_succ (i := i) (by unfold BIG; omega)
      have h0 : decide (List.length ([] : List InsD) + List.length p[i] ≤ LIM) = true := decide_eq_true (by have := hx _ (List.getElem_mem hi); rw [LIM_eq]; simp; omega)
      have h1 : decide (List.length l + List.length [([] : List InsD) ++ p[i]] ≤ LIM) = true := decide_eq_true (by rw [LIM_eq]; simp; omega)
      have hn : nth p (Int.toNat ((i : Nat) : Int)) = some p[i] := List.getElem?_eq_getElem hi
      unfold f205_L0
      refine (eval_ite_t (decide_eq_true (by show ((i : Nat) : Int) < ((p.length : Nat) : Int); omega))).trans ((eval_ite_t (decide_eq_true (by show (0 : Int) ≤ ((i : Nat) : Int); omega))).trans ((eval_get_some hn).trans ((eval_ite_t h0).trans ((eval_ite_t h1).trans ?_))))
      simp only [w1]
      rfl)
    (fun l hP => by simp [f205_L0, Out.eval]) (fun i hi l hP => by simp [hP]) (by unfold BIG; omega) [] rfl
  rw [fold_snoc, List.nil_append] at h
  exact (eval_get_some h).trans rfl
theorem booted2 {p : List (List InsD)} (h : progsOkV p = true) : k8_V p = some (((2, (0, (p, (bootP, (bootO, ([], ([], ([1], ([], ()))))))))), ((true, ()), ())), ((), ())) := by
  obtain ⟨⟨h1, h4⟩, hx⟩ := progs_le h
  have hl : p.length ≤ 4 := h4
  unfold k8_V f8_tree
  refine (eval_ite_f (by rw [h]; rfl)).trans ?_
  have h := foldl_loop (f := f8_L0) (fun l i => l.length = i) (fun l x => l ++ [x]) p (fun l i => ((p, (((i : Nat) : Int), ())), ((0, (0, ())), ((2, (0, ())), ([], ([], ([], ([], ([], ([], ([], (l, ([], ([(0, (1, (0, (0, (2, ())))))], ([], ([], ([1], ([], ()))))))))))))))))))
    (fun l => ((), ((0, (0, ())), ((2, (0, ())), ([], ([], ([], ([], ([], ([], ([], (l, ([], ([(0, (1, (0, (0, (2, ())))))], ([], ([], ([1], ([], ()))))))))))))))))))
    (fun i hi l hP => by
      have hP : l.length = i := hP
      have w1 := wrap_succ (i := i) (by unfold BIG; omega)
      have h0 : decide (List.length ([] : List InsD) + List.length p[i] ≤ LIM) = true := decide_eq_true (by have := (hx _ (List.getElem_mem hi)).2; rw [LIM_eq]; simp; omega)
      have h1 : decide (List.length l + List.length [([] : List InsD) ++ p[i]] ≤ LIM) = true := decide_eq_true (by rw [LIM_eq]; simp; omega)
      have hn : nth p (Int.toNat ((i : Nat) : Int)) = some p[i] := List.getElem?_eq_getElem hi
      unfold f8_L0
      refine (eval_ite_t (decide_eq_true (by show ((i : Nat) : Int) < ((p.length : Nat) : Int); omega))).trans ((eval_ite_t (decide_eq_true (by show (0 : Int) ≤ ((i : Nat) : Int); omega))).trans ((eval_get_some hn).trans ((eval_ite_t h0).trans ((eval_ite_t h1).trans ?_))))
      simp only [w1]
      rfl)
    (fun l hP => by simp [f8_L0, Out.eval]) (fun i hi l hP => by simp [hP]) (by unfold BIG; omega) [] rfl
  rw [fold_snoc, List.nil_append] at h
  refine (eval_get_some h).trans ?_
  kernel_rfl
theorem boot_bad {p : List (List InsD)} (h : progsOkV p = false) : k7_V p = some (((0, (0, ([], ([], ([], ([], ([], ([], ([], ()))))))))), ((false, ()), ())), ((), ())) := by
  unfold k7_V f7_tree
  by_cases c : ((!(inV ((List.length p : Nat) : Int) (1 : Int) (4 : Int))) == false) = true
  · refine (eval_ite_t c).trans ((eval_ite_t ?_).trans rfl)
    unfold inV at c
    simp at c
    cases q : anyNotProgV p with
    | true => rfl
    | false =>
      unfold anyNotProgV notProgV at q
      rw [List.any_eq_false] at q
      have : progsOkV p = true := by
        unfold progsOkV
        simp only [Bool.and_eq_true, decide_eq_true_eq, List.all_eq_true]
        exact ⟨⟨by omega, by omega⟩, fun x hx => by have := q x hx; simpa using this⟩
      rw [this] at h
      cases h
  · exact (eval_ite_f (Bool.eq_false_iff.2 c)).trans rfl
theorem boot_bad2 {p : List (List InsD)} (h : progsOkV p = false) : k8_V p = some (((0, (0, ([], ([], ([], ([], ([], ([], ([], ()))))))))), ((false, ()), ())), ((), ())) := by
  unfold k8_V f8_tree
  exact (eval_ite_t (by rw [h]; rfl)).trans rfl
abbrev zSlot : ASlotD := (false, (0, (0, (0, (0, (0, (0, (0, ([0, 0, 0, 0], ([-1, -1, -1], ([-1, -1, -1, -1], ())))))))))))
abbrev aSlots : List ASlotD := (true, (1, (0, (1, (0, (0, (0, (0, ([0, 0, 0, 0], ([0, -1, -1], ([0, 0, -1, -1], ()))))))))))) :: List.replicate 5 zSlot
abbrev aRam : List Int := List.replicate 64 0
abbrev aMap : List Bool := true :: List.replicate 15 false
abbrev aOpens : List AOpenD := (true, (1, (0, (0, (2, ()))))) :: List.replicate 7 (false, (0, (0, (0, (0, ())))))
abbrev aPipes : List ARingD := List.replicate 3 (false, ([0, 0, 0, 0], (0, (0, ()))))
abbrev aFiles : List AFileD := List.replicate 6 (false, ([], ()))
abbrev bProcs : List ProcD := [(1, (0, (1, (0, ((0, ([0, 0, 0, 0], ())), ([0], ([0, 0, -1, -1], (0, (0, ())))))))))]
theorem aload {p : List (List InsD)} (h : progsOkV p = true) : k67_V 2 0 p bootP bootO [] [] [1] [] = some (((2, (0, (p, (aSlots, (aRam, (aMap, (aOpens, (aPipes, (aFiles, (false, ([1, 0, 0, 0, 0, 0], (0, (1, ([], ())))))))))))))), ((true, ()), ())), ((), ())) := by
  obtain ⟨⟨h1, h4⟩, hx⟩ := progs_le h
  unfold k67_V f67_tree
  refine (eval_get_some (boot_right h)).trans ((eval_ite_f (by rfl)).trans ?_)
  refine (eval_get_some (show k150_V = some (((0, (0, ([], (List.replicate 6 zSlot, (aRam, (List.replicate 16 false, (List.replicate 8 (false, (0, (0, (0, (0, ()))))), (aPipes, (aFiles, (false, ([0, 0, 0, 0, 0, 0], (0, (0, ([], ())))))))))))))), ()), ()) by kernel_rfl)).trans ?_
  refine (eval_get_some (progs_copied h4 fun x hm => (hx x hm).2)).trans ?_
  kernel_rfl
theorem bload {p : List (List InsD)} (h : progsOkV p = true) : k68_V 2 0 p bootP bootO [] [] [1] [] = some (((2, (0, (p, (bProcs, (aRam, ([[1], [2], [4], [8], []], (bootO, ([], ([], ([1], ([], ()))))))))))), ((true, ()), ())), ((), ())) := by
  obtain ⟨⟨h1, h4⟩, hx⟩ := progs_le h
  unfold k68_V f68_tree
  refine (eval_get_some (boot_right h)).trans ((eval_ite_f (by rfl)).trans ?_)
  refine (eval_get_some (progs_copied h4 fun x hm => (hx x hm).2)).trans ?_
  kernel_rfl
end Go.Proofs.YtnnpnkegpkladaaGreat.Dm
