/- Functions of the program, and what they compute. -/
import Derived.Test.YtnnpnkegpkladaaGreatL5
namespace Go.Proofs.YtnnpnkegpkladaaGreat.Dm
open Go Go.ChangeShapes Go.WideShapes Go.ChangeAt Go.RowKit
theorem progs_le {p : List (List InsD)} (h : progsOkV p = true) : (1 ≤ p.length ∧ p.length ≤ 4) ∧ ∀ x ∈ p, progOkV x = true ∧ x.length ≤ 40 := by
  unfold progsOkV at h
  simp only [Bool.and_eq_true, decide_eq_true_eq] at h
  refine ⟨⟨h.1.1, h.1.2⟩, fun x hx => ?_⟩
  have := List.all_eq_true.1 h.2 x hx
  exact ⟨this, of_decide_eq_true (Bool.and_eq_true_iff.1 this).1⟩
theorem fold_snoc {α : Type} : ∀ (a b : List α), a.foldl (fun l x => l ++ [x]) b = b ++ a
  | [], b => by simp
  | x :: a, b => by rw [List.foldl_cons, fold_snoc a]; simp
theorem progs_copied {p : List (List InsD)} (hl : p.length ≤ 4) (hx : ∀ x ∈ p, x.length ≤ 40) : k30_V p = some (((p, ()), ()), ((), ())) := by
  unfold k30_V f30_tree
  have h := foldl_loop (f := f30_L0) (fun l i => l.length = i) (fun l x => l ++ [x]) p (fun l i => ((p, (((p.length : Nat) : Int), (((i : Nat) : Int), ()))), (l, ()))) (fun l => ((), (l, ())))
    (fun i hi l hP => by
      have hP : l.length = i := hP
      have w1 := wrap_succ (i := i) (by unfold BIG; omega)
      have hc : cloneV p[i] = some p[i] := lim_some (by have := hx _ (List.getElem_mem hi); rw [LIM_eq]; omega)
      have h1 : decide (List.length l + List.length [p[i]] ≤ LIM) = true := decide_eq_true (by rw [LIM_eq]; simp; omega)
      have hn : nth p (Int.toNat ((i : Nat) : Int)) = some p[i] := List.getElem?_eq_getElem hi
      unfold f30_L0
      refine (eval_ite_t (decide_eq_true (by show ((i : Nat) : Int) < ((p.length : Nat) : Int); omega))).trans ((eval_ite_t (decide_eq_true (by show (0 : Int) ≤ ((i : Nat) : Int); omega))).trans ((eval_get_some hn).trans ((eval_get_some hc).trans ((eval_ite_t h1).trans ?_))))
      simp only [w1]
      rfl)
    (fun l hP => by simp [f30_L0, Out.eval]) (fun i hi l hP => by simp [hP]) (by unfold BIG; omega) [] rfl
  rw [fold_snoc, List.nil_append] at h
  exact (eval_get_some h).trans rfl
abbrev bootP : List ProcD := [(1, (0, (1, (0, ((0, ([0, 0, 0, 0], ())), ([0, 0, 0, 0], ([0, 0, -1, -1], (0, (0, ())))))))))]
abbrev bootO : List OpenD := [(0, (1, (0, (0, (2, ())))))]
theorem booted {p : List (List InsD)} (h : progsOkV p = true) : k7_V p = some (((2, (0, (p, (bootP, (bootO, ([], ([], ([1], ([], ()))))))))), ((true, ()), ())), ((), ())) := by
  obtain ⟨⟨h1, h4⟩, hx⟩ := progs_le h
  have hc := progs_copied h4 fun x hm => (hx x hm).2
  have e1 : ((!(inV ((List.length p : Nat) : Int) (1 : Int) (4 : Int))) == false) = true := by unfold inV; simp; omega
  have e2 : anyNotProgV p = false := by
    unfold anyNotProgV notProgV
    rw [List.any_eq_false]
    intro x hm
    simp [(hx x hm).1]
  unfold k7_V f7_tree
  refine (eval_ite_t e1).trans ((eval_ite_f e2).trans ?_)
  refine (eval_ite_t (by decide)).trans ((eval_ite_t (by decide)).trans ?_)
  refine (eval_get_some (show k29_V = some ((([-1, -1, -1, -1], ()), ()), ()) by kernel_rfl)).trans ?_
  refine (eval_ite_t (by decide)).trans ((eval_get_some (x := -1) (by decide)).trans ((eval_ite_t (by decide)).trans ((eval_get_some (x := -1) (by decide)).trans ?_)))
  exact (eval_get_some hc).trans rfl
theorem boot_right {p : List (List InsD)} (h : progsOkV p = true) : unixOkP 2 0 p bootP bootO [] [] [1] [] = some true := by
  unfold unixOkP
  rw [if_pos (by decide), unix_same]
  unfold unixOkV
  rw [h]
  obtain ⟨⟨h1, h4⟩, _⟩ := progs_le h
  generalize List.length p = n at h1 h4 ⊢
  have hn : n = 1 ∨ n = 2 ∨ n = 3 ∨ n = 4 := by omega
  rcases hn with rfl | rfl | rfl | rfl <;> first | decide | rfl
end Go.Proofs.YtnnpnkegpkladaaGreat.Dm
