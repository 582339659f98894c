/- Functions of the program, and what they compute. -/
import Derived.Test.YtnnpnkegpkladaaGreatL10
import Derived.Test.YtnnpnkegpkladaaGreatL8
namespace Go.Proofs.YtnnpnkegpkladaaGreat.Dm
open Go Go.ChangeShapes Go.WideShapes Go.ChangeAt Go.RowKit
abbrev uB (p : List (List InsD)) : UnixD := (2, (0, (p, (bootP, (bootO, ([], ([], ([1], ([], ())))))))))
theorem absA {p : List (List InsD)} (h : progsOkV p = true) : k41_V 2 0 p aSlots aRam aMap aOpens aPipes aFiles false [1, 0, 0, 0, 0, 0] 0 1 [] = some ((uB p, ()), ((), ())) := by
  obtain ⟨⟨h1, h4⟩, hx⟩ := progs_le h
  unfold k41_V f41_tree
  refine (eval_get_some (show k82_V 2 0 p aSlots aRam aMap aOpens aPipes aFiles false [1, 0, 0, 0, 0, 0] 0 1 [] = some (((true, ()), ()), ((), ())) by kernel_rfl)).trans ((eval_ite_f (by rfl)).trans ?_)
  refine (eval_get_some (progs_copied h4 fun x hm => (hx x hm).2)).trans ?_
  kernel_rfl
theorem absB {p : List (List InsD)} (h : progsOkV p = true) : k42_V 2 0 p bProcs aRam [[1], [2], [4], [8], []] bootO [] [] [1] [] = some ((uB p, ()), ((), ())) := by
  obtain ⟨⟨h1, h4⟩, hx⟩ := progs_le h
  unfold k42_V f42_tree
  refine (eval_get_some (show k89_V 2 0 p bProcs aRam [[1], [2], [4], [8], []] bootO [] [] [1] [] = some (((true, ()), ()), ((), ())) by kernel_rfl)).trans ((eval_ite_f (by rfl)).trans ?_)
  refine (eval_get_some (progs_copied h4 fun x hm => (hx x hm).2)).trans ?_
  kernel_rfl
theorem okA {p : List (List InsD)} (h : progsOkV p = true) : k78_V 2 0 p aSlots aRam aMap aOpens aPipes aFiles false [1, 0, 0, 0, 0, 0] 0 1 [] = some (((true, ()), ()), ((), ())) := by
  unfold k78_V f78_tree
  refine (eval_get_some (show k82_V 2 0 p aSlots aRam aMap aOpens aPipes aFiles false [1, 0, 0, 0, 0, 0] 0 1 [] = some (((true, ()), ()), ((), ())) by kernel_rfl)).trans ((eval_ite_t (by rfl)).trans ?_)
  refine (eval_get_some (absA h)).trans ((eval_get_some (boot_right h)).trans ((eval_ite_f (by rfl)).trans ?_))
  kernel_rfl
theorem okB {p : List (List InsD)} (h : progsOkV p = true) : k80_V 2 0 p bProcs aRam [[1], [2], [4], [8], []] bootO [] [] [1] [] = some (((true, ()), ()), ((), ())) := by
  unfold k80_V f80_tree
  refine (eval_get_some (show k89_V 2 0 p bProcs aRam [[1], [2], [4], [8], []] bootO [] [] [1] [] = some (((true, ()), ()), ((), ())) by kernel_rfl)).trans ((eval_ite_t (by rfl)).trans ?_)
  refine (eval_get_some (absB h)).trans ((eval_get_some (boot_right h)).trans ((eval_ite_t (by rfl)).trans ?_))
  kernel_rfl
theorem abs1 {p : List (List InsD)} (h : progsOkV p = true) : k12_V 1 2 0 p aSlots aRam aMap aOpens aPipes aFiles false [1, 0, 0, 0, 0, 0] 0 1 [] 0 0 [] [] [] [] [] [] [] [] [] = some ((uB p, ()), ((), ())) := by
  have e : k40_V 1 2 0 p aSlots aRam aMap aOpens aPipes aFiles false [1, 0, 0, 0, 0, 0] 0 1 [] 0 0 [] [] [] [] [] [] [] [] [] = some (((true, ()), ()), ((), ())) := by
    unfold k40_V f40_tree
    refine (eval_ite_t (by decide)).trans ((eval_get_some (okA h)).trans ((eval_ite_t (by rfl)).trans ?_))
    kernel_rfl
  unfold k12_V f12_tree
  exact (eval_get_some e).trans ((eval_ite_f (by rfl)).trans ((eval_ite_t (by decide)).trans ((eval_get_some (absA h)).trans rfl)))
theorem abs2 {p : List (List InsD)} (h : progsOkV p = true) : k12_V 2 0 0 [] [] [] [] [] [] [] false [] 0 0 [] 2 0 p bProcs aRam [[1], [2], [4], [8], []] bootO [] [] [1] [] = some ((uB p, ()), ((), ())) := by
  have e : k40_V 2 0 0 [] [] [] [] [] [] [] false [] 0 0 [] 2 0 p bProcs aRam [[1], [2], [4], [8], []] bootO [] [] [1] [] = some (((true, ()), ()), ((), ())) := by
    unfold k40_V f40_tree
    refine (eval_ite_f (by decide)).trans ((eval_ite_t (by decide)).trans ((eval_get_some (okB h)).trans ((eval_ite_t (by rfl)).trans ?_)))
    kernel_rfl
  unfold k12_V f12_tree
  exact (eval_get_some e).trans ((eval_ite_f (by rfl)).trans ((eval_ite_f (by decide)).trans ((eval_get_some (absB h)).trans rfl)))
theorem boot_right2 {p : List (List InsD)} (h : progsOkV p = true) : unixOkV 2 0 p bootP bootO [] [] [1] [] = true := by
  have := boot_right h
  unfold unixOkP at this
  rw [if_pos (by decide), unix_same] at this
  exact Option.some.inj this
theorem sound {p : List (List InsD)} (h : progsOkV p = true) : k10_V 2 0 p bootP bootO [] [] [1] [] = some (((true, ()), ()), ((), ())) := by
  unfold k10_V f10_tree
  refine (eval_ite_f (by rw [boot_right2 h]; rfl)).trans ?_
  kernel_rfl
theorem same_ins (x : List InsD) (hx : x.length ≤ 40) : k38_V x x = some (((true, ()), ()), ((), ((), ()))) := by
  unfold k38_V f38_tree
  refine (eval_ite_f (by simp)).trans ?_
  have h := iter_out (f := f38_L0) (fun i => ((x, (x, (((i : Nat) : Int), ()))), ())) x.length (y := ((), ())) (lt_fuel (by unfold BIG; omega))
    (fun i hi => by
      have w1 := wrap_succ (i := i) (by unfold BIG; omega)
      have hn : nth x (Int.toNat ((i : Nat) : Int)) = some x[i] := List.getElem?_eq_getElem hi
      have h0 : decide ((0 : Int) ≤ ((i : Nat) : Int)) = true := decide_eq_true (by omega)
      unfold f38_L0
      refine (eval_ite_t (decide_eq_true (by show ((i : Nat) : Int) < ((x.length : Nat) : Int); omega))).trans ((eval_ite_t h0).trans ((eval_get_some hn).trans ((eval_ite_t h0).trans ((eval_get_some hn).trans ((eval_ite_f (by simp)).trans ?_)))))
      simp only [w1]
      rfl)
    (by simp [f38_L0, Out.eval])
  exact (eval_get_some h).trans rfl
theorem same_unix {p : List (List InsD)} (h : progsOkV p = true) : k11_V 2 0 p bootP bootO [] [] [1] [] 2 0 p bootP bootO [] [] [1] [] = some (((true, ()), ()), ((), ((), ()))) := by
  obtain ⟨⟨h1, h4⟩, hx⟩ := progs_le h
  have hl : p.length ≤ 4 := h4
  unfold k11_V f11_tree
  refine (eval_ite_t (by rfl)).trans ((eval_ite_t (by rfl)).trans ((eval_ite_t (by simp)).trans ((eval_ite_t (by rfl)).trans ((eval_ite_t (by rfl)).trans ((eval_ite_t (by rfl)).trans ?_)))))
  refine (eval_get_some (show k36_V [] [] = some (((true, ()), ()), ((), ((), ()))) by kernel_rfl)).trans ((eval_ite_t (by rfl)).trans ?_)
  refine (eval_get_some (show k37_V [1] [1] = some (((true, ()), ()), ((), ((), ()))) by kernel_rfl)).trans ((eval_ite_t (by rfl)).trans ?_)
  refine (eval_get_some (show k37_V [] [] = some (((true, ()), ()), ((), ((), ()))) by kernel_rfl)).trans ((eval_ite_f (by rfl)).trans ?_)
  have h := iter_out (f := f11_L0) (fun i => ((((i : Nat) : Int), ()), (uB p, (uB p, ())))) p.length (y := ((), (uB p, (uB p, ())))) (lt_fuel (by unfold BIG; omega))
    (fun i hi => by
      have w1 := wrap_succ (i := i) (by unfold BIG; omega)
      have hn : nth p (Int.toNat ((i : Nat) : Int)) = some p[i] := List.getElem?_eq_getElem hi
      have h0 : decide ((0 : Int) ≤ ((i : Nat) : Int)) = true := decide_eq_true (by omega)
      unfold f11_L0
      refine (eval_ite_t (decide_eq_true (by show ((i : Nat) : Int) < ((p.length : Nat) : Int); omega))).trans ((eval_ite_t h0).trans ((eval_get_some hn).trans ((eval_ite_t h0).trans ((eval_get_some hn).trans ((eval_get_some (same_ins p[i] (hx _ (List.getElem_mem hi)).2)).trans ((eval_ite_f (by rfl)).trans ?_))))))
      simp only [w1]
      rfl)
    (by simp [f11_L0, Out.eval])
  refine (eval_get_some h).trans ?_
  kernel_rfl
end Go.Proofs.YtnnpnkegpkladaaGreat.Dm
