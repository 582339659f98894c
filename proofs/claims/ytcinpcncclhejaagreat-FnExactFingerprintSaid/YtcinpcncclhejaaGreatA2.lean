/- Functions of the program, and what they compute. -/
import Derived.Test.YtcinpcncclhejaaGreatA1
namespace Go.Proofs.YtcinpcncclhejaaGreat.Dm
open Go Go.ChangeShapes Go.WideShapes Go.ChangeAt Go.RowKit

/-! ## Copies of what the law is given -/
def lim {α β : Type} (l : List α) (x : β) : Option β := if l.length ≤ LIM then some x else none
theorem lim_some {α β : Type} {l : List α} {x : β} (h : l.length ≤ LIM) : lim l x = some x := if_pos h
theorem lim_not {α β : Type} {l : List α} {x : β} (h : ¬ l.length ≤ LIM) : lim l x = none := if_neg h
/-! ## Equal numbers -/
def eqIntsV (a b : List Int) : Bool := decide (a = b)
abbrev f165_S0 := (List (Int) × List (Int) × Int × Int × Unit) × (Unit)
def f165_L0 (x : f165_S0) : Out (Round f165_S0 ((Unit) × (Unit)) ((Bool × Unit) × (Unit))) :=
 .ite (decide (x.1.2.2.2.1 < x.1.2.2.1))
 (.ite (decide (0 ≤ x.1.2.2.2.1))
 (.get (nth x.1.1 (Int.toNat x.1.2.2.2.1)) fun y1 =>
 .ite (decide (0 ≤ x.1.2.2.2.1))
 (.get (nth x.1.2.1 (Int.toNat x.1.2.2.2.1)) fun y2 =>
 .ite ((y1 != y2))
 (.ret (.ret ((false, ()), ())))
 (.ret (.again ((x.1.1, x.1.2.1, x.1.2.2.1, (IntKind.i64.wrap (x.1.2.2.2.1 + (1 : Int))), ()), ()))))
 .fail)
 .fail)
 (.ret (.out ((), ())))
def f165_tree (a0 : List Int) (a1 : List Int) : Out (((Bool × Unit) × Unit) × (Unit × Unit × Unit)) :=
 .ite ((((List.length a0 : Nat) : Int) != ((List.length a1 : Nat) : Int)))
 (.ret (((false, ()), ()), ((), (), ())))
 (.get (iter f165_L0 FUEL ((a0, a1, ((List.length a0 : Nat) : Int), (0 : Int), ()), ())) fun y1 => .alt y1 (fun y2 =>
 .ret (((true, ()), ()), ((), (), ()))) (fun y3 =>
 .ret (((y3.1.1, ()), ()), ((), (), ()))))
def f165_A : Nat → Option LoopAnn := fun n => annOf [(0, { head := { t := [.ro (.int .i64) (some 0), .ro (.int .i64) (some 1)] ++ dd 10 ++ [.i .i64, .i .i64] ++ dd 12, v := [] }, out := { t := dd 26, v := [] }, ret := some { t := dd 4 ++ [.b] ++ dd 21, v := [] } })] n
def k165 : Con := { f := 165, lend := true, its := [⟨false, false, [.ro (.int .i64)]⟩, ⟨false, false, [.ro (.int .i64)]⟩], lay := [none, none], rs := [⟨false, false, [.b]⟩], F := fun x => .ret ((((eqIntsV x.1.1 x.2.1.1), ()), ()), ((), (), ())) }
theorem f165_eq (x : itemsD k165.its) : bodyOut (cxOf []) (f165_A) (codeOf Tryz.f165) k165.its k165.lay Tryz.f165.ntmps k165.rs [.tmp 4] x = f165_tree x.1.1 x.2.1.1 := by kernel_rfl
theorem f165_ok (hr : ∀ x : (List Int × Unit) × (List Int × Unit) × Unit, itemsWF k165.its x → (f165_tree x.1.1 x.2.1.1).eval = (k165.F x).eval) : k165.Ok Tryz.prog :=
  con_fn [] trivial (by kernel_rfl) (codeOf_eq (by kernel_rfl)) (by kernel_rfl) (by kernel_rfl) (by kernel_rfl) f165_eq fun x hw _ hy => (hr x hw).trans hy
theorem k165_ok : k165.Ok Tryz.prog := by
  refine f165_ok fun x hw => ?_
  obtain ⟨⟨a, _⟩, ⟨b, _⟩, _⟩ := x
  have ha : a.length ≤ BIG := hw.1.1.1
  show (f165_tree a b).eval = some (((eqIntsV a b, ()), ()), ((), ((), ())))
  unfold f165_tree
  by_cases hl : a.length = b.length
  · rw [eval_ite_f (len_eq hl)]
    have := eq_loop (f := f165_L0) a b (fun i => ((a, (b, (((a.length : Nat) : Int), (((i : Nat) : Int), ())))), ())) (y := ((), ())) (z := ((false, ()), ())) hl ha
      (fun i hi hi' he => by
        have := wrap_succ (i := i) (by omega)
        simp [f165_L0, Out.eval, hi, hi', he, this])
      (fun i hi hi' he => by simp [f165_L0, Out.eval, hi, hi', he, cond_eq_ite])
      (by simp [f165_L0, Out.eval])
    refine (eval_get_some this).trans ?_
    unfold eqIntsV
    by_cases hab : a = b
    · simp only [if_pos hab, decide_eq_true hab]; rfl
    · simp only [if_neg hab, decide_eq_false hab]; rfl
  · rw [eval_ite_t (len_ne hl)]
    have : eqIntsV a b = false := decide_eq_false fun e => hl (by rw [e])
    rw [this]
    rfl
end Go.Proofs.YtcinpcncclhejaaGreat.Dm
