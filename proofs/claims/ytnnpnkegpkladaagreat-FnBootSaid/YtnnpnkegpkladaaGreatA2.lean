/- Functions of the program, and what they compute. -/
import Derived.Test.YtnnpnkegpkladaaGreatA1
namespace Go.Proofs.YtnnpnkegpkladaaGreat.Dm
open Go Go.ChangeShapes Go.WideShapes Go.ChangeAt Go.RowKit
def lim {α β : Type} (l : List α) (x : β) : Option β := if l.length ≤ LIM then some x else none
theorem lim_some {α β : Type} {l : List α} {x : β} (h : l.length ≤ LIM) : lim l x = some x := if_pos h
theorem lim_not {α β : Type} {l : List α} {x : β} (h : ¬ l.length ≤ LIM) : lim l x = none := if_neg h
def eqIntsV (a b : List Int) : Bool := decide (a = b)
abbrev f278_S0 := (List (Int) × List (Int) × Int × Int × Unit) × (Unit)
def f278_L0 : f278_S0 → Out (Round f278_S0 ((Unit) × (Unit)) ((Bool × Unit) × (Unit)))
| ((p0, p1, p2, p3, _), _) =>
 .ite (decide (p3 < p2))
 (.ite (decide (0 ≤ p3))
 (.get (nth p0 (Int.toNat p3)) fun y1 =>
 .ite (decide (0 ≤ p3))
 (.get (nth p1 (Int.toNat p3)) fun y2 =>
 .ite ((y1 != y2))
 (.ret (.ret ((false, ()), ())))
 (.ret (.again ((p0, p1, p2, (IntKind.i64.wrap (p3 + (1 : Int))), ()), ()))))
 .fail)
 .fail)
 (.ret (.out ((), ())))
def f278_tree (a0 : List Int) (a1 : List Int) : Out (((Bool × Unit) × Unit) × XI) :=
 .ite ((((List.length a0 : Nat) : Int) != ((List.length a1 : Nat) : Int)))
 (.ret (((false, ()), ()), ((), (), ())))
 (.get (iter f278_L0 FUEL ((a0, a1, ((List.length a0 : Nat) : Int), (0 : Int), ()), ())) fun y1 => .alt y1 (fun y2 =>
 .ret (((true, ()), ()), ((), (), ()))) (fun y3 =>
 .ret (((y3.1.1, ()), ()), ((), (), ()))))
def f278_A : Nat → Option LoopAnn := fun n => annOf [(0, ⟨⟨[.ro (.int .i64) (some 0), .ro (.int .i64) (some 1)] ++ dd 10 ++ [.i .i64, .i .i64] ++ dd 12, []⟩, ⟨dd 26, []⟩, some ⟨dd 4 ++ [.b] ++ dd 21, []⟩, false⟩)] n
def k278 : Con := { f := 278, lend := true, its := [⟨false, false, [.ro (.int .i64)]⟩, ⟨false, false, [.ro (.int .i64)]⟩], lay := [none, none], rs := [⟨false, false, [.b]⟩], F := fun x => .ret ((((eqIntsV x.1.1 x.2.1.1), ()), ()), ((), (), ())) }
theorem f278_eq (x : itemsD k278.its) : bo [] f278_A Tryz.f278 k278 [.tmp 4] x = f278_tree x.1.1 x.2.1.1 := by kernel_rfl
theorem f278_ok (hr : ∀ x : (List Int × Unit) × (List Int × Unit) × Unit, itemsWF k278.its x → (f278_tree x.1.1 x.2.1.1).eval = (k278.F x).eval) : k278.Ok Tryz.prog := con_fn [] trivial f278_eq fun x hw _ hy => (hr x hw).trans hy
theorem k278_ok : k278.Ok Tryz.prog := by
  refine f278_ok fun x hw => ?_
  obtain ⟨⟨a, _⟩, ⟨b, _⟩, _⟩ := x
  have ha : a.length ≤ BIG := hw.1.1.1
  show (f278_tree a b).eval = some (((eqIntsV a b, ()), ()), ((), ((), ())))
  unfold f278_tree
  by_cases hl : a.length = b.length
  · rw [eval_ite_f (len_eq hl)]
    have := eq_loop (f := f278_L0) a b (fun i => ((a, (b, (((a.length : Nat) : Int), (((i : Nat) : Int), ())))), ())) (y := ((), ())) (z := ((false, ()), ())) hl ha
      (fun i hi hi' he => by
        have := wrap_succ (i := i) (by omega)
        simp [f278_L0, Out.eval, hi, hi', he, this])
      (fun i hi hi' he => by simp [f278_L0, Out.eval, hi, hi', he, cond_eq_ite])
      (by simp [f278_L0, Out.eval])
    refine (eval_get_some this).trans ?_
    unfold eqIntsV
    by_cases hab : a = b
    · simp only [if_pos hab, decide_eq_true hab]; rfl
    · simp only [if_neg hab, decide_eq_false hab]; rfl
  · rw [eval_ite_t (len_ne hl)]
    have : eqIntsV a b = false := decide_eq_false fun e => hl (by rw [e])
    rw [this]
    rfl
end Go.Proofs.YtnnpnkegpkladaaGreat.Dm
