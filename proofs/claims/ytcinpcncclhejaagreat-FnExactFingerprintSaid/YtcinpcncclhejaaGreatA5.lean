/- Functions of the program, and what they compute. -/
import Derived.Test.YtcinpcncclhejaaGreatA4
namespace Go.Proofs.YtcinpcncclhejaaGreat.Dm
open Go Go.ChangeShapes Go.WideShapes Go.ChangeAt Go.RowKit

/-! ## Several numbers -/
def varsV (l : List Int) : Option Str := lim (l.flatMap varV) (l.flatMap varV)
abbrev f119_S0 := (List UInt8 × List (Int) × Int × Int × Unit) × (Unit)
def f119_L0 (x : f119_S0) : Out (Round f119_S0 ((List UInt8 × Unit) × (Unit)) Empty) :=
 .ite (decide (x.1.2.2.2.1 < x.1.2.2.1))
 (.ite (decide (0 ≤ x.1.2.2.2.1))
 (.get (nth x.1.2.1 (Int.toNat x.1.2.2.2.1)) fun y1 =>
 .ite (decide (List.length x.1.1 + List.length (varV y1) ≤ LIM))
 (.ret (.again (((x.1.1 ++ (varV y1)), x.1.2.1, x.1.2.2.1, (IntKind.i64.wrap (x.1.2.2.2.1 + (1 : Int))), ()), ())))
 .fail)
 .fail)
 (.ret (.out ((x.1.1, ()), ())))
def f119_tree (a0 : List Int) : Out (((List UInt8 × Unit) × Unit) × (Unit × Unit)) :=
 .get (iter1 f119_L0 FUEL ((([] : List UInt8), a0, ((List.length a0 : Nat) : Int), (0 : Int), ()), ())) fun y1 =>
 .ret (((y1.1.1, ()), ()), ((), ()))
def f119_A : Nat → Option LoopAnn := fun n => annOf [(0, { head := { t := [.dead, .dead, .dead, .s, .dead, .dead, .ro (.int .i64) (some 0), .i .i64, .i .i64] ++ dd 9, v := [] }, out := { t := [.dead, .dead, .dead, .s] ++ dd 14, v := [] }, ret := none })] n
def k119 : Con := { f := 119, lend := true, its := [⟨false, false, [.ro (.int .i64)]⟩], lay := [none], rs := [⟨false, false, [.s]⟩], F := fun x => .get (varsV x.1.1) fun y => .ret (((y, ()), ()), ((), ())) }
theorem f119_eq (x : itemsD k119.its) : bodyOut (cxOf [k121]) (f119_A) (codeOf Tryz.f119) k119.its k119.lay Tryz.f119.ntmps k119.rs [.tmp 2] x = f119_tree x.1.1 := by kernel_rfl
theorem f119_okp (hr : ∀ x : (List Int × Unit) × Unit, itemsWF k119.its x → ∀ y, (k119.F x).eval = some y → (f119_tree x.1.1).eval = some y) : k119.Ok Tryz.prog :=
  con_fn [k121] ⟨k121_ok, trivial⟩ (by kernel_rfl) (codeOf_eq (by kernel_rfl)) (by kernel_rfl) (by kernel_rfl) (by kernel_rfl) f119_eq hr
theorem k119_ok : k119.Ok Tryz.prog := by
  refine f119_okp fun x hw y hy => ?_
  obtain ⟨⟨a, _⟩, _⟩ := x
  have ha : a.length ≤ BIG := hw.1.1.1
  change (Out.get (varsV a) fun y => Out.ret (((y, ()), ()), ((), ()))).eval = some y at hy
  show (f119_tree a).eval = some y
  unfold f119_tree
  unfold varsV at hy
  by_cases hl : (a.flatMap varV).length ≤ LIM
  · rw [lim_some hl] at hy
    refine Eq.trans ?_ hy
    have := flat_loop (f := f119_L0) varV a (fun s i => ((s, (a, (((a.length : Nat) : Int), (((i : Nat) : Int), ())))), ())) (fun s => ((s, ()), ())) LIM
      (fun i hi s hs => by
        have w1 := wrap_succ (i := i) (by omega)
        simp only [f119_L0, Out.eval, lt_t hi, ge0, nth_get hi, Option.bind_some, cond_true, decide_eq_true hs, w1])
      (fun s => by simp [f119_L0, Out.eval]) ha [] (by simpa using hl)
    exact (eval_get_some this).trans rfl
  · rw [lim_not hl] at hy; exact nomatch hy
theorem wrap_pred (i : Nat) (h : i < BIG) : IntKind.i64.wrap (((i + 1 : Nat) : Int) - 1) = ((i : Nat) : Int) := by
  rw [wrap_id (by omega) (by unfold BIG at h; omega)]; omega
theorem not_ge (x y : Int) : decide (x ≥ y) = !decide (x < y) := by
  rw [Bool.eq_iff_iff]; simp
theorem flatMap_len {α β : Type} (h : α → List β) (m : Nat) : ∀ (a : List α), (∀ x ∈ a, (h x).length ≤ m) → (a.flatMap h).length ≤ m * a.length
  | [], _ => by simp
  | x :: r, hx => by
    have h1 := hx x (by simp)
    have h2 := flatMap_len h m r fun y hy => hx y (by simp [hy])
    rw [List.flatMap_cons, List.length_append, List.length_cons, Nat.mul_succ]; omega
end Go.Proofs.YtcinpcncclhejaaGreat.Dm
