/- Functions of the program, and what they compute. -/
import Derived.Test.YtcpjdjgipmjhdaaGreatA4
namespace Go.Proofs.YtcpjdjgipmjhdaaGreat.Dm
open Go Go.ChangeShapes Go.WideShapes Go.ChangeAt Go.RowKit
def varsV (l : List Int) : Option Str := lim (l.flatMap varV) (l.flatMap varV)
abbrev f57_S0 := (List UInt8 × List (Int) × Int × Int × Unit) × (Unit)
def f57_L0 : f57_S0 → Out (Round f57_S0 ((List UInt8 × Unit) × (Unit)) Empty)
| ((p0, p1, p2, p3, _), _) =>
 .ite (decide (p3 < p2))
 (.ite (decide (0 ≤ p3))
 (.get (nth p1 (Int.toNat p3)) fun y1 =>
 .ite (decide (List.length p0 + List.length (varV y1) ≤ LIM))
 (.ret (.again (((p0 ++ (varV y1)), p1, p2, (IntKind.i64.wrap (p3 + (1 : Int))), ()), ())))
 .fail)
 .fail)
 (.ret (.out ((p0, ()), ())))
def f57_tree (a0 : List Int) : Out (((List UInt8 × Unit) × Unit) × (Unit × Unit)) :=
 .get (iter1 f57_L0 FUEL ((([] : List UInt8), a0, ((List.length a0 : Nat) : Int), (0 : Int), ()), ())) fun y1 =>
 .ret (((y1.1.1, ()), ()), ((), ()))
def f57_A : Nat → Option LoopAnn := fun n => annOf [(0, { head := { t := [.dead, .dead, .dead, .s, .dead, .dead, .ro (.int .i64) (some 0), .i .i64, .i .i64] ++ dd 9, v := [] }, out := { t := [.dead, .dead, .dead, .s] ++ dd 14, v := [] }, ret := none })] n
def k57 : Con := { f := 57, lend := true, its := [⟨false, false, [.ro (.int .i64)]⟩], lay := [none], rs := [⟨false, false, [.s]⟩], F := fun x => .get (varsV x.1.1) fun y => .ret (((y, ()), ()), ((), ())) }
theorem f57_eq (x : itemsD k57.its) : bo [k59] f57_A Tryz.f57 k57 [.tmp 2] x = f57_tree x.1.1 := by kernel_rfl
theorem f57_okp (hr : ∀ x : (List Int × Unit) × Unit, itemsWF k57.its x → ∀ y, (k57.F x).eval = some y → (f57_tree x.1.1).eval = some y) : k57.Ok Tryz.prog := con_fn [k59] ⟨k59_ok, trivial⟩ f57_eq hr
theorem k57_ok : k57.Ok Tryz.prog := by
  refine f57_okp fun x hw y hy => ?_
  obtain ⟨⟨a, _⟩, _⟩ := x
  have ha : a.length ≤ BIG := hw.1.1.1
  change (Out.get (varsV a) fun y => Out.ret (((y, ()), ()), ((), ()))).eval = some y at hy
  show (f57_tree a).eval = some y
  unfold f57_tree
  unfold varsV at hy
  by_cases hl : (a.flatMap varV).length ≤ LIM
  · rw [lim_some hl] at hy
    refine Eq.trans ?_ hy
    have := flat_loop (f := f57_L0) varV a (fun s i => ((s, (a, (((a.length : Nat) : Int), (((i : Nat) : Int), ())))), ())) (fun s => ((s, ()), ())) LIM
      (fun i hi s hs => by
        have w1 := wrap_succ (i := i) (by omega)
        simp only [f57_L0, Out.eval, lt_t hi, ge0, nth_get hi, Option.bind_some, cond_true, decide_eq_true hs, w1])
      (fun s => by simp [f57_L0, Out.eval]) ha [] (by simpa using hl)
    exact (eval_get_some this).trans rfl
  · rw [lim_not hl] at hy; exact nomatch hy
theorem wrap_pred (i : Nat) (h : i < BIG) : IntKind.i64.wrap (((i + 1 : Nat) : Int) - 1) = ((i : Nat) : Int) := by
  rw [wrap_id (by omega) (by unfold BIG at h; omega)]; omega
theorem not_ge (x y : Int) : decide (x ≥ y) = !decide (x < y) := by
  rw [Bool.eq_iff_iff]; simp
def sumS (s : Str) : Str := fixB 4 (4294967295 - crcN s)
theorem sumS_len (s : Str) : (sumS s).length = 4 := fixB_len _ _
theorem fixed_crc (s : Str) : fixedV (crcV s) 4 = some (sumS s) := by
  unfold fixedV
  rw [if_pos (crcV_le s), if_pos ⟨by decide, by unfold crcV; omega, by show (4294967295 - crcN s) < 256 ^ 4; omega⟩]
  rfl
theorem flatMap_len {α β : Type} (h : α → List β) (m : Nat) : ∀ (a : List α), (∀ x ∈ a, (h x).length ≤ m) → (a.flatMap h).length ≤ m * a.length
  | [], _ => by simp
  | x :: r, hx => by
    have h1 := hx x (by simp)
    have h2 := flatMap_len h m r fun y hy => hx y (by simp [hy])
    rw [List.flatMap_cons, List.length_append, List.length_cons, Nat.mul_succ]; omega
end Go.Proofs.YtcpjdjgipmjhdaaGreat.Dm
