/- Functions of the program, and what they compute. -/
import Derived.Test.YtcpjdjgipmjhdaaGreatQ14
namespace Go.Proofs.YtcpjdjgipmjhdaaGreat.Dm
open Go Go.ChangeShapes Go.WideShapes Go.ChangeAt Go.RowKit
theorem many_read {α σ β : Type} {f : σ → Out (Round σ β Empty)} (R : Rd α) (S : Int → Nat → Str → Bool → List α → σ) (y : Str → Bool → List α → β) {m : Int} (hm : 0 ≤ m ∧ m ≤ 1000)
    (hs : ∀ (n i : Nat) (s : Str) (b : Bool) (l : List α), n ≤ 1000 → i < n → l.length = i → (f (S ((n : Nat) : Int) i s b l)).eval = some (.again (S ((n : Nat) : Int) (i + 1) (R s b).2.1 (R s b).2.2 (l ++ [(R s b).1]))))
    (hy : ∀ (n : Nat) (s : Str) (b : Bool) (l : List α), (f (S ((n : Nat) : Int) n s b l)).eval = some (.out (y s b l))) (s : Str) (b : Bool) :
    iter1 f FUEL (S (manyV s b m).1 0 (manyV s b m).2.1 (manyV s b m).2.2 []) = some (y (manyR m R s b).2.1 (manyR m R s b).2.2 (manyR m R s b).1) := by
  have h := manyV_le s b m hm.1
  unfold manyR
  obtain ⟨n, hn⟩ := Int.eq_ofNat_of_zero_le h.1
  rw [hn] at h ⊢
  rw [Int.toNat_natCast]
  exact read_loop R (fun i s b l => S ((n : Nat) : Int) i s b l) y n (by omega) (fun i s b l => hs n i s b l (by omega)) (hy n) _ _
def plainRV (s : Str) (b : Bool) (m less : Int) : Option (List Int × Str × Bool) := if 0 ≤ m ∧ m ≤ 1000 then some (plainR m less s b) else none
theorem plainRV_some {m less : Int} (h : 0 ≤ m ∧ m ≤ 1000) (s : Str) (b : Bool) : plainRV s b m less = some (plainR m less s b) := if_pos h
abbrev f54_S0 := (Int × Int × Int × Unit) × ((List UInt8 × Bool × Unit) × List Int × Unit)
def f54_L0 : f54_S0 → Out (Round f54_S0 ((Unit) × (List Int × (List UInt8 × Bool × Unit) × Unit)) Empty)
| ((p0, p1, p2, _), (p3, p4, _), p5, _) =>
 .ite (decide (p2 < p1))
 (.ite (decide (List.length p5 + List.length ([(IntKind.i64.wrap ((numV p3 p4).1 - p0))] : List Int) ≤ LIM))
 (.ret (.again ((p0, p1, (IntKind.i64.wrap (p2 + (1 : Int))), ()), (((numV p3 p4).2.1, (numV p3 p4).2.2, ()), (p5 ++ ([(IntKind.i64.wrap ((numV p3 p4).1 - p0))] : List Int)), ()))))
 .fail)
 (.ret (.out ((), (p5, (p3, p4, ()), ()))))
def f54_tree (a0 : List UInt8) (a1 : Bool) (a2 : Int) (a3 : Int) : Out (((List Int × Unit) × Unit) × ((List UInt8 × Bool × Unit) × Unit × Unit × Unit)) :=
 .get (iter1 f54_L0 FUEL ((a3, (manyV a0 a1 a2).1, (0 : Int), ()), (((manyV a0 a1 a2).2.1, (manyV a0 a1 a2).2.2, ()), ([] : List Int), ()))) fun y1 =>
 .ret (((y1.2.1, ()), ()), ((y1.2.2.1.1, y1.2.2.1.2.1, ()), (), (), ()))
def f54_A : Nat → Option LoopAnn := fun n => annOf [(0, { head := { t := [.vptr 0 0, .dead, .i .i64] ++ dd 4 ++ [.srf 64000000, .dead, .dead, .i .i64, .i .i64] ++ dd 10, v := [(0, .var [.s, .b]), (64000000, .arr (.int .i64))] }, out := { t := [.vptr 0 0] ++ dd 6 ++ [.srf 64000256] ++ dd 14, v := [(64000256, .arr (.int .i64)), (0, .var [.s, .b])] }, ret := none })] n
def k54 : Con := { f := 54, lend := true, its := [⟨true, false, [.s, .b]⟩, ⟨false, false, [.i .i64]⟩, ⟨false, false, [.i .i64]⟩], lay := [none, none, none], rs := [⟨false, false, [.own (.int .i64)]⟩], F := fun x => .get (plainRV x.1.1 x.1.2.1 x.2.1.1 x.2.2.1.1) fun y => .ret (((y.1, ()), ()), ((y.2.1, y.2.2, ()), (), (), ())) }
theorem f54_eq (x : itemsD k54.its) : bo [k51, k50] f54_A Tryz.f54 k54 [.tmp 6] x = f54_tree x.1.1 x.1.2.1 x.2.1.1 x.2.2.1.1 := by kernel_rfl
theorem f54_okp (hr : ∀ x : (List UInt8 × Bool × Unit) × (Int × Unit) × (Int × Unit) × Unit, itemsWF k54.its x → ∀ y, (k54.F x).eval = some y → (f54_tree x.1.1 x.1.2.1 x.2.1.1 x.2.2.1.1).eval = some y) : k54.Ok Tryz.prog := con_fn [k51, k50] ⟨k51_ok, k50_ok, trivial⟩ f54_eq hr
theorem k54_ok : k54.Ok Tryz.prog := by
  refine f54_okp fun x hw y hy => ?_
  obtain ⟨⟨a0, a1, _⟩, ⟨a2, _⟩, ⟨a3, _⟩, _⟩ := x
  change (Out.get (plainRV a0 a1 a2 a3) fun y => Out.ret (((y.1, ()), ()), ((y.2.1, y.2.2, ()), (), (), ()))).eval = some y at hy
  show (f54_tree a0 a1 a2 a3).eval = some y
  unfold plainRV at hy
  split at hy
  case isFalse => exact nomatch hy
  rename_i hm
  refine Eq.trans ?_ hy
  unfold f54_tree
  have h := many_read (f := f54_L0) (mapT (fun x => IntKind.i64.wrap (x - a3)) numV) (fun n i s b l => ((a3, n, ((i : Nat) : Int), ()), ((s, b, ()), l, ()))) (fun s b l => ((), (l, (s, b, ()), ()))) hm
    (fun n i s b l hn hi hl => by
      have h1 := wrap_succ (i := i) (by unfold BIG; omega)
      refine (eval_ite_t (decide_eq_true (show ((i : Nat) : Int) < ((n : Nat) : Int) by omega))).trans ?_
      exact (eval_ite_t (lim_t (by simp; omega))).trans (by rw [← h1]; rfl))
    (fun n s b l => (eval_ite_f (decide_eq_false (show ¬ ((n : Nat) : Int) < ((n : Nat) : Int) by omega))).trans rfl)
  exact (eval_get_some (h a0 a1)).trans rfl
def f55_tree (a0 : List UInt8) (a1 : Bool) : Out (((Int × Unit) × Unit) × ((List UInt8 × Bool × Unit) × Unit)) :=
 .get (wordsRV a0 a1 (1 : Int)) fun y1 =>
 .ite ((((List.length y1.1 : Nat) : Int) != (1 : Int)))
 (.ret ((((0 : Int), ()), ()), ((y1.2.1, true, ()), ())))
 (.ite (decide (0 ≤ (0 : Int) ∧ (0 : Int) < ((List.length y1.1 : Nat) : Int)))
 (.get (nth y1.1 (Int.toNat (0 : Int))) fun y2 =>
 .ret (((y2, ()), ()), ((y1.2.1, y1.2.2, ()), ())))
 .fail)
def k55 : Con := { f := 55, lend := true, its := [⟨true, false, [.s, .b]⟩], lay := [none], rs := [⟨false, false, [.i .i64]⟩], F := fun x => .ret ((((codeR x.1.1 x.1.2.1).1, ()), ()), (((codeR x.1.1 x.1.2.1).2.1, (codeR x.1.1 x.1.2.1).2.2, ()), ())) }
theorem f55_eq (x : itemsD k55.its) : bo [k53] (fun _ => none) Tryz.f55 k55 [.tmp 2] x = f55_tree x.1.1 x.1.2.1 := by kernel_rfl
theorem f55_ok (hr : ∀ x : (List UInt8 × Bool × Unit) × Unit, itemsWF k55.its x → (f55_tree x.1.1 x.1.2.1).eval = (k55.F x).eval) : k55.Ok Tryz.prog := con_fn [k53] ⟨k53_ok, trivial⟩ f55_eq fun x hw _ hy => (hr x hw).trans hy
theorem k55_ok : k55.Ok Tryz.prog := by
  refine f55_ok fun x hw => ?_
  obtain ⟨⟨a0, a1, _⟩, _⟩ := x
  show (f55_tree a0 a1).eval = some ((((codeR a0 a1).1, ()), ()), (((codeR a0 a1).2.1, (codeR a0 a1).2.2, ()), ()))
  unfold f55_tree
  refine (eval_get_some (wordsRV_some (by decide) _ _)).trans ?_
  unfold codeR mapR
  rcases hw2 : wordsR 1 a0 a1 with ⟨l, s, b⟩
  rcases l with _ | ⟨x, _ | ⟨z, r⟩⟩
  · exact (eval_ite_t rfl).trans rfl
  · exact (eval_ite_f rfl).trans ((eval_ite_t rfl).trans ((eval_get_some (x := x) rfl).trans rfl))
  · refine (eval_ite_t (by simp; omega)).trans rfl
end Go.Proofs.YtcpjdjgipmjhdaaGreat.Dm
