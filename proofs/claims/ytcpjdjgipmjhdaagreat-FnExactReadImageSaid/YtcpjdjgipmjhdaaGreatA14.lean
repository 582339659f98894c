/- Functions of the program, and what they compute. -/
import Derived.Test.YtcpjdjgipmjhdaaGreatA13
namespace Go.Proofs.YtcpjdjgipmjhdaaGreat.Dm
open Go Go.ChangeShapes Go.WideShapes Go.ChangeAt Go.RowKit
def f17_tree (a0 : List UInt8) (a1 : Int) (a2 : Int) : Out (((List Int × Unit) × (Int × Unit) × Unit) × (Unit × Unit × Unit × Unit)) :=
 .get (l3VarsV a0 a1 (1 : Int)) fun y1 =>
 .ite ((decide (y1.2 < (0 : Int))) == false)
 (.ite (decide (0 ≤ (0 : Int) ∧ (0 : Int) < ((List.length y1.1 : Nat) : Int)))
 (.get (nth y1.1 (Int.toNat (0 : Int))) fun y2 =>
 .ite (decide (y2 > a2))
 (.ret (((([] : List (Int)), ()), ((-1 : Int), ()), ()), ((), (), (), ())))
 (.ite (decide (0 ≤ (0 : Int) ∧ (0 : Int) < ((List.length y1.1 : Nat) : Int)))
 (.get (nth y1.1 (Int.toNat (0 : Int))) fun y3 =>
 .get (l3VarsV a0 y1.2 y3) fun y4 =>
 .ret (((y4.1, ()), (y4.2, ()), ()), ((), (), (), ())))
 .fail))
 .fail)
 (.ret (((([] : List (Int)), ()), ((-1 : Int), ()), ()), ((), (), (), ())))
def l20ListV (s : Str) (p m : Int) : Option (List Int × Int) := if m ≤ 1000 then (if (varsAtV s 1 p []).2 < 0 then some ([], -1) else match (varsAtV s 1 p []).1 with
    | [] => none
    | n :: _ => if n > m then some ([], -1) else some (varsAtV s n.toNat (varsAtV s 1 p []).2 []))
  else none
def k17 : Con := { f := 17, lend := true, its := [⟨false, false, [.s]⟩, ⟨false, false, [.i .i64]⟩, ⟨false, false, [.i .i64]⟩], lay := [none, none, none], rs := [⟨false, false, [.own (.int .i64)]⟩, ⟨false, false, [.i .i64]⟩], F := fun x => .get (l20ListV x.1.1 x.2.1.1 x.2.2.1.1) fun y => .ret (((y.1, ()), (y.2, ()), ()), ((), (), (), ())) }
theorem f17_eq (x : itemsD k17.its) : bo [k12] (fun _ => none) Tryz.f17 k17 [.tmp 6, .tmp 7] x = f17_tree x.1.1 x.2.1.1 x.2.2.1.1 := by kernel_rfl
theorem f17_okp (hr : ∀ x : (List UInt8 × Unit) × (Int × Unit) × (Int × Unit) × Unit, itemsWF k17.its x → ∀ y, (k17.F x).eval = some y → (f17_tree x.1.1 x.2.1.1 x.2.2.1.1).eval = some y) : k17.Ok Tryz.prog := con_fn [k12] ⟨k12_ok, trivial⟩ f17_eq hr
theorem k17_ok : k17.Ok Tryz.prog := by
  refine f17_okp fun x _ y hy => ?_
  obtain ⟨⟨s, _⟩, ⟨p, _⟩, ⟨m, _⟩, _⟩ := x
  change (Out.get (l20ListV s p m) fun y => Out.ret (((y.1, ()), ((y.2, ()), ())), ((), ((), ((), ()))))).eval = some y at hy
  show (f17_tree s p m).eval = some y
  unfold l20ListV at hy
  split at hy
  case isFalse => exact nomatch hy
  rename_i hm
  have v1 : l3VarsV s p 1 = some (varsAtV s 1 p []) := l3VarsV_some s p (n := 1) (by decide)
  unfold f17_tree
  refine (eval_get_some v1).trans ?_
  split at hy
  · rename_i h
    refine Eq.trans ?_ hy
    exact (eval_ite_f (by rw [decide_eq_true h]; rfl)).trans rfl
  · rename_i h
    split at hy
    · exact nomatch hy
    · rename_i n r hn
      rw [hn]
      refine (eval_ite_t (by rw [decide_eq_false h]; rfl)).trans ((eval_ite_t (decide_eq_true (by simp only [List.length_cons]; omega))).trans ((eval_get_some (x := n) rfl).trans ?_))
      split at hy
      · rename_i h2
        refine Eq.trans ?_ hy
        exact (eval_ite_t (decide_eq_true h2)).trans rfl
      · rename_i h2
        refine Eq.trans ?_ hy
        have v2 : l3VarsV s (varsAtV s 1 p []).2 n = some (varsAtV s n.toNat (varsAtV s 1 p []).2 []) := if_pos (by omega)
        exact (eval_ite_f (decide_eq_false h2)).trans ((eval_ite_t (decide_eq_true (by simp only [List.length_cons]; omega))).trans ((eval_get_some (x := n) rfl).trans ((eval_get_some v2).trans rfl)))
abbrev f18_S0 := (List (Int) × Int × Unit) × (List (Int) × Unit)
def f18_L0 : f18_S0 → Out (Round f18_S0 ((Unit) × (List (Int) × Unit)) Empty)
| ((p0, p1, _), p2, _) =>
 .ite (decide (p1 < ((List.length p0 : Nat) : Int)))
 (.ite (decide (0 ≤ p1))
 (.get (nth p0 (Int.toNat p1)) fun y1 =>
 .ite (decide (List.length p2 + List.length ([(zagV y1)] : List (Int)) ≤ LIM))
 (.ret (.again ((p0, (IntKind.i64.wrap (p1 + (1 : Int))), ()), ((p2 ++ ([(zagV y1)] : List (Int))), ()))))
 .fail)
 .fail)
 (.ret (.out ((), (p2, ()))))
def f18_tree (a0 : List Int) : Out (((List Int × Unit) × Unit) × (Unit × Unit)) :=
 .get (iter1 f18_L0 FUEL ((a0, (0 : Int), ()), (([] : List (Int)), ()))) fun y1 =>
 .ret (((y1.2.1, ()), ()), ((), ()))
def f18_A : Nat → Option LoopAnn := fun n => annOf [(0, { head := { t := [.ro (.int .i64) (some 0), .dead, .dead, .srf 64000000, .i .i64] ++ dd 16, v := [(64000000, .arr (.int .i64))] }, out := { t := [.dead, .dead, .dead, .srf 64000256] ++ dd 17, v := [(64000256, .arr (.int .i64))] }, ret := none })] n
def zagsV (l : List Int) : Option (List Int) := lim l (l.map zagV)
def k18 : Con := { f := 18, lend := true, its := [⟨false, false, [.ro (.int .i64)]⟩], lay := [none], rs := [⟨false, false, [.own (.int .i64)]⟩], F := fun x => .get (zagsV x.1.1) fun y => .ret (((y, ()), ()), ((), ())) }
theorem f18_eq (x : itemsD k18.its) : bo [k45] f18_A Tryz.f18 k18 [.tmp 2] x = f18_tree x.1.1 := by kernel_rfl
theorem f18_okp (hr : ∀ x : (List Int × Unit) × Unit, itemsWF k18.its x → ∀ y, (k18.F x).eval = some y → (f18_tree x.1.1).eval = some y) : k18.Ok Tryz.prog := con_fn [k45] ⟨k45_ok, trivial⟩ f18_eq hr
theorem flat_one {α β : Type} (f : α → β) : ∀ (l : List α), l.flatMap (fun x => [f x]) = l.map f
  | [] => rfl
  | x :: r => by rw [List.flatMap_cons, flat_one f r]; rfl
theorem k18_ok : k18.Ok Tryz.prog := by
  refine f18_okp fun x hw y hy => ?_
  obtain ⟨⟨a, _⟩, _⟩ := x
  have ha : a.length ≤ BIG := hw.1.1.1
  change (Out.get (zagsV a) fun y => Out.ret (((y, ()), ()), ((), ()))).eval = some y at hy
  show (f18_tree a).eval = some y
  unfold f18_tree
  unfold zagsV at hy
  by_cases hl : a.length ≤ LIM
  · rw [lim_some hl] at hy
    refine Eq.trans ?_ hy
    have := flat_loop (f := f18_L0) (fun n => [zagV n]) a (fun s i => ((a, (((i : Nat) : Int), ())), (s, ()))) (fun s => ((), (s, ()))) LIM
      (fun i hi s hs => by
        have w1 := wrap_succ (i := i) (by omega)
        simp only [f18_L0, Out.eval, lt_t hi, ge0, nth_get hi, Option.bind_some, cond_true, decide_eq_true hs, w1])
      (fun s => by simp [f18_L0, Out.eval]) ha [] (by rw [flat_one]; simpa using hl)
    refine (eval_get_some this).trans ?_
    rw [flat_one, List.nil_append]; rfl
  · rw [lim_not hl] at hy; exact nomatch hy
abbrev f53_S0 := (Int × Int × Unit) × ((List UInt8 × Bool × Unit) × List (Int) × Unit)
def f53_L0 : f53_S0 → Out (Round f53_S0 ((Unit) × (List (Int) × (List UInt8 × Bool × Unit) × Unit)) Empty)
| ((p0, p1, _), (p2, p3, _), p4, _) =>
 .ite (decide (p1 < p0))
 (.ite (decide (List.length p4 + List.length ([(zagV (numV p2 p3).1)] : List (Int)) ≤ LIM))
 (.ret (.again ((p0, (IntKind.i64.wrap (p1 + (1 : Int))), ()), (((numV p2 p3).2.1, (numV p2 p3).2.2, ()), (p4 ++ ([(zagV (numV p2 p3).1)] : List (Int))), ()))))
 .fail)
 (.ret (.out ((), (p4, (p2, p3, ()), ()))))
def f53_tree (a0 : List UInt8) (a1 : Bool) (a2 : Int) : Out (((List Int × Unit) × Unit) × ((List UInt8 × Bool × Unit) × Unit × Unit)) :=
 .get (iter1 f53_L0 FUEL (((manyV a0 a1 a2).1, (0 : Int), ()), (((manyV a0 a1 a2).2.1, (manyV a0 a1 a2).2.2, ()), ([] : List (Int)), ()))) fun y1 =>
 .ret (((y1.2.1, ()), ()), ((y1.2.2.1.1, y1.2.2.1.2.1, ()), (), ()))
def f53_A : Nat → Option LoopAnn := fun n => annOf [(0, { head := { t := [.vptr 0 0] ++ dd 4 ++ [.srf 64000000, .dead, .dead, .i .i64, .i .i64] ++ dd 9, v := [(0, .var [.s, .b]), (64000000, .arr (.int .i64))] }, out := { t := [.vptr 0 0] ++ dd 4 ++ [.srf 64000256] ++ dd 13, v := [(64000256, .arr (.int .i64)), (0, .var [.s, .b])] }, ret := none })] n
def wordsL : Nat → Str → Bool → List Int → List Int × Str × Bool
  | 0, s, b, p => (p, s, b)
  | n + 1, s, b, p => wordsL n (numV s b).2.1 (numV s b).2.2 (p ++ [zagV (numV s b).1])
def wordsRV (s : Str) (bad : Bool) (m : Int) : Option (List Int × Str × Bool) := if 0 ≤ m ∧ m ≤ 1000 then some (wordsL (manyV s bad m).1.toNat (manyV s bad m).2.1 (manyV s bad m).2.2 []) else none
def k53 : Con := { f := 53, lend := true, its := [⟨true, false, [.s, .b]⟩, ⟨false, false, [.i .i64]⟩], lay := [none, none], rs := [⟨false, false, [.own (.int .i64)]⟩], F := fun x => .get (wordsRV x.1.1 x.1.2.1 x.2.1.1) fun y => .ret (((y.1, ()), ()), ((y.2.1, y.2.2, ()), (), ())) }
theorem f53_eq (x : itemsD k53.its) : bo [k51, k50, k86] f53_A Tryz.f53 k53 [.tmp 4] x = f53_tree x.1.1 x.1.2.1 x.2.1.1 := by kernel_rfl
theorem f53_okp (hr : ∀ x : (List UInt8 × Bool × Unit) × (Int × Unit) × Unit, itemsWF k53.its x → ∀ y, (k53.F x).eval = some y → (f53_tree x.1.1 x.1.2.1 x.2.1.1).eval = some y) : k53.Ok Tryz.prog := con_fn [k51, k50, k86] ⟨k51_ok, k50_ok, k86_ok, trivial⟩ f53_eq hr
theorem k53_ok : k53.Ok Tryz.prog := by
  refine f53_okp fun x _ y hy => ?_
  obtain ⟨⟨s, b, _⟩, ⟨m, _⟩, _⟩ := x
  change (Out.get (wordsRV s b m) fun y => Out.ret (((y.1, ()), ()), ((y.2.1, (y.2.2, ())), ((), ())))).eval = some y at hy
  show (f53_tree s b m).eval = some y
  unfold wordsRV at hy
  split at hy
  case isFalse => exact nomatch hy
  rename_i hm
  refine Eq.trans ?_ hy
  unfold f53_tree
  have hb := manyV_le s b m hm.1
  obtain ⟨n, hn⟩ := Int.eq_ofNat_of_zero_le hb.1
  rw [hn] at hb ⊢
  rw [Int.toNat_natCast]
  have key : ∀ (m j N : Nat) (s : Str) (b : Bool) (p : List Int), j + m = n → m < N → p.length = j → iter1 f53_L0 N ((((n : Nat) : Int), (((j : Nat) : Int), ())), ((s, (b, ())), (p, ()))) =
      some ((), ((wordsL m s b p).1, (((wordsL m s b p).2.1, ((wordsL m s b p).2.2, ())), ()))) := by
    intro m
    induction m with
    | zero =>
      intro j N s b p hj hN hp
      have w3 : decide (((j : Nat) : Int) < ((n : Nat) : Int)) = false := decide_eq_false (by omega)
      refine iter1_out' ?_ hN
      exact (eval_ite_f w3).trans rfl
    | succ m ih =>
      intro j N s b p hj hN hp
      have w3 : decide (((j : Nat) : Int) < ((n : Nat) : Int)) = true := decide_eq_true (by omega)
      have g6 := wrap_succ (i := j) (by unfold BIG; omega)
      have g8 : ∀ z : Int, decide (p.length + ([z] : List Int).length ≤ LIM) = true := fun z => decide_eq_true (by rw [LIM_eq]; simp; omega)
      obtain ⟨N, rfl⟩ : ∃ N', N = N' + 1 := ⟨N - 1, by omega⟩
      rw [iter1_again (x' := ((((n : Nat) : Int), (((j + 1 : Nat) : Int), ())), (((numV s b).2.1, ((numV s b).2.2, ())), (p ++ [zagV (numV s b).1], ()))))]
      · exact ih (j + 1) N _ _ _ (by omega) (by omega) (by simp; omega)
      · rw [← g6]
        exact (eval_ite_t w3).trans ((eval_ite_t (g8 _)).trans rfl)
  have hk := key n 0 FUEL (manyV s b m).2.1 (manyV s b m).2.2 [] (by omega) (Nat.lt_of_le_of_lt (show n ≤ 1000 by omega) (by decide)) rfl
  exact (eval_get_some hk).trans rfl
end Go.Proofs.YtcpjdjgipmjhdaaGreat.Dm
