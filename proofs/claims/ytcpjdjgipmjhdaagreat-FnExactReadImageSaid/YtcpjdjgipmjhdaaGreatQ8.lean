/- Functions of the program, and what they compute. -/
import Derived.Test.YtcpjdjgipmjhdaaGreatQ7
import Derived.Test.YtcpjdjgipmjhdaaGreatJn
import Derived.Test.YtcpjdjgipmjhdaaGreatShelf
namespace Go.Proofs.YtcpjdjgipmjhdaaGreat.Dm
open Go Go.ChangeShapes Go.WideShapes Go.ChangeAt Go.RowKit
theorem cond_lim {α : Type} {n : Nat} {a b : α} (h : n ≤ 1000000) : (bif decide (n ≤ LIM) then a else b) = a := by rw [decide_eq_true (by rw [LIM_eq]; omega)]; rfl
theorem lim_t {n : Nat} (h : n ≤ 1000000) : decide (n ≤ LIM) = true := decide_eq_true (by rw [LIM_eq]; omega)
theorem prog_len {l : List InsD} (h : progOkV l = true) : l.length ≤ 40 := of_decide_eq_true (Bool.and_eq_true_iff.1 h).1
theorem insT_t {x : InsD} (h : (x.1 == (1 : Int)) = true) : insT x = varV x.1 ++ (varV x.2.1 ++ (varV (zigV x.2.2.1) ++ varV x.2.2.2.1)) := by
  unfold insT
  rw [if_pos (by simpa using h)]
theorem insT_f {x : InsD} (h : (x.1 == (1 : Int)) = false) : insT x = varV x.1 ++ (varV x.2.1 ++ (varV x.2.2.1 ++ varV x.2.2.2.1)) := by
  unfold insT
  rw [if_neg (by simpa using h)]
theorem insT_w {x : InsD} (h : (x.1 == (1 : Int)) = true) : insT x = varV x.1 ++ (varV x.2.1 ++ (wordVarV x.2.2.1 ++ varV x.2.2.2.1)) := insT_t h
def showProgP (l : List InsD) : Option Str := if progOkV l = true then some (progT l) else none
abbrev f81_S0 := (List InsD × List UInt8 × Int × Unit) × (Unit)
def f81_L0 : f81_S0 → Out (Round f81_S0 ((List UInt8 × Unit) × (Unit)) Empty)
| ((p0, p1, p2, _), _) =>
 .ite (decide (p2 < ((List.length p0 : Nat) : Int)))
 (.ite (decide (0 ≤ p2))
 (.get (nth p0 (Int.toNat p2)) fun y1 =>
 .ite (decide (0 ≤ p2))
 (.get (nth p0 (Int.toNat p2)) fun y2 =>
 .ite ((y2.1 == (1 : Int)))
 (.ite (decide (0 ≤ p2))
 (.get (nth p0 (Int.toNat p2)) fun y3 =>
 .ite (decide (List.length p1 + List.length (varV y3.1) ≤ LIM))
 (.ite (decide (0 ≤ p2))
 (.get (nth p0 (Int.toNat p2)) fun y4 =>
 .ite (decide (List.length (p1 ++ (varV y3.1)) + List.length (varV y4.2.1) ≤ LIM))
 (.ite (decide (List.length ((p1 ++ (varV y3.1)) ++ (varV y4.2.1)) + List.length (varV (zigV y1.2.2.1)) ≤ LIM))
 (.ite (decide (0 ≤ p2))
 (.get (nth p0 (Int.toNat p2)) fun y5 =>
 .ite (decide (List.length (((p1 ++ (varV y3.1)) ++ (varV y4.2.1)) ++ (varV (zigV y1.2.2.1))) + List.length (varV y5.2.2.2.1) ≤ LIM))
 (.ret (.again ((p0, ((((p1 ++ (varV y3.1)) ++ (varV y4.2.1)) ++ (varV (zigV y1.2.2.1))) ++ (varV y5.2.2.2.1)), (IntKind.i64.wrap (p2 + (1 : Int))), ()), ())))
 .fail)
 .fail)
 .fail)
 .fail)
 .fail)
 .fail)
 .fail)
 (.ite (decide (0 ≤ p2))
 (.get (nth p0 (Int.toNat p2)) fun y6 =>
 .ite (decide (List.length p1 + List.length (varV y6.1) ≤ LIM))
 (.ite (decide (0 ≤ p2))
 (.get (nth p0 (Int.toNat p2)) fun y7 =>
 .ite (decide (List.length (p1 ++ (varV y6.1)) + List.length (varV y7.2.1) ≤ LIM))
 (.ite (decide (List.length ((p1 ++ (varV y6.1)) ++ (varV y7.2.1)) + List.length (varV y1.2.2.1) ≤ LIM))
 (.ite (decide (0 ≤ p2))
 (.get (nth p0 (Int.toNat p2)) fun y8 =>
 .ite (decide (List.length (((p1 ++ (varV y6.1)) ++ (varV y7.2.1)) ++ (varV y1.2.2.1)) + List.length (varV y8.2.2.2.1) ≤ LIM))
 (.ret (.again ((p0, ((((p1 ++ (varV y6.1)) ++ (varV y7.2.1)) ++ (varV y1.2.2.1)) ++ (varV y8.2.2.2.1)), (IntKind.i64.wrap (p2 + (1 : Int))), ()), ())))
 .fail)
 .fail)
 .fail)
 .fail)
 .fail)
 .fail)
 .fail))
 .fail)
 .fail)
 (.ret (.out ((p1, ()), ())))
def f81_tree (a0 : List InsD) : Out (((List UInt8 × Unit) × Unit) × (Unit × Unit)) :=
 .get (iter1 f81_L0 FUEL ((a0, (varV ((List.length a0 : Nat) : Int)), (0 : Int), ()), ())) fun y1 =>
 .ret (((y1.1.1, ()), ()), ((), ()))
def f81_A : Nat → Option LoopAnn := fun n => annOf [(0, { head := { t := [.ro tyN (some 0), .dead, .dead, .s, .i .i64] ++ dd 49, v := [] }, out := { t := [.dead, .dead, .dead, .s] ++ dd 50, v := [] }, ret := none })] n
def k81 : Con := { f := 81, lend := true, its := [⟨false, false, [.ro tyN]⟩], lay := [none], rs := [⟨false, false, [.s]⟩], F := fun x => .get (showProgP x.1.1) fun y => .ret (((y, ()), ()), ((), ())) }
theorem f81_eq (x : itemsD k81.its) : bo [k73, k112] f81_A Tryz.f81 k81 [.tmp 2] x = f81_tree x.1.1 := by kernel_rfl
theorem f81_okp (hr : ∀ x : (List InsD × Unit) × Unit, itemsWF k81.its x → ∀ y, (k81.F x).eval = some y → (f81_tree x.1.1).eval = some y) : k81.Ok Tryz.prog := con_fn [k73, k112] ⟨k73_ok, k112_ok, trivial⟩ f81_eq hr
theorem k81_ok : k81.Ok Tryz.prog := by
  refine f81_okp fun x hw y hy => ?_
  obtain ⟨⟨a0, _⟩, _⟩ := x
  have l0 : List.length a0 ≤ BIG := hw.1.1.1
  change (Out.get (showProgP a0) fun y => Out.ret (((y, ()), ()), ((), ()))).eval = some y at hy
  show (f81_tree a0).eval = some y
  unfold showProgP at hy
  by_cases hp : progOkV a0 = true
  case neg => rw [if_neg hp] at hy; exact nomatch hy
  rw [if_pos hp] at hy
  refine Eq.trans ?_ hy
  unfold f81_tree
  have hlen := prog_len hp
  have hb := flatMap_len insT 28 a0 fun x _ => insT_len x
  have v0 := varV_len ((List.length a0 : Nat) : Int)
  have h : iter1 f81_L0 FUEL ((a0, (varV ((List.length a0 : Nat) : Int)), (0 : Int), ()), ()) = some ((((varV ((List.length a0 : Nat) : Int)) ++ List.flatMap insT a0), ()), ()) := flat_loop (f := f81_L0) insT a0 (fun d i => ((a0, d, ((i : Nat) : Int), ()), ())) (fun d => ((d, ()), ())) 1000000
      (fun i hi d hd => by
        have h1 := wrap_succ (i := i) (by omega)
        cases q : (a0[i].1 == (1 : Int))
        case' false => rw [insT_f q] at hd ⊢
        case' true => rw [insT_t q] at hd ⊢
        all_goals (try simp only [List.length_append, List.length_cons, List.length_nil] at hd)
        all_goals (simp only [f81_L0, Out.eval, lt_t hi, ge0, nth_get hi, Option.bind_some, cond_true, cond_false, h1, q])
        all_goals (repeat rw [cond_lim (by (try simp only [List.length_append, List.length_cons, List.length_nil]); omega)])
        all_goals (try simp only [List.append_assoc])
        all_goals (try rfl))
      (fun d => by simp [f81_L0, Out.eval]) l0 (varV ((List.length a0 : Nat) : Int)) (by omega)
  exact (eval_get_some h).trans rfl
abbrev f58_S0 := (List UInt8 × List InsD × Int × Int × Unit) × (Unit)
def f58_L0 : f58_S0 → Out (Round f58_S0 ((List UInt8 × Unit) × (Unit)) Empty)
| ((p0, p1, p2, p3, _), _) =>
 .ite (decide (p3 < p2))
 (.ite (decide (0 ≤ p3))
 (.get (nth p1 (Int.toNat p3)) fun y1 =>
 .ite (decide (List.length (varV y1.1) + List.length (varV y1.2.1) ≤ LIM))
 (.ite (decide (List.length p0 + List.length ((varV y1.1) ++ (varV y1.2.1)) ≤ LIM))
 (.ite ((y1.1 == (1 : Int)))
 (.ite (decide (List.length (p0 ++ ((varV y1.1) ++ (varV y1.2.1))) + List.length (wordVarV y1.2.2.1) ≤ LIM))
 (.ite (decide (List.length ((p0 ++ ((varV y1.1) ++ (varV y1.2.1))) ++ (wordVarV y1.2.2.1)) + List.length (varV y1.2.2.2.1) ≤ LIM))
 (.ret (.again (((((p0 ++ ((varV y1.1) ++ (varV y1.2.1))) ++ (wordVarV y1.2.2.1)) ++ (varV y1.2.2.2.1)), p1, p2, (IntKind.i64.wrap (p3 + (1 : Int))), ()), ())))
 .fail)
 .fail)
 (.ite (decide (List.length (p0 ++ ((varV y1.1) ++ (varV y1.2.1))) + List.length (varV y1.2.2.1) ≤ LIM))
 (.ite (decide (List.length ((p0 ++ ((varV y1.1) ++ (varV y1.2.1))) ++ (varV y1.2.2.1)) + List.length (varV y1.2.2.2.1) ≤ LIM))
 (.ret (.again (((((p0 ++ ((varV y1.1) ++ (varV y1.2.1))) ++ (varV y1.2.2.1)) ++ (varV y1.2.2.2.1)), p1, p2, (IntKind.i64.wrap (p3 + (1 : Int))), ()), ())))
 .fail)
 .fail))
 .fail)
 .fail)
 .fail)
 (.ret (.out ((p0, ()), ())))
def f58_tree (a0 : List InsD) : Out (((List UInt8 × Unit) × Unit) × (Unit × Unit)) :=
 .ite (!(progOkV a0))
 (.ret (((([] : List UInt8), ()), ()), ((), ())))
 (.get (iter1 f58_L0 FUEL (((varV ((List.length a0 : Nat) : Int)), a0, ((List.length a0 : Nat) : Int), (0 : Int), ()), ())) fun y1 =>
 .ret (((y1.1.1, ()), ()), ((), ())))
def f58_A : Nat → Option LoopAnn := fun n => annOf [(0, { head := { t := [.dead, .dead, .dead, .s] ++ dd 8 ++ [.ro tyN (some 0), .i .i64, .i .i64] ++ dd 32, v := [] }, out := { t := [.dead, .dead, .dead, .s] ++ dd 43, v := [] }, ret := none })] n
def k58 : Con := { f := 58, lend := true, its := [⟨false, false, [.ro tyN]⟩], lay := [none], rs := [⟨false, false, [.s]⟩], F := fun x => .get (showProgP x.1.1) fun y => .ret (((y, ()), ()), ((), ())) }
theorem f58_eq (x : itemsD k58.its) : bo [k87, k59, k98] f58_A Tryz.f58 k58 [.tmp 2] x = f58_tree x.1.1 := by kernel_rfl
theorem f58_okp (hr : ∀ x : (List InsD × Unit) × Unit, itemsWF k58.its x → ∀ y, (k58.F x).eval = some y → (f58_tree x.1.1).eval = some y) : k58.Ok Tryz.prog := con_fn [k87, k59, k98] ⟨k87_ok, k59_ok, k98_ok, trivial⟩ f58_eq hr
theorem k58_ok : k58.Ok Tryz.prog := by
  refine f58_okp fun x hw y hy => ?_
  obtain ⟨⟨a0, _⟩, _⟩ := x
  have l0 : List.length a0 ≤ BIG := hw.1.1.1
  change (Out.get (showProgP a0) fun y => Out.ret (((y, ()), ()), ((), ()))).eval = some y at hy
  show (f58_tree a0).eval = some y
  unfold showProgP at hy
  by_cases hp : progOkV a0 = true
  case neg => rw [if_neg hp] at hy; exact nomatch hy
  rw [if_pos hp] at hy
  refine Eq.trans ?_ hy
  unfold f58_tree
  rw [eval_ite_f (by simp [hp])]
  have hlen := prog_len hp
  have hb := flatMap_len insT 28 a0 fun x _ => insT_len x
  have v0 := varV_len ((List.length a0 : Nat) : Int)
  have h : iter1 f58_L0 FUEL (((varV ((List.length a0 : Nat) : Int)), a0, ((List.length a0 : Nat) : Int), (0 : Int), ()), ()) = some ((((varV ((List.length a0 : Nat) : Int)) ++ List.flatMap insT a0), ()), ()) := flat_loop (f := f58_L0) insT a0 (fun d i => ((d, a0, ((List.length a0 : Nat) : Int), ((i : Nat) : Int), ()), ())) (fun d => ((d, ()), ())) 1000000
      (fun i hi d hd => by
        have h1 := wrap_succ (i := i) (by omega)
        cases q : (a0[i].1 == (1 : Int))
        case' false => rw [insT_f q] at hd ⊢
        case' true => rw [insT_w q] at hd ⊢
        all_goals (try simp only [List.length_append, List.length_cons, List.length_nil] at hd)
        all_goals (simp only [f58_L0, Out.eval, lt_t hi, ge0, nth_get hi, Option.bind_some, cond_true, cond_false, h1, q])
        all_goals (repeat rw [cond_lim (by (try simp only [List.length_append, List.length_cons, List.length_nil]); omega)])
        all_goals (try simp only [List.append_assoc])
        all_goals (try rfl))
      (fun d => by simp [f58_L0, Out.eval]) l0 (varV ((List.length a0 : Nat) : Int)) (by omega)
  exact (eval_get_some h).trans rfl
def plainP (l : List Int) (more : Int) : Option Str := if l.length ≤ 100 then some (plainT more l) else none
def plusP (l : List Int) : Option Str := plainP l 1
abbrev f113_S0 := (List Int × List UInt8 × Int × Unit) × (Unit)
def f113_L0 : f113_S0 → Out (Round f113_S0 ((List UInt8 × Unit) × (Unit)) Empty)
| ((p0, p1, p2, _), _) =>
 .ite (decide (p2 < ((List.length p0 : Nat) : Int)))
 (.ite (decide (0 ≤ p2))
 (.get (nth p0 (Int.toNat p2)) fun y1 =>
 .ite (decide (List.length p1 + List.length (varV (IntKind.i64.wrap (y1 + (1 : Int)))) ≤ LIM))
 (.ret (.again ((p0, (p1 ++ (varV (IntKind.i64.wrap (y1 + (1 : Int))))), (IntKind.i64.wrap (p2 + (1 : Int))), ()), ())))
 .fail)
 .fail)
 (.ret (.out ((p1, ()), ())))
def f113_tree (a0 : List Int) : Out (((List UInt8 × Unit) × Unit) × (Unit × Unit)) :=
 .get (iter1 f113_L0 FUEL ((a0, (varV ((List.length a0 : Nat) : Int)), (0 : Int), ()), ())) fun y1 =>
 .ret (((y1.1.1, ()), ()), ((), ()))
def f113_A : Nat → Option LoopAnn := fun n => annOf [(0, { head := { t := [.ro (.int .i64) (some 0), .dead, .dead, .s, .i .i64] ++ dd 18, v := [] }, out := { t := [.dead, .dead, .dead, .s] ++ dd 19, v := [] }, ret := none })] n
def k113 : Con := { f := 113, lend := true, its := [⟨false, false, [.ro (.int .i64)]⟩], lay := [none], rs := [⟨false, false, [.s]⟩], F := fun x => .get (plusP x.1.1) fun y => .ret (((y, ()), ()), ((), ())) }
theorem f113_eq (x : itemsD k113.its) : bo [k73] f113_A Tryz.f113 k113 [.tmp 2] x = f113_tree x.1.1 := by kernel_rfl
theorem f113_okp (hr : ∀ x : (List Int × Unit) × Unit, itemsWF k113.its x → ∀ y, (k113.F x).eval = some y → (f113_tree x.1.1).eval = some y) : k113.Ok Tryz.prog := con_fn [k73] ⟨k73_ok, trivial⟩ f113_eq hr
theorem k113_ok : k113.Ok Tryz.prog := by
  refine f113_okp fun x hw y hy => ?_
  obtain ⟨⟨a0, _⟩, _⟩ := x
  have l0 : List.length a0 ≤ BIG := hw.1.1.1
  change (Out.get (plusP a0) fun y => Out.ret (((y, ()), ()), ((), ()))).eval = some y at hy
  show (f113_tree a0).eval = some y
  unfold plusP plainP at hy
  by_cases hp : List.length a0 ≤ 100
  case neg => rw [if_neg hp] at hy; exact nomatch hy
  rw [if_pos hp] at hy
  refine Eq.trans ?_ hy
  unfold f113_tree
  have hb := flatMap_len (fun n => varV (IntKind.i64.wrap (n + 1))) 7 a0 fun x _ => varV_len _
  have v0 := varV_len ((List.length a0 : Nat) : Int)
  have h : iter1 f113_L0 FUEL ((a0, (varV ((List.length a0 : Nat) : Int)), (0 : Int), ()), ()) = some ((((varV ((List.length a0 : Nat) : Int)) ++ List.flatMap (fun n => varV (IntKind.i64.wrap (n + 1))) a0), ()), ()) := flat_loop (f := f113_L0) (fun n => varV (IntKind.i64.wrap (n + 1))) a0 (fun d i => ((a0, d, ((i : Nat) : Int), ()), ())) (fun d => ((d, ()), ())) 1000000
      (fun i hi d hd => by
        have h1 := wrap_succ (i := i) (by omega)
        skip
        all_goals (try simp only [List.length_append, List.length_cons, List.length_nil] at hd)
        all_goals (simp only [f113_L0, Out.eval, lt_t hi, ge0, nth_get hi, Option.bind_some, cond_true, cond_false, h1])
        all_goals (repeat rw [cond_lim (by (try simp only [List.length_append, List.length_cons, List.length_nil]); omega)])
        all_goals (try simp only [List.append_assoc])
        all_goals (try rfl))
      (fun d => by simp [f113_L0, Out.eval]) l0 (varV ((List.length a0 : Nat) : Int)) (by omega)
  exact (eval_get_some h).trans rfl
abbrev f61_S0 := (Int × List UInt8 × List Int × Int × Int × Unit) × (Unit)
def f61_L0 : f61_S0 → Out (Round f61_S0 ((List UInt8 × Unit) × (Unit)) Empty)
| ((p0, p1, p2, p3, p4, _), _) =>
 .ite (decide (p4 < p3))
 (.ite (decide (0 ≤ p4))
 (.get (nth p2 (Int.toNat p4)) fun y1 =>
 .ite (decide (List.length p1 + List.length (varV (IntKind.i64.wrap (y1 + p0))) ≤ LIM))
 (.ret (.again ((p0, (p1 ++ (varV (IntKind.i64.wrap (y1 + p0)))), p2, p3, (IntKind.i64.wrap (p4 + (1 : Int))), ()), ())))
 .fail)
 .fail)
 (.ret (.out ((p1, ()), ())))
def f61_tree (a0 : List Int) (a1 : Int) : Out (((List UInt8 × Unit) × Unit) × (Unit × Unit × Unit)) :=
 .get (iter1 f61_L0 FUEL ((a1, (varV ((List.length a0 : Nat) : Int)), a0, ((List.length a0 : Nat) : Int), (0 : Int), ()), ())) fun y1 =>
 .ret (((y1.1.1, ()), ()), ((), (), ()))
def f61_A : Nat → Option LoopAnn := fun n => annOf [(0, { head := { t := [.dead, .i .i64, .dead, .dead, .dead, .s] ++ dd 5 ++ [.ro (.int .i64) (some 0), .i .i64, .i .i64] ++ dd 11, v := [] }, out := { t := dd 5 ++ [.s] ++ dd 19, v := [] }, ret := none })] n
def k61 : Con := { f := 61, lend := true, its := [⟨false, false, [.ro (.int .i64)]⟩, ⟨false, false, [.i .i64]⟩], lay := [none, none], rs := [⟨false, false, [.s]⟩], F := fun x => .get (plainP x.1.1 x.2.1.1) fun y => .ret (((y, ()), ()), ((), (), ())) }
theorem f61_eq (x : itemsD k61.its) : bo [k59] f61_A Tryz.f61 k61 [.tmp 4] x = f61_tree x.1.1 x.2.1.1 := by kernel_rfl
theorem f61_okp (hr : ∀ x : (List Int × Unit) × (Int × Unit) × Unit, itemsWF k61.its x → ∀ y, (k61.F x).eval = some y → (f61_tree x.1.1 x.2.1.1).eval = some y) : k61.Ok Tryz.prog := con_fn [k59] ⟨k59_ok, trivial⟩ f61_eq hr
theorem k61_ok : k61.Ok Tryz.prog := by
  refine f61_okp fun x hw y hy => ?_
  obtain ⟨⟨a0, _⟩, ⟨a1, _⟩, _⟩ := x
  have l0 : List.length a0 ≤ BIG := hw.1.1.1
  change (Out.get (plainP a0 a1) fun y => Out.ret (((y, ()), ()), ((), (), ()))).eval = some y at hy
  show (f61_tree a0 a1).eval = some y
  unfold plainP at hy
  by_cases hp : List.length a0 ≤ 100
  case neg => rw [if_neg hp] at hy; exact nomatch hy
  rw [if_pos hp] at hy
  refine Eq.trans ?_ hy
  unfold f61_tree
  have hb := flatMap_len (fun n => varV (IntKind.i64.wrap (n + a1))) 7 a0 fun x _ => varV_len _
  have v0 := varV_len ((List.length a0 : Nat) : Int)
  have h : iter1 f61_L0 FUEL ((a1, (varV ((List.length a0 : Nat) : Int)), a0, ((List.length a0 : Nat) : Int), (0 : Int), ()), ()) = some ((((varV ((List.length a0 : Nat) : Int)) ++ List.flatMap (fun n => varV (IntKind.i64.wrap (n + a1))) a0), ()), ()) := flat_loop (f := f61_L0) (fun n => varV (IntKind.i64.wrap (n + a1))) a0 (fun d i => ((a1, d, a0, ((List.length a0 : Nat) : Int), ((i : Nat) : Int), ()), ())) (fun d => ((d, ()), ())) 1000000
      (fun i hi d hd => by
        have h1 := wrap_succ (i := i) (by omega)
        skip
        all_goals (try simp only [List.length_append, List.length_cons, List.length_nil] at hd)
        all_goals (simp only [f61_L0, Out.eval, lt_t hi, ge0, nth_get hi, Option.bind_some, cond_true, cond_false, h1])
        all_goals (repeat rw [cond_lim (by (try simp only [List.length_append, List.length_cons, List.length_nil]); omega)])
        all_goals (try simp only [List.append_assoc])
        all_goals (try rfl))
      (fun d => by simp [f61_L0, Out.eval]) l0 (varV ((List.length a0 : Nat) : Int)) (by omega)
  exact (eval_get_some h).trans rfl
theorem wordsTV_in {d : List Int} (h : d.length ≤ 100) : wordsTV d = some (wordsS d) := lim_some (by have := wordsS_le d; rw [LIM_eq]; omega)
def f82_tree (a0 : Int) (a1 : Int) (a2 : Int) (a3 : Int) (a4 : Int) (a5 : List Int) (a6 : List Int) (a7 : List Int) (a8 : Int) (a9 : Int) : Out (((List UInt8 × Unit) × Unit) × (Unit × Unit)) :=
 .ite (decide (List.length (varV a0) + List.length (varV a1) ≤ LIM))
 (.ite (decide (List.length ((varV a0) ++ (varV a1)) + List.length (varV a2) ≤ LIM))
 (.ite (decide (List.length (((varV a0) ++ (varV a1)) ++ (varV a2)) + List.length (varV a3) ≤ LIM))
 (.ite (decide (List.length ((((varV a0) ++ (varV a1)) ++ (varV a2)) ++ (varV a3)) + List.length (varV a4) ≤ LIM))
 (.get (wordsTV a5) fun y1 =>
 .ite (decide (List.length (((((varV a0) ++ (varV a1)) ++ (varV a2)) ++ (varV a3)) ++ (varV a4)) + List.length y1 ≤ LIM))
 (.get (wordsTV a6) fun y2 =>
 .ite (decide (List.length ((((((varV a0) ++ (varV a1)) ++ (varV a2)) ++ (varV a3)) ++ (varV a4)) ++ y1) + List.length y2 ≤ LIM))
 (.get (plusP a7) fun y3 =>
 .ite (decide (List.length (((((((varV a0) ++ (varV a1)) ++ (varV a2)) ++ (varV a3)) ++ (varV a4)) ++ y1) ++ y2) + List.length y3 ≤ LIM))
 (.ite (decide (List.length ((((((((varV a0) ++ (varV a1)) ++ (varV a2)) ++ (varV a3)) ++ (varV a4)) ++ y1) ++ y2) ++ y3) + List.length (varV a8) ≤ LIM))
 (.get (wordsTV ([a9] : List Int)) fun y4 =>
 .ite (decide (List.length (((((((((varV a0) ++ (varV a1)) ++ (varV a2)) ++ (varV a3)) ++ (varV a4)) ++ y1) ++ y2) ++ y3) ++ (varV a8)) + List.length y4 ≤ LIM))
 (.ret (((((((((((((varV a0) ++ (varV a1)) ++ (varV a2)) ++ (varV a3)) ++ (varV a4)) ++ y1) ++ y2) ++ y3) ++ (varV a8)) ++ y4), ()), ()), ((), ())))
 .fail)
 .fail)
 .fail)
 .fail)
 .fail)
 .fail)
 .fail)
 .fail)
 .fail
def procTP (pid par st pg pc : Int) (regs mem fds : List Int) (unt code : Int) : Option Str :=
  if regs.length ≤ 100 ∧ mem.length ≤ 100 ∧ fds.length ≤ 100 then some (procT (pid, (par, (st, (pg, ((pc, (regs, ())), (mem, (fds, (unt, (code, ()))))))))) ) else none
def k82 : Con := { f := 82, lend := true, its := [⟨false, true, [.i .i64, .i .i64, .i .i64, .i .i64, .i .i64, .ro (.int .i64), .ro (.int .i64), .ro (.int .i64), .i .i64, .i .i64]⟩], lay := [none], rs := [⟨false, false, [.s]⟩], F := fun x => .get (procTP x.1.1 x.1.2.1 x.1.2.2.1 x.1.2.2.2.1 x.1.2.2.2.2.1 x.1.2.2.2.2.2.1 x.1.2.2.2.2.2.2.1 x.1.2.2.2.2.2.2.2.1 x.1.2.2.2.2.2.2.2.2.1 x.1.2.2.2.2.2.2.2.2.2.1) fun y => .ret (((y, ()), ()), ((), ())) }
theorem f82_eq (x : itemsD k82.its) : bo [k73, k83, k113] (fun _ => none) Tryz.f82 k82 [.tmp 2] x = f82_tree x.1.1 x.1.2.1 x.1.2.2.1 x.1.2.2.2.1 x.1.2.2.2.2.1 x.1.2.2.2.2.2.1 x.1.2.2.2.2.2.2.1 x.1.2.2.2.2.2.2.2.1 x.1.2.2.2.2.2.2.2.2.1 x.1.2.2.2.2.2.2.2.2.2.1 := by kernel_rfl
theorem f82_okp (hr : ∀ x : (Int × Int × Int × Int × Int × List Int × List Int × List Int × Int × Int × Unit) × Unit, itemsWF k82.its x → ∀ y, (k82.F x).eval = some y → (f82_tree x.1.1 x.1.2.1 x.1.2.2.1 x.1.2.2.2.1 x.1.2.2.2.2.1 x.1.2.2.2.2.2.1 x.1.2.2.2.2.2.2.1 x.1.2.2.2.2.2.2.2.1 x.1.2.2.2.2.2.2.2.2.1 x.1.2.2.2.2.2.2.2.2.2.1).eval = some y) : k82.Ok Tryz.prog := con_fn [k73, k83, k113] ⟨k73_ok, k83_ok, k113_ok, trivial⟩ f82_eq hr
theorem k82_ok : k82.Ok Tryz.prog := by
  refine f82_okp fun x hw y hy => ?_
  obtain ⟨⟨a0, a1, a2, a3, a4, a5, a6, a7, a8, a9, _⟩, _⟩ := x
  have l5 : List.length a5 ≤ BIG := hw.1.1.1
  have l6 : List.length a6 ≤ BIG := hw.1.2.1.1
  have l7 : List.length a7 ≤ BIG := hw.1.2.2.1.1
  change (Out.get (procTP a0 a1 a2 a3 a4 a5 a6 a7 a8 a9) fun y => Out.ret (((y, ()), ()), ((), ()))).eval = some y at hy
  show (f82_tree a0 a1 a2 a3 a4 a5 a6 a7 a8 a9).eval = some y
  unfold procTP at hy
  by_cases hp : List.length a5 ≤ 100 ∧ List.length a6 ≤ 100 ∧ List.length a7 ≤ 100
  case neg => rw [if_neg hp] at hy; exact nomatch hy
  rw [if_pos hp] at hy
  refine Eq.trans ?_ hy
  unfold f82_tree
  have e1 := wordsTV_in hp.1
  have e2 := wordsTV_in hp.2.1
  have e3 : plusP a7 = some (plainT 1 a7) := if_pos hp.2.2
  have e4 : wordsTV [a9] = some (wordsS [a9]) := wordsTV_in (by simp)
  have v1 := varV_len a0
  have v2 := varV_len a1
  have v3 := varV_len a2
  have v4 := varV_len a3
  have v5 := varV_len a4
  have v6 := wordsS_le a5
  have v7 := wordsS_le a6
  have v8 := plainT_le 1 a7
  have v9 := varV_len a8
  have v10 := wordsS_le [a9]
  simp only [List.length_cons, List.length_nil] at v10
  simp only [Out.eval, e1, e2, e3, e4, Option.bind_some]
  repeat rw [cond_lim (by (try simp only [List.length_append, List.length_cons, List.length_nil]); omega)]
  unfold procT
  simp only [List.append_assoc]
theorem unix_parts {next tick : Int} {progs : List (List InsD)} {ps : List ProcD} {os : List OpenD} {pipes : List PipeD} {files : List FileD} {rd out : List Int} (h : unixOkV next tick progs ps os pipes files rd out = true) :
    progs.length ≤ 4 ∧ (∀ x ∈ progs, progOkV x = true) ∧ ps.length ≤ 6 ∧ os.length ≤ 8 ∧ pipes.length ≤ 3 ∧ (∀ x ∈ pipes, x.2.1.length ≤ 4) ∧ files.length ≤ 6 ∧ (∀ x ∈ files, x.2.1.length ≤ 8) ∧ rd.length ≤ 6 ∧ out.length ≤ 60 ∧ ∀ x ∈ rd, 1 ≤ x ∧ x ≤ 100000 := by
  have h0 := h
  unfold unixOkV thingsV progsOkV readyV at h
  simp only [Bool.and_eq_true, decide_eq_true_eq] at h
  obtain ⟨⟨⟨⟨⟨⟨⟨⟨⟨n1, t1⟩, ⟨p1, p2⟩, p3⟩, o1⟩, o2⟩, q1⟩, q2⟩, r1⟩, ⟨⟨⟨⟨⟨k1, k2⟩, k3⟩, k4⟩, k5⟩, k6⟩⟩, ⟨w1, w2⟩⟩ := h
  have hf := List.all_eq_true.1 (rows_all k6)
  have hpi := List.all_eq_true.1 (rows_all k5)
  have hpr := List.all_eq_true.1 (rows_all r1)
  have hle : (readyPids ps).length ≤ ps.length := by unfold readyPids; rw [List.length_map]; exact List.length_filter_le _ _
  refine ⟨p2, List.all_eq_true.1 p3, q1, k1, k2, fun x hx => ?_, k3, fun x hx => ?_, by omega, o1, fun x hx => ?_⟩
  · have := hpi x hx
    unfold pipe1V at this
    simp only [Bool.and_eq_true, decide_eq_true_eq] at this
    exact this.1.1.2
  · have := hf x hx
    unfold file1V at this
    simp only [Bool.and_eq_true, decide_eq_true_eq] at this
    exact this.2.1
  · have hn : (readyPids ps).Nodup := (readyPids_rise r1).imp fun h e => by omega
    have hp := perm_of_sub hn (fun y hy => hasV_iff.1 (List.all_eq_true.1 w1 y hy)) w2
    have hx2 := hp.mem_iff.2 hx
    unfold readyPids at hx2
    obtain ⟨p, hp1, rfl⟩ := List.mem_map.1 hx2
    have := hpr p (List.mem_filter.1 hp1).1
    unfold procInV at this
    rw [Bool.and_eq_true] at this
    have h1 := this.1
    have hnx : 1 ≤ next ∧ next ≤ 100000 := by simpa [inV] using n1
    rw [wrap_id (n := next - 1) (by omega) (by omega)] at h1
    have h2 : 1 ≤ p.1 ∧ p.1 ≤ next - 1 := by simpa [inV] using h1
    unfold procKey
    omega
def showUP (next tick : Int) (progs : List (List InsD)) (ps : List ProcD) (os : List OpenD) (pipes : List PipeD) (files : List FileD) (rd out : List Int) : Option Str :=
  if unixOkV next tick progs ps os pipes files rd out = true then some (unixT next tick progs ps os pipes files rd out) else none
theorem unix_lens {next tick : Int} {progs : List (List InsD)} {ps : List ProcD} {os : List OpenD} {pipes : List PipeD} {files : List FileD} {rd out : List Int} (h : unixOkV next tick progs ps os pipes files rd out = true) :
    (progs.flatMap progT).length ≤ 4508 ∧ (ps.flatMap procT).length ≤ 1800 ∧ (os.flatMap openT).length ≤ 280 ∧ (pipes.flatMap dataT).length ≤ 210 ∧ (files.flatMap dataT).length ≤ 420 ∧ (rd.flatMap varV).length ≤ 42 ∧ (plainT 0 rd).length ≤ 49 ∧ (wordsS out).length ≤ 427 := by
  obtain ⟨p1, p2, q1, k1, k2, k4, k3, k6, r1, o1, _⟩ := unix_parts h
  have g1 := flatMap_len progT 1127 progs fun x hx => progT_len (prog_len (p2 x hx))
  have g2 := flatMap_len procT 300 ps fun x hx => by
    have := proc_small h hx
    exact procT_len this.1 this.2.1 this.2.2
  have g3 := flatMap_len openT 35 os fun x _ => openT_len x
  have g4 := flatMap_len dataT 70 pipes fun x hx => dataT_len (by have := k4 x hx; omega)
  have g5 := flatMap_len dataT 70 files fun x hx => dataT_len (k6 x hx)
  have g6 := flatMap_len varV 7 rd fun x _ => varV_len x
  have g7 := plainT_le 0 rd
  have g8 := wordsS_le out
  refine ⟨by omega, by omega, by omega, by omega, by omega, by omega, by omega, by omega⟩
theorem plain_rd {rd : List Int} (h : ∀ x ∈ rd, 1 ≤ x ∧ x ≤ 100000) : plainT 0 rd = varV ((rd.length : Nat) : Int) ++ rd.flatMap varV := (same_text fun x hx => by have := h x hx; unfold InVar; omega).symm
theorem openT_eq (o : OpenD) : openT o = varV o.1 ++ (varV o.2.1 ++ (varV o.2.2.1 ++ (varV o.2.2.2.1 ++ varV o.2.2.2.2.1))) := rfl
theorem dataT_eq (o : FileD) : dataT o = varV o.1 ++ wordsS o.2.1 := rfl
abbrev f48_S0 := (List UInt8 × Int × Unit) × (UnixD × Unit)
def f48_L0 : f48_S0 → Out (Round f48_S0 ((List UInt8 × Unit) × (UnixD × Unit)) Empty)
| ((p0, p1, _), (p2, p3, p4, p5, p6, p7, p8, p9, p10, _), _) =>
 .ite (decide (p1 < ((List.length p4 : Nat) : Int)))
 (.ite (decide (0 ≤ p1))
 (.get (nth p4 (Int.toNat p1)) fun y1 =>
 .get (showProgP y1) fun y2 =>
 .ite (decide (List.length p0 + List.length y2 ≤ LIM))
 (.ret (.again (((p0 ++ y2), (IntKind.i64.wrap (p1 + (1 : Int))), ()), ((p2, p3, p4, p5, p6, p7, p8, p9, p10, ()), ()))))
 .fail)
 .fail)
 (.ret (.out ((p0, ()), ((p2, p3, p4, p5, p6, p7, p8, p9, p10, ()), ()))))
abbrev f48_S2 := (List UInt8 × Int × Unit) × (UnixD × Unit)
def f48_L2 : f48_S2 → Out (Round f48_S2 ((List UInt8 × Unit) × (UnixD × Unit)) Empty)
| ((p0, p1, _), (p2, p3, p4, p5, p6, p7, p8, p9, p10, _), _) =>
 .ite (decide (p1 < ((List.length p5 : Nat) : Int)))
 (.ite (decide (0 ≤ p1))
 (.get (nth p5 (Int.toNat p1)) fun y1 =>
 .get (procTP y1.1 y1.2.1 y1.2.2.1 y1.2.2.2.1 y1.2.2.2.2.1.1 y1.2.2.2.2.1.2.1 y1.2.2.2.2.2.1 y1.2.2.2.2.2.2.1 y1.2.2.2.2.2.2.2.1 y1.2.2.2.2.2.2.2.2.1) fun y2 =>
 .ite (decide (List.length p0 + List.length y2 ≤ LIM))
 (.ret (.again (((p0 ++ y2), (IntKind.i64.wrap (p1 + (1 : Int))), ()), ((p2, p3, p4, p5, p6, p7, p8, p9, p10, ()), ()))))
 .fail)
 .fail)
 (.ret (.out ((p0, ()), ((p2, p3, p4, p5, p6, p7, p8, p9, p10, ()), ()))))
abbrev f48_S4 := (List UInt8 × Int × Unit) × (UnixD × Unit)
def f48_L4 : f48_S4 → Out (Round f48_S4 ((List UInt8 × Unit) × (UnixD × Unit)) Empty)
| ((p0, p1, _), (p2, p3, p4, p5, p6, p7, p8, p9, p10, _), _) =>
 .ite (decide (p1 < ((List.length p6 : Nat) : Int)))
 (.ite (decide (0 ≤ p1))
 (.get (nth p6 (Int.toNat p1)) fun y1 =>
 .ite (decide (List.length p0 + List.length (varV y1.1) ≤ LIM))
 (.ite (decide (List.length (p0 ++ (varV y1.1)) + List.length (varV y1.2.1) ≤ LIM))
 (.ite (decide (List.length ((p0 ++ (varV y1.1)) ++ (varV y1.2.1)) + List.length (varV y1.2.2.1) ≤ LIM))
 (.ite (decide (List.length (((p0 ++ (varV y1.1)) ++ (varV y1.2.1)) ++ (varV y1.2.2.1)) + List.length (varV y1.2.2.2.1) ≤ LIM))
 (.ite (decide (List.length ((((p0 ++ (varV y1.1)) ++ (varV y1.2.1)) ++ (varV y1.2.2.1)) ++ (varV y1.2.2.2.1)) + List.length (varV y1.2.2.2.2.1) ≤ LIM))
 (.ret (.again (((((((p0 ++ (varV y1.1)) ++ (varV y1.2.1)) ++ (varV y1.2.2.1)) ++ (varV y1.2.2.2.1)) ++ (varV y1.2.2.2.2.1)), (IntKind.i64.wrap (p1 + (1 : Int))), ()), ((p2, p3, p4, p5, p6, p7, p8, p9, p10, ()), ()))))
 .fail)
 .fail)
 .fail)
 .fail)
 .fail)
 .fail)
 (.ret (.out ((p0, ()), ((p2, p3, p4, p5, p6, p7, p8, p9, p10, ()), ()))))
abbrev f48_S6 := (List UInt8 × Int × Unit) × (UnixD × Unit)
def f48_L6 : f48_S6 → Out (Round f48_S6 ((List UInt8 × Unit) × (UnixD × Unit)) Empty)
| ((p0, p1, _), (p2, p3, p4, p5, p6, p7, p8, p9, p10, _), _) =>
 .ite (decide (p1 < ((List.length p7 : Nat) : Int)))
 (.ite (decide (0 ≤ p1))
 (.get (nth p7 (Int.toNat p1)) fun y1 =>
 .ite (decide (List.length p0 + List.length (varV y1.1) ≤ LIM))
 (.ite (decide (0 ≤ p1))
 (.get (nth p7 (Int.toNat p1)) fun y2 =>
 .get (wordsTV y2.2.1) fun y3 =>
 .ite (decide (List.length (p0 ++ (varV y1.1)) + List.length y3 ≤ LIM))
 (.ret (.again ((((p0 ++ (varV y1.1)) ++ y3), (IntKind.i64.wrap (p1 + (1 : Int))), ()), ((p2, p3, p4, p5, p6, p7, p8, p9, p10, ()), ()))))
 .fail)
 .fail)
 .fail)
 .fail)
 (.ret (.out ((p0, ()), ((p2, p3, p4, p5, p6, p7, p8, p9, p10, ()), ()))))
abbrev f48_S8 := (List UInt8 × Int × Unit) × (UnixD × Unit)
def f48_L8 : f48_S8 → Out (Round f48_S8 ((List UInt8 × Unit) × (UnixD × Unit)) Empty)
| ((p0, p1, _), (p2, p3, p4, p5, p6, p7, p8, p9, p10, _), _) =>
 .ite (decide (p1 < ((List.length p8 : Nat) : Int)))
 (.ite (decide (0 ≤ p1))
 (.get (nth p8 (Int.toNat p1)) fun y1 =>
 .ite (decide (List.length p0 + List.length (varV y1.1) ≤ LIM))
 (.ite (decide (0 ≤ p1))
 (.get (nth p8 (Int.toNat p1)) fun y2 =>
 .get (wordsTV y2.2.1) fun y3 =>
 .ite (decide (List.length (p0 ++ (varV y1.1)) + List.length y3 ≤ LIM))
 (.ret (.again ((((p0 ++ (varV y1.1)) ++ y3), (IntKind.i64.wrap (p1 + (1 : Int))), ()), ((p2, p3, p4, p5, p6, p7, p8, p9, p10, ()), ()))))
 .fail)
 .fail)
 .fail)
 .fail)
 (.ret (.out ((p0, ()), ((p2, p3, p4, p5, p6, p7, p8, p9, p10, ()), ()))))
abbrev f48_S10 := (List UInt8 × Int × Unit) × (UnixD × Unit)
def f48_L10 : f48_S10 → Out (Round f48_S10 ((List UInt8 × Unit) × (UnixD × Unit)) Empty)
| ((p0, p1, _), (p2, p3, p4, p5, p6, p7, p8, p9, p10, _), _) =>
 .ite (decide (p1 < ((List.length p9 : Nat) : Int)))
 (.ite (decide (0 ≤ p1))
 (.get (nth p9 (Int.toNat p1)) fun y1 =>
 .ite (decide (List.length p0 + List.length (varV y1) ≤ LIM))
 (.ret (.again (((p0 ++ (varV y1)), (IntKind.i64.wrap (p1 + (1 : Int))), ()), ((p2, p3, p4, p5, p6, p7, p8, p9, p10, ()), ()))))
 .fail)
 .fail)
 (.ret (.out ((p0, ()), ((p2, p3, p4, p5, p6, p7, p8, p9, p10, ()), ()))))
def f48_tree (a0 : Int) (a1 : Int) (a2 : List (List InsD)) (a3 : List ProcD) (a4 : List OpenD) (a5 : List CpuD) (a6 : List CpuD) (a7 : List Int) (a8 : List Int) : Out (((List UInt8 × Unit) × Unit) × (Unit × Unit)) :=
 .ite (decide (List.length ([117] : List UInt8) + List.length (varV a0) ≤ LIM))
 (.ite (decide (List.length (([117] : List UInt8) ++ (varV a0)) + List.length (varV a1) ≤ LIM))
 (.ite (decide (List.length ((([117] : List UInt8) ++ (varV a0)) ++ (varV a1)) + List.length (varV ((List.length a2 : Nat) : Int)) ≤ LIM))
 (.get (iter1 f48_L0 FUEL (((((([117] : List UInt8) ++ (varV a0)) ++ (varV a1)) ++ (varV ((List.length a2 : Nat) : Int))), (0 : Int), ()), ((a0, a1, a2, a3, a4, a5, a6, a7, a8, ()), ()))) fun y1 =>
 .ite (decide (List.length y1.1.1 + List.length (varV ((List.length y1.2.1.2.2.2.1 : Nat) : Int)) ≤ LIM))
 (.get (iter1 f48_L2 FUEL (((y1.1.1 ++ (varV ((List.length y1.2.1.2.2.2.1 : Nat) : Int))), (0 : Int), ()), ((y1.2.1.1, y1.2.1.2.1, y1.2.1.2.2.1, y1.2.1.2.2.2.1, y1.2.1.2.2.2.2.1, y1.2.1.2.2.2.2.2.1, y1.2.1.2.2.2.2.2.2.1, y1.2.1.2.2.2.2.2.2.2.1, y1.2.1.2.2.2.2.2.2.2.2.1, ()), ()))) fun y2 =>
 .ite (decide (List.length y2.1.1 + List.length (varV ((List.length y2.2.1.2.2.2.2.1 : Nat) : Int)) ≤ LIM))
 (.get (iter1 f48_L4 FUEL (((y2.1.1 ++ (varV ((List.length y2.2.1.2.2.2.2.1 : Nat) : Int))), (0 : Int), ()), ((y2.2.1.1, y2.2.1.2.1, y2.2.1.2.2.1, y2.2.1.2.2.2.1, y2.2.1.2.2.2.2.1, y2.2.1.2.2.2.2.2.1, y2.2.1.2.2.2.2.2.2.1, y2.2.1.2.2.2.2.2.2.2.1, y2.2.1.2.2.2.2.2.2.2.2.1, ()), ()))) fun y3 =>
 .ite (decide (List.length y3.1.1 + List.length (varV ((List.length y3.2.1.2.2.2.2.2.1 : Nat) : Int)) ≤ LIM))
 (.get (iter1 f48_L6 FUEL (((y3.1.1 ++ (varV ((List.length y3.2.1.2.2.2.2.2.1 : Nat) : Int))), (0 : Int), ()), ((y3.2.1.1, y3.2.1.2.1, y3.2.1.2.2.1, y3.2.1.2.2.2.1, y3.2.1.2.2.2.2.1, y3.2.1.2.2.2.2.2.1, y3.2.1.2.2.2.2.2.2.1, y3.2.1.2.2.2.2.2.2.2.1, y3.2.1.2.2.2.2.2.2.2.2.1, ()), ()))) fun y4 =>
 .ite (decide (List.length y4.1.1 + List.length (varV ((List.length y4.2.1.2.2.2.2.2.2.1 : Nat) : Int)) ≤ LIM))
 (.get (iter1 f48_L8 FUEL (((y4.1.1 ++ (varV ((List.length y4.2.1.2.2.2.2.2.2.1 : Nat) : Int))), (0 : Int), ()), ((y4.2.1.1, y4.2.1.2.1, y4.2.1.2.2.1, y4.2.1.2.2.2.1, y4.2.1.2.2.2.2.1, y4.2.1.2.2.2.2.2.1, y4.2.1.2.2.2.2.2.2.1, y4.2.1.2.2.2.2.2.2.2.1, y4.2.1.2.2.2.2.2.2.2.2.1, ()), ()))) fun y5 =>
 .ite (decide (List.length y5.1.1 + List.length (varV ((List.length y5.2.1.2.2.2.2.2.2.2.1 : Nat) : Int)) ≤ LIM))
 (.get (iter1 f48_L10 FUEL (((y5.1.1 ++ (varV ((List.length y5.2.1.2.2.2.2.2.2.2.1 : Nat) : Int))), (0 : Int), ()), ((y5.2.1.1, y5.2.1.2.1, y5.2.1.2.2.1, y5.2.1.2.2.2.1, y5.2.1.2.2.2.2.1, y5.2.1.2.2.2.2.2.1, y5.2.1.2.2.2.2.2.2.1, y5.2.1.2.2.2.2.2.2.2.1, y5.2.1.2.2.2.2.2.2.2.2.1, ()), ()))) fun y6 =>
 .get (wordsTV y6.2.1.2.2.2.2.2.2.2.2.1) fun y7 =>
 .ite (decide (List.length y6.1.1 + List.length y7 ≤ LIM))
 (.ret ((((y6.1.1 ++ y7), ()), ()), ((), ())))
 .fail)
 .fail)
 .fail)
 .fail)
 .fail)
 .fail)
 .fail)
 .fail)
 .fail
def f48_A : Nat → Option LoopAnn := fun n => annOf [(0, { head := { t := [.dead, .vptr 64000000 0, .dead, .s, .i .i64] ++ dd 180, v := [(64000000, .var [.i .i64, .i .i64, .ro (.sl tyN) (some 0), .ro tyP (some 1), .ro tyO (some 2), .ro tyF (some 3), .ro tyF (some 4), .ro (.int .i64) (some 5), .ro (.int .i64) (some 6)])] }, out := { t := [.dead, .vptr 64000256 0, .dead, .s] ++ dd 181, v := [(64000256, .var [.i .i64, .i .i64, .ro (.sl tyN) (some 0), .ro tyP (some 1), .ro tyO (some 2), .ro tyF (some 3), .ro tyF (some 4), .ro (.int .i64) (some 5), .ro (.int .i64) (some 6)])] }, ret := none }), (2, { head := { t := [.dead, .vptr 64002048 0, .dead, .s, .dead, .i .i64] ++ dd 179, v := [(64002048, .var [.i .i64, .i .i64, .ro (.sl tyN) (some 0), .ro tyP (some 1), .ro tyO (some 2), .ro tyF (some 3), .ro tyF (some 4), .ro (.int .i64) (some 5), .ro (.int .i64) (some 6)])] }, out := { t := [.dead, .vptr 64002304 0, .dead, .s] ++ dd 181, v := [(64002304, .var [.i .i64, .i .i64, .ro (.sl tyN) (some 0), .ro tyP (some 1), .ro tyO (some 2), .ro tyF (some 3), .ro tyF (some 4), .ro (.int .i64) (some 5), .ro (.int .i64) (some 6)])] }, ret := none }), (4, { head := { t := [.dead, .vptr 64004096 0, .dead, .s, .dead, .dead, .i .i64] ++ dd 178, v := [(64004096, .var [.i .i64, .i .i64, .ro (.sl tyN) (some 0), .ro tyP (some 1), .ro tyO (some 2), .ro tyF (some 3), .ro tyF (some 4), .ro (.int .i64) (some 5), .ro (.int .i64) (some 6)])] }, out := { t := [.dead, .vptr 64004352 0, .dead, .s] ++ dd 181, v := [(64004352, .var [.i .i64, .i .i64, .ro (.sl tyN) (some 0), .ro tyP (some 1), .ro tyO (some 2), .ro tyF (some 3), .ro tyF (some 4), .ro (.int .i64) (some 5), .ro (.int .i64) (some 6)])] }, ret := none }), (6, { head := { t := [.dead, .vptr 64006144 0, .dead, .s] ++ dd 4 ++ [.i .i64] ++ dd 176, v := [(64006144, .var [.i .i64, .i .i64, .ro (.sl tyN) (some 0), .ro tyP (some 1), .ro tyO (some 2), .ro tyF (some 3), .ro tyF (some 4), .ro (.int .i64) (some 5), .ro (.int .i64) (some 6)])] }, out := { t := [.dead, .vptr 64006400 0, .dead, .s] ++ dd 181, v := [(64006400, .var [.i .i64, .i .i64, .ro (.sl tyN) (some 0), .ro tyP (some 1), .ro tyO (some 2), .ro tyF (some 3), .ro tyF (some 4), .ro (.int .i64) (some 5), .ro (.int .i64) (some 6)])] }, ret := none }), (8, { head := { t := [.dead, .vptr 64008192 0, .dead, .s] ++ dd 5 ++ [.i .i64] ++ dd 175, v := [(64008192, .var [.i .i64, .i .i64, .ro (.sl tyN) (some 0), .ro tyP (some 1), .ro tyO (some 2), .ro tyF (some 3), .ro tyF (some 4), .ro (.int .i64) (some 5), .ro (.int .i64) (some 6)])] }, out := { t := [.dead, .vptr 64008448 0, .dead, .s] ++ dd 181, v := [(64008448, .var [.i .i64, .i .i64, .ro (.sl tyN) (some 0), .ro tyP (some 1), .ro tyO (some 2), .ro tyF (some 3), .ro tyF (some 4), .ro (.int .i64) (some 5), .ro (.int .i64) (some 6)])] }, ret := none }), (10, { head := { t := [.dead, .vptr 64010240 0, .dead, .s] ++ dd 6 ++ [.i .i64] ++ dd 174, v := [(64010240, .var [.i .i64, .i .i64, .ro (.sl tyN) (some 0), .ro tyP (some 1), .ro tyO (some 2), .ro tyF (some 3), .ro tyF (some 4), .ro (.int .i64) (some 5), .ro (.int .i64) (some 6)])] }, out := { t := [.dead, .vptr 64010496 0, .dead, .s] ++ dd 181, v := [(64010496, .var [.i .i64, .i .i64, .ro (.sl tyN) (some 0), .ro tyP (some 1), .ro tyO (some 2), .ro tyF (some 3), .ro tyF (some 4), .ro (.int .i64) (some 5), .ro (.int .i64) (some 6)])] }, ret := none })] n
def k48 : Con := { f := 48, lend := true, its := [⟨false, true, [.i .i64, .i .i64, .ro (.sl tyN), .ro tyP, .ro tyO, .ro tyF, .ro tyF, .ro (.int .i64), .ro (.int .i64)]⟩], lay := [none], rs := [⟨false, false, [.s]⟩], F := fun x => .get (showUP x.1.1 x.1.2.1 x.1.2.2.1 x.1.2.2.2.1 x.1.2.2.2.2.1 x.1.2.2.2.2.2.1 x.1.2.2.2.2.2.2.1 x.1.2.2.2.2.2.2.2.1 x.1.2.2.2.2.2.2.2.2.1) fun y => .ret (((y, ()), ()), ((), ())) }
theorem f48_eq (x : itemsD k48.its) : bo [k73, k81, k82, k83] f48_A Tryz.f48 k48 [.tmp 2] x = f48_tree x.1.1 x.1.2.1 x.1.2.2.1 x.1.2.2.2.1 x.1.2.2.2.2.1 x.1.2.2.2.2.2.1 x.1.2.2.2.2.2.2.1 x.1.2.2.2.2.2.2.2.1 x.1.2.2.2.2.2.2.2.2.1 := by kernel_rfl
theorem f48_okp (hr : ∀ x : UnixD × Unit, itemsWF k48.its x → ∀ y, (k48.F x).eval = some y → (f48_tree x.1.1 x.1.2.1 x.1.2.2.1 x.1.2.2.2.1 x.1.2.2.2.2.1 x.1.2.2.2.2.2.1 x.1.2.2.2.2.2.2.1 x.1.2.2.2.2.2.2.2.1 x.1.2.2.2.2.2.2.2.2.1).eval = some y) : k48.Ok Tryz.prog := con_fn [k73, k81, k82, k83] ⟨k73_ok, k81_ok, k82_ok, k83_ok, trivial⟩ f48_eq hr
theorem k48_ok : k48.Ok Tryz.prog := by
  refine f48_okp fun x hw y hy => ?_
  obtain ⟨⟨a0, a1, a2, a3, a4, a5, a6, a7, a8, _⟩, _⟩ := x
  have l2 : List.length a2 ≤ BIG := hw.1.1.1
  have l3 : List.length a3 ≤ BIG := hw.1.2.1.1
  have l4 : List.length a4 ≤ BIG := hw.1.2.2.1.1
  have l5 : List.length a5 ≤ BIG := hw.1.2.2.2.1.1
  have l6 : List.length a6 ≤ BIG := hw.1.2.2.2.2.1.1
  have l7 : List.length a7 ≤ BIG := hw.1.2.2.2.2.2.1.1
  have l8 : List.length a8 ≤ BIG := hw.1.2.2.2.2.2.2.1.1
  change (Out.get (showUP a0 a1 a2 a3 a4 a5 a6 a7 a8) fun y => Out.ret (((y, ()), ()), ((), ()))).eval = some y at hy
  show (f48_tree a0 a1 a2 a3 a4 a5 a6 a7 a8).eval = some y
  unfold showUP at hy
  by_cases hu : unixOkV a0 a1 a2 a3 a4 a5 a6 a7 a8 = true
  case neg => rw [if_neg hu] at hy; exact nomatch hy
  rw [if_pos hu] at hy
  refine Eq.trans ?_ hy
  obtain ⟨p1, p2, q1, k1, k2, k4, k3, k6, r1, o1, r2⟩ := unix_parts hu
  obtain ⟨g1, g2, g3, g4, g5, g6, g7, g8⟩ := unix_lens hu
  have v0 := varV_len a0
  have v1 := varV_len a1
  have v2 := varV_len ((List.length a2 : Nat) : Int)
  have v3 := varV_len ((List.length a3 : Nat) : Int)
  have v4 := varV_len ((List.length a4 : Nat) : Int)
  have v5 := varV_len ((List.length a5 : Nat) : Int)
  have v6 := varV_len ((List.length a6 : Nat) : Int)
  have v7 := varV_len ((List.length a7 : Nat) : Int)
  unfold f48_tree
  repeat (refine (eval_ite_t (lim_t (by (try simp only [List.length_append, List.length_cons, List.length_nil]); omega))).trans ?_)
  have h1 : iter1 f48_L0 FUEL (((((([117] : List UInt8) ++ (varV a0)) ++ (varV a1)) ++ (varV ((List.length a2 : Nat) : Int))), (0 : Int), ()), ((a0, a1, a2, a3, a4, a5, a6, a7, a8, ()), ())) = some ((((((([117] : List UInt8) ++ (varV a0)) ++ (varV a1)) ++ (varV ((List.length a2 : Nat) : Int))) ++ List.flatMap progT a2), ()), ((a0, a1, a2, a3, a4, a5, a6, a7, a8, ()), ())) := flat_loop (f := f48_L0) progT a2 (fun d i => ((d, ((i : Nat) : Int), ()), ((a0, a1, a2, a3, a4, a5, a6, a7, a8, ()), ()))) (fun d => ((d, ()), ((a0, a1, a2, a3, a4, a5, a6, a7, a8, ()), ()))) 1000000
      (fun i hi d hd => by
        have h1 := wrap_succ (i := i) (by omega)
        have e1 : showProgP a2[i] = some (progT a2[i]) := if_pos (p2 _ (List.getElem_mem hi))
        all_goals (try simp only [List.length_append, List.length_cons, List.length_nil] at hd)
        all_goals (simp only [f48_L0, Out.eval, lt_t hi, ge0, nth_get hi, Option.bind_some, cond_true, cond_false, h1, e1])
        all_goals (repeat rw [cond_lim (by (try simp only [List.length_append, List.length_cons, List.length_nil]); omega)])
        all_goals (try simp only [List.append_assoc])
        all_goals (try rfl))
      (fun d => by simp [f48_L0, Out.eval]) l2 (((([117] : List UInt8) ++ (varV a0)) ++ (varV a1)) ++ (varV ((List.length a2 : Nat) : Int))) (by (try simp only [List.length_append, List.length_cons, List.length_nil]); omega)
  refine (eval_get_some h1).trans ?_
  dsimp only
  generalize es1 : ((((([117] : List UInt8) ++ (varV a0)) ++ (varV a1)) ++ (varV ((List.length a2 : Nat) : Int))) ++ List.flatMap progT a2) = s1
  have ls1 : List.length s1 ≤ 5000 := by rw [← es1]; simp only [List.length_append, List.length_cons, List.length_nil]; omega
  repeat (refine (eval_ite_t (lim_t (by (try simp only [List.length_append, List.length_cons, List.length_nil]); omega))).trans ?_)
  have h2 : iter1 f48_L2 FUEL (((s1 ++ (varV ((List.length a3 : Nat) : Int))), (0 : Int), ()), ((a0, a1, a2, a3, a4, a5, a6, a7, a8, ()), ())) = some ((((s1 ++ (varV ((List.length a3 : Nat) : Int))) ++ List.flatMap procT a3), ()), ((a0, a1, a2, a3, a4, a5, a6, a7, a8, ()), ())) := flat_loop (f := f48_L2) procT a3 (fun d i => ((d, ((i : Nat) : Int), ()), ((a0, a1, a2, a3, a4, a5, a6, a7, a8, ()), ()))) (fun d => ((d, ()), ((a0, a1, a2, a3, a4, a5, a6, a7, a8, ()), ()))) 1000000
      (fun i hi d hd => by
        have h1 := wrap_succ (i := i) (by omega)
        have sm := proc_small hu (List.getElem_mem hi)
        have e1 : procTP a3[i].1 a3[i].2.1 a3[i].2.2.1 a3[i].2.2.2.1 a3[i].2.2.2.2.1.1 a3[i].2.2.2.2.1.2.1 a3[i].2.2.2.2.2.1 a3[i].2.2.2.2.2.2.1 a3[i].2.2.2.2.2.2.2.1 a3[i].2.2.2.2.2.2.2.2.1 = some (procT a3[i]) := if_pos (by omega)
        all_goals (try simp only [List.length_append, List.length_cons, List.length_nil] at hd)
        all_goals (simp only [f48_L2, Out.eval, lt_t hi, ge0, nth_get hi, Option.bind_some, cond_true, cond_false, h1, e1])
        all_goals (repeat rw [cond_lim (by (try simp only [List.length_append, List.length_cons, List.length_nil]); omega)])
        all_goals (try simp only [List.append_assoc])
        all_goals (try rfl))
      (fun d => by simp [f48_L2, Out.eval]) l3 (s1 ++ (varV ((List.length a3 : Nat) : Int))) (by (try simp only [List.length_append, List.length_cons, List.length_nil]); omega)
  refine (eval_get_some h2).trans ?_
  dsimp only
  generalize es2 : ((s1 ++ (varV ((List.length a3 : Nat) : Int))) ++ List.flatMap procT a3) = s2
  have ls2 : List.length s2 ≤ 8000 := by rw [← es2]; simp only [List.length_append, List.length_cons, List.length_nil]; omega
  repeat (refine (eval_ite_t (lim_t (by (try simp only [List.length_append, List.length_cons, List.length_nil]); omega))).trans ?_)
  have h3 : iter1 f48_L4 FUEL (((s2 ++ (varV ((List.length a4 : Nat) : Int))), (0 : Int), ()), ((a0, a1, a2, a3, a4, a5, a6, a7, a8, ()), ())) = some ((((s2 ++ (varV ((List.length a4 : Nat) : Int))) ++ List.flatMap openT a4), ()), ((a0, a1, a2, a3, a4, a5, a6, a7, a8, ()), ())) := flat_loop (f := f48_L4) openT a4 (fun d i => ((d, ((i : Nat) : Int), ()), ((a0, a1, a2, a3, a4, a5, a6, a7, a8, ()), ()))) (fun d => ((d, ()), ((a0, a1, a2, a3, a4, a5, a6, a7, a8, ()), ()))) 1000000
      (fun i hi d hd => by
        have h1 := wrap_succ (i := i) (by omega)
        rw [openT_eq] at hd ⊢
        all_goals (try simp only [List.length_append, List.length_cons, List.length_nil] at hd)
        all_goals (simp only [f48_L4, Out.eval, lt_t hi, ge0, nth_get hi, Option.bind_some, cond_true, cond_false, h1])
        all_goals (repeat rw [cond_lim (by (try simp only [List.length_append, List.length_cons, List.length_nil]); omega)])
        all_goals (try simp only [List.append_assoc])
        all_goals (try rfl))
      (fun d => by simp [f48_L4, Out.eval]) l4 (s2 ++ (varV ((List.length a4 : Nat) : Int))) (by (try simp only [List.length_append, List.length_cons, List.length_nil]); omega)
  refine (eval_get_some h3).trans ?_
  dsimp only
  generalize es3 : ((s2 ++ (varV ((List.length a4 : Nat) : Int))) ++ List.flatMap openT a4) = s3
  have ls3 : List.length s3 ≤ 10000 := by rw [← es3]; simp only [List.length_append, List.length_cons, List.length_nil]; omega
  repeat (refine (eval_ite_t (lim_t (by (try simp only [List.length_append, List.length_cons, List.length_nil]); omega))).trans ?_)
  have h4 : iter1 f48_L6 FUEL (((s3 ++ (varV ((List.length a5 : Nat) : Int))), (0 : Int), ()), ((a0, a1, a2, a3, a4, a5, a6, a7, a8, ()), ())) = some ((((s3 ++ (varV ((List.length a5 : Nat) : Int))) ++ List.flatMap dataT a5), ()), ((a0, a1, a2, a3, a4, a5, a6, a7, a8, ()), ())) := flat_loop (f := f48_L6) dataT a5 (fun d i => ((d, ((i : Nat) : Int), ()), ((a0, a1, a2, a3, a4, a5, a6, a7, a8, ()), ()))) (fun d => ((d, ()), ((a0, a1, a2, a3, a4, a5, a6, a7, a8, ()), ()))) 1000000
      (fun i hi d hd => by
        have h1 := wrap_succ (i := i) (by omega)
        have e1 := wordsTV_in (show List.length a5[i].2.1 ≤ 100 from by have := k4 _ (List.getElem_mem hi); omega)
        rw [dataT_eq] at hd ⊢
        all_goals (try simp only [List.length_append, List.length_cons, List.length_nil] at hd)
        all_goals (simp only [f48_L6, Out.eval, lt_t hi, ge0, nth_get hi, Option.bind_some, cond_true, cond_false, h1, e1])
        all_goals (repeat rw [cond_lim (by (try simp only [List.length_append, List.length_cons, List.length_nil]); omega)])
        all_goals (try simp only [List.append_assoc])
        all_goals (try rfl))
      (fun d => by simp [f48_L6, Out.eval]) l5 (s3 ++ (varV ((List.length a5 : Nat) : Int))) (by (try simp only [List.length_append, List.length_cons, List.length_nil]); omega)
  refine (eval_get_some h4).trans ?_
  dsimp only
  generalize es4 : ((s3 ++ (varV ((List.length a5 : Nat) : Int))) ++ List.flatMap dataT a5) = s4
  have ls4 : List.length s4 ≤ 12000 := by rw [← es4]; simp only [List.length_append, List.length_cons, List.length_nil]; omega
  repeat (refine (eval_ite_t (lim_t (by (try simp only [List.length_append, List.length_cons, List.length_nil]); omega))).trans ?_)
  have h5 : iter1 f48_L8 FUEL (((s4 ++ (varV ((List.length a6 : Nat) : Int))), (0 : Int), ()), ((a0, a1, a2, a3, a4, a5, a6, a7, a8, ()), ())) = some ((((s4 ++ (varV ((List.length a6 : Nat) : Int))) ++ List.flatMap dataT a6), ()), ((a0, a1, a2, a3, a4, a5, a6, a7, a8, ()), ())) := flat_loop (f := f48_L8) dataT a6 (fun d i => ((d, ((i : Nat) : Int), ()), ((a0, a1, a2, a3, a4, a5, a6, a7, a8, ()), ()))) (fun d => ((d, ()), ((a0, a1, a2, a3, a4, a5, a6, a7, a8, ()), ()))) 1000000
      (fun i hi d hd => by
        have h1 := wrap_succ (i := i) (by omega)
        have e1 := wordsTV_in (show List.length a6[i].2.1 ≤ 100 from by have := k6 _ (List.getElem_mem hi); omega)
        rw [dataT_eq] at hd ⊢
        all_goals (try simp only [List.length_append, List.length_cons, List.length_nil] at hd)
        all_goals (simp only [f48_L8, Out.eval, lt_t hi, ge0, nth_get hi, Option.bind_some, cond_true, cond_false, h1, e1])
        all_goals (repeat rw [cond_lim (by (try simp only [List.length_append, List.length_cons, List.length_nil]); omega)])
        all_goals (try simp only [List.append_assoc])
        all_goals (try rfl))
      (fun d => by simp [f48_L8, Out.eval]) l6 (s4 ++ (varV ((List.length a6 : Nat) : Int))) (by (try simp only [List.length_append, List.length_cons, List.length_nil]); omega)
  refine (eval_get_some h5).trans ?_
  dsimp only
  generalize es5 : ((s4 ++ (varV ((List.length a6 : Nat) : Int))) ++ List.flatMap dataT a6) = s5
  have ls5 : List.length s5 ≤ 14000 := by rw [← es5]; simp only [List.length_append, List.length_cons, List.length_nil]; omega
  repeat (refine (eval_ite_t (lim_t (by (try simp only [List.length_append, List.length_cons, List.length_nil]); omega))).trans ?_)
  have h6 : iter1 f48_L10 FUEL (((s5 ++ (varV ((List.length a7 : Nat) : Int))), (0 : Int), ()), ((a0, a1, a2, a3, a4, a5, a6, a7, a8, ()), ())) = some ((((s5 ++ (varV ((List.length a7 : Nat) : Int))) ++ List.flatMap varV a7), ()), ((a0, a1, a2, a3, a4, a5, a6, a7, a8, ()), ())) := flat_loop (f := f48_L10) varV a7 (fun d i => ((d, ((i : Nat) : Int), ()), ((a0, a1, a2, a3, a4, a5, a6, a7, a8, ()), ()))) (fun d => ((d, ()), ((a0, a1, a2, a3, a4, a5, a6, a7, a8, ()), ()))) 1000000
      (fun i hi d hd => by
        have h1 := wrap_succ (i := i) (by omega)
        skip
        all_goals (try simp only [List.length_append, List.length_cons, List.length_nil] at hd)
        all_goals (simp only [f48_L10, Out.eval, lt_t hi, ge0, nth_get hi, Option.bind_some, cond_true, cond_false, h1])
        all_goals (repeat rw [cond_lim (by (try simp only [List.length_append, List.length_cons, List.length_nil]); omega)])
        all_goals (try simp only [List.append_assoc])
        all_goals (try rfl))
      (fun d => by simp [f48_L10, Out.eval]) l7 (s5 ++ (varV ((List.length a7 : Nat) : Int))) (by (try simp only [List.length_append, List.length_cons, List.length_nil]); omega)
  refine (eval_get_some h6).trans ?_
  dsimp only
  generalize es6 : ((s5 ++ (varV ((List.length a7 : Nat) : Int))) ++ List.flatMap varV a7) = s6
  have ls6 : List.length s6 ≤ 16000 := by rw [← es6]; simp only [List.length_append, List.length_cons, List.length_nil]; omega
  refine (eval_get_some (wordsTV_in (show List.length a8 ≤ 100 by omega))).trans ?_
  refine (eval_ite_t (lim_t (by omega))).trans ?_
  have e : s6 ++ wordsS a8 = unixT a0 a1 a2 a3 a4 a5 a6 a7 a8 := by
    subst es6 es5 es4 es3 es2 es1
    unfold unixT
    rw [plain_rd r2]
    unfold manyT
    simp only [List.append_assoc, List.cons_append, List.nil_append]
  rw [e]
  rfl
def showUV (next tick : Int) (progs : List (List InsD)) (ps : List ProcD) (os : List OpenD) (pipes : List PipeD) (files : List FileD) (rd out : List Int) : Str :=
  if unixOkV next tick progs ps os pipes files rd out = true then unixT next tick progs ps os pipes files rd out else []
def showUnixP (next tick : Int) (progs : List (List InsD)) (ps : List ProcD) (os : List OpenD) (pipes : List PipeD) (files : List FileD) (rd out : List Int) : Option Str :=
  if rd.length ≤ LIM then some (showUV next tick progs ps os pipes files rd out) else none
theorem unixT_len {next tick : Int} {progs : List (List InsD)} {ps : List ProcD} {os : List OpenD} {pipes : List PipeD} {files : List FileD} {rd out : List Int} (h : unixOkV next tick progs ps os pipes files rd out = true) : (unixT next tick progs ps os pipes files rd out).length ≤ 20000 := by
  obtain ⟨g1, g2, g3, g4, g5, g6, g7, g8⟩ := unix_lens h
  have v0 := varV_len next
  have v1 := varV_len tick
  have v2 := varV_len ((progs.length : Nat) : Int)
  have v3 := varV_len ((ps.length : Nat) : Int)
  have v4 := varV_len ((os.length : Nat) : Int)
  have v5 := varV_len ((pipes.length : Nat) : Int)
  have v6 := varV_len ((files.length : Nat) : Int)
  unfold unixT manyT
  simp only [List.length_append, List.length_cons]
  omega
theorem flat_flat {α β : Type} (h : α → List (List β)) : ∀ a : List α, (a.flatMap h).flatten = a.flatMap fun x => (h x).flatten
  | [] => rfl
  | x :: r => by rw [List.flatMap_cons, List.flatMap_cons, List.flatten_append, flat_flat h r]
theorem join_in {xs : List Str} (h1 : xs.length ≤ 1000) (h2 : xs.flatten.length ≤ 1000000) : joinP xs [] = some xs.flatten := by
  have e := join_flat xs
  unfold joinP
  rw [if_pos ⟨by omega, by rw [e]; omega⟩, e]
theorem varsV_in {l : List Int} (h : l.length ≤ 100) : varsV l = some (l.flatMap varV) := lim_some (by have := flatMap_len varV 7 l fun x _ => varV_len x; rw [LIM_eq]; omega)
def procTs (p : ProcD) : List Str := [[p.1, p.2.1, p.2.2.1, p.2.2.2.1, p.2.2.2.2.1.1].flatMap varV, wordsS p.2.2.2.2.1.2.1, wordsS p.2.2.2.2.2.1, plainT 1 p.2.2.2.2.2.2.1, varV p.2.2.2.2.2.2.2.1, wordsS [p.2.2.2.2.2.2.2.2.1]]
def openTs (o : OpenD) : List Str := [[o.1, o.2.1, o.2.2.1, o.2.2.2.1, o.2.2.2.2.1].flatMap varV]
def dataTs (o : FileD) : List Str := [varV o.1, wordsS o.2.1]
theorem procTs_flat (p : ProcD) : (procTs p).flatten = procT p := by
  unfold procTs procT
  simp
theorem openTs_flat (o : OpenD) : (openTs o).flatten = openT o := by
  unfold openTs openT
  simp
theorem dataTs_flat (o : FileD) : (dataTs o).flatten = dataT o := by
  unfold dataTs dataT
  simp
theorem flatMap_n {α β : Type} (h : α → List β) (m : Nat) (hm : ∀ x, (h x).length = m) : ∀ (a : List α), (a.flatMap h).length = m * a.length
  | [] => by simp
  | x :: r => by rw [List.flatMap_cons, List.length_append, hm, flatMap_n h m hm r, List.length_cons, Nat.mul_add]; omega
def k62 : Con := { f := 62, lend := true, its := [⟨false, false, [.ro .str]⟩, ⟨false, false, [.s]⟩], lay := [none, none], rs := [⟨false, false, [.s]⟩], F := fun x => .get (joinP x.1.1 x.2.1.1) fun y => .ret (((y, ()), ()), ((), (), ())) }
theorem k62_ok : k62.Ok Tryz.prog := con_join ⟨⟨_, Tryz.func62, by kernel_rfl, by kernel_rfl⟩⟩ (fun bk o c xs sep w h1 h2 h3 h4 h5 => Tryz.strings_Join bk o c xs sep w h1 h2 h3 h4 h5) fun a c sep w => Tryz.strings_Join_none a c sep w
abbrev f22_S0 := (List (List InsD) × Int × Int × Unit) × (UnixD × List (List UInt8) × Unit)
def f22_L0 : f22_S0 → Out (Round f22_S0 ((Unit) × (UnixD × List (List UInt8) × Unit)) Empty)
| ((p0, p1, p2, _), (p3, p4, p5, p6, p7, p8, p9, p10, p11, _), p12, _) =>
 .ite (decide (p2 < p1))
 (.ite (decide (0 ≤ p2))
 (.get (nth p0 (Int.toNat p2)) fun y1 =>
 .get (showProgP y1) fun y2 =>
 .ite (decide (List.length p12 + List.length ([y2] : List (List UInt8)) ≤ LIM))
 (.ret (.again ((p0, p1, (IntKind.i64.wrap (p2 + (1 : Int))), ()), ((p3, p4, p5, p6, p7, p8, p9, p10, p11, ()), (p12 ++ ([y2] : List (List UInt8))), ()))))
 .fail)
 .fail)
 (.ret (.out ((), ((p3, p4, p5, p6, p7, p8, p9, p10, p11, ()), p12, ()))))
abbrev f22_S2 := (List ProcD × Int × Int × Unit) × (UnixD × List (List UInt8) × Unit)
def f22_L2 : f22_S2 → Out (Round f22_S2 ((Unit) × (UnixD × List (List UInt8) × Unit)) Empty)
| ((p0, p1, p2, _), (p3, p4, p5, p6, p7, p8, p9, p10, p11, _), p12, _) =>
 .ite (decide (p2 < p1))
 (.ite (decide (0 ≤ p2))
 (.get (nth p0 (Int.toNat p2)) fun y1 =>
 .get (varsV ([y1.1, y1.2.1, y1.2.2.1, y1.2.2.2.1, y1.2.2.2.2.1.1] : List Int)) fun y2 =>
 .get (wordsTV y1.2.2.2.2.1.2.1) fun y3 =>
 .get (wordsTV y1.2.2.2.2.2.1) fun y4 =>
 .get (plainP y1.2.2.2.2.2.2.1 (1 : Int)) fun y5 =>
 .get (wordsTV ([y1.2.2.2.2.2.2.2.2.1] : List Int)) fun y6 =>
 .ite (decide (List.length p12 + List.length ([y2, y3, y4, y5, (varV y1.2.2.2.2.2.2.2.1), y6] : List (List UInt8)) ≤ LIM))
 (.ret (.again ((p0, p1, (IntKind.i64.wrap (p2 + (1 : Int))), ()), ((p3, p4, p5, p6, p7, p8, p9, p10, p11, ()), (p12 ++ ([y2, y3, y4, y5, (varV y1.2.2.2.2.2.2.2.1), y6] : List (List UInt8))), ()))))
 .fail)
 .fail)
 (.ret (.out ((), ((p3, p4, p5, p6, p7, p8, p9, p10, p11, ()), p12, ()))))
abbrev f22_S4 := (List OpenD × Int × Int × Unit) × (UnixD × List (List UInt8) × Unit)
def f22_L4 : f22_S4 → Out (Round f22_S4 ((Unit) × (UnixD × List (List UInt8) × Unit)) Empty)
| ((p0, p1, p2, _), (p3, p4, p5, p6, p7, p8, p9, p10, p11, _), p12, _) =>
 .ite (decide (p2 < p1))
 (.ite (decide (0 ≤ p2))
 (.get (nth p0 (Int.toNat p2)) fun y1 =>
 .get (varsV ([y1.1, y1.2.1, y1.2.2.1, y1.2.2.2.1, y1.2.2.2.2.1] : List Int)) fun y2 =>
 .ite (decide (List.length p12 + List.length ([y2] : List (List UInt8)) ≤ LIM))
 (.ret (.again ((p0, p1, (IntKind.i64.wrap (p2 + (1 : Int))), ()), ((p3, p4, p5, p6, p7, p8, p9, p10, p11, ()), (p12 ++ ([y2] : List (List UInt8))), ()))))
 .fail)
 .fail)
 (.ret (.out ((), ((p3, p4, p5, p6, p7, p8, p9, p10, p11, ()), p12, ()))))
abbrev f22_S6 := (List CpuD × Int × Int × Unit) × (UnixD × List (List UInt8) × Unit)
def f22_L6 : f22_S6 → Out (Round f22_S6 ((Unit) × (UnixD × List (List UInt8) × Unit)) Empty)
| ((p0, p1, p2, _), (p3, p4, p5, p6, p7, p8, p9, p10, p11, _), p12, _) =>
 .ite (decide (p2 < p1))
 (.ite (decide (0 ≤ p2))
 (.get (nth p0 (Int.toNat p2)) fun y1 =>
 .get (wordsTV y1.2.1) fun y2 =>
 .ite (decide (List.length p12 + List.length ([(varV y1.1), y2] : List (List UInt8)) ≤ LIM))
 (.ret (.again ((p0, p1, (IntKind.i64.wrap (p2 + (1 : Int))), ()), ((p3, p4, p5, p6, p7, p8, p9, p10, p11, ()), (p12 ++ ([(varV y1.1), y2] : List (List UInt8))), ()))))
 .fail)
 .fail)
 (.ret (.out ((), ((p3, p4, p5, p6, p7, p8, p9, p10, p11, ()), p12, ()))))
abbrev f22_S8 := (List CpuD × Int × Int × Unit) × (UnixD × List (List UInt8) × Unit)
def f22_L8 : f22_S8 → Out (Round f22_S8 ((Unit) × (UnixD × List (List UInt8) × Unit)) Empty)
| ((p0, p1, p2, _), (p3, p4, p5, p6, p7, p8, p9, p10, p11, _), p12, _) =>
 .ite (decide (p2 < p1))
 (.ite (decide (0 ≤ p2))
 (.get (nth p0 (Int.toNat p2)) fun y1 =>
 .get (wordsTV y1.2.1) fun y2 =>
 .ite (decide (List.length p12 + List.length ([(varV y1.1), y2] : List (List UInt8)) ≤ LIM))
 (.ret (.again ((p0, p1, (IntKind.i64.wrap (p2 + (1 : Int))), ()), ((p3, p4, p5, p6, p7, p8, p9, p10, p11, ()), (p12 ++ ([(varV y1.1), y2] : List (List UInt8))), ()))))
 .fail)
 .fail)
 (.ret (.out ((), ((p3, p4, p5, p6, p7, p8, p9, p10, p11, ()), p12, ()))))
def f22_tree (a0 : Int) (a1 : Int) (a2 : List (List InsD)) (a3 : List ProcD) (a4 : List OpenD) (a5 : List CpuD) (a6 : List CpuD) (a7 : List Int) (a8 : List Int) : Out (((List UInt8 × Unit) × Unit) × (Unit × Unit)) :=
 .get (unixOkP a0 a1 a2 a3 a4 a5 a6 a7 a8) fun y1 =>
 .ite (!y1)
 (.ret (((([] : List UInt8), ()), ()), ((), ())))
 (.get (varsV ([a0, a1, ((List.length a2 : Nat) : Int)] : List Int)) fun y2 =>
 .get (iter1 f22_L0 FUEL ((a2, ((List.length a2 : Nat) : Int), (0 : Int), ()), ((a0, a1, a2, a3, a4, a5, a6, a7, a8, ()), ([([117] : List UInt8), y2] : List (List UInt8)), ()))) fun y3 =>
 .ite (decide (List.length y3.2.2.1 + List.length ([(varV ((List.length y3.2.1.2.2.2.1 : Nat) : Int))] : List (List UInt8)) ≤ LIM))
 (.get (iter1 f22_L2 FUEL ((y3.2.1.2.2.2.1, ((List.length y3.2.1.2.2.2.1 : Nat) : Int), (0 : Int), ()), ((y3.2.1.1, y3.2.1.2.1, y3.2.1.2.2.1, y3.2.1.2.2.2.1, y3.2.1.2.2.2.2.1, y3.2.1.2.2.2.2.2.1, y3.2.1.2.2.2.2.2.2.1, y3.2.1.2.2.2.2.2.2.2.1, y3.2.1.2.2.2.2.2.2.2.2.1, ()), (y3.2.2.1 ++ ([(varV ((List.length y3.2.1.2.2.2.1 : Nat) : Int))] : List (List UInt8))), ()))) fun y4 =>
 .ite (decide (List.length y4.2.2.1 + List.length ([(varV ((List.length y4.2.1.2.2.2.2.1 : Nat) : Int))] : List (List UInt8)) ≤ LIM))
 (.get (iter1 f22_L4 FUEL ((y4.2.1.2.2.2.2.1, ((List.length y4.2.1.2.2.2.2.1 : Nat) : Int), (0 : Int), ()), ((y4.2.1.1, y4.2.1.2.1, y4.2.1.2.2.1, y4.2.1.2.2.2.1, y4.2.1.2.2.2.2.1, y4.2.1.2.2.2.2.2.1, y4.2.1.2.2.2.2.2.2.1, y4.2.1.2.2.2.2.2.2.2.1, y4.2.1.2.2.2.2.2.2.2.2.1, ()), (y4.2.2.1 ++ ([(varV ((List.length y4.2.1.2.2.2.2.1 : Nat) : Int))] : List (List UInt8))), ()))) fun y5 =>
 .ite (decide (List.length y5.2.2.1 + List.length ([(varV ((List.length y5.2.1.2.2.2.2.2.1 : Nat) : Int))] : List (List UInt8)) ≤ LIM))
 (.get (iter1 f22_L6 FUEL ((y5.2.1.2.2.2.2.2.1, ((List.length y5.2.1.2.2.2.2.2.1 : Nat) : Int), (0 : Int), ()), ((y5.2.1.1, y5.2.1.2.1, y5.2.1.2.2.1, y5.2.1.2.2.2.1, y5.2.1.2.2.2.2.1, y5.2.1.2.2.2.2.2.1, y5.2.1.2.2.2.2.2.2.1, y5.2.1.2.2.2.2.2.2.2.1, y5.2.1.2.2.2.2.2.2.2.2.1, ()), (y5.2.2.1 ++ ([(varV ((List.length y5.2.1.2.2.2.2.2.1 : Nat) : Int))] : List (List UInt8))), ()))) fun y6 =>
 .ite (decide (List.length y6.2.2.1 + List.length ([(varV ((List.length y6.2.1.2.2.2.2.2.2.1 : Nat) : Int))] : List (List UInt8)) ≤ LIM))
 (.get (iter1 f22_L8 FUEL ((y6.2.1.2.2.2.2.2.2.1, ((List.length y6.2.1.2.2.2.2.2.2.1 : Nat) : Int), (0 : Int), ()), ((y6.2.1.1, y6.2.1.2.1, y6.2.1.2.2.1, y6.2.1.2.2.2.1, y6.2.1.2.2.2.2.1, y6.2.1.2.2.2.2.2.1, y6.2.1.2.2.2.2.2.2.1, y6.2.1.2.2.2.2.2.2.2.1, y6.2.1.2.2.2.2.2.2.2.2.1, ()), (y6.2.2.1 ++ ([(varV ((List.length y6.2.1.2.2.2.2.2.2.1 : Nat) : Int))] : List (List UInt8))), ()))) fun y7 =>
 .get (plainP y7.2.1.2.2.2.2.2.2.2.1 (0 : Int)) fun y8 =>
 .get (wordsTV y7.2.1.2.2.2.2.2.2.2.2.1) fun y9 =>
 .ite (decide (List.length y7.2.2.1 + List.length ([y8, y9] : List (List UInt8)) ≤ LIM))
 (.get (joinP (y7.2.2.1 ++ ([y8, y9] : List (List UInt8))) ([] : List UInt8)) fun y10 =>
 .ret (((y10, ()), ()), ((), ())))
 .fail)
 .fail)
 .fail)
 .fail)
 .fail)
def f22_A : Nat → Option LoopAnn := fun n => annOf [(0, { head := { t := [.dead, .vptr 64000000 0, .dead, .srf 64000001] ++ dd 24 ++ [.ro (.sl tyN) (some 0), .i .i64, .i .i64] ++ dd 146, v := [(64000000, .var [.i .i64, .i .i64, .ro (.sl tyN) (some 0), .ro tyP (some 1), .ro tyO (some 2), .ro tyF (some 3), .ro tyF (some 4), .ro (.int .i64) (some 5), .ro (.int .i64) (some 6)]), (64000001, .arr .str)] }, out := { t := [.dead, .vptr 64000256 0, .dead, .srf 64000257] ++ dd 173, v := [(64000256, .var [.i .i64, .i .i64, .ro (.sl tyN) (some 0), .ro tyP (some 1), .ro tyO (some 2), .ro tyF (some 3), .ro tyF (some 4), .ro (.int .i64) (some 5), .ro (.int .i64) (some 6)]), (64000257, .arr .str)] }, ret := none }), (2, { head := { t := [.dead, .vptr 64002048 0, .dead, .srf 64002049] ++ dd 44 ++ [.ro tyP (some 1), .i .i64, .i .i64] ++ dd 126, v := [(64002048, .var [.i .i64, .i .i64, .ro (.sl tyN) (some 0), .ro tyP (some 1), .ro tyO (some 2), .ro tyF (some 3), .ro tyF (some 4), .ro (.int .i64) (some 5), .ro (.int .i64) (some 6)]), (64002049, .arr .str)] }, out := { t := [.dead, .vptr 64002304 0, .dead, .srf 64002305] ++ dd 173, v := [(64002304, .var [.i .i64, .i .i64, .ro (.sl tyN) (some 0), .ro tyP (some 1), .ro tyO (some 2), .ro tyF (some 3), .ro tyF (some 4), .ro (.int .i64) (some 5), .ro (.int .i64) (some 6)]), (64002305, .arr .str)] }, ret := none }), (4, { head := { t := [.dead, .vptr 64004096 0, .dead, .srf 64004097] ++ dd 92 ++ [.ro tyO (some 2), .i .i64, .i .i64] ++ dd 78, v := [(64004096, .var [.i .i64, .i .i64, .ro (.sl tyN) (some 0), .ro tyP (some 1), .ro tyO (some 2), .ro tyF (some 3), .ro tyF (some 4), .ro (.int .i64) (some 5), .ro (.int .i64) (some 6)]), (64004097, .arr .str)] }, out := { t := [.dead, .vptr 64004352 0, .dead, .srf 64004353] ++ dd 173, v := [(64004352, .var [.i .i64, .i .i64, .ro (.sl tyN) (some 0), .ro tyP (some 1), .ro tyO (some 2), .ro tyF (some 3), .ro tyF (some 4), .ro (.int .i64) (some 5), .ro (.int .i64) (some 6)]), (64004353, .arr .str)] }, ret := none }), (6, { head := { t := [.dead, .vptr 64006144 0, .dead, .srf 64006145] ++ dd 122 ++ [.ro tyF (some 3), .i .i64, .i .i64] ++ dd 48, v := [(64006144, .var [.i .i64, .i .i64, .ro (.sl tyN) (some 0), .ro tyP (some 1), .ro tyO (some 2), .ro tyF (some 3), .ro tyF (some 4), .ro (.int .i64) (some 5), .ro (.int .i64) (some 6)]), (64006145, .arr .str)] }, out := { t := [.dead, .vptr 64006400 0, .dead, .srf 64006401] ++ dd 173, v := [(64006400, .var [.i .i64, .i .i64, .ro (.sl tyN) (some 0), .ro tyP (some 1), .ro tyO (some 2), .ro tyF (some 3), .ro tyF (some 4), .ro (.int .i64) (some 5), .ro (.int .i64) (some 6)]), (64006401, .arr .str)] }, ret := none }), (8, { head := { t := [.dead, .vptr 64008192 0, .dead, .srf 64008193] ++ dd 146 ++ [.ro tyF (some 4), .i .i64, .i .i64] ++ dd 24, v := [(64008192, .var [.i .i64, .i .i64, .ro (.sl tyN) (some 0), .ro tyP (some 1), .ro tyO (some 2), .ro tyF (some 3), .ro tyF (some 4), .ro (.int .i64) (some 5), .ro (.int .i64) (some 6)]), (64008193, .arr .str)] }, out := { t := [.dead, .vptr 64008448 0, .dead, .srf 64008449] ++ dd 173, v := [(64008448, .var [.i .i64, .i .i64, .ro (.sl tyN) (some 0), .ro tyP (some 1), .ro tyO (some 2), .ro tyF (some 3), .ro tyF (some 4), .ro (.int .i64) (some 5), .ro (.int .i64) (some 6)]), (64008449, .arr .str)] }, ret := none })] n
def k22 : Con := { f := 22, lend := true, its := [⟨false, true, [.i .i64, .i .i64, .ro (.sl tyN), .ro tyP, .ro tyO, .ro tyF, .ro tyF, .ro (.int .i64), .ro (.int .i64)]⟩], lay := [none], rs := [⟨false, false, [.s]⟩], F := fun x => .get (showUnixP x.1.1 x.1.2.1 x.1.2.2.1 x.1.2.2.2.1 x.1.2.2.2.2.1 x.1.2.2.2.2.2.1 x.1.2.2.2.2.2.2.1 x.1.2.2.2.2.2.2.2.1 x.1.2.2.2.2.2.2.2.2.1) fun y => .ret (((y, ()), ()), ((), ())) }
theorem f22_eq (x : itemsD k22.its) : bo [k56, k57, k58, k59, k60, k61, k62] f22_A Tryz.f22 k22 [.tmp 2] x = f22_tree x.1.1 x.1.2.1 x.1.2.2.1 x.1.2.2.2.1 x.1.2.2.2.2.1 x.1.2.2.2.2.2.1 x.1.2.2.2.2.2.2.1 x.1.2.2.2.2.2.2.2.1 x.1.2.2.2.2.2.2.2.2.1 := by kernel_rfl
theorem f22_okp (hr : ∀ x : UnixD × Unit, itemsWF k22.its x → ∀ y, (k22.F x).eval = some y → (f22_tree x.1.1 x.1.2.1 x.1.2.2.1 x.1.2.2.2.1 x.1.2.2.2.2.1 x.1.2.2.2.2.2.1 x.1.2.2.2.2.2.2.1 x.1.2.2.2.2.2.2.2.1 x.1.2.2.2.2.2.2.2.2.1).eval = some y) : k22.Ok Tryz.prog := con_fn [k56, k57, k58, k59, k60, k61, k62] ⟨k56_ok, k57_ok, k58_ok, k59_ok, k60_ok, k61_ok, k62_ok, trivial⟩ f22_eq hr
theorem k22_ok : k22.Ok Tryz.prog := by
  refine f22_okp fun x hw y hy => ?_
  obtain ⟨⟨a0, a1, a2, a3, a4, a5, a6, a7, a8, _⟩, _⟩ := x
  have l2 : List.length a2 ≤ BIG := hw.1.1.1
  have l3 : List.length a3 ≤ BIG := hw.1.2.1.1
  have l4 : List.length a4 ≤ BIG := hw.1.2.2.1.1
  have l5 : List.length a5 ≤ BIG := hw.1.2.2.2.1.1
  have l6 : List.length a6 ≤ BIG := hw.1.2.2.2.2.1.1
  have l7 : List.length a7 ≤ BIG := hw.1.2.2.2.2.2.1.1
  have l8 : List.length a8 ≤ BIG := hw.1.2.2.2.2.2.2.1.1
  change (Out.get (showUnixP a0 a1 a2 a3 a4 a5 a6 a7 a8) fun y => Out.ret (((y, ()), ()), ((), ()))).eval = some y at hy
  show (f22_tree a0 a1 a2 a3 a4 a5 a6 a7 a8).eval = some y
  unfold showUnixP at hy
  by_cases hl : List.length a7 ≤ LIM
  case neg => rw [if_neg hl] at hy; exact nomatch hy
  rw [if_pos hl] at hy
  refine Eq.trans ?_ hy
  unfold f22_tree showUV
  have e0 : unixOkP a0 a1 a2 a3 a4 a5 a6 a7 a8 = some (unixOkV a0 a1 a2 a3 a4 a5 a6 a7 a8) := by
    unfold unixOkP
    rw [if_pos hl, unix_same]
  refine (eval_get_some e0).trans ?_
  by_cases hu : unixOkV a0 a1 a2 a3 a4 a5 a6 a7 a8 = true
  case neg => rw [if_neg hu, eval_ite_t (by simp [hu])]; rfl
  rw [if_pos hu, eval_ite_f (by simp [hu])]
  obtain ⟨p1, p2, q1, k1, k2, k4, k3, k6, r1, o1, r2⟩ := unix_parts hu
  have hT := unixT_len hu
  have n1 := flatMap_n (fun (x : List InsD) => [progT x]) 1 (fun _ => rfl) a2
  have n2 := flatMap_n procTs 6 (fun _ => rfl) a3
  have n3 := flatMap_n openTs 1 (fun _ => rfl) a4
  have n4 := flatMap_n dataTs 2 (fun _ => rfl) a5
  have n5 := flatMap_n dataTs 2 (fun _ => rfl) a6
  refine (eval_get_some (varsV_in (l := [a0, a1, ((List.length a2 : Nat) : Int)]) (by simp))).trans ?_
  generalize et : List.flatMap varV [a0, a1, ((List.length a2 : Nat) : Int)] = t0
  skip
  have h1 : iter1 f22_L0 FUEL ((a2, ((List.length a2 : Nat) : Int), (0 : Int), ()), ((a0, a1, a2, a3, a4, a5, a6, a7, a8, ()), ([([117] : List UInt8), t0] : List (List UInt8)), ())) = some ((), ((a0, a1, a2, a3, a4, a5, a6, a7, a8, ()), (([([117] : List UInt8), t0] : List (List UInt8)) ++ List.flatMap (fun x => [progT x]) a2), ())) := flat_loop (f := f22_L0) (fun x => [progT x]) a2 (fun d i => ((a2, ((List.length a2 : Nat) : Int), ((i : Nat) : Int), ()), ((a0, a1, a2, a3, a4, a5, a6, a7, a8, ()), d, ()))) (fun d => ((), ((a0, a1, a2, a3, a4, a5, a6, a7, a8, ()), d, ()))) 1000000
      (fun i hi d hd => by
        have h1 := wrap_succ (i := i) (by omega)
        have e1 : showProgP a2[i] = some (progT a2[i]) := if_pos (p2 _ (List.getElem_mem hi))
        all_goals (try simp only [List.length_append, List.length_cons, List.length_nil] at hd)
        all_goals (simp only [f22_L0, Out.eval, lt_t hi, ge0, nth_get hi, Option.bind_some, cond_true, cond_false, h1, e1])
        all_goals (repeat rw [cond_lim (by (try simp only [List.length_append, List.length_cons, List.length_nil]); omega)])
        all_goals (try simp only [List.append_assoc])
        all_goals (try rfl))
      (fun d => by simp [f22_L0, Out.eval]) l2 ([([117] : List UInt8), t0] : List (List UInt8)) (by (try simp only [List.length_append, List.length_cons, List.length_nil]); omega)
  refine (eval_get_some h1).trans ?_
  dsimp only
  generalize es1 : (([([117] : List UInt8), t0] : List (List UInt8)) ++ List.flatMap (fun x => [progT x]) a2) = s1
  have ls1 : List.length s1 ≤ 6 := by rw [← es1]; simp only [List.length_append, List.length_cons, List.length_nil]; omega
  repeat (refine (eval_ite_t (lim_t (by (try simp only [List.length_append, List.length_cons, List.length_nil]); omega))).trans ?_)
  have h2 : iter1 f22_L2 FUEL ((a3, ((List.length a3 : Nat) : Int), (0 : Int), ()), ((a0, a1, a2, a3, a4, a5, a6, a7, a8, ()), (s1 ++ ([(varV ((List.length a3 : Nat) : Int))] : List (List UInt8))), ())) = some ((), ((a0, a1, a2, a3, a4, a5, a6, a7, a8, ()), ((s1 ++ ([(varV ((List.length a3 : Nat) : Int))] : List (List UInt8))) ++ List.flatMap procTs a3), ())) := flat_loop (f := f22_L2) procTs a3 (fun d i => ((a3, ((List.length a3 : Nat) : Int), ((i : Nat) : Int), ()), ((a0, a1, a2, a3, a4, a5, a6, a7, a8, ()), d, ()))) (fun d => ((), ((a0, a1, a2, a3, a4, a5, a6, a7, a8, ()), d, ()))) 1000000
      (fun i hi d hd => by
        have h1 := wrap_succ (i := i) (by omega)
        have sm := proc_small hu (List.getElem_mem hi)
        have e1 := varsV_in (l := [a3[i].1, a3[i].2.1, a3[i].2.2.1, a3[i].2.2.2.1, a3[i].2.2.2.2.1.1]) (by simp)
        have e2 := wordsTV_in (show List.length a3[i].2.2.2.2.1.2.1 ≤ 100 from by omega)
        have e3 := wordsTV_in (show List.length a3[i].2.2.2.2.2.1 ≤ 100 from by omega)
        have e4 : plainP a3[i].2.2.2.2.2.2.1 1 = some (plainT 1 a3[i].2.2.2.2.2.2.1) := if_pos (by omega)
        have e5 := wordsTV_in (d := [a3[i].2.2.2.2.2.2.2.2.1]) (by simp)
        have e6 : List.length (procTs a3[i]) = 6 := rfl
        rw [e6] at hd
        all_goals (try simp only [List.length_append, List.length_cons, List.length_nil] at hd)
        all_goals (simp only [f22_L2, Out.eval, lt_t hi, ge0, nth_get hi, Option.bind_some, cond_true, cond_false, h1, e1, e2, e3, e4, e5])
        all_goals (repeat rw [cond_lim (by (try simp only [List.length_append, List.length_cons, List.length_nil]); omega)])
        all_goals (try simp only [List.append_assoc])
        all_goals (try rfl))
      (fun d => by simp [f22_L2, Out.eval]) l3 (s1 ++ ([(varV ((List.length a3 : Nat) : Int))] : List (List UInt8))) (by (try simp only [List.length_append, List.length_cons, List.length_nil]); omega)
  refine (eval_get_some h2).trans ?_
  dsimp only
  generalize es2 : ((s1 ++ ([(varV ((List.length a3 : Nat) : Int))] : List (List UInt8))) ++ List.flatMap procTs a3) = s2
  have ls2 : List.length s2 ≤ 43 := by rw [← es2]; simp only [List.length_append, List.length_cons, List.length_nil]; omega
  repeat (refine (eval_ite_t (lim_t (by (try simp only [List.length_append, List.length_cons, List.length_nil]); omega))).trans ?_)
  have h3 : iter1 f22_L4 FUEL ((a4, ((List.length a4 : Nat) : Int), (0 : Int), ()), ((a0, a1, a2, a3, a4, a5, a6, a7, a8, ()), (s2 ++ ([(varV ((List.length a4 : Nat) : Int))] : List (List UInt8))), ())) = some ((), ((a0, a1, a2, a3, a4, a5, a6, a7, a8, ()), ((s2 ++ ([(varV ((List.length a4 : Nat) : Int))] : List (List UInt8))) ++ List.flatMap openTs a4), ())) := flat_loop (f := f22_L4) openTs a4 (fun d i => ((a4, ((List.length a4 : Nat) : Int), ((i : Nat) : Int), ()), ((a0, a1, a2, a3, a4, a5, a6, a7, a8, ()), d, ()))) (fun d => ((), ((a0, a1, a2, a3, a4, a5, a6, a7, a8, ()), d, ()))) 1000000
      (fun i hi d hd => by
        have h1 := wrap_succ (i := i) (by omega)
        have e1 := varsV_in (l := [a4[i].1, a4[i].2.1, a4[i].2.2.1, a4[i].2.2.2.1, a4[i].2.2.2.2.1]) (by simp)
        have e6 : List.length (openTs a4[i]) = 1 := rfl
        rw [e6] at hd
        all_goals (try simp only [List.length_append, List.length_cons, List.length_nil] at hd)
        all_goals (simp only [f22_L4, Out.eval, lt_t hi, ge0, nth_get hi, Option.bind_some, cond_true, cond_false, h1, e1])
        all_goals (repeat rw [cond_lim (by (try simp only [List.length_append, List.length_cons, List.length_nil]); omega)])
        all_goals (try simp only [List.append_assoc])
        all_goals (try rfl))
      (fun d => by simp [f22_L4, Out.eval]) l4 (s2 ++ ([(varV ((List.length a4 : Nat) : Int))] : List (List UInt8))) (by (try simp only [List.length_append, List.length_cons, List.length_nil]); omega)
  refine (eval_get_some h3).trans ?_
  dsimp only
  generalize es3 : ((s2 ++ ([(varV ((List.length a4 : Nat) : Int))] : List (List UInt8))) ++ List.flatMap openTs a4) = s3
  have ls3 : List.length s3 ≤ 52 := by rw [← es3]; simp only [List.length_append, List.length_cons, List.length_nil]; omega
  repeat (refine (eval_ite_t (lim_t (by (try simp only [List.length_append, List.length_cons, List.length_nil]); omega))).trans ?_)
  have h4 : iter1 f22_L6 FUEL ((a5, ((List.length a5 : Nat) : Int), (0 : Int), ()), ((a0, a1, a2, a3, a4, a5, a6, a7, a8, ()), (s3 ++ ([(varV ((List.length a5 : Nat) : Int))] : List (List UInt8))), ())) = some ((), ((a0, a1, a2, a3, a4, a5, a6, a7, a8, ()), ((s3 ++ ([(varV ((List.length a5 : Nat) : Int))] : List (List UInt8))) ++ List.flatMap dataTs a5), ())) := flat_loop (f := f22_L6) dataTs a5 (fun d i => ((a5, ((List.length a5 : Nat) : Int), ((i : Nat) : Int), ()), ((a0, a1, a2, a3, a4, a5, a6, a7, a8, ()), d, ()))) (fun d => ((), ((a0, a1, a2, a3, a4, a5, a6, a7, a8, ()), d, ()))) 1000000
      (fun i hi d hd => by
        have h1 := wrap_succ (i := i) (by omega)
        have e1 := wordsTV_in (show List.length a5[i].2.1 ≤ 100 from by have := k4 _ (List.getElem_mem hi); omega)
        have e6 : List.length (dataTs a5[i]) = 2 := rfl
        rw [e6] at hd
        all_goals (try simp only [List.length_append, List.length_cons, List.length_nil] at hd)
        all_goals (simp only [f22_L6, Out.eval, lt_t hi, ge0, nth_get hi, Option.bind_some, cond_true, cond_false, h1, e1])
        all_goals (repeat rw [cond_lim (by (try simp only [List.length_append, List.length_cons, List.length_nil]); omega)])
        all_goals (try simp only [List.append_assoc])
        all_goals (try rfl))
      (fun d => by simp [f22_L6, Out.eval]) l5 (s3 ++ ([(varV ((List.length a5 : Nat) : Int))] : List (List UInt8))) (by (try simp only [List.length_append, List.length_cons, List.length_nil]); omega)
  refine (eval_get_some h4).trans ?_
  dsimp only
  generalize es4 : ((s3 ++ ([(varV ((List.length a5 : Nat) : Int))] : List (List UInt8))) ++ List.flatMap dataTs a5) = s4
  have ls4 : List.length s4 ≤ 59 := by rw [← es4]; simp only [List.length_append, List.length_cons, List.length_nil]; omega
  repeat (refine (eval_ite_t (lim_t (by (try simp only [List.length_append, List.length_cons, List.length_nil]); omega))).trans ?_)
  have h5 : iter1 f22_L8 FUEL ((a6, ((List.length a6 : Nat) : Int), (0 : Int), ()), ((a0, a1, a2, a3, a4, a5, a6, a7, a8, ()), (s4 ++ ([(varV ((List.length a6 : Nat) : Int))] : List (List UInt8))), ())) = some ((), ((a0, a1, a2, a3, a4, a5, a6, a7, a8, ()), ((s4 ++ ([(varV ((List.length a6 : Nat) : Int))] : List (List UInt8))) ++ List.flatMap dataTs a6), ())) := flat_loop (f := f22_L8) dataTs a6 (fun d i => ((a6, ((List.length a6 : Nat) : Int), ((i : Nat) : Int), ()), ((a0, a1, a2, a3, a4, a5, a6, a7, a8, ()), d, ()))) (fun d => ((), ((a0, a1, a2, a3, a4, a5, a6, a7, a8, ()), d, ()))) 1000000
      (fun i hi d hd => by
        have h1 := wrap_succ (i := i) (by omega)
        have e1 := wordsTV_in (show List.length a6[i].2.1 ≤ 100 from by have := k6 _ (List.getElem_mem hi); omega)
        have e6 : List.length (dataTs a6[i]) = 2 := rfl
        rw [e6] at hd
        all_goals (try simp only [List.length_append, List.length_cons, List.length_nil] at hd)
        all_goals (simp only [f22_L8, Out.eval, lt_t hi, ge0, nth_get hi, Option.bind_some, cond_true, cond_false, h1, e1])
        all_goals (repeat rw [cond_lim (by (try simp only [List.length_append, List.length_cons, List.length_nil]); omega)])
        all_goals (try simp only [List.append_assoc])
        all_goals (try rfl))
      (fun d => by simp [f22_L8, Out.eval]) l6 (s4 ++ ([(varV ((List.length a6 : Nat) : Int))] : List (List UInt8))) (by (try simp only [List.length_append, List.length_cons, List.length_nil]); omega)
  refine (eval_get_some h5).trans ?_
  dsimp only
  generalize es5 : ((s4 ++ ([(varV ((List.length a6 : Nat) : Int))] : List (List UInt8))) ++ List.flatMap dataTs a6) = s5
  have ls5 : List.length s5 ≤ 72 := by rw [← es5]; simp only [List.length_append, List.length_cons, List.length_nil]; omega
  have e1 : plainP a7 0 = some (plainT 0 a7) := if_pos (by omega)
  have e2 := wordsTV_in (show List.length a8 ≤ 100 by omega)
  refine (eval_get_some e1).trans ((eval_get_some e2).trans ?_)
  refine (eval_ite_t (lim_t (by (try simp only [List.length_append, List.length_cons, List.length_nil]); omega))).trans ?_
  have e : (s5 ++ [plainT 0 a7, wordsS a8]).flatten = unixT a0 a1 a2 a3 a4 a5 a6 a7 a8 := by
    subst es5 es4 es3 es2 es1 et
    unfold unixT manyT
    have f1 : (List.flatMap (fun x => [progT x]) a2).flatten = a2.flatMap progT := by rw [flat_flat]; simp
    have f2 : (List.flatMap procTs a3).flatten = a3.flatMap procT := by rw [flat_flat]; simp only [procTs_flat]
    have f3 : (List.flatMap openTs a4).flatten = a4.flatMap openT := by rw [flat_flat]; simp only [openTs_flat]
    have f4 : (List.flatMap dataTs a5).flatten = a5.flatMap dataT := by rw [flat_flat]; simp only [dataTs_flat]
    have f5 : (List.flatMap dataTs a6).flatten = a6.flatMap dataT := by rw [flat_flat]; simp only [dataTs_flat]
    simp only [List.flatten_append, f1, f2, f3, f4, f5, List.flatten_cons, List.flatten_nil, List.flatMap_cons, List.flatMap_nil, List.append_assoc, List.cons_append, List.nil_append, List.append_nil]
  have e3 : joinP (s5 ++ [plainT 0 a7, wordsS a8]) [] = some (unixT a0 a1 a2 a3 a4 a5 a6 a7 a8) := by
    rw [← e]
    exact join_in (by (try simp only [List.length_append, List.length_cons, List.length_nil]); omega) (by rw [e]; omega)
  exact (eval_get_some e3).trans rfl
end Go.Proofs.YtcpjdjgipmjhdaaGreat.Dm
