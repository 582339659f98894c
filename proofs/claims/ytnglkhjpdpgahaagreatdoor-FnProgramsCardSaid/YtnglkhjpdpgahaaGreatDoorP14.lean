/- Functions of the program, and what they compute. -/
import Derived.Test.YtnglkhjpdpgahaaGreatDoorP13
namespace Go.Proofs.YtnglkhjpdpgahaaGreatDoor.Dm
open Go Go.ChangeShapes Go.WideShapes Go.ChangeAt Go.RowKit
def insT (x : InsD) : Str := varV x.1 ++ (varV x.2.1 ++ (varV (if x.1 = 1 then zigV x.2.2.1 else x.2.2.1) ++ varV x.2.2.2.1))
def progT (l : List InsD) : Str := varV ((l.length : Nat) : Int) ++ l.flatMap insT
theorem insT_len (x : InsD) : (insT x).length ≤ 28 := by
  have h1 := varV_len x.1
  have h2 := varV_len x.2.1
  have h3 := varV_len (if x.1 = 1 then zigV x.2.2.1 else x.2.2.1)
  have h4 := varV_len x.2.2.2.1
  unfold insT
  simp only [List.length_append]
  omega
theorem cond_lim {α : Type} {n : Nat} {a b : α} (h : n ≤ 1000000) : (bif decide (n ≤ LIM) then a else b) = a := by rw [decide_eq_true (by rw [LIM_eq]; omega)]; rfl
theorem prog_len {l : List InsD} (h : progOkV l = true) : l.length ≤ 40 := of_decide_eq_true (Bool.and_eq_true_iff.1 h).1
theorem insT_f {x : InsD} (h : (x.1 == (1 : Int)) = false) : insT x = varV x.1 ++ (varV x.2.1 ++ (varV x.2.2.1 ++ varV x.2.2.2.1)) := by
  unfold insT
  rw [if_neg (by simpa using h)]
theorem insT_w {x : InsD} (h : (x.1 == (1 : Int)) = true) : insT x = varV x.1 ++ (varV x.2.1 ++ (wordVarV x.2.2.1 ++ varV x.2.2.2.1)) := by
  unfold insT
  rw [if_pos (by simpa using h)]; rfl
def showProgV (l : List InsD) : Str := if progOkV l = true then progT l else []
abbrev f7_S0 := (List UInt8 × List ((Int × Int × Int × Int × Unit)) × Int × Int × Unit) × (Unit)
def f7_L0 : f7_S0 → Out (Round f7_S0 ((List UInt8 × Unit) × (Unit)) Empty)
| ((p0, p1, p2, p3, _), _) =>
 .ite (decide (p3 < p2))
 (.ite (decide (0 ≤ p3))
 (.get (nth p1 (Int.toNat p3)) fun y1 =>
 .ite (decide (List.length (varV y1.1) + List.length (varV y1.2.1) ≤ LIM))
 (.ite (decide (List.length p0 + List.length ((varV y1.1) ++ (varV y1.2.1)) ≤ LIM))
 (.ite ((y1.1 == (1 : Int)))
 (.ite (decide (List.length (p0 ++ ((varV y1.1) ++ (varV y1.2.1))) + List.length (wordVarV y1.2.2.1) ≤ LIM))
 (.ite (decide (List.length ((p0 ++ ((varV y1.1) ++ (varV y1.2.1))) ++ (wordVarV y1.2.2.1)) + List.length (varV y1.2.2.2.1) ≤ LIM))
 (.ret (.again (((((p0 ++ ((varV y1.1) ++ (varV y1.2.1))) ++ (wordVarV y1.2.2.1)) ++ (varV y1.2.2.2.1)), p1, p2, (IntKind.i64.wrap (p3 + (1 : Int))), ()), ())))
 .fail)
 .fail)
 (.ite (decide (List.length (p0 ++ ((varV y1.1) ++ (varV y1.2.1))) + List.length (varV y1.2.2.1) ≤ LIM))
 (.ite (decide (List.length ((p0 ++ ((varV y1.1) ++ (varV y1.2.1))) ++ (varV y1.2.2.1)) + List.length (varV y1.2.2.2.1) ≤ LIM))
 (.ret (.again (((((p0 ++ ((varV y1.1) ++ (varV y1.2.1))) ++ (varV y1.2.2.1)) ++ (varV y1.2.2.2.1)), p1, p2, (IntKind.i64.wrap (p3 + (1 : Int))), ()), ())))
 .fail)
 .fail))
 .fail)
 .fail)
 .fail)
 (.ret (.out ((p0, ()), ())))
def f7_tree (a0 : List (Int × Int × Int × Int × Unit)) : Out (((List UInt8 × Unit) × Unit) × (Unit × Unit)) :=
 .ite (!(progOkV a0))
 (.ret (((([] : List UInt8), ()), ()), ((), ())))
 (.get (iter1 f7_L0 FUEL (((varV ((List.length a0 : Nat) : Int)), a0, ((List.length a0 : Nat) : Int), (0 : Int), ()), ())) fun y1 =>
 .ret (((y1.1.1, ()), ()), ((), ())))
def f7_A : Nat → Option LoopAnn := fun n => annOf [(0, { head := { t := [.dead, .dead, .dead, .s] ++ dd 8 ++ [.ro tyN (some 0), .i .i64, .i .i64] ++ dd 32, v := [] }, out := { t := [.dead, .dead, .dead, .s] ++ dd 43, v := [] }, ret := none })] n
def k7 : Con := { f := 7, lend := true, its := [⟨false, false, [.ro tyN]⟩], lay := [none], rs := [⟨false, false, [.s]⟩], F := fun x => .ret ((((showProgV x.1.1), ()), ()), ((), ())) }
theorem f7_eq (x : itemsD k7.its) : bo [k16, k17, k18] f7_A Tryz.f7 k7 [.tmp 2] x = f7_tree x.1.1 := by kernel_rfl
theorem f7_ok (hr : ∀ x : (List (Int × Int × Int × Int × Unit) × Unit) × Unit, itemsWF k7.its x → (f7_tree x.1.1).eval = (k7.F x).eval) : k7.Ok Tryz.prog := con_fn [k16, k17, k18] ⟨k16_ok, k17_ok, k18_ok, trivial⟩ f7_eq fun x hw _ hy => (hr x hw).trans hy
theorem k7_ok : k7.Ok Tryz.prog := by
  refine f7_ok fun x hw => ?_
  obtain ⟨⟨a0, _⟩, _⟩ := x
  have l0 : List.length a0 ≤ BIG := hw.1.1.1
  show (f7_tree a0).eval = some ((((showProgV a0), ()), ()), ((), ()))
  unfold showProgV
  unfold f7_tree
  by_cases hp : progOkV a0 = true
  case neg => rw [eval_ite_t (by simpa using hp), if_neg hp]; rfl
  rw [eval_ite_f (by simp [hp]), if_pos hp]
  have hlen := prog_len hp
  have hb := flatMap_len insT 28 a0 fun x _ => insT_len x
  have v0 := varV_len ((List.length a0 : Nat) : Int)
  have h : iter1 f7_L0 FUEL (((varV ((List.length a0 : Nat) : Int)), a0, ((List.length a0 : Nat) : Int), (0 : Int), ()), ()) = some ((((varV ((List.length a0 : Nat) : Int)) ++ List.flatMap insT a0), ()), ()) := flat_loop (f := f7_L0) insT a0 (fun d i => ((d, a0, ((List.length a0 : Nat) : Int), ((i : Nat) : Int), ()), ())) (fun d => ((d, ()), ())) 1000000
      (fun i hi d hd => by
        have h1 := wrap_succ (i := i) (by omega)
        cases q : (a0[i].1 == (1 : Int))
        case' false => rw [insT_f q] at hd ⊢
        case' true => rw [insT_w q] at hd ⊢
        all_goals (try simp only [List.length_append, List.length_cons, List.length_nil] at hd)
        all_goals (simp only [f7_L0, Out.eval, lt_t hi, ge0, nth_get hi, Option.bind_some, cond_true, cond_false, h1, q])
        all_goals (repeat rw [cond_lim (by (try simp only [List.length_append, List.length_cons, List.length_nil]); omega)])
        all_goals (try simp only [List.append_assoc])
        all_goals (try rfl))
      (fun d => by simp [f7_L0, Out.eval]) l0 (varV ((List.length a0 : Nat) : Int)) (by omega)
  exact (eval_get_some h).trans rfl
theorem in_nat {n : Int} {hi : Int} (h0 : 0 ≤ n) (h1 : n ≤ hi) (hh : hi ≤ 2000000) : varV n = varB n.toNat ∧ n.toNat < 562949953421312 ∧ ((n.toNat : Nat) : Int) = n := by
  obtain ⟨k, rfl⟩ := Int.eq_ofNat_of_zero_le h0
  refine ⟨?_, by omega, by omega⟩
  rw [varV_nat (by omega)]; rfl
theorem ins_nums {x : InsD} (h : insOk1 x = true) (r : Str) : numsP 4 (insT x ++ r) = some ([x.1, x.2.1, if x.1 = 1 then zigV x.2.2.1 else x.2.2.1, x.2.2.2.1], (insT x).length) ∧ insL [x.1, x.2.1, if x.1 = 1 then zigV x.2.2.1 else x.2.2.1, x.2.2.2.1] = x := by
  obtain ⟨o, a, b, c, u⟩ := x
  have h : insOkV o a b c = true := h
  have hin : ∀ {n lo hi : Int}, inV n lo hi = true → lo ≤ n ∧ n ≤ hi := fun q => by
    unfold inV at q
    simpa using q
  have hreg : ∀ {n : Int}, regV n = true → 0 ≤ n ∧ n ≤ 3 := fun q => by
    unfold regV at q
    simp only [Bool.and_eq_true, decide_eq_true_eq] at q
    omega
  have z : ∀ {n : Int}, (n == 0) = true → n = 0 := fun q => by simpa using q
  have key : (0 ≤ o ∧ o ≤ 2000000) ∧ (0 ≤ a ∧ a ≤ 2000000) ∧ (0 ≤ (if o = 1 then zigV b else b) ∧ (if o = 1 then zigV b else b) ≤ 2000000) ∧ (0 ≤ c ∧ c ≤ 2000000) ∧ (o = 1 → inV b (-1000000) 1000000 = true) := by
    have ho := (ins_in (x := (o, a, b, c, u)) h).1
    simp only at ho
    have cases8 : o = 1 ∨ o = 2 ∨ o = 3 ∨ o = 4 ∨ o = 5 ∨ o = 6 ∨ o = 7 ∨ o = 8 := by omega
    rcases cases8 with rfl | rfl | rfl | rfl | rfl | rfl | rfl | rfl <;> simp only [insOkV, Int.reduceBEq, beq_self_eq_true, cond_true, cond_false, Bool.and_eq_true] at h <;> obtain ⟨q1, q2, q3⟩ := h
    · have h1 := hreg q1; have h2 := zigV_bounds q2; have h3 := z q3; rw [if_pos rfl]; exact ⟨by omega, by omega, h2, by omega, fun _ => q2⟩
    · have h1 := hreg q1; have h2 := hreg q2; have h3 := hreg q3; rw [if_neg (by decide)]; exact ⟨by omega, by omega, by omega, by omega, fun e => absurd e (by decide)⟩
    · have h1 := hreg q1; have h2 := hreg q2; have h3 := hreg q3; rw [if_neg (by decide)]; exact ⟨by omega, by omega, by omega, by omega, fun e => absurd e (by decide)⟩
    · have h1 := hreg q1; have h2 := hreg q2; have h3 := z q3; rw [if_neg (by decide)]; exact ⟨by omega, by omega, by omega, by omega, fun e => absurd e (by decide)⟩
    · have h1 := hreg q1; have h2 := hreg q2; have h3 := z q3; rw [if_neg (by decide)]; exact ⟨by omega, by omega, by omega, by omega, fun e => absurd e (by decide)⟩
    · have h1 := hin q1; have h2 := z q2; have h3 := z q3; rw [if_neg (by decide)]; exact ⟨by omega, by omega, by omega, by omega, fun e => absurd e (by decide)⟩
    · have h1 := hreg q1; have h2 := hin q2; have h3 := z q3; rw [if_neg (by decide)]; exact ⟨by omega, by omega, by omega, by omega, fun e => absurd e (by decide)⟩
    · have h1 := hin q1; have h2 := z q2; have h3 := z q3; rw [if_neg (by decide)]; exact ⟨by omega, by omega, by omega, by omega, fun e => absurd e (by decide)⟩
  obtain ⟨k1, k2, k3, k4, k5⟩ := key
  constructor
  · obtain ⟨v1, w1, u1⟩ := in_nat k1.1 k1.2 (Int.le_refl _)
    obtain ⟨v2, w2, u2⟩ := in_nat k2.1 k2.2 (Int.le_refl _)
    obtain ⟨v3, w3, u3⟩ := in_nat k3.1 k3.2 (Int.le_refl _)
    obtain ⟨v4, w4, u4⟩ := in_nat k4.1 k4.2 (Int.le_refl _)
    have e : insT (o, a, b, c, u) = [o.toNat, a.toNat, (if o = 1 then zigV b else b).toNat, c.toNat].flatMap varB := by
      unfold insT
      simp only [v1, v2, v3, v4, List.flatMap_cons, List.flatMap_nil, List.append_nil]
    have := numsP_cat [o.toNat, a.toNat, (if o = 1 then zigV b else b).toNat, c.toNat] r (fun x hx => by
      simp only [List.mem_cons, List.not_mem_nil, or_false] at hx
      rcases hx with rfl | rfl | rfl | rfl <;> assumption)
    rw [← e] at this
    refine Eq.trans this ?_
    simp only [List.map_cons, List.map_nil, u1, u2, u3, u4]
  · show insD o a (if o = 1 then zigV b else b) c = _
    unfold insD
    by_cases h1 : o = 1
    · subst h1
      have e : (bif ((1 : Int) == 1) then zagV (zigV b) else zigV b) = zagV (zigV b) := rfl
      rw [if_pos rfl, e, zag_zig (k5 rfl)]
    · rw [if_neg h1, show (o == (1 : Int)) = false by simpa using h1]; rfl
theorem insP_text : ∀ (p : List InsD) (r : Str), (∀ x ∈ p, insOk1 x = true) → insP p.length (p.flatMap insT ++ r) = some (p, (p.flatMap insT).length)
  | [], r, _ => rfl
  | x :: p, r, h => by
    have hx := ins_nums (h x (by simp)) (p.flatMap insT ++ r)
    have ih := insP_text p r fun y hy => h y (by simp [hy])
    rw [List.length_cons, insP, List.flatMap_cons, List.append_assoc, hx.1]
    simp only
    rw [List.drop_left' rfl, ih]
    simp only
    rw [hx.2, List.length_append]
theorem read_show {p : List InsD} (h : progOkV p = true) : readProgV (progT p) = (p, true) := by
  obtain ⟨hl, hok⟩ := prog_parts h
  have hn : p.length < 562949953421312 := by omega
  have hp : 0 < (varB p.length).length := List.length_pos_iff.2 (varB_ne _)
  have e : progT p = varB p.length ++ p.flatMap insT := by unfold progT; rw [varV_nat hn]
  have hi := insP_text p [] hok
  rw [List.append_nil] at hi
  unfold readProgV progP
  rw [e, rvI_cat hn]
  simp only
  rw [rv_take hn, Nat.sub_add_cancel hp, List.drop_left' rfl, if_neg (by omega), hi]
  simp only
  rw [if_pos h]
  simp only
  rw [if_pos (by rw [List.length_append])]
theorem read_nil : readProgV [] = ([], false) := by decide
theorem ins_ext {x y : InsD} (h1 : x.1 = y.1) (h2 : x.2.1 = y.2.1) (h3 : x.2.2.1 = y.2.2.1) (h4 : x.2.2.2.1 = y.2.2.2.1) : x = y := by
  obtain ⟨a, b, c, d, _⟩ := x
  obtain ⟨a', b', c', d', _⟩ := y
  simp only at h1 h2 h3 h4
  subst h1 h2 h3 h4; rfl
abbrev f11_S0 := (List ((Int × Int × Int × Int × Unit)) × List ((Int × Int × Int × Int × Unit)) × Int × Unit) × (Unit)
def f11_L0 : f11_S0 → Out (Round f11_S0 ((Unit) × (Unit)) ((Bool × Unit) × (Unit)))
| ((p0, p1, p2, _), _) =>
 .ite (decide (p2 < ((List.length p0 : Nat) : Int)))
 (.ite (decide (0 ≤ p2))
 (.get (nth p0 (Int.toNat p2)) fun y1 =>
 .ite (decide (0 ≤ p2))
 (.get (nth p1 (Int.toNat p2)) fun y2 =>
 .ite (!((y1.1 == y2.1) && ((y1.2.1 == y2.2.1) && ((y1.2.2.1 == y2.2.2.1) && ((y1.2.2.2.1 == y2.2.2.2.1) && true)))))
 (.ret (.ret ((false, ()), ())))
 (.ret (.again ((p0, p1, (IntKind.i64.wrap (p2 + (1 : Int))), ()), ()))))
 .fail)
 .fail)
 (.ret (.out ((), ())))
def f11_tree (a0 : List (Int × Int × Int × Int × Unit)) (a1 : List (Int × Int × Int × Int × Unit)) : Out (((Bool × Unit) × Unit) × (Unit × Unit × Unit)) :=
 .ite ((((List.length a0 : Nat) : Int) != ((List.length a1 : Nat) : Int)))
 (.ret (((false, ()), ()), ((), (), ())))
 (.get (iter f11_L0 FUEL ((a0, a1, (0 : Int), ()), ())) fun y1 => .alt y1 (fun y2 =>
 .ret (((true, ()), ()), ((), (), ()))) (fun y3 =>
 .ret (((y3.1.1, ()), ()), ((), (), ()))))
def f11_A : Nat → Option LoopAnn := fun n => annOf [(0, { head := { t := [.ro tyN (some 0), .ro tyN (some 1), .dead, .dead, .dead, .i .i64] ++ dd 20, v := [] }, out := { t := dd 26, v := [] }, ret := some { t := dd 4 ++ [.b] ++ dd 21, v := [] } })] n
def k11 : Con := { f := 11, lend := true, its := [⟨false, false, [.ro tyN]⟩, ⟨false, false, [.ro tyN]⟩], lay := [none, none], rs := [⟨false, false, [.b]⟩], F := fun x => .ret ((((eqInssV x.1.1 x.2.1.1), ()), ()), ((), (), ())) }
theorem f11_eq (x : itemsD k11.its) : bo [] f11_A Tryz.f11 k11 [.tmp 4] x = f11_tree x.1.1 x.2.1.1 := by kernel_rfl
theorem f11_ok (hr : ∀ x : (List (Int × Int × Int × Int × Unit) × Unit) × (List (Int × Int × Int × Int × Unit) × Unit) × Unit, itemsWF k11.its x → (f11_tree x.1.1 x.2.1.1).eval = (k11.F x).eval) : k11.Ok Tryz.prog := con_fn [] trivial f11_eq fun x hw _ hy => (hr x hw).trans hy
theorem k11_ok : k11.Ok Tryz.prog := by
  refine f11_ok fun x hw => ?_
  obtain ⟨⟨a0, _⟩, ⟨a1, _⟩, _⟩ := x
  have l0 : List.length a0 ≤ BIG := hw.1.1.1
  have l1 : List.length a1 ≤ BIG := hw.2.1.1.1
  show (f11_tree a0 a1).eval = some ((((eqInssV a0 a1), ()), ()), ((), (), ()))
  unfold f11_tree
  have ha : a0.length ≤ BIG := by have := hw.1.1.1; exact this
  by_cases hl : a0.length = a1.length
  · rw [eval_ite_f (len_eq hl)]
    have e : ∀ x y : InsD, ((x.1 == y.1) && ((x.2.1 == y.2.1) && ((x.2.2.1 == y.2.2.1) && ((x.2.2.2.1 == y.2.2.2.1) && true)))) = decide (x = y) := by
      intro x y
      obtain ⟨a, b, c, d, _⟩ := x
      obtain ⟨a', b', c', d', _⟩ := y
      rw [Bool.eq_iff_iff]
      simp
    have := eq_loop (f := f11_L0) a0 a1 (fun i => ((a0, (a1, (((i : Nat) : Int), ()))), ())) (y := ((), ())) (z := ((false, ()), ())) hl ha
      (fun i hi hi' he => by
        have := wrap_succ (i := i) (by omega)
        simp [f11_L0, Out.eval, hi, hi', this, e]; simp [he])
      (fun i hi hi' he => by
        simp [f11_L0, Out.eval, hi, hi', cond_eq_ite]
        exact fun h1 h2 h3 h4 => he (ins_ext h1 h2 h3 h4))
      (by simp [f11_L0, Out.eval])
    refine (eval_get_some this).trans ?_
    unfold eqInssV
    by_cases hab : a0 = a1
    · simp only [if_pos hab, decide_eq_true hab]; rfl
    · simp only [if_neg hab, decide_eq_false hab]; rfl
  · rw [eval_ite_t (len_ne hl)]
    unfold eqInssV
    rw [decide_eq_false fun e => hl (by rw [e])]; rfl
end Go.Proofs.YtnglkhjpdpgahaaGreatDoor.Dm
