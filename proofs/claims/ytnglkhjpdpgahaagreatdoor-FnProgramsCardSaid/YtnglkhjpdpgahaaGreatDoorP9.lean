/- Functions of the program, and what they compute. -/
import Derived.Test.YtnglkhjpdpgahaaGreatDoorP8
namespace Go.Proofs.YtnglkhjpdpgahaaGreatDoor.Dm
open Go Go.ChangeShapes Go.WideShapes Go.ChangeAt Go.RowKit
abbrev f33_S0 := (Int × List UInt8 × Int × Unit) × ((Int × Int × Int × Int × Unit) × List (List UInt8) × List (Int) × Unit)
def f33_L0 : f33_S0 → Out (Round f33_S0 ((Int × Unit) × ((Int × Int × Int × Int × Unit) × List (Int) × Unit)) ((Bool × Unit) × ((Int × Int × Int × Int × Unit) × Unit)))
| ((p0, p1, p2, _), (p3, p4, p5, p6, _), p7, p8, _) =>
 .ite (decide (p2 < ((List.length p1 : Nat) : Int)))
 (.ite (decide (0 ≤ p2))
 (.get (nth p1 (Int.toNat p2)) fun y1 =>
 .ite ((((UInt8.toNat y1 : Nat) : Int) == (114 : Int)))
 (.ite (decide (0 ≤ (IntKind.i64.wrap ((1 : Int) + p2)) ∧ (IntKind.i64.wrap ((1 : Int) + p2)) < ((List.length p7 : Nat) : Int)))
 (.get (nth p7 (Int.toNat (IntKind.i64.wrap ((1 : Int) + p2)))) fun y2 =>
 .ite (decide (0 ≤ p2 ∧ p2 < ((List.length p8 : Nat) : Int)))
 (.get (nth p8 (Int.toNat p2)) fun y3 =>
 .ite (decide (0 ≤ p2 ∧ p2 < ((List.length (List.set p8 (Int.toNat p2) (l4RegV y2)) : Nat) : Int)))
 (.get (nth (List.set p8 (Int.toNat p2) (l4RegV y2)) (Int.toNat p2)) fun y4 =>
 .ite (decide (y4 < (0 : Int)))
 (.ret (.ret ((false, ()), (((0 : Int), (0 : Int), (0 : Int), (0 : Int), ()), ()))))
 (.ret (.again ((p0, p1, (IntKind.i64.wrap (p2 + (1 : Int))), ()), ((p3, p4, p5, p6, ()), p7, (List.set p8 (Int.toNat p2) (l4RegV y2)), ())))))
 .fail)
 .fail)
 .fail)
 (.ite (decide (0 ≤ (IntKind.i64.wrap ((1 : Int) + p2)) ∧ (IntKind.i64.wrap ((1 : Int) + p2)) < ((List.length p7 : Nat) : Int)))
 (.get (nth p7 (Int.toNat (IntKind.i64.wrap ((1 : Int) + p2)))) fun y5 =>
 .ite (!(readDecV2 y5).2)
 (.ret (.ret ((false, ()), (((0 : Int), (0 : Int), (0 : Int), (0 : Int), ()), ()))))
 (.ite (decide (0 ≤ p2 ∧ p2 < ((List.length p8 : Nat) : Int)))
 (.get (nth p8 (Int.toNat p2)) fun y6 =>
 .ret (.again ((p0, p1, (IntKind.i64.wrap (p2 + (1 : Int))), ()), ((p3, p4, p5, p6, ()), p7, (List.set p8 (Int.toNat p2) (readDecV2 y5).1), ()))))
 .fail))
 .fail))
 .fail)
 (.ret (.out ((p0, ()), ((p3, p4, p5, p6, ()), p8, ()))))
def f33_tree (a0 : List UInt8) : Out (((Int × Int × Int × Int × Unit) × (Bool × Unit) × Unit) × (Unit × Unit)) :=
 .get (wordsP a0) fun y1 =>
 .ite (decide (0 ≤ (0 : Int) ∧ (0 : Int) < ((List.length y1 : Nat) : Int)))
 (.get (nth y1 (Int.toNat (0 : Int))) fun y2 =>
 .ite ((((l4FormV y2).1 == (0 : Int))) == false)
 (.ite ((((List.length y1 : Nat) : Int) != (IntKind.i64.wrap (((List.length (l4FormV y2).2 : Nat) : Int) + (1 : Int)))))
 (.ret ((((0 : Int), (0 : Int), (0 : Int), (0 : Int), ()), (false, ()), ()), ((), ())))
 (.get (iter f33_L0 FUEL (((l4FormV y2).1, (l4FormV y2).2, (0 : Int), ()), (((0 : Int), (0 : Int), (0 : Int), (0 : Int), ()), y1, ([(0 : Int), (0 : Int), (0 : Int)] : List (Int)), ()))) fun y3 => .alt y3 (fun y4 =>
 .ite (decide (0 ≤ (0 : Int) ∧ (0 : Int) < ((List.length y4.2.2.1 : Nat) : Int)))
 (.get (nth y4.2.2.1 (Int.toNat (0 : Int))) fun y6 =>
 .ite (decide (0 ≤ (1 : Int) ∧ (1 : Int) < ((List.length y4.2.2.1 : Nat) : Int)))
 (.get (nth y4.2.2.1 (Int.toNat (1 : Int))) fun y7 =>
 .ite (decide (0 ≤ (2 : Int) ∧ (2 : Int) < ((List.length y4.2.2.1 : Nat) : Int)))
 (.get (nth y4.2.2.1 (Int.toNat (2 : Int))) fun y8 =>
 .ret (((y4.1.1, y6, y7, y8, ()), ((insOkV y4.1.1 y6 y7 y8), ()), ()), ((), ())))
 .fail)
 .fail)
 .fail) (fun y5 =>
 .ret (((y5.2.1.1, y5.2.1.2.1, y5.2.1.2.2.1, y5.2.1.2.2.2.1, ()), (y5.1.1, ()), ()), ((), ())))))
 (.ret ((((0 : Int), (0 : Int), (0 : Int), (0 : Int), ()), (false, ()), ()), ((), ()))))
 .fail
def f33_A : Nat → Option LoopAnn := fun n => annOf [(0, { head := { t := [.dead, .dead, .vptr 64000000 0, .dead, .srf 64000001, .i .i64, .s, .srf 64000002, .i .i64] ++ dd 79, v := [(64000000, .var [.i .i64, .i .i64, .i .i64, .i .i64]), (64000001, .arr .str), (64000002, .arr (.int .i64))] }, out := { t := [.dead, .dead, .vptr 64000256 0, .dead, .dead, .i .i64, .dead, .srf 64000257] ++ dd 80, v := [(64000256, .var [.i .i64, .i .i64, .i .i64, .i .i64]), (64000257, .arr (.int .i64))] }, ret := some { t := [.dead, .dead, .vptr 64000512 0, .b] ++ dd 84, v := [(64000512, .var [.i .i64, .i .i64, .i .i64, .i .i64])] } })] n
def k33 : Con := { f := 33, lend := true, its := [⟨false, false, [.s]⟩], lay := [none], rs := [⟨false, true, [.i .i64, .i .i64, .i .i64, .i .i64]⟩, ⟨false, false, [.b]⟩], F := fun x => .get (readInsP x.1.1) fun y => .ret (((y.1, y.2.1, y.2.2.1, y.2.2.2.1, ()), (y.2.2.2.2, ()), ()), ((), ())) }
theorem f33_eq (x : itemsD k33.its) : bo [k55, k51, k56, k57, k24] f33_A Tryz.f33 k33 [.cell 2 40, .tmp 3] x = f33_tree x.1.1 := by kernel_rfl
theorem f33_okp (hr : ∀ x : (List UInt8 × Unit) × Unit, itemsWF k33.its x → ∀ y, (k33.F x).eval = some y → (f33_tree x.1.1).eval = some y) : k33.Ok Tryz.prog := con_fn [k55, k51, k56, k57, k24] ⟨k55_ok, k51_ok, k56_ok, k57_ok, k24_ok, trivial⟩ f33_eq hr
theorem l4_loop (form : Str) (hf : form.length ≤ 3) (ws : List Str) (op : Int) (hws : ws.length = form.length + 1) : ∀ (m i N : Nat) (n : List Int), i + m = form.length → m < N → n.length = 3 →
    iter f33_L0 N ((op, form, ((i : Nat) : Int), ()), (((0 : Int), (0 : Int), (0 : Int), (0 : Int), ()), ws, n, ())) =
      some (match argsGo (form.drop i) (ws.drop (i + 1)) i n with
        | none => .inr ((false, ()), (((0 : Int), (0 : Int), (0 : Int), (0 : Int), ()), ()))
        | some n' => .inl ((op, ()), (((0 : Int), (0 : Int), (0 : Int), (0 : Int), ()), n', ()))) := by
  intro m
  induction m with
  | zero =>
    intro i N n hi hN hn
    rw [List.drop_eq_nil_of_le (by omega)]
    refine iter_out' ?_ hN
    unfold f33_L0
    rw [eval_ite_f (decide_eq_false (by omega))]; rfl
  | succ m ih =>
    intro i N n hi hN hn
    have hlt : i < form.length := by omega
    have hlw : i + 1 < ws.length := by omega
    have w1 := wrap_succ (i := i) (by unfold BIG; omega)
    have w2 : IntKind.i64.wrap ((1 : Int) + ((i : Nat) : Int)) = ((i + 1 : Nat) : Int) := by rw [Int.add_comm]; exact w1
    rw [List.drop_eq_getElem_cons hlt, List.drop_eq_getElem_cons hlw]
    unfold argsGo
    have hstep : (f33_L0 ((op, form, ((i : Nat) : Int), ()), (((0 : Int), (0 : Int), (0 : Int), (0 : Int), ()), ws, n, ()))).eval = some (match argV form[i] ws[i + 1] with
        | none => .ret ((false, ()), (((0 : Int), (0 : Int), (0 : Int), (0 : Int), ()), ()))
        | some x => .again ((op, form, ((i + 1 : Nat) : Int), ()), (((0 : Int), (0 : Int), (0 : Int), (0 : Int), ()), ws, n.set i x, ()))) := by
      unfold f33_L0 argV
      rw [eval_ite_t (decide_eq_true (by omega)), eval_ite_t (ge0 i)]
      refine (eval_get_some (nth_get hlt)).trans ?_
      rw [eq114]
      by_cases q : form[i] = 114
      · rw [eval_ite_t (decide_eq_true q), if_pos q, w2, eval_ite_t (inr_t hlw)]
        refine (eval_get_some (nth_get hlw)).trans ?_
        rw [eval_ite_t (inr_t (by omega))]
        refine (eval_get_some (x := n[i]) (nth_get (by omega))).trans ?_
        rw [eval_ite_t (inr_t (by rw [List.length_set]; omega))]
        refine (eval_get_some (x := l4RegV ws[i + 1]) (by rw [Int.toNat_natCast]; show (n.set i (l4RegV ws[i + 1]))[i]? = _; rw [List.getElem?_set_self (by omega)])).trans ?_
        unfold l4RegV
        cases hr : regOfV ws[i + 1] with
        | none => rfl
        | some x =>
          have hx : 0 ≤ x := by
            unfold regOfV at hr
            split at hr
            · split at hr
              · obtain rfl := Option.some.inj hr; omega
              · cases hr
            · cases hr
          rw [eval_ite_f (decide_eq_false (by dsimp only; omega)), Int.toNat_natCast, w1]; rfl
      · rw [eval_ite_f (decide_eq_false q), if_neg q, w2, eval_ite_t (inr_t hlw)]
        refine (eval_get_some (nth_get hlw)).trans ?_
        unfold readDecV2
        cases hr : readDecV ws[i + 1] with
        | none => rfl
        | some x =>
          refine (eval_ite_f (by rfl)).trans ?_
          rw [eval_ite_t (inr_t (by omega))]
          refine (eval_get_some (x := n[i]) (nth_get (by omega))).trans ?_
          rw [Int.toNat_natCast, w1]; rfl
    cases hx : argV form[i] ws[i + 1] with
    | none =>
      rw [hx] at hstep
      exact iter_ret' hstep (by omega)
    | some x =>
      rw [hx] at hstep
      obtain ⟨N, rfl⟩ : ∃ N', N = N' + 1 := ⟨N - 1, by omega⟩
      rw [iter_again hstep, ih (i + 1) N (n.set i x) (by omega) (by omega) (by rw [List.length_set]; exact hn)]
theorem head_zero {ws : List Str} (h : ws ≠ []) : ∃ w r, ws = w :: r := by
  cases ws with
  | nil => exact absurd rfl h
  | cons w r => exact ⟨w, r, rfl⟩
theorem insRV_no {l w : Str} {r : List Str} (h : splitOn 32 l = w :: r) (h0 : opOfV w = 0 ∨ (w :: r).length ≠ (formV (opOfV w)).length + 1) : insRV l = (0, 0, 0, 0, false) := by
  unfold insRV
  rw [h]
  exact if_pos h0
theorem insRV_yes {l w : Str} {r : List Str} (h : splitOn 32 l = w :: r) (h0 : ¬ (opOfV w = 0 ∨ (w :: r).length ≠ (formV (opOfV w)).length + 1)) : insRV l = match argsV (formV (opOfV w)) r with
    | none => (0, 0, 0, 0, false)
    | some n => (((opOfV w : Nat) : Int), n.getD 0 0, n.getD 1 0, n.getD 2 0, insOkV ((opOfV w : Nat) : Int) (n.getD 0 0) (n.getD 1 0) (n.getD 2 0)) := by
  unfold insRV
  rw [h]
  exact if_neg h0
theorem k33_ok : k33.Ok Tryz.prog := by
  refine f33_okp fun x hw y hy => ?_
  obtain ⟨⟨a0, _⟩, _⟩ := x
  change (Out.get (readInsP a0) fun y => Out.ret (((y.1, y.2.1, y.2.2.1, y.2.2.2.1, ()), (y.2.2.2.2, ()), ()), ((), ()))).eval = some y at hy
  show (f33_tree a0).eval = some y
  unfold readInsP at hy
  by_cases hl : List.length a0 ≤ 1000000
  case neg => rw [if_neg hl] at hy; exact nomatch hy
  rw [if_pos hl] at hy
  refine Eq.trans ?_ hy
  unfold f33_tree
  refine (eval_get_some (if_pos (by omega) : wordsP a0 = some (splitOn 32 a0))).trans ?_
  have hlen : (splitOn 32 a0).length ≤ 1000001 := by
    rw [splitOn_len]
    have := List.count_le_length (a := (32 : UInt8)) (l := a0)
    omega
  obtain ⟨w, r, hw'⟩ := head_zero (splitOn_ne 32 a0)
  rw [hw'] at hlen ⊢
  rw [eval_ite_t (decide_eq_true (by simp only [List.length_cons]; omega))]
  refine (eval_get_some (x := w) rfl).trans ?_
  simp only [l4FormV]
  have hop := op_le w
  have hf := form_len (opOfV w) (by omega)
  by_cases h0 : opOfV w = 0
  · rw [eval_ite_f (by rw [h0]; rfl), insRV_no hw' (.inl h0)]; rfl
  rw [eval_ite_t (by simp only [beq_eq_false_iff_ne, ne_eq, beq_iff_eq]; omega)]
  have w1 : IntKind.i64.wrap (((List.length (formV (opOfV w)) : Nat) : Int) + (1 : Int)) = (((formV (opOfV w)).length + 1 : Nat) : Int) := wrap_succ (by unfold BIG; omega)
  rw [w1]
  by_cases h1 : (w :: r).length = (formV (opOfV w)).length + 1
  case neg => rw [eval_ite_t (bne_iff_ne.2 (by omega)), insRV_no hw' (.inr h1)]; rfl
  rw [eval_ite_f (by rw [h1]; simp), insRV_yes hw' (by rintro (q | q) <;> contradiction)]
  have key := l4_loop (formV (opOfV w)) hf (w :: r) ((opOfV w : Nat) : Int) h1 (formV (opOfV w)).length 0 FUEL [0, 0, 0] (by omega) (Nat.lt_of_le_of_lt hf (by decide)) rfl
  refine (eval_get_some key).trans ?_
  rw [List.drop_zero, Nat.zero_add, List.drop_succ_cons, List.drop_zero, args_tail (by simpa using h1.symm) hf]
  cases hx : argsV (formV (opOfV w)) r with
  | none => exact eval_alt_r _
  | some l =>
    obtain ⟨a, b, c, e0, e1, e2, e3⟩ := pad_get (l := l) (by rw [args_len hx]; exact hf)
    refine (eval_alt_l _).trans ?_
    simp only [e0, e1, e2, e3]
    rfl
end Go.Proofs.YtnglkhjpdpgahaaGreatDoor.Dm
