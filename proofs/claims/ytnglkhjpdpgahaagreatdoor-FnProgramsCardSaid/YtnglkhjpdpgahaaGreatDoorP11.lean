/- Functions of the program, and what they compute. -/
import Derived.Test.YtnglkhjpdpgahaaGreatDoorP10
namespace Go.Proofs.YtnglkhjpdpgahaaGreatDoor.Dm
open Go Go.ChangeShapes Go.WideShapes Go.ChangeAt Go.RowKit
abbrev f20_S0 := (Int × (Nat × Nat) × Int × Int × Unit) × ((Int × Int × Int × Int × Unit) × List (Int) × List (List UInt8) × Unit)
def f20_L0 : f20_S0 → Out (Round f20_S0 ((Int × Unit) × ((Int × Int × Int × Int × Unit) × List (Int) × Unit)) ((Bool × Unit) × ((Int × Int × Int × Int × Unit) × Unit)))
| ((p0, (p1, p2), p3, p4, _), (p5, p6, p7, p8, _), p9, p10, _) =>
 .ite (decide (p4 < p3))
 (.ite (decide (0 ≤ p4 ∧ p4 < ((p2 : Nat) : Int)))
 (.get (nth p10 (p1 + Int.toNat p4)) fun y1 =>
 .get (opFormI p0) fun y2 =>
 .ite (decide (0 ≤ p4))
 (.get (nth y2 (Int.toNat p4)) fun y3 =>
 .ite ((((UInt8.toNat y3 : Nat) : Int) == (114 : Int)))
 (.ite (!(readRegV y1).2)
 (.ret (.ret ((false, ()), (((0 : Int), (0 : Int), (0 : Int), (0 : Int), ()), ()))))
 (.ite (decide (0 ≤ p4 ∧ p4 < ((List.length p9 : Nat) : Int)))
 (.get (nth p9 (Int.toNat p4)) fun y4 =>
 .ret (.again ((p0, (p1, p2), p3, (IntKind.i64.wrap (p4 + (1 : Int))), ()), ((p5, p6, p7, p8, ()), (List.set p9 (Int.toNat p4) (readRegV y1).1), p10, ()))))
 .fail))
 (.get (readDecP y1) fun y5 =>
 .ite (!y5.2)
 (.ret (.ret ((false, ()), (((0 : Int), (0 : Int), (0 : Int), (0 : Int), ()), ()))))
 (.ite (decide (0 ≤ p4 ∧ p4 < ((List.length p9 : Nat) : Int)))
 (.get (nth p9 (Int.toNat p4)) fun y6 =>
 .ret (.again ((p0, (p1, p2), p3, (IntKind.i64.wrap (p4 + (1 : Int))), ()), ((p5, p6, p7, p8, ()), (List.set p9 (Int.toNat p4) y5.1), p10, ()))))
 .fail)))
 .fail)
 .fail)
 (.ret (.out ((p0, ()), ((p5, p6, p7, p8, ()), p9, ()))))
def f20_tree (a0 : List UInt8) : Out (((Int × Int × Int × Int × Unit) × (Bool × Unit) × Unit) × (Unit × Unit)) :=
 .get (splitP a0 ([32] : List UInt8)) fun y1 =>
 .ite (decide (0 ≤ (0 : Int) ∧ (0 : Int) < ((List.length y1 : Nat) : Int)))
 (.get (nth y1 (Int.toNat (0 : Int))) fun y2 =>
 .ite ((decide ((indexStrV opNamesL y2) < (1 : Int))) == false)
 (.get (opFormI (indexStrV opNamesL y2)) fun y3 =>
 .ite ((((List.length y1 : Nat) : Int) != (IntKind.i64.wrap (((List.length y3 : Nat) : Int) + (1 : Int)))))
 (.ret ((((0 : Int), (0 : Int), (0 : Int), (0 : Int), ()), (false, ()), ()), ((), ())))
 (.ite (decide (0 ≤ (3 : Int) ∧ (3 : Int) ≤ (3 : Int) ∧ (3 : Int) ≤ (LIM : Int)))
 (.ite (decide (0 ≤ (1 : Int) ∧ (1 : Int) ≤ ((List.length y1 : Nat) : Int) ∧ ((List.length y1 : Nat) : Int) ≤ ((List.length y1 : Nat) : Int)))
 (.get (iter f20_L0 FUEL (((indexStrV opNamesL y2), ((0 + Int.toNat (1 : Int)), (Int.toNat ((List.length y1 : Nat) : Int) - Int.toNat (1 : Int))), (((Int.toNat ((List.length y1 : Nat) : Int) - Int.toNat (1 : Int)) : Nat) : Int), (0 : Int), ()), (((0 : Int), (0 : Int), (0 : Int), (0 : Int), ()), (List.replicate (Int.toNat (3 : Int)) (0 : Int)), y1, ()))) fun y4 => .alt y4 (fun y5 =>
 .ite (decide (0 ≤ (0 : Int) ∧ (0 : Int) < ((List.length y5.2.2.1 : Nat) : Int)))
 (.get (nth y5.2.2.1 (Int.toNat (0 : Int))) fun y7 =>
 .ite (decide (0 ≤ (1 : Int) ∧ (1 : Int) < ((List.length y5.2.2.1 : Nat) : Int)))
 (.get (nth y5.2.2.1 (Int.toNat (1 : Int))) fun y8 =>
 .ite (decide (0 ≤ (2 : Int) ∧ (2 : Int) < ((List.length y5.2.2.1 : Nat) : Int)))
 (.get (nth y5.2.2.1 (Int.toNat (2 : Int))) fun y9 =>
 .ret (((y5.1.1, y7, y8, y9, ()), ((insOkV y5.1.1 y7 y8 y9), ()), ()), ((), ())))
 .fail)
 .fail)
 .fail) (fun y6 =>
 .ret (((y6.2.1.1, y6.2.1.2.1, y6.2.1.2.2.1, y6.2.1.2.2.2.1, ()), (y6.1.1, ()), ()), ((), ()))))
 .fail)
 .fail))
 (.ret ((((0 : Int), (0 : Int), (0 : Int), (0 : Int), ()), (false, ()), ()), ((), ()))))
 .fail
def f20_A : Nat → Option LoopAnn := fun n => annOf [(0, { head := { t := [.dead, .dead, .vptr 64000000 0, .dead, .dead, .i .i64, .srf 64000001] ++ dd 26 ++ [.srv 64000002, .i .i64, .i .i64] ++ dd 41, v := [(64000000, .var [.i .i64, .i .i64, .i .i64, .i .i64]), (64000001, .arr (.int .i64)), (64000002, .arr .str)] }, out := { t := [.dead, .dead, .vptr 64000256 0, .dead, .dead, .i .i64, .srf 64000257] ++ dd 70, v := [(64000256, .var [.i .i64, .i .i64, .i .i64, .i .i64]), (64000257, .arr (.int .i64))] }, ret := some { t := [.dead, .dead, .vptr 64000512 0, .b] ++ dd 73, v := [(64000512, .var [.i .i64, .i .i64, .i .i64, .i .i64])] } })] n
def k20 : Con := { f := 20, lend := true, its := [⟨false, false, [.s]⟩], lay := [none], rs := [⟨false, true, [.i .i64, .i .i64, .i .i64, .i .i64]⟩, ⟨false, false, [.b]⟩], F := fun x => .get (readInsP x.1.1) fun y => .ret (((y.1, y.2.1, y.2.2.1, y.2.2.2.1, ()), (y.2.2.2.2, ()), ()), ((), ())) }
theorem f20_eq (x : itemsD k20.its) : bo [k43, k21, k44, k22, k45, k46, k41] f20_A Tryz.f20 k20 [.cell 2 40, .tmp 3] x = f20_tree x.1.1 := by kernel_rfl
theorem f20_okp (hr : ∀ x : (List UInt8 × Unit) × Unit, itemsWF k20.its x → ∀ y, (k20.F x).eval = some y → (f20_tree x.1.1).eval = some y) : k20.Ok Tryz.prog := con_fn [k43, k21, k44, k22, k45, k46, k41] ⟨k43_ok, k21_ok, k44_ok, k22_ok, k45_ok, k46_ok, k41_ok, trivial⟩ f20_eq hr
theorem form_at {k : Nat} (h : k ≤ 8) : opFormI ((k : Nat) : Int) = some (formV k) := by
  unfold opFormI
  rw [if_pos (by omega), Int.toNat_natCast]
theorem ri_loop (k : Nat) (hk : k ≤ 8) (ws : List Str) (hws : ws.length = (formV k).length + 1) (hb : ∀ w ∈ ws, w.length ≤ 1000000) : ∀ (m i N : Nat) (n : List Int), i + m = (formV k).length → m < N → n.length = 3 →
    iter f20_L0 N ((((k : Nat) : Int), (1, ws.length - 1), (((ws.length - 1 : Nat)) : Int), ((i : Nat) : Int), ()), (((0 : Int), (0 : Int), (0 : Int), (0 : Int), ()), n, ws, ())) =
      some (match argsGo ((formV k).drop i) (ws.drop (i + 1)) i n with
        | none => .inr ((false, ()), (((0 : Int), (0 : Int), (0 : Int), (0 : Int), ()), ()))
        | some n' => .inl ((((k : Nat) : Int), ()), (((0 : Int), (0 : Int), (0 : Int), (0 : Int), ()), n', ()))) := by
  have hf := form_len k (by omega)
  intro m
  induction m with
  | zero =>
    intro i N n hi hN hn
    rw [List.drop_eq_nil_of_le (by omega)]
    refine iter_out' ?_ hN
    unfold f20_L0
    rw [eval_ite_f (decide_eq_false (by omega))]; rfl
  | succ m ih =>
    intro i N n hi hN hn
    have hlt : i < (formV k).length := by omega
    have hlw : i + 1 < ws.length := by omega
    have w1 := wrap_succ (i := i) (by unfold BIG; omega)
    rw [List.drop_eq_getElem_cons hlt, List.drop_eq_getElem_cons hlw]
    unfold argsGo
    have hstep : (f20_L0 ((((k : Nat) : Int), (1, ws.length - 1), (((ws.length - 1 : Nat)) : Int), ((i : Nat) : Int), ()), (((0 : Int), (0 : Int), (0 : Int), (0 : Int), ()), n, ws, ()))).eval = some (match argV (formV k)[i] ws[i + 1] with
        | none => .ret ((false, ()), (((0 : Int), (0 : Int), (0 : Int), (0 : Int), ()), ()))
        | some x => .again ((((k : Nat) : Int), (1, ws.length - 1), (((ws.length - 1 : Nat)) : Int), ((i + 1 : Nat) : Int), ()), (((0 : Int), (0 : Int), (0 : Int), (0 : Int), ()), n.set i x, ws, ()))) := by
      unfold f20_L0 argV
      rw [eval_ite_t (decide_eq_true (by omega)), eval_ite_t (inr_t (by omega))]
      refine (eval_get_some (x := ws[i + 1]) (by rw [Int.toNat_natCast, Nat.add_comm]; exact List.getElem?_eq_getElem hlw)).trans ((eval_get_some (form_at hk)).trans ?_)
      rw [eval_ite_t (ge0 i)]
      refine (eval_get_some (nth_get hlt)).trans ?_
      rw [eq114]
      by_cases q : (formV k)[i] = 114
      · rw [eval_ite_t (decide_eq_true q), if_pos q]
        unfold readRegV
        cases hr : regOfV ws[i + 1] with
        | none => rfl
        | some x =>
          refine (eval_ite_f (by rfl)).trans ?_
          rw [eval_ite_t (inr_t (by omega))]
          refine (eval_get_some (x := n[i]) (nth_get (by omega))).trans ?_
          rw [Int.toNat_natCast, w1]; rfl
      · rw [eval_ite_f (decide_eq_false q), if_neg q]
        refine (eval_get_some (if_pos (hb _ (List.getElem_mem hlw)) : readDecP ws[i + 1] = some (readDecV2 ws[i + 1]))).trans ?_
        unfold readDecV2
        cases hr : readDecV ws[i + 1] with
        | none => rfl
        | some x =>
          refine (eval_ite_f (by rfl)).trans ?_
          rw [eval_ite_t (inr_t (by omega))]
          refine (eval_get_some (x := n[i]) (nth_get (by omega))).trans ?_
          rw [Int.toNat_natCast, w1]; rfl
    cases hx : argV (formV k)[i] ws[i + 1] with
    | none =>
      rw [hx] at hstep
      exact iter_ret' hstep (by omega)
    | some x =>
      rw [hx] at hstep
      obtain ⟨N, rfl⟩ : ∃ N', N = N' + 1 := ⟨N - 1, by omega⟩
      rw [iter_again hstep, ih (i + 1) N (n.set i x) (by omega) (by omega) (by rw [List.length_set]; exact hn)]
theorem k20_ok : k20.Ok Tryz.prog := by
  refine f20_okp fun x hw y hy => ?_
  obtain ⟨⟨a0, _⟩, _⟩ := x
  change (Out.get (readInsP a0) fun y => Out.ret (((y.1, y.2.1, y.2.2.1, y.2.2.2.1, ()), (y.2.2.2.2, ()), ()), ((), ()))).eval = some y at hy
  show (f20_tree a0).eval = some y
  unfold readInsP at hy
  by_cases hl : List.length a0 ≤ 1000000
  case neg => rw [if_neg hl] at hy; exact nomatch hy
  rw [if_pos hl] at hy
  refine Eq.trans ?_ hy
  unfold f20_tree
  refine (eval_get_some (splitP_in (by omega))).trans ?_
  have hlen : (splitOn 32 a0).length ≤ 1000001 := by
    rw [splitOn_len]
    have := List.count_le_length (a := (32 : UInt8)) (l := a0)
    omega
  have hmem : ∀ x ∈ splitOn 32 a0, x.length ≤ 1000000 := fun x hx => Nat.le_trans (split_mem hx) hl
  obtain ⟨w, r, hw'⟩ := head_zero (splitOn_ne 32 a0)
  rw [hw'] at hlen hmem ⊢
  rw [eval_ite_t (decide_eq_true (by simp only [List.length_cons]; omega))]
  refine (eval_get_some (x := w) rfl).trans ?_
  have hop := op_le w
  have hf := form_len (opOfV w) (by omega)
  rw [index_op]
  by_cases h0 : opOfV w = 0
  · rw [eval_ite_f (by
      by_cases q : w = []
      · rw [if_pos q]; rfl
      · rw [if_neg q, if_pos h0]; rfl), insRV_no hw' (.inl h0)]; rfl
  have hwn : w ≠ [] := fun q => h0 (by rw [q]; rfl)
  rw [if_neg hwn, if_neg h0, eval_ite_t (by rw [decide_eq_false (by omega)]; rfl)]
  refine (eval_get_some (form_at hop)).trans ?_
  have w1 : IntKind.i64.wrap (((List.length (formV (opOfV w)) : Nat) : Int) + (1 : Int)) = (((formV (opOfV w)).length + 1 : Nat) : Int) := wrap_succ (by unfold BIG; omega)
  rw [w1]
  by_cases h1 : (w :: r).length = (formV (opOfV w)).length + 1
  case neg => rw [eval_ite_t (bne_iff_ne.2 (by omega)), insRV_no hw' (.inr h1)]; rfl
  rw [eval_ite_f (by rw [h1]; simp), insRV_yes hw' (by rintro (q | q) <;> contradiction), eval_ite_t (by decide), eval_ite_t (decide_eq_true (by simp only [List.length_cons]; omega))]
  have key := ri_loop (opOfV w) hop (w :: r) h1 hmem (formV (opOfV w)).length 0 FUEL [0, 0, 0] (by omega) (Nat.lt_of_le_of_lt hf (by decide)) rfl
  have e1 : Int.toNat (((w :: r).length : Nat) : Int) - Int.toNat (1 : Int) = (w :: r).length - 1 := rfl
  rw [e1]
  refine (eval_get_some key).trans ?_
  rw [List.drop_zero, Nat.zero_add, List.drop_succ_cons, List.drop_zero, args_tail (by simpa using h1.symm) hf]
  cases hx : argsV (formV (opOfV w)) r with
  | none => exact eval_alt_r _
  | some l =>
    obtain ⟨a, b, c, e0, e1, e2, e3⟩ := pad_get (l := l) (by rw [args_len hx]; exact hf)
    refine (eval_alt_l _).trans ?_
    simp only [e0, e1, e2, e3]
    rfl
end Go.Proofs.YtnglkhjpdpgahaaGreatDoor.Dm
