/- Functions of the program, and what they compute. -/
import Derived.Test.YtnglkhjpdpgahaaGreatDoorP6
namespace Go.Proofs.YtnglkhjpdpgahaaGreatDoor.Dm
open Go Go.ChangeShapes Go.WideShapes Go.ChangeAt Go.RowKit
def k47 : Con := { f := 47, lend := true, its := [⟨false, false, [.i .i64]⟩], lay := [none], rs := [⟨false, false, [.s]⟩], F := fun x => .get (itoaP x.1.1) fun y => .ret (((y, ()), ()), ((), ())) }
theorem k47_ok : k47.Ok Tryz.prog := con_itoa (g := 3) ⟨⟨_, Tryz.func47, by kernel_rfl, by kernel_rfl⟩⟩ (by kernel_rfl) (by simp [tabs]) fun n h0 h1 w ht => Tryz.strconv_Itoa n h0 h1 w ht
def f23_tree (a0 : Int) : Out (((List UInt8 × Unit) × Unit) × (Unit × Unit)) :=
 .get (itoaP a0) fun y1 =>
 .ret (((y1, ()), ()), ((), ()))
def k23 : Con := { f := 23, lend := true, its := [⟨false, false, [.i .i64]⟩], lay := [none], rs := [⟨false, false, [.s]⟩], F := fun x => .get (itoaP x.1.1) fun y => .ret (((y, ()), ()), ((), ())) }
theorem f23_eq (x : itemsD k23.its) : bo [k47] (fun _ => none) Tryz.f23 k23 [.tmp 2] x = f23_tree x.1.1 := by kernel_rfl
theorem f23_okp (hr : ∀ x : (Int × Unit) × Unit, itemsWF k23.its x → ∀ y, (k23.F x).eval = some y → (f23_tree x.1.1).eval = some y) : k23.Ok Tryz.prog := con_fn [k47] ⟨k47_ok, trivial⟩ f23_eq hr
theorem k23_ok : k23.Ok Tryz.prog := by
  refine f23_okp fun x hw y hy => ?_
  obtain ⟨⟨a0, _⟩, _⟩ := x
  change (Out.get (itoaP a0) fun y => Out.ret (((y, ()), ()), ((), ()))).eval = some y at hy
  show (f23_tree a0).eval = some y
  exact hy
abbrev f52_S0 := (Int × List UInt8 × Bool × Unit) × (Unit)
def f52_L0 : f52_S0 → Out (Round f52_S0 ((List UInt8 × Bool × Unit) × (Unit)) Empty)
| ((p0, p1, p2, _), _) =>
 .ite ((p0 != (0 : Int)))
 (.ite ((10 : Int) == 0)
 .fail
 (.ite (decide ((Int.tmod p0 (10 : Int)) < (0 : Int)))
 (.ite (decide (List.length (List.map (fun n : Int => UInt8.ofNat n.toNat) ([(IntKind.u8.wrap (IntKind.i64.wrap ((48 : Int) + (IntKind.i64.wrap (0 - (Int.tmod p0 (10 : Int)))))))] : List (Int))) + List.length p1 ≤ LIM))
 (.ite ((10 : Int) == 0)
 .fail
 (.ret (.again (((IntKind.i64.wrap (Int.tdiv p0 (10 : Int))), ((List.map (fun n : Int => UInt8.ofNat n.toNat) ([(IntKind.u8.wrap (IntKind.i64.wrap ((48 : Int) + (IntKind.i64.wrap (0 - (Int.tmod p0 (10 : Int)))))))] : List (Int))) ++ p1), p2, ()), ()))))
 .fail)
 (.ite (decide (List.length (List.map (fun n : Int => UInt8.ofNat n.toNat) ([(IntKind.u8.wrap (IntKind.i64.wrap ((48 : Int) + (Int.tmod p0 (10 : Int)))))] : List (Int))) + List.length p1 ≤ LIM))
 (.ite ((10 : Int) == 0)
 .fail
 (.ret (.again (((IntKind.i64.wrap (Int.tdiv p0 (10 : Int))), ((List.map (fun n : Int => UInt8.ofNat n.toNat) ([(IntKind.u8.wrap (IntKind.i64.wrap ((48 : Int) + (Int.tmod p0 (10 : Int)))))] : List (Int))) ++ p1), p2, ()), ()))))
 .fail)))
 (.ret (.out ((p1, p2, ()), ())))
def f52_tree (a0 : Int) : Out (((List UInt8 × Unit) × Unit) × (Unit × Unit)) :=
 .ite ((a0 == (0 : Int)))
 (.ret (((([48] : List UInt8), ()), ()), ((), ())))
 (.get (iter1 f52_L0 FUEL ((a0, ([] : List UInt8), (decide (a0 < (0 : Int))), ()), ())) fun y1 =>
 .ite y1.1.2.1
 (.ite (decide (List.length ([45] : List UInt8) + List.length y1.1.1 ≤ LIM))
 (.ret ((((([45] : List UInt8) ++ y1.1.1), ()), ()), ((), ())))
 .fail)
 (.ret (((y1.1.1, ()), ()), ((), ()))))
def f52_A : Nat → Option LoopAnn := fun n => annOf [(0, { head := { t := [.i .i64, .dead, .dead, .s, .b] ++ dd 26, v := [] }, out := { t := [.dead, .dead, .dead, .s, .b] ++ dd 26, v := [] }, ret := none })] n
theorem tdiv_abs (n : Int) : (Int.tdiv n 10).natAbs = n.natAbs / 10 := by rw [Int.natAbs_tdiv]; rfl
theorem tmod_abs (n : Int) : (Int.tmod n 10).natAbs = n.natAbs % 10 := by rw [Int.natAbs_tmod]; rfl
theorem dig_byte {n : Int} : UInt8.ofNat (IntKind.u8.wrap (IntKind.i64.wrap ((48 : Int) + ((n.natAbs % 10 : Nat) : Int)))).toNat = UInt8.ofNat (48 + n.natAbs % 10) := by
  have h : n.natAbs % 10 < 10 := Nat.mod_lt _ (by decide)
  rw [wrap_id (by omega) (by omega)]
  have e : IntKind.u8.wrap ((48 : Int) + ((n.natAbs % 10 : Nat) : Int)) = ((48 + n.natAbs % 10 : Nat) : Int) := by
    rw [IntKind.wrap_u8]
    omega
  rw [e, Int.toNat_natCast]
theorem dec_step {n : Int} (hn : In64 n) (h0 : n ≠ 0) {out : Str} {neg : Bool} (ho : out.length ≤ 100) :
    (f52_L0 ((n, out, neg, ()), ())).eval = some (.again ((Int.tdiv n 10, UInt8.ofNat (48 + n.natAbs % 10) :: out, neg, ()), ())) := by
  have ht := tdiv_abs n
  have hm := tmod_abs n
  have hlt : n.natAbs % 10 < 10 := Nat.mod_lt _ (by decide)
  have w1 : IntKind.i64.wrap (Int.tdiv n 10) = Int.tdiv n 10 := wrap_id (by omega) (by omega)
  have hl : ∀ b : UInt8, (decide (List.length (List.map (fun n : Int => UInt8.ofNat n.toNat) ([(0 : Int)] : List Int)) + List.length out ≤ LIM)) = true := fun _ => decide_eq_true (by rw [LIM_eq]; simp; omega)
  have hd : decide (1 + List.length out ≤ LIM) = true := decide_eq_true (by rw [LIM_eq]; omega)
  refine (eval_ite_t (by simpa using h0)).trans ((eval_ite_f rfl).trans ?_)
  by_cases hneg : Int.tmod n 10 < 0
  · refine (eval_ite_t (decide_eq_true hneg)).trans ((eval_ite_t hd).trans ((eval_ite_f rfl).trans ?_))
    have e : IntKind.i64.wrap (0 - Int.tmod n 10) = ((n.natAbs % 10 : Nat) : Int) := by rw [wrap_id (by omega) (by omega)]; omega
    show some _ = some _
    rw [e, w1]
    simp only [List.map_cons, List.map_nil, dig_byte, List.cons_append, List.nil_append]
  · refine (eval_ite_f (decide_eq_false hneg)).trans ((eval_ite_t hd).trans ((eval_ite_f rfl).trans ?_))
    have e : Int.tmod n 10 = ((n.natAbs % 10 : Nat) : Int) := by omega
    show some _ = some _
    rw [e, w1]
    simp only [List.map_cons, List.map_nil, dig_byte, List.cons_append, List.nil_append]
theorem dec_loop (j : Nat) : ∀ (n : Int) (m : Nat) (out : Str) (neg : Bool), In64 n → n ≠ 0 → n.natAbs < 10 ^ j → j < m → out.length + j ≤ 100 →
    iter1 f52_L0 m ((n, out, neg, ()), ()) = some ((Lib.decDigits n.natAbs ++ out, neg, ()), ()) := by
  induction j with
  | zero => intro n m out neg _ h0 hj; simp at hj; omega
  | succ j ih =>
    intro n m out neg hn h0 hj hm ho
    obtain ⟨m, rfl⟩ : ∃ m', m = m' + 1 := ⟨m - 1, by omega⟩
    have hs := dec_step hn h0 (out := out) (neg := neg) (by omega)
    have e : iter1 f52_L0 (m + 1) ((n, out, neg, ()), ()) = iter1 f52_L0 m ((Int.tdiv n 10, UInt8.ofNat (48 + n.natAbs % 10) :: out, neg, ()), ()) := by
      unfold iter1
      simp only [iter, hs]
    rw [e]
    have ht := tdiv_abs n
    by_cases h1 : n.natAbs < 10
    · have z : Int.tdiv n 10 = 0 := by omega
      rw [z, Lib.decDigits_one h1, Nat.mod_eq_of_lt h1]
      exact iter1_out' rfl (by omega)
    · have hp : 10 ^ (j + 1) = 10 ^ j * 10 := Nat.pow_succ ..
      have e2 : Lib.decDigits n.natAbs = Lib.decDigits (n.natAbs / 10) ++ [UInt8.ofNat (48 + n.natAbs % 10)] := by (conv => lhs; rw [Lib.decDigits, dif_neg h1])
      rw [ih (Int.tdiv n 10) m _ neg ⟨by omega, by omega⟩ (by omega) (by omega) (by omega) (by simp only [List.length_cons]; omega), ht, e2, List.append_assoc]
      rfl
def k52 : Con := { f := 52, lend := true, its := [⟨false, false, [.i .i64]⟩], lay := [none], rs := [⟨false, false, [.s]⟩], F := fun x => .get (itoaP x.1.1) fun y => .ret (((y, ()), ()), ((), ())) }
theorem f52_eq (x : itemsD k52.its) : bo [] f52_A Tryz.f52 k52 [.tmp 2] x = f52_tree x.1.1 := by kernel_rfl
theorem f52_okp (hr : ∀ x : (Int × Unit) × Unit, itemsWF k52.its x → ∀ y, (k52.F x).eval = some y → (f52_tree x.1.1).eval = some y) : k52.Ok Tryz.prog := con_fn [] trivial f52_eq hr
theorem k52_ok : k52.Ok Tryz.prog := by
  refine f52_okp fun x hw y hy => ?_
  obtain ⟨⟨a0, _⟩, _⟩ := x
  change (Out.get (itoaP a0) fun y => Out.ret (((y, ()), ()), ((), ()))).eval = some y at hy
  show (f52_tree a0).eval = some y
  obtain ⟨hl, hy⟩ := itoaP_get (n := a0) (g := fun y => ((((y, ()), ()), ((), ())) : ((Str × Unit) × Unit) × (Unit × Unit))) hy
  subst hy
  unfold f52_tree
  by_cases h0 : a0 = 0
  · subst h0
    rw [show Lib.itoa 0 = [48] from (Lib.itoa_nonneg 0).trans (Lib.decDigits_one (by decide))]
    rfl
  refine (eval_ite_f (by simpa using h0)).trans ?_
  have hj : a0.natAbs < 10 ^ 19 := by have := hl.1; have := hl.2; omega
  refine (eval_get_some (dec_loop 19 a0 FUEL [] _ hl h0 hj (by decide) (by decide))).trans ?_
  have hlen := Lib.itoa_length_le a0 hl.1 hl.2
  unfold Lib.itoa at hlen ⊢
  by_cases hn : a0 < 0
  · rw [if_pos hn] at hlen ⊢
    refine (eval_ite_t (decide_eq_true hn)).trans ((eval_ite_t ?_).trans ?_)
    · simp only [List.append_nil, List.length_cons, List.length_nil] at hlen ⊢
      exact decide_eq_true (by rw [LIM_eq]; omega)
    · simp [Out.eval]
      rfl
  · rw [if_neg hn]
    refine (eval_ite_f (decide_eq_false hn)).trans ?_
    rw [show a0.toNat = a0.natAbs by omega]
    simp [Out.eval]
    rfl
end Go.Proofs.YtnglkhjpdpgahaaGreatDoor.Dm
