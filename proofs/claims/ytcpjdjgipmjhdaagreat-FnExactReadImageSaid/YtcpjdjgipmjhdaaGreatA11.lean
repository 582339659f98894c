/- Functions of the program, and what they compute. -/
import Derived.Test.YtcpjdjgipmjhdaaGreatA10
namespace Go.Proofs.YtcpjdjgipmjhdaaGreat.Dm
open Go Go.ChangeShapes Go.WideShapes Go.ChangeAt Go.RowKit
abbrev f44_S2 := (List UInt8 × Int × Int × Int × Int × List UInt8 × Int × Bool × Unit) × (Unit)
def f44_L2 : f44_S2 → Out (Round f44_S2 ((List UInt8 × Int × Int × Int × List UInt8 × Int × Bool × Unit) × (Unit)) Empty)
| ((p0, p1, p2, p3, p4, p5, p6, p7, _), _) =>
 .ite (decide (p3 ≥ (0 : Int)))
 (.ite (decide (0 ≤ p3))
 (.get (nth p0 (Int.toNat p3)) fun y1 =>
 .ite ((128 : Int) == 0)
 .fail
 (.ret (.again ((p0, p1, (IntKind.i64.wrap ((IntKind.i64.wrap (p2 * (128 : Int))) + (Int.tmod (IntKind.i64.wrap ((UInt8.toNat y1 : Nat) : Int)) (128 : Int)))), (IntKind.i64.wrap (p3 - (1 : Int))), p4, p5, p6, p7, ()), ()))))
 .fail)
 (.ret (.out ((p0, p1, p2, p4, p5, p6, p7, ()), ())))
abbrev f44_S0 := (List UInt8 × Int × Unit) × (Unit)
def f44_L0 : f44_S0 → Out (Round f44_S0 ((Unit) × (Unit)) ((Int × Int × Unit) × (Unit)))
| ((p0, p1, _), _) =>
 .ite ((decide (p1 ≤ (7 : Int))) == true)
 (.ite (decide (p1 ≤ ((List.length p0 : Nat) : Int)))
 (.get (iter1 f44_L2 FUEL ((p0, p1, (0 : Int), (IntKind.i64.wrap (p1 - (1 : Int))), p1, p0, ((List.length p0 : Nat) : Int), (decide (p1 ≤ ((List.length p0 : Nat) : Int))), ()), ())) fun y1 =>
 .ite (decide (0 ≤ (0 : Int) ∧ (0 : Int) ≤ y1.1.2.1 ∧ y1.1.2.1 ≤ ((List.length y1.1.1 : Nat) : Int)))
 (.ite ((varV y1.1.2.2.1) == (List.drop (Int.toNat (0 : Int)) (List.take (Int.toNat y1.1.2.1) y1.1.1)))
 (.ret (.ret ((y1.1.2.2.1, y1.1.2.1, ()), ())))
 (.ret (.again ((y1.1.1, (IntKind.i64.wrap (y1.1.2.1 + (1 : Int))), ()), ()))))
 .fail)
 (.ret (.out ((), ()))))
 (.ret (.out ((), ())))
def f44_tree (a0 : List UInt8) : Out (((Int × Unit) × (Int × Unit) × Unit) × (Unit × Unit)) :=
 .get (iter f44_L0 FUEL ((a0, (1 : Int), ()), ())) fun y1 => .alt y1 (fun y2 =>
 .ret ((((0 : Int), ()), ((0 : Int), ()), ()), ((), ()))) (fun y3 =>
 .ret (((y3.1.1, ()), (y3.1.2.1, ()), ()), ((), ())))
def f44_A : Nat → Option LoopAnn := fun n => annOf [(0, { head := { t := [.s, .dead, .dead, .dead, .i .i64] ++ dd 34, v := [] }, out := { t := dd 39, v := [] }, ret := some { t := [.dead, .dead, .i .i64, .i .i64] ++ dd 35, v := [] } }), (2, { head := { t := [.s, .dead, .dead, .dead, .i .i64, .i .i64, .i .i64, .dead, .dead, .dead, .i .i64, .s, .i .i64, .b] ++ dd 25, v := [] }, out := { t := [.s, .dead, .dead, .dead, .i .i64, .i .i64] ++ dd 4 ++ [.i .i64, .s, .i .i64, .b] ++ dd 25, v := [] }, ret := none })] n
def k44 : Con := { f := 44, lend := true, its := [⟨false, false, [.s]⟩], lay := [none], rs := [⟨false, false, [.i .i64]⟩, ⟨false, false, [.i .i64]⟩], F := fun x => .ret ((((rvV x.1.1).1, ()), ((rvV x.1.1).2, ()), ()), ((), ())) }
theorem f44_eq (x : itemsD k44.its) : bo [k73] f44_A Tryz.f44 k44 [.tmp 2, .tmp 3] x = f44_tree x.1.1 := by kernel_rfl
theorem f44_ok (hr : ∀ x : (List UInt8 × Unit) × Unit, itemsWF k44.its x → (f44_tree x.1.1).eval = (k44.F x).eval) : k44.Ok Tryz.prog := con_fn [k73] ⟨k73_ok, trivial⟩ f44_eq fun x hw _ hy => (hr x hw).trans hy
theorem k44_ok : k44.Ok Tryz.prog := by
  refine f44_ok fun x hw => ?_
  obtain ⟨⟨s, _⟩, _⟩ := x
  have hs : s.length ≤ BIG := hw.1.1
  show (f44_tree s).eval = some ((((rvV s).1, ()), (((rvV s).2, ()), ())), ((), ()))
  unfold f44_tree
  have inner : ∀ (k : Nat) (b : Bool), k ≤ 7 → k ≤ s.length → iter1 f44_L2 FUEL ((s, (((k : Nat) : Int), ((0 : Int), ((((k : Nat) : Int) - 1), (((k : Nat) : Int), (s, (((s.length : Nat) : Int), (b, ())))))))), ()) =
      some ((s, (((k : Nat) : Int), (((decB (s.take k) : Nat) : Int), (((k : Nat) : Int), (s, (((s.length : Nat) : Int), (b, ()))))))), ()) := fun k b hk hl => by
    have e := iter1_out (f := f44_L2) (fun j => ((s, (((k : Nat) : Int), (((decB ((s.take k).drop (k - j)) : Nat) : Int), ((((k : Nat) : Int) - 1 - ((j : Nat) : Int)), (((k : Nat) : Int), (s, (((s.length : Nat) : Int), (b, ())))))))), ())) k
      (y := ((s, (((k : Nat) : Int), (((decB (s.take k) : Nat) : Int), (((k : Nat) : Int), (s, (((s.length : Nat) : Int), (b, ()))))))), ())) (show k < FUEL from Nat.lt_of_le_of_lt hk (by decide))
      (fun j hj => by
        obtain ⟨i, hi⟩ : ∃ i, k = j + 1 + i := ⟨k - (j + 1), by omega⟩
        have hil : i < s.length := by omega
        have w2 : ((k : Nat) : Int) - 1 - ((j : Nat) : Int) = ((i : Nat) : Int) := by omega
        have w2' : ((k : Nat) : Int) - 1 - ((j + 1 : Nat) : Int) = ((i : Nat) : Int) - 1 := by omega
        have w3 : decide (((i : Nat) : Int) ≥ 0) = true := decide_eq_true (by omega)
        have w4 : IntKind.i64.wrap (((i : Nat) : Int) - 1) = ((i : Nat) : Int) - 1 := wrap_id (by omega) (by omega)
        have w5 : k - j = i + 1 := by omega
        have w6 : k - (j + 1) = i := by omega
        have hil' : i < (s.take k).length := by rw [List.length_take]; omega
        have w7 : (s.take k).drop i = s[i] :: (s.take k).drop (i + 1) := by rw [List.drop_eq_getElem_cons hil', List.getElem_take]
        have hd := decB_lt ((s.take k).drop (i + 1))
        have hd2 : 128 ^ ((s.take k).drop (i + 1)).length ≤ 128 ^ 6 := Nat.pow_le_pow_right (by decide) (by rw [List.length_drop, List.length_take]; omega)
        have h6 : (128 : Nat) ^ 6 = 4398046511104 := by decide
        have w8 : IntKind.i64.wrap (IntKind.i64.wrap (((decB ((s.take k).drop (i + 1)) : Nat) : Int) * (128 : Int)) + Int.tmod (IntKind.i64.wrap ((UInt8.toNat s[i] : Nat) : Int)) (128 : Int)) = ((decB ((s.take k).drop i) : Nat) : Int) := by
          have t : Int.tmod ((UInt8.toNat s[i] : Nat) : Int) (128 : Int) = ((UInt8.toNat s[i] % 128 : Nat) : Int) := tmod_n _ 128
          rw [byte_wrap, t, wrap_id (n := ((decB ((s.take k).drop (i + 1)) : Nat) : Int) * 128) (by omega) (by omega), wrap_id (by omega) (by omega), w7, decB]
          omega
        simp only [w2, w2', w5, w6, f44_L2, Out.eval, w3, w4, ge0, nth_get hil, w8, Option.bind_some, cond_true]
        rfl)
      (by
        have w2 : ((k : Nat) : Int) - 1 - ((k : Nat) : Int) = -1 := by omega
        simp [f44_L2, Out.eval, w2])
    simpa [decB] using e
  have step : ∀ i, i < min 7 s.length → (f44_L0 ((s, (((i + 1 : Nat) : Int), ())), ())).eval = some (bif canonB (s.take (i + 1)) then .ret ((((decB (s.take (i + 1)) : Nat) : Int), (((i + 1 : Nat) : Int), ())), ()) else .again ((s, (((i + 1 + 1 : Nat) : Int), ())), ())) := fun i hi => by
    have g1 : decide (((i + 1 : Nat) : Int) ≤ 7) = true := decide_eq_true (by omega)
    have g2 : decide (((i + 1 : Nat) : Int) ≤ ((s.length : Nat) : Int)) = true := decide_eq_true (by omega)
    have g3 : IntKind.i64.wrap (((i + 1 : Nat) : Int) - 1) = ((i + 1 : Nat) : Int) - 1 := wrap_id (by omega) (by omega)
    have g4 : IntKind.i64.wrap (((i + 1 : Nat) : Int) + 1) = ((i + 1 + 1 : Nat) : Int) := wrap_succ (by unfold BIG; omega)
    have g5 : decide (0 ≤ (0 : Int) ∧ (0 : Int) ≤ ((i + 1 : Nat) : Int) ∧ ((i + 1 : Nat) : Int) ≤ ((s.length : Nat) : Int)) = true := decide_eq_true (by omega)
    have g6 : decB (s.take (i + 1)) < 562949953421312 := by
      have h1 := decB_lt (s.take (i + 1))
      have h2 : 128 ^ (s.take (i + 1)).length ≤ 128 ^ 7 := Nat.pow_le_pow_right (by decide) (by rw [List.length_take]; omega)
      have : (128 : Nat) ^ 7 = 562949953421312 := by decide
      omega
    have g7 := inner (i + 1) true (by omega) (by omega)
    have g8 : (varV ((decB (s.take (i + 1)) : Nat) : Int) == List.drop (Int.toNat (0 : Int)) (List.take (Int.toNat ((i + 1 : Nat) : Int)) s)) = canonB (s.take (i + 1)) := by
      rw [varV_nat g6, Bool.eq_iff_iff, beq_iff_eq, ← varB_dec (s.take (i + 1)) (by intro e; have := congrArg List.length e; rw [List.length_take, List.length_nil] at this; omega)]
      exact Iff.rfl
    simp only [f44_L0, Out.eval, g1, g2, g3, g7, g5, g8, g4, Option.bind_some, cond_true]
    cases canonB (s.take (i + 1)) <;> rfl
  have hlen : (List.range (min 7 s.length)).length = min 7 s.length := List.length_range
  have := idx_loop (f := f44_L0) (List.range (min 7 s.length)) (fun i => canonB (s.take (i + 1))) (fun i => ((s, (((i + 1 : Nat) : Int), ())), ())) (y := ((), ())) (z := fun i => ((((decB (s.take (i + 1)) : Nat) : Int), (((i + 1 : Nat) : Int), ())), ()))
    (fun i hi hp => by rw [List.getElem_range] at hp; rw [step i (by omega), hp]; rfl)
    (fun i hi hp => by rw [List.getElem_range] at hp; rw [step i (by omega), hp]; rfl)
    (by
      rw [hlen]
      by_cases h : s.length < 7
      · have g1 : decide (((min 7 s.length + 1 : Nat) : Int) ≤ 7) = true := decide_eq_true (by omega)
        have g2 : decide (((min 7 s.length + 1 : Nat) : Int) ≤ ((s.length : Nat) : Int)) = false := decide_eq_false (by omega)
        simp only [f44_L0, Out.eval, g1, g2]; rfl
      · have g1 : decide (((min 7 s.length + 1 : Nat) : Int) ≤ 7) = false := decide_eq_false (by omega)
        simp only [f44_L0, Out.eval, g1]; rfl) (by rw [hlen]; unfold BIG; omega)
  refine (eval_get_some this).trans ?_
  have e : (List.range (min 7 s.length)).findIdx? (fun i => canonB (s.take (i + 1))) = rvI s := rfl
  rw [e]
  unfold rvV
  cases rvI s <;> rfl
theorem or_step {i n m : Nat} (hi : i < 7) (hn : n < 128 ^ i) (hm : m < 128) :
    IntKind.i64.wrap (((BitVec.ofInt (IntKind.bits IntKind.i64) ((n : Nat) : Int) ||| BitVec.ofInt (IntKind.bits IntKind.i64) (IntKind.i64.wrap (((m : Nat) : Int) * 2 ^ (min (Int.toNat (IntKind.i64.wrap ((7 : Int) * ((i : Nat) : Int)))) (IntKind.bits IntKind.i64))))).toNat : Nat) : Int) = ((n + 128 ^ i * m : Nat) : Int) := by
  have e1 : IntKind.i64.wrap ((7 : Int) * ((i : Nat) : Int)) = ((7 * i : Nat) : Int) := by rw [wrap_id (by omega) (by omega)]; omega
  have e2 : min (Int.toNat ((7 * i : Nat) : Int)) (IntKind.bits IntKind.i64) = 7 * i := by show min (7 * i) 64 = 7 * i; omega
  have e3 : (2 : Nat) ^ (7 * i) = 128 ^ i := by rw [Nat.pow_mul]
  have h6 : 128 ^ i ≤ 128 ^ 6 := Nat.pow_le_pow_right (by decide) (by omega)
  have h6' : (128 : Nat) ^ 6 = 4398046511104 := by decide
  have hmul : 128 ^ i * m ≤ 4398046511104 * 127 := Nat.mul_le_mul (by omega) (by omega)
  have e4 : ((m : Nat) : Int) * 2 ^ (7 * i) = ((128 ^ i * m : Nat) : Int) := by
    rw [← e3, Int.natCast_mul, Int.natCast_pow, Int.mul_comm]; rfl
  rw [e1, e2, e4, wrap_nat (a := 128 ^ i * m) (by unfold BIG; omega)]
  have := bit_or (a := n) (b := 128 ^ i * m) (by unfold BIG; omega) (by unfold BIG; omega)
  rw [this]
  congr 1
  have h := Nat.two_pow_add_eq_or_of_lt (i := 7 * i) (b := n) (by rw [e3]; exact hn) m
  rw [e3] at h
  rw [Nat.or_comm, ← h, Nat.add_comm]
abbrev f85_S0 := (List UInt8 × Int × Int × Unit) × (Unit)
def f85_L0 : f85_S0 → Out (Round f85_S0 ((Unit) × (Unit)) ((Int × Int × Unit) × (Unit)))
| ((p0, p1, p2, _), _) =>
 .ite ((decide (p2 < (7 : Int))) == true)
 (.ite (decide (p2 < ((List.length p0 : Nat) : Int)))
 (.ite (decide (0 ≤ p2))
 (.get (nth p0 (Int.toNat p2)) fun y1 =>
 .ite (decide ((IntKind.i64.wrap ((7 : Int) * p2)) < 0))
 .fail
 (.ite (decide ((IntKind.i64.wrap ((UInt8.toNat y1 : Nat) : Int)) > (127 : Int)))
 (.ret (.again ((p0, (IntKind.i64.wrap (((BitVec.ofInt (IntKind.bits IntKind.i64) p1 ||| BitVec.ofInt (IntKind.bits IntKind.i64) (IntKind.i64.wrap ((IntKind.i64.wrap (((BitVec.ofInt (IntKind.bits IntKind.i64) (IntKind.i64.wrap ((UInt8.toNat y1 : Nat) : Int)) &&& BitVec.ofInt (IntKind.bits IntKind.i64) (127 : Int)).toNat : Int))) * 2 ^ (min (Int.toNat (IntKind.i64.wrap ((7 : Int) * p2))) (IntKind.bits IntKind.i64))))).toNat : Int))), (IntKind.i64.wrap (p2 + (1 : Int))), ()), ())))
 (.ite ((((IntKind.i64.wrap ((UInt8.toNat y1 : Nat) : Int)) == (0 : Int))) == true)
 (.ite ((decide (p2 > (0 : Int))) == false)
 (.ite (decide ((IntKind.i64.wrap (((BitVec.ofInt (IntKind.bits IntKind.i64) p1 ||| BitVec.ofInt (IntKind.bits IntKind.i64) (IntKind.i64.wrap ((IntKind.i64.wrap (((BitVec.ofInt (IntKind.bits IntKind.i64) (IntKind.i64.wrap ((UInt8.toNat y1 : Nat) : Int)) &&& BitVec.ofInt (IntKind.bits IntKind.i64) (127 : Int)).toNat : Int))) * 2 ^ (min (Int.toNat (IntKind.i64.wrap ((7 : Int) * p2))) (IntKind.bits IntKind.i64))))).toNat : Int))) > (562949953421311 : Int)))
 (.ret (.ret (((0 : Int), (0 : Int), ()), ())))
 (.ret (.ret (((IntKind.i64.wrap (((BitVec.ofInt (IntKind.bits IntKind.i64) p1 ||| BitVec.ofInt (IntKind.bits IntKind.i64) (IntKind.i64.wrap ((IntKind.i64.wrap (((BitVec.ofInt (IntKind.bits IntKind.i64) (IntKind.i64.wrap ((UInt8.toNat y1 : Nat) : Int)) &&& BitVec.ofInt (IntKind.bits IntKind.i64) (127 : Int)).toNat : Int))) * 2 ^ (min (Int.toNat (IntKind.i64.wrap ((7 : Int) * p2))) (IntKind.bits IntKind.i64))))).toNat : Int))), (IntKind.i64.wrap (p2 + (1 : Int))), ()), ()))))
 (.ret (.ret (((0 : Int), (0 : Int), ()), ()))))
 (.ite (decide ((IntKind.i64.wrap (((BitVec.ofInt (IntKind.bits IntKind.i64) p1 ||| BitVec.ofInt (IntKind.bits IntKind.i64) (IntKind.i64.wrap ((IntKind.i64.wrap (((BitVec.ofInt (IntKind.bits IntKind.i64) (IntKind.i64.wrap ((UInt8.toNat y1 : Nat) : Int)) &&& BitVec.ofInt (IntKind.bits IntKind.i64) (127 : Int)).toNat : Int))) * 2 ^ (min (Int.toNat (IntKind.i64.wrap ((7 : Int) * p2))) (IntKind.bits IntKind.i64))))).toNat : Int))) > (562949953421311 : Int)))
 (.ret (.ret (((0 : Int), (0 : Int), ()), ())))
 (.ret (.ret (((IntKind.i64.wrap (((BitVec.ofInt (IntKind.bits IntKind.i64) p1 ||| BitVec.ofInt (IntKind.bits IntKind.i64) (IntKind.i64.wrap ((IntKind.i64.wrap (((BitVec.ofInt (IntKind.bits IntKind.i64) (IntKind.i64.wrap ((UInt8.toNat y1 : Nat) : Int)) &&& BitVec.ofInt (IntKind.bits IntKind.i64) (127 : Int)).toNat : Int))) * 2 ^ (min (Int.toNat (IntKind.i64.wrap ((7 : Int) * p2))) (IntKind.bits IntKind.i64))))).toNat : Int))), (IntKind.i64.wrap (p2 + (1 : Int))), ()), ())))))))
 .fail)
 (.ret (.out ((), ()))))
 (.ret (.out ((), ())))
def f85_tree (a0 : List UInt8) : Out (((Int × Unit) × (Int × Unit) × Unit) × (Unit × Unit)) :=
 .get (iter f85_L0 FUEL ((a0, (0 : Int), (0 : Int), ()), ())) fun y1 => .alt y1 (fun y2 =>
 .ret ((((0 : Int), ()), ((0 : Int), ()), ()), ((), ()))) (fun y3 =>
 .ret (((y3.1.1, ()), (y3.1.2.1, ()), ()), ((), ())))
def f85_A : Nat → Option LoopAnn := fun n => annOf [(0, { head := { t := [.s, .dead, .dead, .dead, .i .i64, .i .i64] ++ dd 37, v := [] }, out := { t := dd 43, v := [] }, ret := some { t := [.dead, .dead, .i .i64, .i .i64] ++ dd 39, v := [] } })] n
def k85 : Con := { f := 85, lend := true, its := [⟨false, false, [.s]⟩], lay := [none], rs := [⟨false, false, [.i .i64]⟩, ⟨false, false, [.i .i64]⟩], F := fun x => .ret ((((rvV x.1.1).1, ()), ((rvV x.1.1).2, ()), ()), ((), ())) }
theorem f85_eq (x : itemsD k85.its) : bo [] f85_A Tryz.f85 k85 [.tmp 2, .tmp 3] x = f85_tree x.1.1 := by kernel_rfl
theorem f85_ok (hr : ∀ x : (List UInt8 × Unit) × Unit, itemsWF k85.its x → (f85_tree x.1.1).eval = (k85.F x).eval) : k85.Ok Tryz.prog := con_fn [] trivial f85_eq fun x hw _ hy => (hr x hw).trans hy
theorem k85_ok : k85.Ok Tryz.prog := by
  refine f85_ok fun x hw => ?_
  obtain ⟨⟨s, _⟩, _⟩ := x
  have hs : s.length ≤ BIG := hw.1.1
  show (f85_tree s).eval = some ((((rvV s).1, ()), (((rvV s).2, ()), ())), ((), ()))
  unfold f85_tree
  have hlen : (List.range (min 7 s.length)).length = min 7 s.length := List.length_range
  have step : ∀ i (hi : i < min 7 s.length) (hil : i < s.length), (f85_L0 ((s, (((decB (s.take i) : Nat) : Int), (((i : Nat) : Int), ()))), ())).eval =
      some (bif decide (s[i].toNat < 128) then .ret (if 0 < i ∧ s[i] = 0 then ((0, (0, ())), ()) else ((((decB (s.take (i + 1)) : Nat) : Int), (((i + 1 : Nat) : Int), ())), ())) else .again ((s, (((decB (s.take (i + 1)) : Nat) : Int), (((i + 1 : Nat) : Int), ()))), ())) := fun i hi hil => by
    have g1 : decide (((i : Nat) : Int) < 7) = true := decide_eq_true (by omega)
    have g2 : decide (((i : Nat) : Int) < ((s.length : Nat) : Int)) = true := decide_eq_true (by omega)
    have g3 : decide (IntKind.i64.wrap ((7 : Int) * ((i : Nat) : Int)) < 0) = false := decide_eq_false (by rw [wrap_id (by omega) (by omega)]; omega)
    have hb := s[i].toNat_lt
    have g4 : IntKind.i64.wrap (((BitVec.ofInt (IntKind.bits IntKind.i64) ((s[i].toNat : Nat) : Int) &&& BitVec.ofInt (IntKind.bits IntKind.i64) (127 : Int)).toNat : Nat) : Int) = ((s[i].toNat % 128 : Nat) : Int) := (bit_and (a := s[i].toNat) (b := 127) (by unfold BIG; omega) (by decide)).trans (by rw [and127])
    have hd := decB_lt (s.take i)
    have hlt : (s.take i).length = i := by rw [List.length_take]; omega
    rw [hlt] at hd
    have g5 := or_step (i := i) (n := decB (s.take i)) (m := s[i].toNat % 128) (by omega) hd (by omega)
    have g6 : decB (s.take (i + 1)) = decB (s.take i) + 128 ^ i * (s[i].toNat % 128) := by rw [take_snoc hil, decB_snoc, hlt]
    rw [← g6] at g5
    have g7 : IntKind.i64.wrap (((i : Nat) : Int) + 1) = ((i + 1 : Nat) : Int) := wrap_succ (by unfold BIG; omega)
    have g8 : decide (((decB (s.take (i + 1)) : Nat) : Int) > 562949953421311) = false := decide_eq_false (by
      have h1 := decB_lt (s.take (i + 1))
      have h2 : 128 ^ (s.take (i + 1)).length ≤ 128 ^ 7 := Nat.pow_le_pow_right (by decide) (by rw [List.length_take]; omega)
      have : (128 : Nat) ^ 7 = 562949953421312 := by decide
      omega)
    have g9 : decide (((s[i].toNat : Nat) : Int) > (127 : Int)) = !decide (s[i].toNat < 128) := by rw [Bool.eq_iff_iff]; simp; omega
    have g10 : decide (((i : Nat) : Int) > 0) = decide (0 < i) := by rw [Bool.eq_iff_iff]; simp
    have g11 : (((s[i].toNat : Nat) : Int) == 0) = decide (s[i] = 0) := by
      rw [Bool.eq_iff_iff]
      simp only [beq_iff_eq, decide_eq_true_eq]
      constructor
      · intro h; exact UInt8.toNat_inj.1 (by rw [show (0 : UInt8).toNat = 0 from rfl]; omega)
      · intro h; rw [h]; rfl
    simp only [f85_L0, Out.eval, g1, g2, g3, ge0, nth_get hil, byte_wrap, g4, g5, g7, g8, g9, g10, g11, Option.bind_some, cond_true]
    by_cases q1 : s[i].toNat < 128
    · by_cases q2 : s[i] = 0
      · by_cases q3 : 0 < i
        · rw [decide_eq_true q1, decide_eq_true q2, decide_eq_true q3, if_pos ⟨q3, q2⟩]; rfl
        · rw [decide_eq_true q1, decide_eq_true q2, decide_eq_false q3, if_neg (fun q => q3 q.1)]; rfl
      · rw [decide_eq_true q1, decide_eq_false q2, if_neg (fun q => q2 q.2)]; rfl
    · rw [decide_eq_false q1]; rfl
  have := idx_loop (f := f85_L0) (List.range (min 7 s.length)) (fun i => decide ((s.getD i 0).toNat < 128)) (fun i => ((s, (((decB (s.take i) : Nat) : Int), (((i : Nat) : Int), ()))), ())) (y := ((), ())) (z := fun i => if 0 < i ∧ s.getD i 0 = 0 then ((0, (0, ())), ()) else ((((decB (s.take (i + 1)) : Nat) : Int), (((i + 1 : Nat) : Int), ())), ()))
    (fun i hi hp => by
      have hil : i < s.length := by omega
      rw [List.getElem_range, List.getD_eq_getElem?_getD, List.getElem?_eq_getElem hil, Option.getD_some] at hp
      rw [step i (by omega) hil, hp]; rfl)
    (fun i hi hp => by
      have hil : i < s.length := by omega
      rw [List.getElem_range, List.getD_eq_getElem?_getD, List.getElem?_eq_getElem hil, Option.getD_some] at hp
      rw [step i (by omega) hil, hp, List.getD_eq_getElem?_getD, List.getElem?_eq_getElem hil, Option.getD_some]; rfl)
    (by
      rw [hlen]
      by_cases h : s.length < 7
      · have g1 : decide (((min 7 s.length : Nat) : Int) < 7) = true := decide_eq_true (by omega)
        have g2 : decide (((min 7 s.length : Nat) : Int) < ((s.length : Nat) : Int)) = false := decide_eq_false (by omega)
        simp only [f85_L0, Out.eval, g1, g2]; rfl
      · have g1 : decide (((min 7 s.length : Nat) : Int) < 7) = false := decide_eq_false (by omega)
        simp only [f85_L0, Out.eval, g1]; rfl) (by rw [hlen]; unfold BIG; omega)
  simp only [List.take_zero, show decB [] = 0 from rfl] at this
  refine (eval_get_some this).trans ?_
  cases h : (List.range (min 7 s.length)).findIdx? (fun i => decide ((s.getD i 0).toNat < 128)) with
  | none =>
    rw [List.findIdx?_eq_none_iff] at h
    have : rvI s = none := rv_all fun i hi hil => by
      have := h i (List.mem_range.2 hi)
      rw [List.getD_eq_getElem?_getD, List.getElem?_eq_getElem hil, Option.getD_some] at this
      have := of_decide_eq_false this
      omega
    rw [rvV_none this]; rfl
  | some i =>
    rw [List.findIdx?_eq_some_iff_getElem] at h
    obtain ⟨hi, hp, hmin⟩ := h
    have hil : i < s.length := by omega
    rw [List.getElem_range, List.getD_eq_getElem?_getD, List.getElem?_eq_getElem hil, Option.getD_some] at hp
    have hr := rv_scan (s := s) (j := i) (by omega) (fun j hj hjl => by
      have := hmin j hj
      rw [List.getElem_range, List.getD_eq_getElem?_getD, List.getElem?_eq_getElem hjl, Option.getD_some] at this
      have : ¬ s[j].toNat < 128 := by simpa using this
      omega) (of_decide_eq_true hp)
    have hg : s.getD i 0 = s[i] := by rw [List.getD_eq_getElem?_getD, List.getElem?_eq_getElem hil, Option.getD_some]
    simp only [hg]
    by_cases q : 0 < i ∧ s[i] = 0
    · rw [if_pos q] at hr
      rw [rvV_none hr]
      simp only [Out.eval, if_pos q]
    · rw [if_neg q] at hr
      rw [rvV_some hr]
      simp only [Out.eval, if_neg q]
abbrev f12_S0 := (List UInt8 × Int × Int × Int × Unit) × (List (Int) × Unit)
def f12_L0 : f12_S0 → Out (Round f12_S0 ((Int × Unit) × (List (Int) × Unit)) ((Int × Unit) × (List (Int) × Unit)))
| ((p0, p1, p2, p3, _), p4, _) =>
 .ite (decide (p3 < p2))
 (.ite ((decide (p1 < (0 : Int))) == false)
 (.ite (decide (p1 > ((List.length p0 : Nat) : Int)))
 (.ret (.ret (((-1 : Int), ()), (p4, ()))))
 (.ite (decide (0 ≤ p1 ∧ p1 ≤ ((List.length p0 : Nat) : Int)))
 (.ite (((rvV (List.drop (Int.toNat p1) p0)).2 == (0 : Int)))
 (.ret (.ret (((-1 : Int), ()), (p4, ()))))
 (.ite (decide (List.length p4 + List.length ([(rvV (List.drop (Int.toNat p1) p0)).1] : List (Int)) ≤ LIM))
 (.ret (.again ((p0, (IntKind.i64.wrap (p1 + (rvV (List.drop (Int.toNat p1) p0)).2)), p2, (IntKind.i64.wrap (p3 + (1 : Int))), ()), ((p4 ++ ([(rvV (List.drop (Int.toNat p1) p0)).1] : List (Int))), ()))))
 .fail))
 .fail))
 (.ret (.ret (((-1 : Int), ()), (p4, ())))))
 (.ret (.out ((p1, ()), (p4, ()))))
def f12_tree (a0 : List UInt8) (a1 : Int) (a2 : Int) : Out (((List Int × Unit) × (Int × Unit) × Unit) × (Unit × Unit × Unit × Unit)) :=
 .get (iter f12_L0 FUEL ((a0, a1, a2, (0 : Int), ()), (([] : List (Int)), ()))) fun y1 => .alt y1 (fun y2 =>
 .ret (((y2.2.1, ()), (y2.1.1, ()), ()), ((), (), (), ()))) (fun y3 =>
 .ret (((y3.2.1, ()), (y3.1.1, ()), ()), ((), (), (), ())))
def f12_A : Nat → Option LoopAnn := fun n => annOf [(0, { head := { t := [.s, .i .i64, .i .i64] ++ dd 5 ++ [.srf 64000000, .i .i64] ++ dd 36, v := [(64000000, .arr (.int .i64))] }, out := { t := [.dead, .i .i64] ++ dd 6 ++ [.srf 64000256] ++ dd 37, v := [(64000256, .arr (.int .i64))] }, ret := some { t := dd 6 ++ [.srf 64000512, .i .i64] ++ dd 38, v := [(64000512, .arr (.int .i64))] } })] n
def l3VarsV (s : Str) (p n : Int) : Option (List Int × Int) := if n ≤ 1000 then some (varsAtV s n.toNat p []) else none
def k12 : Con := { f := 12, lend := true, its := [⟨false, false, [.s]⟩, ⟨false, false, [.i .i64]⟩, ⟨false, false, [.i .i64]⟩], lay := [none, none, none], rs := [⟨false, false, [.own (.int .i64)]⟩, ⟨false, false, [.i .i64]⟩], F := fun x => .get (l3VarsV x.1.1 x.2.1.1 x.2.2.1.1) fun y => .ret (((y.1, ()), (y.2, ()), ()), ((), (), (), ())) }
theorem f12_eq (x : itemsD k12.its) : bo [k44] f12_A Tryz.f12 k12 [.tmp 6, .tmp 7] x = f12_tree x.1.1 x.2.1.1 x.2.2.1.1 := by kernel_rfl
theorem f12_okp (hr : ∀ x : (List UInt8 × Unit) × (Int × Unit) × (Int × Unit) × Unit, itemsWF k12.its x → ∀ y, (k12.F x).eval = some y → (f12_tree x.1.1 x.2.1.1 x.2.2.1.1).eval = some y) : k12.Ok Tryz.prog := con_fn [k44] ⟨k44_ok, trivial⟩ f12_eq hr
theorem k12_ok : k12.Ok Tryz.prog := by
  refine f12_okp fun x hw y hy => ?_
  obtain ⟨⟨s, _⟩, ⟨p, _⟩, ⟨n, _⟩, _⟩ := x
  have hs : s.length ≤ BIG := hw.1.1
  change (Out.get (l3VarsV s p n) fun y => Out.ret (((y.1, ()), ((y.2, ()), ())), ((), ((), ((), ()))))).eval = some y at hy
  show (f12_tree s p n).eval = some y
  unfold l3VarsV at hy
  split at hy
  case isFalse => exact nomatch hy
  rename_i hn
  refine Eq.trans ?_ hy
  have key : ∀ (m i N : Nat) (p : Int) (out : List Int), i + m = n.toNat → m < N → out.length ≤ i → ∃ r, iter f12_L0 N ((s, (p, (n, (((i : Nat) : Int), ())))), (out, ())) = some r ∧
      (r = .inl (((varsAtV s m p out).2, ()), ((varsAtV s m p out).1, ())) ∨ r = .inr (((varsAtV s m p out).2, ()), ((varsAtV s m p out).1, ()))) := by
    intro m
    induction m with
    | zero =>
      intro i N p out hi hN _
      have w3 : decide (((i : Nat) : Int) < n) = false := decide_eq_false (by omega)
      refine ⟨_, iter_out' (y := ((p, ()), (out, ()))) ?_ hN, .inl rfl⟩
      simp only [f12_L0, Out.eval, w3]; rfl
    | succ m ih =>
      intro i N p out hi hN ho
      have w3 : decide (((i : Nat) : Int) < n) = true := decide_eq_true (by omega)
      have stop : ∀ (h : (f12_L0 ((s, (p, (n, (((i : Nat) : Int), ())))), (out, ()))).eval = some (.ret ((-1, ()), (out, ())))), varsAtV s (m + 1) p out = (out, -1) → ∃ r, iter f12_L0 N ((s, (p, (n, (((i : Nat) : Int), ())))), (out, ())) = some r ∧
          (r = .inl (((varsAtV s (m + 1) p out).2, ()), ((varsAtV s (m + 1) p out).1, ())) ∨ r = .inr (((varsAtV s (m + 1) p out).2, ()), ((varsAtV s (m + 1) p out).1, ()))) := fun h e => ⟨_, iter_ret' h (by omega), by rw [e]; exact .inr rfl⟩
      by_cases h1 : p < 0
      · refine stop ?_ (by unfold varsAtV; rw [if_pos (.inl h1)])
        simp only [f12_L0, Out.eval, w3, decide_eq_true h1]; rfl
      · by_cases h2 : ((s.length : Nat) : Int) < p
        · refine stop ?_ (by unfold varsAtV; rw [if_pos (.inr h2)])
          have g : decide (p > ((s.length : Nat) : Int)) = true := decide_eq_true h2
          simp only [f12_L0, Out.eval, w3, decide_eq_false h1, g]; rfl
        · have g : decide (p > ((s.length : Nat) : Int)) = false := decide_eq_false h2
          have g2 : decide (0 ≤ p ∧ p ≤ ((s.length : Nat) : Int)) = true := decide_eq_true (by omega)
          have hb := rvV_bounds (s.drop p.toNat)
          rw [List.length_drop] at hb
          by_cases h3 : (rvV (s.drop p.toNat)).2 = 0
          · refine stop ?_ (by unfold varsAtV; rw [if_neg (by omega), if_pos h3])
            simp only [f12_L0, Out.eval, w3, decide_eq_false h1, g, g2, h3]; rfl
          · have g3 : ((rvV (s.drop p.toNat)).2 == (0 : Int)) = false := by simpa using h3
            have g4 : decide (out.length + ([(rvV (s.drop p.toNat)).1] : List Int).length ≤ LIM) = true := decide_eq_true (by rw [LIM_eq]; simp; omega)
            have g5 : IntKind.i64.wrap (p + (rvV (s.drop p.toNat)).2) = p + (rvV (s.drop p.toNat)).2 := wrap_id (by omega) (by unfold BIG at hs; omega)
            have g6 := wrap_succ (i := i) (by unfold BIG; omega)
            have e : varsAtV s (m + 1) p out = varsAtV s m (p + (rvV (s.drop p.toNat)).2) (out ++ [(rvV (s.drop p.toNat)).1]) := by
              conv => lhs; unfold varsAtV
              rw [if_neg (by omega), if_neg h3]
            obtain ⟨N, rfl⟩ : ∃ N', N = N' + 1 := ⟨N - 1, by omega⟩
            rw [e, iter_again (x' := ((s, (p + (rvV (s.drop p.toNat)).2, (n, (((i + 1 : Nat) : Int), ())))), (out ++ [(rvV (s.drop p.toNat)).1], ())))]
            · exact ih (i + 1) N _ _ (by omega) (by omega) (by simp; omega)
            · simp only [f12_L0, Out.eval, w3, decide_eq_false h1, g, g2, g3, g4, g5, g6]; rfl
  obtain ⟨r, e, h⟩ := key n.toNat 0 FUEL p [] (by omega) (Nat.lt_of_le_of_lt (show n.toNat ≤ 1000 by omega) (by decide)) (by simp)
  unfold f12_tree
  refine (eval_get_some e).trans ?_
  rcases h with h | h <;> subst h <;> rfl
def f50_tree (a0 : List UInt8) (a1 : Bool) : Out (((Int × Unit) × Unit) × ((List UInt8 × Bool × Unit) × Unit)) :=
 .ite (a1 == false)
 (.ite (((rvV a0).2 == (0 : Int)))
 (.ret ((((0 : Int), ()), ()), ((a0, true, ()), ())))
 (.ite (decide (0 ≤ (rvV a0).2 ∧ (rvV a0).2 ≤ ((List.length a0 : Nat) : Int)))
 (.ret ((((rvV a0).1, ()), ()), (((List.drop (Int.toNat (rvV a0).2) a0), a1, ()), ())))
 .fail))
 (.ret ((((0 : Int), ()), ()), ((a0, true, ()), ())))
def k50 : Con := { f := 50, lend := true, its := [⟨true, false, [.s, .b]⟩], lay := [none], rs := [⟨false, false, [.i .i64]⟩], F := fun x => .ret ((((numV x.1.1 x.1.2.1).1, ()), ()), (((numV x.1.1 x.1.2.1).2.1, (numV x.1.1 x.1.2.1).2.2, ()), ())) }
theorem f50_eq (x : itemsD k50.its) : bo [k85] (fun _ => none) Tryz.f50 k50 [.tmp 2] x = f50_tree x.1.1 x.1.2.1 := by kernel_rfl
theorem f50_ok (hr : ∀ x : (List UInt8 × Bool × Unit) × Unit, itemsWF k50.its x → (f50_tree x.1.1 x.1.2.1).eval = (k50.F x).eval) : k50.Ok Tryz.prog := con_fn [k85] ⟨k85_ok, trivial⟩ f50_eq fun x hw _ hy => (hr x hw).trans hy
theorem k50_ok : k50.Ok Tryz.prog := by
  refine f50_ok fun x _ => ?_
  obtain ⟨⟨s, b, _⟩, _⟩ := x
  show (f50_tree s b).eval = some ((((numV s b).1, ()), ()), (((numV s b).2.1, ((numV s b).2.2, ())), ()))
  have hb := rvV_bounds s
  have g2 : decide (0 ≤ (rvV s).2 ∧ (rvV s).2 ≤ ((s.length : Nat) : Int)) = true := decide_eq_true (by omega)
  unfold f50_tree numV
  cases b
  · cases h : ((rvV s).2 == (0 : Int))
    · simp only [Out.eval, g2]; rfl
    · rfl
  · rfl
def f51_tree (a0 : List UInt8) (a1 : Bool) (a2 : Int) : Out (((Int × Unit) × Unit) × ((List UInt8 × Bool × Unit) × Unit × Unit)) :=
 .ite (decide ((numV a0 a1).1 > a2))
 (.ret ((((0 : Int), ()), ()), (((numV a0 a1).2.1, true, ()), (), ())))
 (.ret ((((numV a0 a1).1, ()), ()), (((numV a0 a1).2.1, (numV a0 a1).2.2, ()), (), ())))
def k51 : Con := { f := 51, lend := true, its := [⟨true, false, [.s, .b]⟩, ⟨false, false, [.i .i64]⟩], lay := [none, none], rs := [⟨false, false, [.i .i64]⟩], F := fun x => .ret ((((manyV x.1.1 x.1.2.1 x.2.1.1).1, ()), ()), (((manyV x.1.1 x.1.2.1 x.2.1.1).2.1, (manyV x.1.1 x.1.2.1 x.2.1.1).2.2, ()), (), ())) }
theorem f51_eq (x : itemsD k51.its) : bo [k50] (fun _ => none) Tryz.f51 k51 [.tmp 4] x = f51_tree x.1.1 x.1.2.1 x.2.1.1 := by kernel_rfl
theorem f51_ok (hr : ∀ x : (List UInt8 × Bool × Unit) × (Int × Unit) × Unit, itemsWF k51.its x → (f51_tree x.1.1 x.1.2.1 x.2.1.1).eval = (k51.F x).eval) : k51.Ok Tryz.prog := con_fn [k50] ⟨k50_ok, trivial⟩ f51_eq fun x hw _ hy => (hr x hw).trans hy
theorem k51_ok : k51.Ok Tryz.prog := by
  refine f51_ok fun x _ => ?_
  obtain ⟨⟨s, b, _⟩, ⟨m, _⟩, _⟩ := x
  show (f51_tree s b m).eval = some ((((manyV s b m).1, ()), ()), (((manyV s b m).2.1, ((manyV s b m).2.2, ())), ((), ())))
  unfold f51_tree manyV
  by_cases h : (numV s b).1 > m
  · rw [eval_ite_t (decide_eq_true h), if_pos h]; rfl
  · rw [eval_ite_f (decide_eq_false h), if_neg h]; rfl
def f45_tree (a0 : Int) : Out (((Int × Unit) × Unit) × (Unit × Unit)) :=
 .ite ((2 : Int) == 0)
 .fail
 (.ite (((Int.tmod a0 (2 : Int)) == (1 : Int)))
 (.ite ((2 : Int) == 0)
 .fail
 (.ret ((((IntKind.i64.wrap (Int.tdiv (IntKind.i64.wrap (0 - (IntKind.i64.wrap (a0 + (1 : Int))))) (2 : Int))), ()), ()), ((), ()))))
 (.ite ((2 : Int) == 0)
 .fail
 (.ret ((((IntKind.i64.wrap (Int.tdiv a0 (2 : Int))), ()), ()), ((), ())))))
def k45 : Con := { f := 45, lend := true, its := [⟨false, false, [.i .i64]⟩], lay := [none], rs := [⟨false, false, [.i .i64]⟩], F := fun x => .ret ((((zagV x.1.1), ()), ()), ((), ())) }
theorem f45_eq (x : itemsD k45.its) : bo [] (fun _ => none) Tryz.f45 k45 [.tmp 2] x = f45_tree x.1.1 := by kernel_rfl
theorem f45_ok (hr : ∀ x : (Int × Unit) × Unit, itemsWF k45.its x → (f45_tree x.1.1).eval = (k45.F x).eval) : k45.Ok Tryz.prog := con_fn [] trivial f45_eq fun x hw _ hy => (hr x hw).trans hy
theorem k45_ok : k45.Ok Tryz.prog := by
  refine f45_ok fun x _ => ?_
  obtain ⟨⟨n, _⟩, _⟩ := x
  show (f45_tree n).eval = some (((zagV n, ()), ()), ((), ()))
  unfold f45_tree zagV
  cases h : (Int.tmod n 2 == (1 : Int)) <;> simp only [Out.eval, h] <;> rfl
def f86_tree (a0 : Int) : Out (((Int × Unit) × Unit) × (Unit × Unit)) :=
 .ite ((2 : Int) == 0)
 .fail
 (.ite (((Int.tmod a0 (2 : Int)) == (1 : Int)))
 (.ite ((2 : Int) == 0)
 .fail
 (.ret ((((IntKind.i64.wrap (Int.tdiv (IntKind.i64.wrap (0 - (IntKind.i64.wrap (a0 + (1 : Int))))) (2 : Int))), ()), ()), ((), ()))))
 (.ite ((2 : Int) == 0)
 .fail
 (.ret ((((IntKind.i64.wrap (Int.tdiv a0 (2 : Int))), ()), ()), ((), ())))))
def k86 : Con := { f := 86, lend := true, its := [⟨false, false, [.i .i64]⟩], lay := [none], rs := [⟨false, false, [.i .i64]⟩], F := fun x => .ret ((((zagV x.1.1), ()), ()), ((), ())) }
theorem f86_eq (x : itemsD k86.its) : bo [] (fun _ => none) Tryz.f86 k86 [.tmp 2] x = f86_tree x.1.1 := by kernel_rfl
theorem f86_ok (hr : ∀ x : (Int × Unit) × Unit, itemsWF k86.its x → (f86_tree x.1.1).eval = (k86.F x).eval) : k86.Ok Tryz.prog := con_fn [] trivial f86_eq fun x hw _ hy => (hr x hw).trans hy
theorem k86_ok : k86.Ok Tryz.prog := by
  refine f86_ok fun x _ => ?_
  obtain ⟨⟨n, _⟩, _⟩ := x
  show (f86_tree n).eval = some (((zagV n, ()), ()), ((), ()))
  unfold f86_tree zagV
  cases h : (Int.tmod n 2 == (1 : Int)) <;> simp only [Out.eval, h] <;> rfl
theorem l3VarsV_some (s : Str) (p : Int) {n : Nat} (h : n ≤ 1000) : l3VarsV s p ((n : Nat) : Int) = some (varsAtV s n p []) := by
  unfold l3VarsV
  rw [if_pos (by omega), Int.toNat_natCast]
theorem numV_le (s : Str) (bad : Bool) : 0 ≤ (numV s bad).1 := by
  unfold numV
  split
  · exact Int.le_refl _
  · exact (rvV_bounds s).1.1
theorem manyV_le (s : Str) (bad : Bool) (m : Int) (hm : 0 ≤ m) : 0 ≤ (manyV s bad m).1 ∧ (manyV s bad m).1 ≤ m := by
  have := numV_le s bad
  unfold manyV
  split
  · exact ⟨Int.le_refl _, hm⟩
  · omega
end Go.Proofs.YtcpjdjgipmjhdaaGreat.Dm
