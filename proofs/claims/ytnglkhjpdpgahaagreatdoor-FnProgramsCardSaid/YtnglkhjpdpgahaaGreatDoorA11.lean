/- Functions of the program, and what they compute. -/
import Derived.Test.YtnglkhjpdpgahaaGreatDoorA10
namespace Go.Proofs.YtnglkhjpdpgahaaGreatDoor.Dm
open Go Go.ChangeShapes Go.WideShapes Go.ChangeAt Go.RowKit
theorem or_step {i n m : Nat} (hi : i < 7) (hn : n < 128 ^ i) (hm : m < 128) :
    IntKind.i64.wrap (((BitVec.ofInt (IntKind.bits IntKind.i64) ((n : Nat) : Int) ||| BitVec.ofInt (IntKind.bits IntKind.i64) (IntKind.i64.wrap (((m : Nat) : Int) * 2 ^ (min (Int.toNat (IntKind.i64.wrap ((7 : Int) * ((i : Nat) : Int)))) (IntKind.bits IntKind.i64))))).toNat : Nat) : Int) = ((n + 128 ^ i * m : Nat) : Int) := by
  have e1 : IntKind.i64.wrap ((7 : Int) * ((i : Nat) : Int)) = ((7 * i : Nat) : Int) := by rw [wrap_id (by omega) (by omega)]; omega
  have e2 : min (Int.toNat ((7 * i : Nat) : Int)) (IntKind.bits IntKind.i64) = 7 * i := by show min (7 * i) 64 = 7 * i; omega
  have e3 : (2 : Nat) ^ (7 * i) = 128 ^ i := by rw [Nat.pow_mul]
  have h6 : 128 ^ i ≤ 128 ^ 6 := Nat.pow_le_pow_right (by decide) (by omega)
  have h6' : (128 : Nat) ^ 6 = 4398046511104 := by decide
  have hmul : 128 ^ i * m ≤ 4398046511104 * 127 := Nat.mul_le_mul (by omega) (by omega)
  have e4 : ((m : Nat) : Int) * 2 ^ (7 * i) = ((128 ^ i * m : Nat) : Int) := by
    rw [← e3, Int.natCast_mul, Int.natCast_pow, Int.mul_comm]; rfl
  rw [e1, e2, e4, wrap_nat (a := 128 ^ i * m) (by unfold BIG; omega)]
  have := bit_or (a := n) (b := 128 ^ i * m) (by unfold BIG; omega) (by unfold BIG; omega)
  rw [this]
  congr 1
  have h := Nat.two_pow_add_eq_or_of_lt (i := 7 * i) (b := n) (by rw [e3]; exact hn) m
  rw [e3] at h
  rw [Nat.or_comm, ← h, Nat.add_comm]
abbrev f58_S0 := (List UInt8 × Int × Int × Unit) × (Unit)
def f58_L0 : f58_S0 → Out (Round f58_S0 ((Unit) × (Unit)) ((Int × Int × Unit) × (Unit)))
| ((p0, p1, p2, _), _) =>
 .ite ((decide (p2 < (7 : Int))) == true)
 (.ite (decide (p2 < ((List.length p0 : Nat) : Int)))
 (.ite (decide (0 ≤ p2))
 (.get (nth p0 (Int.toNat p2)) fun y1 =>
 .ite (decide ((IntKind.i64.wrap ((7 : Int) * p2)) < 0))
 .fail
 (.ite (decide ((IntKind.i64.wrap ((UInt8.toNat y1 : Nat) : Int)) > (127 : Int)))
 (.ret (.again ((p0, (IntKind.i64.wrap (((BitVec.ofInt (IntKind.bits IntKind.i64) p1 ||| BitVec.ofInt (IntKind.bits IntKind.i64) (IntKind.i64.wrap ((IntKind.i64.wrap (((BitVec.ofInt (IntKind.bits IntKind.i64) (IntKind.i64.wrap ((UInt8.toNat y1 : Nat) : Int)) &&& BitVec.ofInt (IntKind.bits IntKind.i64) (127 : Int)).toNat : Int))) * 2 ^ (min (Int.toNat (IntKind.i64.wrap ((7 : Int) * p2))) (IntKind.bits IntKind.i64))))).toNat : Int))), (IntKind.i64.wrap (p2 + (1 : Int))), ()), ())))
 (.ite ((((IntKind.i64.wrap ((UInt8.toNat y1 : Nat) : Int)) == (0 : Int))) == true)
 (.ite ((decide (p2 > (0 : Int))) == false)
 (.ite (decide ((IntKind.i64.wrap (((BitVec.ofInt (IntKind.bits IntKind.i64) p1 ||| BitVec.ofInt (IntKind.bits IntKind.i64) (IntKind.i64.wrap ((IntKind.i64.wrap (((BitVec.ofInt (IntKind.bits IntKind.i64) (IntKind.i64.wrap ((UInt8.toNat y1 : Nat) : Int)) &&& BitVec.ofInt (IntKind.bits IntKind.i64) (127 : Int)).toNat : Int))) * 2 ^ (min (Int.toNat (IntKind.i64.wrap ((7 : Int) * p2))) (IntKind.bits IntKind.i64))))).toNat : Int))) > (562949953421311 : Int)))
 (.ret (.ret (((0 : Int), (0 : Int), ()), ())))
 (.ret (.ret (((IntKind.i64.wrap (((BitVec.ofInt (IntKind.bits IntKind.i64) p1 ||| BitVec.ofInt (IntKind.bits IntKind.i64) (IntKind.i64.wrap ((IntKind.i64.wrap (((BitVec.ofInt (IntKind.bits IntKind.i64) (IntKind.i64.wrap ((UInt8.toNat y1 : Nat) : Int)) &&& BitVec.ofInt (IntKind.bits IntKind.i64) (127 : Int)).toNat : Int))) * 2 ^ (min (Int.toNat (IntKind.i64.wrap ((7 : Int) * p2))) (IntKind.bits IntKind.i64))))).toNat : Int))), (IntKind.i64.wrap (p2 + (1 : Int))), ()), ()))))
 (.ret (.ret (((0 : Int), (0 : Int), ()), ()))))
 (.ite (decide ((IntKind.i64.wrap (((BitVec.ofInt (IntKind.bits IntKind.i64) p1 ||| BitVec.ofInt (IntKind.bits IntKind.i64) (IntKind.i64.wrap ((IntKind.i64.wrap (((BitVec.ofInt (IntKind.bits IntKind.i64) (IntKind.i64.wrap ((UInt8.toNat y1 : Nat) : Int)) &&& BitVec.ofInt (IntKind.bits IntKind.i64) (127 : Int)).toNat : Int))) * 2 ^ (min (Int.toNat (IntKind.i64.wrap ((7 : Int) * p2))) (IntKind.bits IntKind.i64))))).toNat : Int))) > (562949953421311 : Int)))
 (.ret (.ret (((0 : Int), (0 : Int), ()), ())))
 (.ret (.ret (((IntKind.i64.wrap (((BitVec.ofInt (IntKind.bits IntKind.i64) p1 ||| BitVec.ofInt (IntKind.bits IntKind.i64) (IntKind.i64.wrap ((IntKind.i64.wrap (((BitVec.ofInt (IntKind.bits IntKind.i64) (IntKind.i64.wrap ((UInt8.toNat y1 : Nat) : Int)) &&& BitVec.ofInt (IntKind.bits IntKind.i64) (127 : Int)).toNat : Int))) * 2 ^ (min (Int.toNat (IntKind.i64.wrap ((7 : Int) * p2))) (IntKind.bits IntKind.i64))))).toNat : Int))), (IntKind.i64.wrap (p2 + (1 : Int))), ()), ())))))))
 .fail)
 (.ret (.out ((), ()))))
 (.ret (.out ((), ())))
def f58_tree (a0 : List UInt8) : Out (((Int × Unit) × (Int × Unit) × Unit) × (Unit × Unit)) :=
 .get (iter f58_L0 FUEL ((a0, (0 : Int), (0 : Int), ()), ())) fun y1 => .alt y1 (fun y2 =>
 .ret ((((0 : Int), ()), ((0 : Int), ()), ()), ((), ()))) (fun y3 =>
 .ret (((y3.1.1, ()), (y3.1.2.1, ()), ()), ((), ())))
def f58_A : Nat → Option LoopAnn := fun n => annOf [(0, { head := { t := [.s, .dead, .dead, .dead, .i .i64, .i .i64] ++ dd 37, v := [] }, out := { t := dd 43, v := [] }, ret := some { t := [.dead, .dead, .i .i64, .i .i64] ++ dd 39, v := [] } })] n
def k58 : Con := { f := 58, lend := true, its := [⟨false, false, [.s]⟩], lay := [none], rs := [⟨false, false, [.i .i64]⟩, ⟨false, false, [.i .i64]⟩], F := fun x => .ret ((((rvV x.1.1).1, ()), ((rvV x.1.1).2, ()), ()), ((), ())) }
theorem f58_eq (x : itemsD k58.its) : bo [] f58_A Tryz.f58 k58 [.tmp 2, .tmp 3] x = f58_tree x.1.1 := by kernel_rfl
theorem f58_ok (hr : ∀ x : (List UInt8 × Unit) × Unit, itemsWF k58.its x → (f58_tree x.1.1).eval = (k58.F x).eval) : k58.Ok Tryz.prog := con_fn [] trivial f58_eq fun x hw _ hy => (hr x hw).trans hy
theorem k58_ok : k58.Ok Tryz.prog := by
  refine f58_ok fun x hw => ?_
  obtain ⟨⟨s, _⟩, _⟩ := x
  have hs : s.length ≤ BIG := hw.1.1
  show (f58_tree s).eval = some ((((rvV s).1, ()), (((rvV s).2, ()), ())), ((), ()))
  unfold f58_tree
  have hlen : (List.range (min 7 s.length)).length = min 7 s.length := List.length_range
  have step : ∀ i (hi : i < min 7 s.length) (hil : i < s.length), (f58_L0 ((s, (((decB (s.take i) : Nat) : Int), (((i : Nat) : Int), ()))), ())).eval =
      some (bif decide (s[i].toNat < 128) then .ret (if 0 < i ∧ s[i] = 0 then ((0, (0, ())), ()) else ((((decB (s.take (i + 1)) : Nat) : Int), (((i + 1 : Nat) : Int), ())), ())) else .again ((s, (((decB (s.take (i + 1)) : Nat) : Int), (((i + 1 : Nat) : Int), ()))), ())) := fun i hi hil => by
    have g1 : decide (((i : Nat) : Int) < 7) = true := decide_eq_true (by omega)
    have g2 : decide (((i : Nat) : Int) < ((s.length : Nat) : Int)) = true := decide_eq_true (by omega)
    have g3 : decide (IntKind.i64.wrap ((7 : Int) * ((i : Nat) : Int)) < 0) = false := decide_eq_false (by rw [wrap_id (by omega) (by omega)]; omega)
    have hb := s[i].toNat_lt
    have g4 : IntKind.i64.wrap (((BitVec.ofInt (IntKind.bits IntKind.i64) ((s[i].toNat : Nat) : Int) &&& BitVec.ofInt (IntKind.bits IntKind.i64) (127 : Int)).toNat : Nat) : Int) = ((s[i].toNat % 128 : Nat) : Int) := (bit_and (a := s[i].toNat) (b := 127) (by unfold BIG; omega) (by decide)).trans (by rw [and127])
    have hd := decB_lt (s.take i)
    have hlt : (s.take i).length = i := by rw [List.length_take]; omega
    rw [hlt] at hd
    have g5 := or_step (i := i) (n := decB (s.take i)) (m := s[i].toNat % 128) (by omega) hd (by omega)
    have g6 : decB (s.take (i + 1)) = decB (s.take i) + 128 ^ i * (s[i].toNat % 128) := by rw [take_snoc hil, decB_snoc, hlt]
    rw [← g6] at g5
    have g7 : IntKind.i64.wrap (((i : Nat) : Int) + 1) = ((i + 1 : Nat) : Int) := wrap_succ (by unfold BIG; omega)
    have g8 : decide (((decB (s.take (i + 1)) : Nat) : Int) > 562949953421311) = false := decide_eq_false (by
      have h1 := decB_lt (s.take (i + 1))
      have h2 : 128 ^ (s.take (i + 1)).length ≤ 128 ^ 7 := Nat.pow_le_pow_right (by decide) (by rw [List.length_take]; omega)
      have : (128 : Nat) ^ 7 = 562949953421312 := by decide
      omega)
    have g9 : decide (((s[i].toNat : Nat) : Int) > (127 : Int)) = !decide (s[i].toNat < 128) := by rw [Bool.eq_iff_iff]; simp; omega
    have g10 : decide (((i : Nat) : Int) > 0) = decide (0 < i) := by rw [Bool.eq_iff_iff]; simp
    have g11 : (((s[i].toNat : Nat) : Int) == 0) = decide (s[i] = 0) := by
      rw [Bool.eq_iff_iff]
      simp only [beq_iff_eq, decide_eq_true_eq]
      constructor
      · intro h; exact UInt8.toNat_inj.1 (by rw [show (0 : UInt8).toNat = 0 from rfl]; omega)
      · intro h; rw [h]; rfl
    simp only [f58_L0, Out.eval, g1, g2, g3, ge0, nth_get hil, byte_wrap, g4, g5, g7, g8, g9, g10, g11, Option.bind_some, cond_true]
    by_cases q1 : s[i].toNat < 128
    · by_cases q2 : s[i] = 0
      · by_cases q3 : 0 < i
        · rw [decide_eq_true q1, decide_eq_true q2, decide_eq_true q3, if_pos ⟨q3, q2⟩]; rfl
        · rw [decide_eq_true q1, decide_eq_true q2, decide_eq_false q3, if_neg (fun q => q3 q.1)]; rfl
      · rw [decide_eq_true q1, decide_eq_false q2, if_neg (fun q => q2 q.2)]; rfl
    · rw [decide_eq_false q1]; rfl
  have := idx_loop (f := f58_L0) (List.range (min 7 s.length)) (fun i => decide ((s.getD i 0).toNat < 128)) (fun i => ((s, (((decB (s.take i) : Nat) : Int), (((i : Nat) : Int), ()))), ())) (y := ((), ())) (z := fun i => if 0 < i ∧ s.getD i 0 = 0 then ((0, (0, ())), ()) else ((((decB (s.take (i + 1)) : Nat) : Int), (((i + 1 : Nat) : Int), ())), ()))
    (fun i hi hp => by
      have hil : i < s.length := by omega
      rw [List.getElem_range, List.getD_eq_getElem?_getD, List.getElem?_eq_getElem hil, Option.getD_some] at hp
      rw [step i (by omega) hil, hp]; rfl)
    (fun i hi hp => by
      have hil : i < s.length := by omega
      rw [List.getElem_range, List.getD_eq_getElem?_getD, List.getElem?_eq_getElem hil, Option.getD_some] at hp
      rw [step i (by omega) hil, hp, List.getD_eq_getElem?_getD, List.getElem?_eq_getElem hil, Option.getD_some]; rfl)
    (by
      rw [hlen]
      by_cases h : s.length < 7
      · have g1 : decide (((min 7 s.length : Nat) : Int) < 7) = true := decide_eq_true (by omega)
        have g2 : decide (((min 7 s.length : Nat) : Int) < ((s.length : Nat) : Int)) = false := decide_eq_false (by omega)
        simp only [f58_L0, Out.eval, g1, g2]; rfl
      · have g1 : decide (((min 7 s.length : Nat) : Int) < 7) = false := decide_eq_false (by omega)
        simp only [f58_L0, Out.eval, g1]; rfl) (by rw [hlen]; unfold BIG; omega)
  simp only [List.take_zero, show decB [] = 0 from rfl] at this
  refine (eval_get_some this).trans ?_
  cases h : (List.range (min 7 s.length)).findIdx? (fun i => decide ((s.getD i 0).toNat < 128)) with
  | none =>
    rw [List.findIdx?_eq_none_iff] at h
    have : rvI s = none := rv_all fun i hi hil => by
      have := h i (List.mem_range.2 hi)
      rw [List.getD_eq_getElem?_getD, List.getElem?_eq_getElem hil, Option.getD_some] at this
      have := of_decide_eq_false this
      omega
    rw [rvV_none this]; rfl
  | some i =>
    rw [List.findIdx?_eq_some_iff_getElem] at h
    obtain ⟨hi, hp, hmin⟩ := h
    have hil : i < s.length := by omega
    rw [List.getElem_range, List.getD_eq_getElem?_getD, List.getElem?_eq_getElem hil, Option.getD_some] at hp
    have hr := rv_scan (s := s) (j := i) (by omega) (fun j hj hjl => by
      have := hmin j hj
      rw [List.getElem_range, List.getD_eq_getElem?_getD, List.getElem?_eq_getElem hjl, Option.getD_some] at this
      have : ¬ s[j].toNat < 128 := by simpa using this
      omega) (of_decide_eq_true hp)
    have hg : s.getD i 0 = s[i] := by rw [List.getD_eq_getElem?_getD, List.getElem?_eq_getElem hil, Option.getD_some]
    simp only [hg]
    by_cases q : 0 < i ∧ s[i] = 0
    · rw [if_pos q] at hr
      rw [rvV_none hr]
      simp only [Out.eval, if_pos q]
    · rw [if_neg q] at hr
      rw [rvV_some hr]
      simp only [Out.eval, if_neg q]
def f37_tree (a0 : List UInt8) (a1 : Bool) : Out (((Int × Unit) × Unit) × ((List UInt8 × Bool × Unit) × Unit)) :=
 .ite (a1 == false)
 (.ite (((rvV a0).2 == (0 : Int)))
 (.ret ((((0 : Int), ()), ()), ((a0, true, ()), ())))
 (.ite (decide (0 ≤ (rvV a0).2 ∧ (rvV a0).2 ≤ ((List.length a0 : Nat) : Int)))
 (.ret ((((rvV a0).1, ()), ()), (((List.drop (Int.toNat (rvV a0).2) a0), a1, ()), ())))
 .fail))
 (.ret ((((0 : Int), ()), ()), ((a0, true, ()), ())))
def k37 : Con := { f := 37, lend := true, its := [⟨true, false, [.s, .b]⟩], lay := [none], rs := [⟨false, false, [.i .i64]⟩], F := fun x => .ret ((((numV x.1.1 x.1.2.1).1, ()), ()), (((numV x.1.1 x.1.2.1).2.1, (numV x.1.1 x.1.2.1).2.2, ()), ())) }
theorem f37_eq (x : itemsD k37.its) : bo [k58] (fun _ => none) Tryz.f37 k37 [.tmp 2] x = f37_tree x.1.1 x.1.2.1 := by kernel_rfl
theorem f37_ok (hr : ∀ x : (List UInt8 × Bool × Unit) × Unit, itemsWF k37.its x → (f37_tree x.1.1 x.1.2.1).eval = (k37.F x).eval) : k37.Ok Tryz.prog := con_fn [k58] ⟨k58_ok, trivial⟩ f37_eq fun x hw _ hy => (hr x hw).trans hy
theorem k37_ok : k37.Ok Tryz.prog := by
  refine f37_ok fun x _ => ?_
  obtain ⟨⟨s, b, _⟩, _⟩ := x
  show (f37_tree s b).eval = some ((((numV s b).1, ()), ()), (((numV s b).2.1, ((numV s b).2.2, ())), ()))
  have hb := rvV_bounds s
  have g2 : decide (0 ≤ (rvV s).2 ∧ (rvV s).2 ≤ ((s.length : Nat) : Int)) = true := decide_eq_true (by omega)
  unfold f37_tree numV
  cases b
  · cases h : ((rvV s).2 == (0 : Int))
    · simp only [Out.eval, g2]; rfl
    · rfl
  · rfl
def f36_tree (a0 : List UInt8) (a1 : Bool) (a2 : Int) : Out (((Int × Unit) × Unit) × ((List UInt8 × Bool × Unit) × Unit × Unit)) :=
 .ite (decide ((numV a0 a1).1 > a2))
 (.ret ((((0 : Int), ()), ()), (((numV a0 a1).2.1, true, ()), (), ())))
 (.ret ((((numV a0 a1).1, ()), ()), (((numV a0 a1).2.1, (numV a0 a1).2.2, ()), (), ())))
def k36 : Con := { f := 36, lend := true, its := [⟨true, false, [.s, .b]⟩, ⟨false, false, [.i .i64]⟩], lay := [none, none], rs := [⟨false, false, [.i .i64]⟩], F := fun x => .ret ((((manyV x.1.1 x.1.2.1 x.2.1.1).1, ()), ()), (((manyV x.1.1 x.1.2.1 x.2.1.1).2.1, (manyV x.1.1 x.1.2.1 x.2.1.1).2.2, ()), (), ())) }
theorem f36_eq (x : itemsD k36.its) : bo [k37] (fun _ => none) Tryz.f36 k36 [.tmp 4] x = f36_tree x.1.1 x.1.2.1 x.2.1.1 := by kernel_rfl
theorem f36_ok (hr : ∀ x : (List UInt8 × Bool × Unit) × (Int × Unit) × Unit, itemsWF k36.its x → (f36_tree x.1.1 x.1.2.1 x.2.1.1).eval = (k36.F x).eval) : k36.Ok Tryz.prog := con_fn [k37] ⟨k37_ok, trivial⟩ f36_eq fun x hw _ hy => (hr x hw).trans hy
theorem k36_ok : k36.Ok Tryz.prog := by
  refine f36_ok fun x _ => ?_
  obtain ⟨⟨s, b, _⟩, ⟨m, _⟩, _⟩ := x
  show (f36_tree s b m).eval = some ((((manyV s b m).1, ()), ()), (((manyV s b m).2.1, ((manyV s b m).2.2, ())), ((), ())))
  unfold f36_tree manyV
  by_cases h : (numV s b).1 > m
  · rw [eval_ite_t (decide_eq_true h), if_pos h]; rfl
  · rw [eval_ite_f (decide_eq_false h), if_neg h]; rfl
def f38_tree (a0 : Int) : Out (((Int × Unit) × Unit) × (Unit × Unit)) :=
 .ite ((2 : Int) == 0)
 .fail
 (.ite (((Int.tmod a0 (2 : Int)) == (1 : Int)))
 (.ite ((2 : Int) == 0)
 .fail
 (.ret ((((IntKind.i64.wrap (Int.tdiv (IntKind.i64.wrap (0 - (IntKind.i64.wrap (a0 + (1 : Int))))) (2 : Int))), ()), ()), ((), ()))))
 (.ite ((2 : Int) == 0)
 .fail
 (.ret ((((IntKind.i64.wrap (Int.tdiv a0 (2 : Int))), ()), ()), ((), ())))))
def k38 : Con := { f := 38, lend := true, its := [⟨false, false, [.i .i64]⟩], lay := [none], rs := [⟨false, false, [.i .i64]⟩], F := fun x => .ret ((((zagV x.1.1), ()), ()), ((), ())) }
theorem f38_eq (x : itemsD k38.its) : bo [] (fun _ => none) Tryz.f38 k38 [.tmp 2] x = f38_tree x.1.1 := by kernel_rfl
theorem f38_ok (hr : ∀ x : (Int × Unit) × Unit, itemsWF k38.its x → (f38_tree x.1.1).eval = (k38.F x).eval) : k38.Ok Tryz.prog := con_fn [] trivial f38_eq fun x hw _ hy => (hr x hw).trans hy
theorem k38_ok : k38.Ok Tryz.prog := by
  refine f38_ok fun x _ => ?_
  obtain ⟨⟨n, _⟩, _⟩ := x
  show (f38_tree n).eval = some (((zagV n, ()), ()), ((), ()))
  unfold f38_tree zagV
  cases h : (Int.tmod n 2 == (1 : Int)) <;> simp only [Out.eval, h] <;> rfl
theorem numV_le (s : Str) (bad : Bool) : 0 ≤ (numV s bad).1 := by
  unfold numV
  split
  · exact Int.le_refl _
  · exact (rvV_bounds s).1.1
theorem manyV_le (s : Str) (bad : Bool) (m : Int) (hm : 0 ≤ m) : 0 ≤ (manyV s bad m).1 ∧ (manyV s bad m).1 ≤ m := by
  have := numV_le s bad
  unfold manyV
  split
  · exact ⟨Int.le_refl _, hm⟩
  · omega
end Go.Proofs.YtnglkhjpdpgahaaGreatDoor.Dm
