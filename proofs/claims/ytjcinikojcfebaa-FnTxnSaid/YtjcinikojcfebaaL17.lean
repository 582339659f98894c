/- Functions of the program, and what they compute. -/
import Derived.Test.YtjcinikojcfebaaA18
import Derived.Test.YtjcinikojcfebaaFacts
import Derived.Test.YtjcinikojcfebaaRows
import Derived.ChangeCalls
namespace Go.Proofs.Ytjcinikojcfebaa.Dm
open Go Go.ChangeShapes Go.WideShapes Go.ChangeAt Go.RowKit

abbrev f17_S0 := (List (Int) × List UInt8 × Int × Unit) × ((Int × Unit) × (Int × Unit) × List ((Int × List UInt8 × Unit)) × List ((Int × List UInt8 × Unit)) × Unit)
def f17_L0 (x : f17_S0) : Out (Round f17_S0 ((List (Int) × List UInt8 × Unit) × ((Int × Unit) × (Int × Unit) × List ((Int × List UInt8 × Unit)) × List ((Int × List UInt8 × Unit)) × Unit)) ((Bool × Unit) × (Unit))) :=
 .ite (decide (x.1.2.2.1 < ((List.length x.2.2.2.1 : Nat) : Int)))
 (.ite ((decide (x.1.2.2.1 ≥ ((List.length x.2.2.2.2.1 : Nat) : Int))) == false)
 (.ite (decide (0 ≤ x.1.2.2.1 ∧ x.1.2.2.1 < ((List.length x.2.2.2.2.1 : Nat) : Int)))
 (.get (nth x.2.2.2.2.1 (Int.toNat x.1.2.2.1)) fun y1 =>
 .ite (decide (0 ≤ x.1.2.2.1 ∧ x.1.2.2.1 < ((List.length x.2.2.2.1 : Nat) : Int)))
 (.get (nth x.2.2.2.1 (Int.toNat x.1.2.2.1)) fun y2 =>
 .ite (!((y1.1 == y2.1) && ((y1.2.1 == y2.2.1) && true)))
 (.ret (.ret ((false, ()), ())))
 (.ret (.again ((x.1.1, x.1.2.1, (IntKind.i64.wrap (x.1.2.2.1 + (1 : Int))), ()), ((x.2.1.1, ()), (x.2.2.1.1, ()), x.2.2.2.1, x.2.2.2.2.1, ())))))
 .fail)
 .fail)
 (.ret (.ret ((false, ()), ()))))
 (.ret (.out ((x.1.1, x.1.2.1, ()), ((x.2.1.1, ()), (x.2.2.1.1, ()), x.2.2.2.1, x.2.2.2.2.1, ()))))
def f17_tree (a0 : List Int) : Out (((Bool × Unit) × Unit) × (Unit × Unit)) :=
 .ite (bigV a0)
 (.ret (((true, ()), ()), ((), ())))
 (.get (k90_V a0) fun y1 =>
 .ite (!((readTxnRV (showTxnV y1.1.1.1 y1.1.1.2.1)).2.2 == ((showTxnV y1.1.1.1 y1.1.1.2.1) != ([] : List UInt8))))
 (.ret (((false, ()), ()), ((), ())))
 (.get (k91_V a0) fun y2 =>
 .ite ((!((readTxnRV y2.1.1.1).2.2 == (readTxnRV y2.1.1.1).2.2)) == false)
 (.ite ((readTxnRV y2.1.1.1).2.2 == true)
 (.ite ((showTxnV (readTxnRV y2.1.1.1).1 (readTxnRV y2.1.1.1).2.1) != y2.1.1.1)
 (.ret (((false, ()), ()), ((), ())))
 (.ite (!(readTxnRV (showTxnV y1.1.1.1 y1.1.1.2.1)).2.2)
 (.ret (((((showTxnV y1.1.1.1 y1.1.1.2.1) == ([] : List UInt8)), ()), ()), ((), ())))
 (.get (iter f17_L0 FUEL ((a0, (showTxnV y1.1.1.1 y1.1.1.2.1), (0 : Int), ()), ((y1.1.1.1, ()), ((readTxnRV (showTxnV y1.1.1.1 y1.1.1.2.1)).1, ()), y1.1.1.2.1, (readTxnRV (showTxnV y1.1.1.1 y1.1.1.2.1)).2.1, ()))) fun y3 => .alt y3 (fun y4 =>
 .get (atV y4.1.1 (0 : Int)) fun y6 =>
 .get (atV y4.1.1 (1 : Int)) fun y7 =>
 .ite (((List.length y4.1.2.1 : Nat) : Int) == 0)
 .fail
 (.ite (decide (0 ≤ (0 : Int) ∧ (0 : Int) ≤ (Int.tmod (IntKind.i64.wrap ((IntKind.i64.wrap (y6 * (256 : Int))) + y7)) ((List.length y4.1.2.1 : Nat) : Int)) ∧ (Int.tmod (IntKind.i64.wrap ((IntKind.i64.wrap (y6 * (256 : Int))) + y7)) ((List.length y4.1.2.1 : Nat) : Int)) ≤ ((List.length y4.1.2.1 : Nat) : Int)))
 (.ite (decide (0 ≤ (Int.tmod (IntKind.i64.wrap ((IntKind.i64.wrap (y6 * (256 : Int))) + y7)) ((List.length y4.1.2.1 : Nat) : Int))))
 (.get (nth y4.1.2.1 (Int.toNat (Int.tmod (IntKind.i64.wrap ((IntKind.i64.wrap (y6 * (256 : Int))) + y7)) ((List.length y4.1.2.1 : Nat) : Int)))) fun y8 =>
 .get (atV y4.1.1 (2 : Int)) fun y9 =>
 .ite ((255 : Int) == 0)
 .fail
 (.ite (decide (List.length (List.drop (Int.toNat (0 : Int)) (List.take (Int.toNat (Int.tmod (IntKind.i64.wrap ((IntKind.i64.wrap (y6 * (256 : Int))) + y7)) ((List.length y4.1.2.1 : Nat) : Int))) y4.1.2.1)) + List.length (List.map (fun n : Int => UInt8.ofNat n.toNat) ([(IntKind.u8.wrap (IntKind.i64.wrap (((BitVec.ofInt (IntKind.bits IntKind.i64) (IntKind.i64.wrap ((UInt8.toNat y8 : Nat) : Int)) ^^^ BitVec.ofInt (IntKind.bits IntKind.i64) (IntKind.i64.wrap ((1 : Int) + (Int.tmod y9 (255 : Int))))).toNat : Int))))] : List (Int))) ≤ LIM))
 (.ite (decide (0 ≤ (IntKind.i64.wrap ((Int.tmod (IntKind.i64.wrap ((IntKind.i64.wrap (y6 * (256 : Int))) + y7)) ((List.length y4.1.2.1 : Nat) : Int)) + (1 : Int))) ∧ (IntKind.i64.wrap ((Int.tmod (IntKind.i64.wrap ((IntKind.i64.wrap (y6 * (256 : Int))) + y7)) ((List.length y4.1.2.1 : Nat) : Int)) + (1 : Int))) ≤ ((List.length y4.1.2.1 : Nat) : Int)))
 (.ite (decide (List.length ((List.drop (Int.toNat (0 : Int)) (List.take (Int.toNat (Int.tmod (IntKind.i64.wrap ((IntKind.i64.wrap (y6 * (256 : Int))) + y7)) ((List.length y4.1.2.1 : Nat) : Int))) y4.1.2.1)) ++ (List.map (fun n : Int => UInt8.ofNat n.toNat) ([(IntKind.u8.wrap (IntKind.i64.wrap (((BitVec.ofInt (IntKind.bits IntKind.i64) (IntKind.i64.wrap ((UInt8.toNat y8 : Nat) : Int)) ^^^ BitVec.ofInt (IntKind.bits IntKind.i64) (IntKind.i64.wrap ((1 : Int) + (Int.tmod y9 (255 : Int))))).toNat : Int))))] : List (Int)))) + List.length (List.drop (Int.toNat (IntKind.i64.wrap ((Int.tmod (IntKind.i64.wrap ((IntKind.i64.wrap (y6 * (256 : Int))) + y7)) ((List.length y4.1.2.1 : Nat) : Int)) + (1 : Int)))) y4.1.2.1) ≤ LIM))
 (.ite (((y4.2.2.1.1 == y4.2.1.1)) == true)
 (.ret ((((!(readTxnRV (((List.drop (Int.toNat (0 : Int)) (List.take (Int.toNat (Int.tmod (IntKind.i64.wrap ((IntKind.i64.wrap (y6 * (256 : Int))) + y7)) ((List.length y4.1.2.1 : Nat) : Int))) y4.1.2.1)) ++ (List.map (fun n : Int => UInt8.ofNat n.toNat) ([(IntKind.u8.wrap (IntKind.i64.wrap (((BitVec.ofInt (IntKind.bits IntKind.i64) (IntKind.i64.wrap ((UInt8.toNat y8 : Nat) : Int)) ^^^ BitVec.ofInt (IntKind.bits IntKind.i64) (IntKind.i64.wrap ((1 : Int) + (Int.tmod y9 (255 : Int))))).toNat : Int))))] : List (Int)))) ++ (List.drop (Int.toNat (IntKind.i64.wrap ((Int.tmod (IntKind.i64.wrap ((IntKind.i64.wrap (y6 * (256 : Int))) + y7)) ((List.length y4.1.2.1 : Nat) : Int)) + (1 : Int)))) y4.1.2.1))).2.2), ()), ()), ((), ())))
 (.ret (((false, ()), ()), ((), ()))))
 .fail)
 .fail)
 .fail))
 .fail)
 .fail)) (fun y5 =>
 .ret (((y5.1.1, ()), ()), ((), ()))))))
 (.ite (!(readTxnRV (showTxnV y1.1.1.1 y1.1.1.2.1)).2.2)
 (.ret (((((showTxnV y1.1.1.1 y1.1.1.2.1) == ([] : List UInt8)), ()), ()), ((), ())))
 (.get (iter f17_L0 FUEL ((a0, (showTxnV y1.1.1.1 y1.1.1.2.1), (0 : Int), ()), ((y1.1.1.1, ()), ((readTxnRV (showTxnV y1.1.1.1 y1.1.1.2.1)).1, ()), y1.1.1.2.1, (readTxnRV (showTxnV y1.1.1.1 y1.1.1.2.1)).2.1, ()))) fun y10 => .alt y10 (fun y11 =>
 .get (atV y11.1.1 (0 : Int)) fun y13 =>
 .get (atV y11.1.1 (1 : Int)) fun y14 =>
 .ite (((List.length y11.1.2.1 : Nat) : Int) == 0)
 .fail
 (.ite (decide (0 ≤ (0 : Int) ∧ (0 : Int) ≤ (Int.tmod (IntKind.i64.wrap ((IntKind.i64.wrap (y13 * (256 : Int))) + y14)) ((List.length y11.1.2.1 : Nat) : Int)) ∧ (Int.tmod (IntKind.i64.wrap ((IntKind.i64.wrap (y13 * (256 : Int))) + y14)) ((List.length y11.1.2.1 : Nat) : Int)) ≤ ((List.length y11.1.2.1 : Nat) : Int)))
 (.ite (decide (0 ≤ (Int.tmod (IntKind.i64.wrap ((IntKind.i64.wrap (y13 * (256 : Int))) + y14)) ((List.length y11.1.2.1 : Nat) : Int))))
 (.get (nth y11.1.2.1 (Int.toNat (Int.tmod (IntKind.i64.wrap ((IntKind.i64.wrap (y13 * (256 : Int))) + y14)) ((List.length y11.1.2.1 : Nat) : Int)))) fun y15 =>
 .get (atV y11.1.1 (2 : Int)) fun y16 =>
 .ite ((255 : Int) == 0)
 .fail
 (.ite (decide (List.length (List.drop (Int.toNat (0 : Int)) (List.take (Int.toNat (Int.tmod (IntKind.i64.wrap ((IntKind.i64.wrap (y13 * (256 : Int))) + y14)) ((List.length y11.1.2.1 : Nat) : Int))) y11.1.2.1)) + List.length (List.map (fun n : Int => UInt8.ofNat n.toNat) ([(IntKind.u8.wrap (IntKind.i64.wrap (((BitVec.ofInt (IntKind.bits IntKind.i64) (IntKind.i64.wrap ((UInt8.toNat y15 : Nat) : Int)) ^^^ BitVec.ofInt (IntKind.bits IntKind.i64) (IntKind.i64.wrap ((1 : Int) + (Int.tmod y16 (255 : Int))))).toNat : Int))))] : List (Int))) ≤ LIM))
 (.ite (decide (0 ≤ (IntKind.i64.wrap ((Int.tmod (IntKind.i64.wrap ((IntKind.i64.wrap (y13 * (256 : Int))) + y14)) ((List.length y11.1.2.1 : Nat) : Int)) + (1 : Int))) ∧ (IntKind.i64.wrap ((Int.tmod (IntKind.i64.wrap ((IntKind.i64.wrap (y13 * (256 : Int))) + y14)) ((List.length y11.1.2.1 : Nat) : Int)) + (1 : Int))) ≤ ((List.length y11.1.2.1 : Nat) : Int)))
 (.ite (decide (List.length ((List.drop (Int.toNat (0 : Int)) (List.take (Int.toNat (Int.tmod (IntKind.i64.wrap ((IntKind.i64.wrap (y13 * (256 : Int))) + y14)) ((List.length y11.1.2.1 : Nat) : Int))) y11.1.2.1)) ++ (List.map (fun n : Int => UInt8.ofNat n.toNat) ([(IntKind.u8.wrap (IntKind.i64.wrap (((BitVec.ofInt (IntKind.bits IntKind.i64) (IntKind.i64.wrap ((UInt8.toNat y15 : Nat) : Int)) ^^^ BitVec.ofInt (IntKind.bits IntKind.i64) (IntKind.i64.wrap ((1 : Int) + (Int.tmod y16 (255 : Int))))).toNat : Int))))] : List (Int)))) + List.length (List.drop (Int.toNat (IntKind.i64.wrap ((Int.tmod (IntKind.i64.wrap ((IntKind.i64.wrap (y13 * (256 : Int))) + y14)) ((List.length y11.1.2.1 : Nat) : Int)) + (1 : Int)))) y11.1.2.1) ≤ LIM))
 (.ite (((y11.2.2.1.1 == y11.2.1.1)) == true)
 (.ret ((((!(readTxnRV (((List.drop (Int.toNat (0 : Int)) (List.take (Int.toNat (Int.tmod (IntKind.i64.wrap ((IntKind.i64.wrap (y13 * (256 : Int))) + y14)) ((List.length y11.1.2.1 : Nat) : Int))) y11.1.2.1)) ++ (List.map (fun n : Int => UInt8.ofNat n.toNat) ([(IntKind.u8.wrap (IntKind.i64.wrap (((BitVec.ofInt (IntKind.bits IntKind.i64) (IntKind.i64.wrap ((UInt8.toNat y15 : Nat) : Int)) ^^^ BitVec.ofInt (IntKind.bits IntKind.i64) (IntKind.i64.wrap ((1 : Int) + (Int.tmod y16 (255 : Int))))).toNat : Int))))] : List (Int)))) ++ (List.drop (Int.toNat (IntKind.i64.wrap ((Int.tmod (IntKind.i64.wrap ((IntKind.i64.wrap (y13 * (256 : Int))) + y14)) ((List.length y11.1.2.1 : Nat) : Int)) + (1 : Int)))) y11.1.2.1))).2.2), ()), ()), ((), ())))
 (.ret (((false, ()), ()), ((), ()))))
 .fail)
 .fail)
 .fail))
 .fail)
 .fail)) (fun y12 =>
 .ret (((y12.1.1, ()), ()), ((), ()))))))
 (.ret (((false, ()), ()), ((), ())))))
def f17_A : Nat → Option LoopAnn := fun n => annOf [(0, { head := { t := [.ro (.int .u8) (some 0), .dead, .dead, .vptr 64000000 0, .s, .vptr 64000001 0, .dead, .dead, .dead, .dead, .dead, .dead, .i .i64, .dead, .dead, .dead, .dead, .dead, .dead, .dead, .dead, .dead, .dead, .dead, .dead, .dead, .dead, .dead, .dead, .dead, .dead, .dead, .dead, .dead, .dead, .dead, .dead, .dead, .dead, .dead, .dead, .dead, .dead, .dead, .dead, .dead, .dead, .dead, .dead, .dead, .dead, .dead, .dead, .dead, .dead, .dead, .dead, .dead, .dead, .dead, .dead, .dead, .dead, .dead, .dead, .dead, .dead, .dead, .dead, .dead, .dead, .dead, .dead, .dead, .dead, .dead, .dead, .dead, .dead, .dead, .dead, .dead, .dead, .dead, .dead, .dead, .dead, .dead, .dead, .dead, .dead, .dead, .dead, .dead, .dead, .dead, .dead, .dead, .dead, .dead, .dead, .dead, .dead, .dead, .dead, .dead, .dead, .dead, .dead, .dead, .dead, .dead, .dead, .dead, .dead, .dead, .dead, .dead, .dead, .dead, .dead, .dead, .dead, .dead, .dead, .dead, .dead, .dead], v := [(64000000, .var [.i .i64, .srf 64000002]), (64000001, .var [.i .i64, .srf 64000003]), (64000002, .arr (.st (.cons (.int .i64) (.cons .str .nil)))), (64000003, .arr (.st (.cons (.int .i64) (.cons .str .nil))))] }, out := { t := [.ro (.int .u8) (some 0), .dead, .dead, .vptr 64000256 0, .s, .vptr 64000257 0, .dead, .dead, .dead, .dead, .dead, .dead, .dead, .dead, .dead, .dead, .dead, .dead, .dead, .dead, .dead, .dead, .dead, .dead, .dead, .dead, .dead, .dead, .dead, .dead, .dead, .dead, .dead, .dead, .dead, .dead, .dead, .dead, .dead, .dead, .dead, .dead, .dead, .dead, .dead, .dead, .dead, .dead, .dead, .dead, .dead, .dead, .dead, .dead, .dead, .dead, .dead, .dead, .dead, .dead, .dead, .dead, .dead, .dead, .dead, .dead, .dead, .dead, .dead, .dead, .dead, .dead, .dead, .dead, .dead, .dead, .dead, .dead, .dead, .dead, .dead, .dead, .dead, .dead, .dead, .dead, .dead, .dead, .dead, .dead, .dead, .dead, .dead, .dead, .dead, .dead, .dead, .dead, .dead, .dead, .dead, .dead, .dead, .dead, .dead, .dead, .dead, .dead, .dead, .dead, .dead, .dead, .dead, .dead, .dead, .dead, .dead, .dead, .dead, .dead, .dead, .dead, .dead, .dead, .dead, .dead, .dead, .dead], v := [(64000256, .var [.i .i64, .srf 64000258]), (64000257, .var [.i .i64, .srf 64000259]), (64000258, .arr (.st (.cons (.int .i64) (.cons .str .nil)))), (64000259, .arr (.st (.cons (.int .i64) (.cons .str .nil))))] }, ret := some { t := [.dead, .dead, .b, .dead, .dead, .dead, .dead, .dead, .dead, .dead, .dead, .dead, .dead, .dead, .dead, .dead, .dead, .dead, .dead, .dead, .dead, .dead, .dead, .dead, .dead, .dead, .dead, .dead, .dead, .dead, .dead, .dead, .dead, .dead, .dead, .dead, .dead, .dead, .dead, .dead, .dead, .dead, .dead, .dead, .dead, .dead, .dead, .dead, .dead, .dead, .dead, .dead, .dead, .dead, .dead, .dead, .dead, .dead, .dead, .dead, .dead, .dead, .dead, .dead, .dead, .dead, .dead, .dead, .dead, .dead, .dead, .dead, .dead, .dead, .dead, .dead, .dead, .dead, .dead, .dead, .dead, .dead, .dead, .dead, .dead, .dead, .dead, .dead, .dead, .dead, .dead, .dead, .dead, .dead, .dead, .dead, .dead, .dead, .dead, .dead, .dead, .dead, .dead, .dead, .dead, .dead, .dead, .dead, .dead, .dead, .dead, .dead, .dead, .dead, .dead, .dead, .dead, .dead, .dead, .dead, .dead, .dead, .dead, .dead, .dead, .dead, .dead, .dead], v := [] } })] n
def true1b (c : List Int) : Option Bool := if bytesV c = true then some true else none
def k17 : Con := { f := 17, lend := true, its := [⟨false, false, [.ro (.int .u8)]⟩], lay := [none], rs := [⟨false, false, [.b]⟩], F := fun x => .get (true1b x.1.1) fun y => .ret (((y, ()), ()), ((), ())) }
theorem f17_eq (x : itemsD k17.its) : bodyOut (cxOf [k45, k90, k43, k82, k41, k91, k81, k92]) (f17_A) (codeOf Try.f17) k17.its k17.lay Try.f17.ntmps k17.rs [.tmp 2] x = f17_tree x.1.1 := by kernel_rfl
theorem f17_okp (hr : ∀ x : (List Int × Unit) × Unit, itemsWF k17.its x → ∀ y, (k17.F x).eval = some y → (f17_tree x.1.1).eval = some y) : k17.Ok Try.prog :=
  con_fn [k45, k90, k43, k82, k41, k91, k81, k92] ⟨k45_ok, k90_ok, k43_ok, k82_ok, k41_ok, k91_ok, k81_ok, k92_ok, trivial⟩ (by kernel_rfl) (codeOf_eq (by kernel_rfl)) (by kernel_rfl) (by kernel_rfl) (by kernel_rfl) f17_eq hr
theorem k17_ok : k17.Ok Try.prog := by
  refine f17_okp fun x hw y hy => ?_
  obtain ⟨⟨c, _⟩, _⟩ := x
  have hc : c.length ≤ BIG := hw.1.1.1
  change (Out.get (true1b c) fun y => Out.ret (((y, ()), ()), ((), ()))).eval = some y at hy
  show (f17_tree c).eval = some y
  unfold true1b at hy
  split at hy
  case isFalse => exact nomatch hy
  rename_i hby
  refine Eq.trans ?_ hy
  show (f17_tree c).eval = some (((true, ()), ()), ((), ()))
  unfold f17_tree
  by_cases hb : bigV c = true
  · rw [eval_ite_t hb]; rfl
  rw [eval_ite_f (by simpa using hb)]
  have hl : c.length ≤ 1048576 := by
    unfold bigV at hb
    have : ¬ ((c.length : Nat) : Int) > 1048576 := by simpa using hb
    omega
  obtain ⟨y1, d1, _⟩ := drawTxn_tot hc
  obtain ⟨y2, d2, _⟩ := drawRead_tot hc
  refine (eval_get_some d1).trans ?_
  obtain ⟨⟨⟨q, a, _⟩, _⟩, _⟩ := y1
  dsimp only
  generalize hSe : showTxnV q a = S
  have c1 : (!((readTxnRV S).2.2 == (S != ([] : Str)))) = false := by
    subst hSe
    by_cases hok : txnOkV q a = true
    · rw [readTxnRV_some (readTxn_show hok)]
      have : (showTxnV q a != ([] : Str)) = true := by
        rw [bne_iff_ne, ne_eq]
        intro e
        rw [showTxnV_nil, hok] at e
        exact nomatch e
      rw [this]; rfl
    · have hS := showTxnV_nil.2 (Bool.eq_false_iff.2 hok)
      rw [hS, readTxnRV_none (readTxnV_short (by simp))]; rfl
  subst hSe
  refine (eval_ite_f c1).trans ((eval_get_some d2).trans ((eval_ite_t (by simp)).trans ?_))
  generalize y2.1.1.1 = u
  clear c1 d1 d2
  obtain ⟨S, hSd⟩ : ∃ S : Str, S = showTxnV q a := ⟨_, rfl⟩
  rw [← hSd]
  cases hu : (readTxnRV u).2.2
  · refine (eval_ite_f rfl).trans ?_
    by_cases hok : txnOkV q a = true
    case neg =>
      have hS : S = [] := by rw [hSd]; exact showTxnV_nil.2 (Bool.eq_false_iff.2 hok)
      have hr : readTxnRV S = (0, [], false) := readTxnRV_none (readTxnV_short (by rw [hS]; simp))
      refine (eval_ite_t (by rw [hr]; rfl)).trans ?_
      rw [hS]; rfl
    have hr : readTxnRV S = (q, a, true) := by rw [hSd]; exact readTxnRV_some (readTxn_show hok)
    rw [hr]
    have hlen : 4 < S.length := by
      rw [hSd, showTxnV_ok hok, List.length_append, sumS_len]
      have := List.length_pos_iff.2 (txnS_ne q a)
      omega
    have ha6 := (txnOkV_parts hok).2.1.2
    have hS2 : S.length ≤ 463 := by rw [hSd]; exact showTxn_len q a
    refine (eval_ite_f rfl).trans ?_
    have lp := eq_loop (f := f17_L0) a a (fun i => ((c, S, ((i : Nat) : Int), ()), ((q, ()), (q, ()), a, a, ()))) (y := ((c, S, ()), ((q, ()), (q, ()), a, a, ()))) (z := ((false, ()), ())) rfl (by unfold BIG; omega)
      (fun i hi _ _ => by
        have w1 := wrap_succ (i := i) (by unfold BIG; omega)
        have g : decide (((i : Nat) : Int) ≥ ((a.length : Nat) : Int)) = false := decide_eq_false (by omega)
        have e : (!((a[i].1 == a[i].1) && ((a[i].2.1 == a[i].2.1) && true))) = false := by simp
        rw [← w1]
        exact (eval_ite_t (lt_t hi)).trans ((eval_ite_t (by rw [g]; rfl)).trans ((eval_ite_t (inr_t hi)).trans ((eval_get_some (nth_get hi)).trans ((eval_ite_t (inr_t hi)).trans ((eval_get_some (nth_get hi)).trans ((eval_ite_f e).trans rfl)))))))
      (fun i hi _ hne => absurd rfl hne)
      ((eval_ite_f (lt_f (Nat.lt_irrefl _))).trans rfl)
    rw [if_pos rfl] at lp
    refine (eval_get_some lp).trans ?_
    obtain ⟨v0, e0, r0⟩ := at_byte (i := 0) hby hl (by decide) (by decide)
    obtain ⟨v1, e1, r1⟩ := at_byte (i := 1) hby hl (by decide) (by decide)
    obtain ⟨v2, e2, r2⟩ := at_byte (i := 2) hby hl (by decide) (by decide)
    refine (eval_get_some e0).trans ((eval_get_some e1).trans ?_)
    have w1 : IntKind.i64.wrap (v0 * 256) = v0 * 256 := wrap_id (by omega) (by omega)
    have w2 : IntKind.i64.wrap (v0 * 256 + v1) = v0 * 256 + v1 := wrap_id (by omega) (by omega)
    have hk := tmod_bounds (x := v0 * 256 + v1) (n := ((S.length : Nat) : Int)) (by omega) (by omega)
    obtain ⟨k, ek⟩ := Int.eq_ofNat_of_zero_le hk.1
    have ek2 : Int.tmod (IntKind.i64.wrap (IntKind.i64.wrap (v0 * 256) + v1)) ((S.length : Nat) : Int) = ((k : Nat) : Int) := by rw [w1, w2]; exact ek
    rw [ek] at hk
    have hkl : k < S.length := by omega
    dsimp only
    rw [ek2]
    have w3 : IntKind.i64.wrap (((k : Nat) : Int) + 1) = ((k + 1 : Nat) : Int) := wrap_succ (by unfold BIG; omega)
    have r3 := tmod_bounds (x := v2) (n := 255) (by omega) (by decide)
    have w4 : IntKind.i64.wrap (1 + Int.tmod v2 255) = 1 + Int.tmod v2 255 := wrap_id (by omega) (by omega)
    have g0 : (((S.length : Nat) : Int) == 0) = false := by rw [beq_eq_false_iff_ne]; omega
    have l1 : (List.drop (Int.toNat (0 : Int)) (List.take (Int.toNat ((k : Nat) : Int)) S)).length = k := by
      rw [show Int.toNat (0 : Int) = 0 from rfl, List.drop_zero, Int.toNat_natCast, List.length_take]; omega
    have l2 : (List.drop (Int.toNat (IntKind.i64.wrap (((k : Nat) : Int) + 1))) S).length = S.length - (k + 1) := by rw [w3, Int.toNat_natCast, List.length_drop]
    have l4 : ∀ x : Int, (List.map (fun n : Int => UInt8.ofNat n.toNat) [x]).length = 1 := fun _ => rfl
    refine (eval_ite_f g0).trans ((eval_ite_t (decide_eq_true (by omega))).trans ((eval_ite_t (decide_eq_true (by omega))).trans ((eval_get_some (nth_get hkl)).trans ((eval_get_some e2).trans ((eval_ite_f rfl).trans ?_)))))
    refine (eval_ite_t (decide_eq_true (by rw [l1, l4, LIM_eq]; omega))).trans ((eval_ite_t (decide_eq_true (show 0 ≤ IntKind.i64.wrap (((k : Nat) : Int) + 1) ∧ IntKind.i64.wrap (((k : Nat) : Int) + 1) ≤ ((S.length : Nat) : Int) by rw [w3]; omega))).trans ((eval_ite_t (decide_eq_true (by rw [List.length_append, l1, l2, l4, LIM_eq]; omega))).trans ((eval_ite_t (by simp)).trans ?_)))
    have hsp : S = S.take k ++ S[k] :: S.drop (k + 1) := by rw [← List.drop_eq_getElem_cons hkl, List.take_append_drop]
    have turned := readTxn_turn hok (p := S.take k) (r := S.drop (k + 1)) (x := S[k]) (y := UInt8.ofNat (Int.toNat (IntKind.u8.wrap (IntKind.i64.wrap (((BitVec.ofInt (IntKind.bits IntKind.i64) (IntKind.i64.wrap ((UInt8.toNat S[k] : Nat) : Int)) ^^^ BitVec.ofInt (IntKind.bits IntKind.i64) (1 + Int.tmod v2 255)).toNat : Nat) : Int))))) (hSd.symm.trans hsp) (fun q => turned_ne (by omega) (by omega) q.symm)
    have e3 : (List.drop (Int.toNat (0 : Int)) (List.take (Int.toNat ((k : Nat) : Int)) S) ++ List.map (fun n : Int => UInt8.ofNat n.toNat) [IntKind.u8.wrap (IntKind.i64.wrap (((BitVec.ofInt (IntKind.bits IntKind.i64) (IntKind.i64.wrap ((UInt8.toNat S[k] : Nat) : Int)) ^^^ BitVec.ofInt (IntKind.bits IntKind.i64) (IntKind.i64.wrap (1 + Int.tmod v2 255))).toNat : Nat) : Int))]) ++ List.drop (Int.toNat (IntKind.i64.wrap (((k : Nat) : Int) + 1))) S =
        S.take k ++ UInt8.ofNat (Int.toNat (IntKind.u8.wrap (IntKind.i64.wrap (((BitVec.ofInt (IntKind.bits IntKind.i64) (IntKind.i64.wrap ((UInt8.toNat S[k] : Nat) : Int)) ^^^ BitVec.ofInt (IntKind.bits IntKind.i64) (1 + Int.tmod v2 255)).toNat : Nat) : Int)))) :: S.drop (k + 1) := by
      rw [w3, w4, show Int.toNat (0 : Int) = 0 from rfl, List.drop_zero, Int.toNat_natCast, Int.toNat_natCast, List.append_assoc]; rfl
    rw [e3, readTxnRV_none turned]; rfl
  · have hsh : showTxnV (readTxnRV u).1 (readTxnRV u).2.1 = u := by
      cases hr : readTxnV u with
      | none => rw [readTxnRV_none hr] at hu; exact nomatch hu
      | some z => obtain ⟨q', a'⟩ := z; rw [readTxnRV_some hr]; exact readTxn_is hr
    refine (eval_ite_t rfl).trans ((eval_ite_f (by rw [hsh]; exact bne_self_eq_false u)).trans ?_)
    by_cases hok : txnOkV q a = true
    case neg =>
      have hS : S = [] := by rw [hSd]; exact showTxnV_nil.2 (Bool.eq_false_iff.2 hok)
      have hr : readTxnRV S = (0, [], false) := readTxnRV_none (readTxnV_short (by rw [hS]; simp))
      refine (eval_ite_t (by rw [hr]; rfl)).trans ?_
      rw [hS]; rfl
    have hr : readTxnRV S = (q, a, true) := by rw [hSd]; exact readTxnRV_some (readTxn_show hok)
    rw [hr]
    have hlen : 4 < S.length := by
      rw [hSd, showTxnV_ok hok, List.length_append, sumS_len]
      have := List.length_pos_iff.2 (txnS_ne q a)
      omega
    have ha6 := (txnOkV_parts hok).2.1.2
    have hS2 : S.length ≤ 463 := by rw [hSd]; exact showTxn_len q a
    refine (eval_ite_f rfl).trans ?_
    have lp := eq_loop (f := f17_L0) a a (fun i => ((c, S, ((i : Nat) : Int), ()), ((q, ()), (q, ()), a, a, ()))) (y := ((c, S, ()), ((q, ()), (q, ()), a, a, ()))) (z := ((false, ()), ())) rfl (by unfold BIG; omega)
      (fun i hi _ _ => by
        have w1 := wrap_succ (i := i) (by unfold BIG; omega)
        have g : decide (((i : Nat) : Int) ≥ ((a.length : Nat) : Int)) = false := decide_eq_false (by omega)
        have e : (!((a[i].1 == a[i].1) && ((a[i].2.1 == a[i].2.1) && true))) = false := by simp
        rw [← w1]
        exact (eval_ite_t (lt_t hi)).trans ((eval_ite_t (by rw [g]; rfl)).trans ((eval_ite_t (inr_t hi)).trans ((eval_get_some (nth_get hi)).trans ((eval_ite_t (inr_t hi)).trans ((eval_get_some (nth_get hi)).trans ((eval_ite_f e).trans rfl)))))))
      (fun i hi _ hne => absurd rfl hne)
      ((eval_ite_f (lt_f (Nat.lt_irrefl _))).trans rfl)
    rw [if_pos rfl] at lp
    refine (eval_get_some lp).trans ?_
    obtain ⟨v0, e0, r0⟩ := at_byte (i := 0) hby hl (by decide) (by decide)
    obtain ⟨v1, e1, r1⟩ := at_byte (i := 1) hby hl (by decide) (by decide)
    obtain ⟨v2, e2, r2⟩ := at_byte (i := 2) hby hl (by decide) (by decide)
    refine (eval_get_some e0).trans ((eval_get_some e1).trans ?_)
    have w1 : IntKind.i64.wrap (v0 * 256) = v0 * 256 := wrap_id (by omega) (by omega)
    have w2 : IntKind.i64.wrap (v0 * 256 + v1) = v0 * 256 + v1 := wrap_id (by omega) (by omega)
    have hk := tmod_bounds (x := v0 * 256 + v1) (n := ((S.length : Nat) : Int)) (by omega) (by omega)
    obtain ⟨k, ek⟩ := Int.eq_ofNat_of_zero_le hk.1
    have ek2 : Int.tmod (IntKind.i64.wrap (IntKind.i64.wrap (v0 * 256) + v1)) ((S.length : Nat) : Int) = ((k : Nat) : Int) := by rw [w1, w2]; exact ek
    rw [ek] at hk
    have hkl : k < S.length := by omega
    dsimp only
    rw [ek2]
    have w3 : IntKind.i64.wrap (((k : Nat) : Int) + 1) = ((k + 1 : Nat) : Int) := wrap_succ (by unfold BIG; omega)
    have r3 := tmod_bounds (x := v2) (n := 255) (by omega) (by decide)
    have w4 : IntKind.i64.wrap (1 + Int.tmod v2 255) = 1 + Int.tmod v2 255 := wrap_id (by omega) (by omega)
    have g0 : (((S.length : Nat) : Int) == 0) = false := by rw [beq_eq_false_iff_ne]; omega
    have l1 : (List.drop (Int.toNat (0 : Int)) (List.take (Int.toNat ((k : Nat) : Int)) S)).length = k := by
      rw [show Int.toNat (0 : Int) = 0 from rfl, List.drop_zero, Int.toNat_natCast, List.length_take]; omega
    have l2 : (List.drop (Int.toNat (IntKind.i64.wrap (((k : Nat) : Int) + 1))) S).length = S.length - (k + 1) := by rw [w3, Int.toNat_natCast, List.length_drop]
    have l4 : ∀ x : Int, (List.map (fun n : Int => UInt8.ofNat n.toNat) [x]).length = 1 := fun _ => rfl
    refine (eval_ite_f g0).trans ((eval_ite_t (decide_eq_true (by omega))).trans ((eval_ite_t (decide_eq_true (by omega))).trans ((eval_get_some (nth_get hkl)).trans ((eval_get_some e2).trans ((eval_ite_f rfl).trans ?_)))))
    refine (eval_ite_t (decide_eq_true (by rw [l1, l4, LIM_eq]; omega))).trans ((eval_ite_t (decide_eq_true (show 0 ≤ IntKind.i64.wrap (((k : Nat) : Int) + 1) ∧ IntKind.i64.wrap (((k : Nat) : Int) + 1) ≤ ((S.length : Nat) : Int) by rw [w3]; omega))).trans ((eval_ite_t (decide_eq_true (by rw [List.length_append, l1, l2, l4, LIM_eq]; omega))).trans ((eval_ite_t (by simp)).trans ?_)))
    have hsp : S = S.take k ++ S[k] :: S.drop (k + 1) := by rw [← List.drop_eq_getElem_cons hkl, List.take_append_drop]
    have turned := readTxn_turn hok (p := S.take k) (r := S.drop (k + 1)) (x := S[k]) (y := UInt8.ofNat (Int.toNat (IntKind.u8.wrap (IntKind.i64.wrap (((BitVec.ofInt (IntKind.bits IntKind.i64) (IntKind.i64.wrap ((UInt8.toNat S[k] : Nat) : Int)) ^^^ BitVec.ofInt (IntKind.bits IntKind.i64) (1 + Int.tmod v2 255)).toNat : Nat) : Int))))) (hSd.symm.trans hsp) (fun q => turned_ne (by omega) (by omega) q.symm)
    have e3 : (List.drop (Int.toNat (0 : Int)) (List.take (Int.toNat ((k : Nat) : Int)) S) ++ List.map (fun n : Int => UInt8.ofNat n.toNat) [IntKind.u8.wrap (IntKind.i64.wrap (((BitVec.ofInt (IntKind.bits IntKind.i64) (IntKind.i64.wrap ((UInt8.toNat S[k] : Nat) : Int)) ^^^ BitVec.ofInt (IntKind.bits IntKind.i64) (IntKind.i64.wrap (1 + Int.tmod v2 255))).toNat : Nat) : Int))]) ++ List.drop (Int.toNat (IntKind.i64.wrap (((k : Nat) : Int) + 1))) S =
        S.take k ++ UInt8.ofNat (Int.toNat (IntKind.u8.wrap (IntKind.i64.wrap (((BitVec.ofInt (IntKind.bits IntKind.i64) (IntKind.i64.wrap ((UInt8.toNat S[k] : Nat) : Int)) ^^^ BitVec.ofInt (IntKind.bits IntKind.i64) (1 + Int.tmod v2 255)).toNat : Nat) : Int)))) :: S.drop (k + 1) := by
      rw [w3, w4, show Int.toNat (0 : Int) = 0 from rfl, List.drop_zero, Int.toNat_natCast, Int.toNat_natCast, List.append_assoc]; rfl
    rw [e3, readTxnRV_none turned]; rfl
theorem k17_bytes {c : List Int} (h : bytesV c = true) : (k17.F ((c, ()), ())).eval = some (((true, ()), ()), ((), ())) := by
  show (Out.get (true1b c) fun y => Out.ret (((y, ()), ()), ((), ()))).eval = _
  unfold true1b
  rw [if_pos h]; rfl

theorem f17_own : ownKnob Try.prog.godebug = none := by kernel_rfl
set_option maxRecDepth 100000 in
theorem f17_contract (H : Type) (enc : TypeId × Value → H) (W : World) (base : Nat) (args : Array Value) (ds gs : List (DataW H)) (before : List MemPlace)
    (hval : ∀ (j : Nat) t v, Try.f17.params[j]? = some t → args[j]? = some v → Value.okWide Try.prog W .any base t v)
    (hW : DataW.Whole enc Try.prog Try.f17.params.toList Rows.fnTxnSpec.vars false W args.toList ds gs before) :
    Calls Try.prog 17 args W fun e W' => ∃ v, e = .returned v ∧ Rows.fnTxnSpec.post enc Try.prog Try.f17 false true false false W args v W' := by
  have hW' := hW
  obtain ⟨p, q, hA0, hV, rfl, _, _⟩ := hW
  have hA : DataW.TrodAll enc Try.prog W 0 (fun _ => true) true [58] args.toList ds p := hA0
  have hlt := hW'.lt
  obtain ⟨rfl, rfl⟩ := trodVars_none hV
  simp only [List.append_nil] at hW' hlt
  have hlen : ds.length = 1 := (trodAll_length hA).2
  obtain ⟨d0, e0⟩ := List.length_eq_one_iff.1 hlen
  subst e0
  have hu : Try.prog.underlying 4 = some .bool := by kernel_rfl
  refine (law_calls_bytes (tid := 58) (f := 17) (lend := k17.lend) (F := k17.F) k17_ok (parsB_ok (ts := [(.sl (.int .u8))]) (is := [58]) (by kernel_rfl)).1 (fun c _ hb => ⟨_, k17_bytes hb⟩) (b0 := base) (fun j t v ht hv => hval j t v ?_ hv) hA).mono fun e W' ⟨he, hg, hs⟩ => ?_
  · rw [← ht, Try.params17]; first | rfl | simp
  · subst he
    exact ⟨_, rfl, post_of_same (pa := p) (pv := []) hW' (fun _ _ _ => trodAll_mk1 (shut_bool hu true)) (fun sp hsp => trodAll_stays (by kernel_rfl) hs (by kernel_rfl) hA hlt hsp) (fun _ _ => rfl) (by simp) (hg.frame _) hg.2.1 (ok_one (by kernel_rfl) rfl (okWide_bool_mk hu true))⟩
set_option maxRecDepth 100000 in
theorem f17_lifted (os : Os) (started : os.Started) (H : Type) (enc : TypeId × Value → H) :
    ReturnsInHanded {} Try.checked os 17 .any (Rows.fnTxnSpec.pre6 enc Try.prog Try.f17 Rows.fnTxnRow.domain false) (Rows.fnTxnSpec.post enc Try.prog Try.f17 false true false false) := by
  refine returnsInHanded_of_change (C := Try.checked) f17_own started (by kernel_rfl) Try.func17
    (ChangeSpec.witness6 (enc := enc) (C := Try.checked) false ⟨#[], #[.slice none 0 0], []⟩ 8 (by kernel_rfl) (by kernel_rfl) (by kernel_rfl) (by kernel_rfl)) ?_
  intro W base args ds gs before hval hW _ _
  exact f17_contract H enc W base args ds gs before hval hW
theorem f17_closed : joinedFacts Try.prog 17 Try.f17 Rows.fnTxnSpec Rows.fnTxnRow = true := by
  unfold joinedFacts
  rw [mayEnter_ok, lifts_ok, make_ok]
  kernel_rfl
theorem f17_said : Rows.FnTxnSaid :=
  OpenClaim.holds_of_wide 17 Try.f17 rfl rfl rfl rfl rfl rfl rfl ⟨rfl, rfl, rfl, rfl, rfl⟩ rfl rfl rfl rfl rfl (by kernel_rfl) Try.func17 f17_closed
    (of_decide_eq_true (by kernel_rfl)) (by unfold Func.isWrapper; first | (rw [if_pos (by decide +kernel)]; kernel_rfl) | (rw [if_neg (by decide +kernel)]; exact ⟨rfl, rfl⟩))
    (fun os started H enc _ => f17_lifted os started H enc)
end Go.Proofs.Ytjcinikojcfebaa.Dm
namespace Go.Proofs.Ytjcinikojcfebaa
theorem fnTxn_said : Rows.FnTxnSaid := Dm.f17_said
end Go.Proofs.Ytjcinikojcfebaa
namespace Go.Proofs.Ytjcinikojcfebaa.Dm


end Go.Proofs.Ytjcinikojcfebaa.Dm
