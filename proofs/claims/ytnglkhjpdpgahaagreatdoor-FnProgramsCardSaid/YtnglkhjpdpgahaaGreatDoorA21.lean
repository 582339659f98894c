/- Functions of the program, and what they compute. -/
import Derived.Test.YtnglkhjpdpgahaaGreatDoorA13
import Derived.Test.YtnglkhjpdpgahaaGreatDoorA7
namespace Go.Proofs.YtnglkhjpdpgahaaGreatDoor.Dm
open Go Go.ChangeShapes Go.WideShapes Go.ChangeAt Go.RowKit
def f31_tree (a0 : List Int) (a1 : Int) (a2 : Int) (a3 : List UInt8) : Out (((List UInt8 × Unit) × Unit) × ((Int × Int × Unit) × Unit × Unit)) :=
 .ite ((((List.length a3 : Nat) : Int) == (0 : Int)))
 (.get (k54_V a0 a1 a2 (3 : Int)) fun y1 =>
 .ret (((y1.1.1.1, ()), ()), ((y1.2.1.1, y1.2.1.2.1, ()), (), ())))
 (.get (k26_V a0 a1 a2 ((List.length a3 : Nat) : Int)) fun y2 =>
 .get (k26_V a0 y2.2.1.1 y2.2.1.2.1 (4 : Int)) fun y3 =>
 .ite ((y3.1.1.1 == (0 : Int)))
 (.ite (decide (0 ≤ (0 : Int) ∧ (0 : Int) ≤ y2.1.1.1 ∧ y2.1.1.1 ≤ ((List.length a3 : Nat) : Int)))
 (.ite (decide (0 ≤ (IntKind.i64.wrap (y2.1.1.1 + (1 : Int))) ∧ (IntKind.i64.wrap (y2.1.1.1 + (1 : Int))) ≤ ((List.length a3 : Nat) : Int)))
 (.ite (decide (List.length (List.drop (Int.toNat (0 : Int)) (List.take (Int.toNat y2.1.1.1) a3)) + List.length (List.drop (Int.toNat (IntKind.i64.wrap (y2.1.1.1 + (1 : Int)))) a3) ≤ LIM))
 (.ret (((((List.drop (Int.toNat (0 : Int)) (List.take (Int.toNat y2.1.1.1) a3)) ++ (List.drop (Int.toNat (IntKind.i64.wrap (y2.1.1.1 + (1 : Int)))) a3)), ()), ()), ((y3.2.1.1, y3.2.1.2.1, ()), (), ())))
 .fail)
 .fail)
 .fail)
 (.ite ((y3.1.1.1 == (1 : Int)))
 (.ite (decide (0 ≤ (0 : Int) ∧ (0 : Int) ≤ y2.1.1.1 ∧ y2.1.1.1 ≤ ((List.length a3 : Nat) : Int)))
 (.get (k50_V a0 y3.2.1.1 y3.2.1.2.1) fun y4 =>
 .ite (decide (List.length (List.drop (Int.toNat (0 : Int)) (List.take (Int.toNat y2.1.1.1) a3)) + List.length (List.map (fun n : Int => UInt8.ofNat n.toNat) ([(IntKind.u8.wrap y4.1.1.1)] : List (Int))) ≤ LIM))
 (.ite (decide (0 ≤ y2.1.1.1 ∧ y2.1.1.1 ≤ ((List.length a3 : Nat) : Int)))
 (.ite (decide (List.length ((List.drop (Int.toNat (0 : Int)) (List.take (Int.toNat y2.1.1.1) a3)) ++ (List.map (fun n : Int => UInt8.ofNat n.toNat) ([(IntKind.u8.wrap y4.1.1.1)] : List (Int)))) + List.length (List.drop (Int.toNat y2.1.1.1) a3) ≤ LIM))
 (.ret ((((((List.drop (Int.toNat (0 : Int)) (List.take (Int.toNat y2.1.1.1) a3)) ++ (List.map (fun n : Int => UInt8.ofNat n.toNat) ([(IntKind.u8.wrap y4.1.1.1)] : List (Int)))) ++ (List.drop (Int.toNat y2.1.1.1) a3)), ()), ()), ((y4.2.1.1, y4.2.1.2.1, ()), (), ())))
 .fail)
 .fail)
 .fail)
 .fail)
 (.ite ((y3.1.1.1 == (2 : Int)))
 (.ite (decide (0 ≤ (0 : Int) ∧ (0 : Int) ≤ y2.1.1.1 ∧ y2.1.1.1 ≤ ((List.length a3 : Nat) : Int)))
 (.ret ((((List.drop (Int.toNat (0 : Int)) (List.take (Int.toNat y2.1.1.1) a3)), ()), ()), ((y3.2.1.1, y3.2.1.2.1, ()), (), ())))
 .fail)
 (.ite (decide (0 ≤ (0 : Int) ∧ (0 : Int) ≤ y2.1.1.1 ∧ y2.1.1.1 ≤ ((List.length a3 : Nat) : Int)))
 (.ite (decide (0 ≤ y2.1.1.1))
 (.get (nth a3 (Int.toNat y2.1.1.1)) fun y5 =>
 .get (k26_V a0 y3.2.1.1 y3.2.1.2.1 (255 : Int)) fun y6 =>
 .ite (decide (List.length (List.drop (Int.toNat (0 : Int)) (List.take (Int.toNat y2.1.1.1) a3)) + List.length (List.map (fun n : Int => UInt8.ofNat n.toNat) ([(IntKind.u8.wrap (IntKind.i64.wrap (((BitVec.ofInt (IntKind.bits IntKind.i64) (IntKind.i64.wrap ((UInt8.toNat y5 : Nat) : Int)) ^^^ BitVec.ofInt (IntKind.bits IntKind.i64) (IntKind.i64.wrap ((1 : Int) + y6.1.1.1))).toNat : Int))))] : List (Int))) ≤ LIM))
 (.ite (decide (0 ≤ (IntKind.i64.wrap (y2.1.1.1 + (1 : Int))) ∧ (IntKind.i64.wrap (y2.1.1.1 + (1 : Int))) ≤ ((List.length a3 : Nat) : Int)))
 (.ite (decide (List.length ((List.drop (Int.toNat (0 : Int)) (List.take (Int.toNat y2.1.1.1) a3)) ++ (List.map (fun n : Int => UInt8.ofNat n.toNat) ([(IntKind.u8.wrap (IntKind.i64.wrap (((BitVec.ofInt (IntKind.bits IntKind.i64) (IntKind.i64.wrap ((UInt8.toNat y5 : Nat) : Int)) ^^^ BitVec.ofInt (IntKind.bits IntKind.i64) (IntKind.i64.wrap ((1 : Int) + y6.1.1.1))).toNat : Int))))] : List (Int)))) + List.length (List.drop (Int.toNat (IntKind.i64.wrap (y2.1.1.1 + (1 : Int)))) a3) ≤ LIM))
 (.ret ((((((List.drop (Int.toNat (0 : Int)) (List.take (Int.toNat y2.1.1.1) a3)) ++ (List.map (fun n : Int => UInt8.ofNat n.toNat) ([(IntKind.u8.wrap (IntKind.i64.wrap (((BitVec.ofInt (IntKind.bits IntKind.i64) (IntKind.i64.wrap ((UInt8.toNat y5 : Nat) : Int)) ^^^ BitVec.ofInt (IntKind.bits IntKind.i64) (IntKind.i64.wrap ((1 : Int) + y6.1.1.1))).toNat : Int))))] : List (Int)))) ++ (List.drop (Int.toNat (IntKind.i64.wrap (y2.1.1.1 + (1 : Int)))) a3)), ()), ()), ((y6.2.1.1, y6.2.1.2.1, ()), (), ())))
 .fail)
 .fail)
 .fail)
 .fail)
 .fail))))
def k31_V (a0 : List Int) (a1 : Int) (a2 : Int) (a3 : List UInt8) : Option (((List UInt8 × Unit) × Unit) × ((Int × Int × Unit) × Unit × Unit)) := (f31_tree a0 a1 a2 a3).eval
def k31 : Con := { f := 31, lend := true, its := [⟨true, false, [.ro (.int .u8), .i .i64, .i .i64]⟩, ⟨false, false, [.s]⟩], lay := [none, none], rs := [⟨false, false, [.s]⟩], F := fun x => .get (k31_V x.1.1 x.1.2.1 x.1.2.2.1 x.2.1.1) fun y => .ret y }
theorem f31_eq (x : itemsD k31.its) : bo [k54, k26, k50] (fun _ => none) Tryz.f31 k31 [.tmp 4] x = f31_tree x.1.1 x.1.2.1 x.1.2.2.1 x.2.1.1 := by kernel_rfl
theorem f31_ok (hr : ∀ x : (List Int × Int × Int × Unit) × (List UInt8 × Unit) × Unit, itemsWF k31.its x → (f31_tree x.1.1 x.1.2.1 x.1.2.2.1 x.2.1.1).eval = (k31.F x).eval) : k31.Ok Tryz.prog := con_fn [k54, k26, k50] ⟨k54_ok, k26_ok, k50_ok, trivial⟩ f31_eq fun x hw _ hy => (hr x hw).trans hy
theorem k31_ok : k31.Ok Tryz.prog := f31_ok fun x _ => (eval_get_ret _).symm
theorem spoil_tot {b : List Int} {i h : Int} {s : Str} (hb : b.length ≤ BIG) (hi : 0 ≤ i) (hs : s.length ≤ 1000000) : TotV (k31_V b i h s) fun y => y.1.1.1.length ≤ s.length + 3 ∧ 0 ≤ y.2.1.1 := by
  unfold k31_V f31_tree
  refine tot_ite (fun h0 => ?_) fun h0 => ?_
  · refine tot_get (text_tot (n := 3) hb hi (by omega)) fun y hy => tot_ret ⟨by simp only; omega, hy.2⟩
  have hpos : 0 < s.length := by
    rcases Nat.eq_zero_or_pos s.length with e | e
    · rw [e] at h0; exact absurd h0 (by decide)
    · exact e
  refine tot_get (below_tot hb hi) fun y hy => tot_get (below_tot hb hy.2) fun z hz => ?_
  have k0 := hy.1.1
  have k1 := hy.1.2.1 (by omega)
  obtain ⟨k, hk⟩ := Int.eq_ofNat_of_zero_le k0
  rw [hk] at k1 ⊢
  have w : IntKind.i64.wrap (((k : Nat) : Int) + 1) = ((k + 1 : Nat) : Int) := wrap_succ (by unfold BIG; omega)
  have hkl : k < s.length := by omega
  rw [w]
  have c1 : decide (0 ≤ (0 : Int) ∧ (0 : Int) ≤ ((k : Nat) : Int) ∧ ((k : Nat) : Int) ≤ ((s.length : Nat) : Int)) = true := decide_eq_true (by omega)
  have c2 : decide (0 ≤ ((k + 1 : Nat) : Int) ∧ ((k + 1 : Nat) : Int) ≤ ((s.length : Nat) : Int)) = true := decide_eq_true (by omega)
  have c3 : decide (0 ≤ ((k : Nat) : Int) ∧ ((k : Nat) : Int) ≤ ((s.length : Nat) : Int)) = true := decide_eq_true (by omega)
  have l1 : (List.drop (Int.toNat (0 : Int)) (List.take (Int.toNat ((k : Nat) : Int)) s)).length = k := by
    rw [show Int.toNat (0 : Int) = 0 from rfl, List.drop_zero, Int.toNat_natCast, List.length_take]; omega
  have l2 : (List.drop (Int.toNat ((k + 1 : Nat) : Int)) s).length = s.length - (k + 1) := by rw [Int.toNat_natCast, List.length_drop]
  have l3 : (List.drop (Int.toNat ((k : Nat) : Int)) s).length = s.length - k := by rw [Int.toNat_natCast, List.length_drop]
  have l4 : ∀ x : Int, (List.map (fun n : Int => UInt8.ofNat n.toNat) [x]).length = 1 := fun _ => rfl
  refine tot_ite (fun _ => ?_) fun _ => tot_ite (fun _ => ?_) fun _ => tot_ite (fun _ => ?_) fun _ => ?_
  · refine tot_t c1 (tot_t c2 (tot_t (decide_eq_true (by rw [l1, l2, LIM_eq]; omega)) (tot_ret ⟨?_, hz.2⟩)))
    simp only [List.length_append, l1, l2]; omega
  · refine tot_t c1 (tot_get (byte_tot hb hz.2) fun u hu => tot_t (decide_eq_true (by rw [l1, l4, LIM_eq]; omega)) (tot_t c3 (tot_t (decide_eq_true (by rw [List.length_append, l1, l3, l4, LIM_eq]; omega)) (tot_ret ⟨?_, hu.2⟩))))
    simp only [List.length_append, l1, l3, l4]; omega
  · refine tot_t c1 (tot_ret ⟨?_, hz.2⟩)
    simp only [l1]; omega
  · refine tot_t c1 (tot_t (decide_eq_true (by omega)) (tot_get (P := fun _ => True) ⟨_, List.getElem?_eq_getElem (show Int.toNat ((k : Nat) : Int) < s.length by omega), trivial⟩ fun t _ => tot_get (below_tot hb hz.2) fun u hu =>
      tot_t (decide_eq_true (by rw [l1, l4, LIM_eq]; omega)) (tot_t c2 (tot_t (decide_eq_true (by rw [List.length_append, l1, l2, l4, LIM_eq]; omega)) (tot_ret ⟨?_, hu.2⟩)))))
    simp only [List.length_append, l1, l2, l4]; omega
end Go.Proofs.YtnglkhjpdpgahaaGreatDoor.Dm
