/- Functions of the program, and what they compute. -/
import Derived.Test.YtnglkhjpdpgahaaGreatDoorP13
import Derived.Test.YtnglkhjpdpgahaaGreatDoorA21
namespace Go.Proofs.YtnglkhjpdpgahaaGreatDoor.Dm
open Go Go.ChangeShapes Go.WideShapes Go.ChangeAt Go.RowKit
def f27_tree (a0 : List Int) (a1 : Int) (a2 : Int) (a3 : List (List UInt8)) : Out (((List UInt8 × Unit) × Unit) × ((Int × Int × Unit) × Unit × Unit)) :=
 .get (k26_V a0 a1 a2 ((List.length a3 : Nat) : Int)) fun y1 =>
 .ite (decide (0 ≤ y1.1.1.1))
 (.get (nth a3 (Int.toNat y1.1.1.1)) fun y2 =>
 .ret (((y2, ()), ()), ((y1.2.1.1, y1.2.1.2.1, ()), (), ())))
 .fail
def k27_V (a0 : List Int) (a1 : Int) (a2 : Int) (a3 : List (List UInt8)) : Option (((List UInt8 × Unit) × Unit) × ((Int × Int × Unit) × Unit × Unit)) := (f27_tree a0 a1 a2 a3).eval
def k27 : Con := { f := 27, lend := true, its := [⟨true, false, [.ro (.int .u8), .i .i64, .i .i64]⟩, ⟨false, false, [.ro .str]⟩], lay := [none, none], rs := [⟨false, false, [.s]⟩], F := fun x => .get (k27_V x.1.1 x.1.2.1 x.1.2.2.1 x.2.1.1) fun y => .ret y }
theorem f27_eq (x : itemsD k27.its) : bo [k26] (fun _ => none) Tryz.f27 k27 [.tmp 4] x = f27_tree x.1.1 x.1.2.1 x.1.2.2.1 x.2.1.1 := by kernel_rfl
theorem f27_ok (hr : ∀ x : (List Int × Int × Int × Unit) × (List (List UInt8) × Unit) × Unit, itemsWF k27.its x → (f27_tree x.1.1 x.1.2.1 x.1.2.2.1 x.2.1.1).eval = (k27.F x).eval) : k27.Ok Tryz.prog := con_fn [k26] ⟨k26_ok, trivial⟩ f27_eq fun x hw _ hy => (hr x hw).trans hy
theorem k27_ok : k27.Ok Tryz.prog := f27_ok fun x _ => (eval_get_ret _).symm
theorem pickS_tot {b : List Int} {i h : Int} {l : List Str} (hb : b.length ≤ BIG) (hi : 0 ≤ i) (hl : 0 < l.length) : TotV (k27_V b i h l) fun y => y.1.1.1 ∈ l ∧ 0 ≤ y.2.1.1 := by
  unfold k27_V f27_tree
  refine tot_get (below_tot hb hi) fun y hy => ?_
  have h1 := hy.1.1
  have h2 := hy.1.2.1 (by omega)
  refine tot_t (decide_eq_true h1) (tot_get (P := fun x => x ∈ l) ⟨_, List.getElem?_eq_getElem (show y.1.1.1.toNat < l.length by omega), List.getElem_mem _⟩ fun x hx => tot_ret ⟨hx, hy.2⟩)
def f29_tree (a0 : List Int) (a1 : Int) (a2 : Int) : Out (((Int × Int × Int × Int × Unit) × Unit) × ((Int × Int × Unit) × Unit)) :=
 .get (k26_V a0 a1 a2 (4 : Int)) fun y1 =>
 .get (k26_V a0 y1.2.1.1 y1.2.1.2.1 (4 : Int)) fun y2 =>
 .get (k26_V a0 y2.2.1.1 y2.2.1.2.1 (12 : Int)) fun y3 =>
 .ite ((y3.1.1.1 == (0 : Int)))
 (.get (k53_V a0 y3.2.1.1 y3.2.1.2.1 ([(0 : Int), (1 : Int), (2 : Int), (3 : Int), (4 : Int), (7 : Int), (-1 : Int), (9 : Int)] : List (Int))) fun y4 =>
 .ret ((((1 : Int), y1.1.1.1, y4.1.1.1, (0 : Int), ()), ()), ((y4.2.1.1, y4.2.1.2.1, ()), ())))
 (.ite ((y3.1.1.1 == (1 : Int)))
 (.get (k53_V a0 y3.2.1.1 y3.2.1.2.1 ([(0 : Int), (1 : Int), (2 : Int), (3 : Int), (4 : Int), (7 : Int), (-1 : Int), (9 : Int)] : List (Int))) fun y5 =>
 .ret ((((1 : Int), y1.1.1.1, y5.1.1.1, (0 : Int), ()), ()), ((y5.2.1.1, y5.2.1.2.1, ()), ())))
 (.ite ((y3.1.1.1 == (2 : Int)))
 (.get (k53_V a0 y3.2.1.1 y3.2.1.2.1 ([(0 : Int), (1 : Int), (2 : Int), (3 : Int), (4 : Int), (7 : Int), (-1 : Int), (9 : Int)] : List (Int))) fun y6 =>
 .ret ((((1 : Int), y1.1.1.1, y6.1.1.1, (0 : Int), ()), ()), ((y6.2.1.1, y6.2.1.2.1, ()), ())))
 (.ite ((y3.1.1.1 == (3 : Int)))
 (.get (k26_V a0 y3.2.1.1 y3.2.1.2.1 (4 : Int)) fun y7 =>
 .ret ((((2 : Int), y1.1.1.1, y2.1.1.1, y7.1.1.1, ()), ()), ((y7.2.1.1, y7.2.1.2.1, ()), ())))
 (.ite ((y3.1.1.1 == (4 : Int)))
 (.get (k26_V a0 y3.2.1.1 y3.2.1.2.1 (4 : Int)) fun y8 =>
 .ret ((((3 : Int), y1.1.1.1, y2.1.1.1, y8.1.1.1, ()), ()), ((y8.2.1.1, y8.2.1.2.1, ()), ())))
 (.ite ((y3.1.1.1 == (5 : Int)))
 (.ret ((((4 : Int), y1.1.1.1, y2.1.1.1, (0 : Int), ()), ()), ((y3.2.1.1, y3.2.1.2.1, ()), ())))
 (.ite ((y3.1.1.1 == (6 : Int)))
 (.ret ((((5 : Int), y1.1.1.1, y2.1.1.1, (0 : Int), ()), ()), ((y3.2.1.1, y3.2.1.2.1, ()), ())))
 (.ite ((y3.1.1.1 == (7 : Int)))
 (.get (k26_V a0 y3.2.1.1 y3.2.1.2.1 (12 : Int)) fun y9 =>
 .ret ((((6 : Int), y9.1.1.1, (0 : Int), (0 : Int), ()), ()), ((y9.2.1.1, y9.2.1.2.1, ()), ())))
 (.ite ((y3.1.1.1 == (8 : Int)))
 (.get (k26_V a0 y3.2.1.1 y3.2.1.2.1 (12 : Int)) fun y10 =>
 .ret ((((7 : Int), y1.1.1.1, y10.1.1.1, (0 : Int), ()), ()), ((y10.2.1.1, y10.2.1.2.1, ()), ())))
 (.get (k26_V a0 y3.2.1.1 y3.2.1.2.1 (17 : Int)) fun y11 =>
 .ret ((((8 : Int), (IntKind.i64.wrap ((1 : Int) + y11.1.1.1)), (0 : Int), (0 : Int), ()), ()), ((y11.2.1.1, y11.2.1.2.1, ()), ())))))))))))
def k29_V (a0 : List Int) (a1 : Int) (a2 : Int) : Option (((Int × Int × Int × Int × Unit) × Unit) × ((Int × Int × Unit) × Unit)) := (f29_tree a0 a1 a2).eval
def k29 : Con := { f := 29, lend := true, its := [⟨true, false, [.ro (.int .u8), .i .i64, .i .i64]⟩], lay := [none], rs := [⟨false, true, [.i .i64, .i .i64, .i .i64, .i .i64]⟩], F := fun x => .get (k29_V x.1.1 x.1.2.1 x.1.2.2.1) fun y => .ret y }
theorem f29_eq (x : itemsD k29.its) : bo [k26, k53] (fun _ => none) Tryz.f29 k29 [.cell 2 40] x = f29_tree x.1.1 x.1.2.1 x.1.2.2.1 := by kernel_rfl
theorem f29_ok (hr : ∀ x : (List Int × Int × Int × Unit) × Unit, itemsWF k29.its x → (f29_tree x.1.1 x.1.2.1 x.1.2.2.1).eval = (k29.F x).eval) : k29.Ok Tryz.prog := con_fn [k26, k53] ⟨k26_ok, k53_ok, trivial⟩ f29_eq fun x hw _ hy => (hr x hw).trans hy
theorem k29_ok : k29.Ok Tryz.prog := f29_ok fun x _ => (eval_get_ret _).symm
theorem ins_tot {b : List Int} {i h : Int} (hb : b.length ≤ BIG) (hi : 0 ≤ i) : TotV (k29_V b i h) fun y => 0 ≤ y.2.1.1 := by
  unfold k29_V f29_tree
  refine tot_get (below_tot hb hi) fun y hy => tot_get (below_tot hb hy.2) fun z hz => tot_get (below_tot hb hz.2) fun u hu => ?_
  refine tot_ite (fun _ => tot_get (pick_tot hb hu.2 (by decide)) fun v hv => tot_ret hv.2) fun _ => ?_
  refine tot_ite (fun _ => tot_get (pick_tot hb hu.2 (by decide)) fun v hv => tot_ret hv.2) fun _ => ?_
  refine tot_ite (fun _ => tot_get (pick_tot hb hu.2 (by decide)) fun v hv => tot_ret hv.2) fun _ => ?_
  refine tot_ite (fun _ => tot_get (below_tot hb hu.2) fun v hv => tot_ret hv.2) fun _ => ?_
  refine tot_ite (fun _ => tot_get (below_tot hb hu.2) fun v hv => tot_ret hv.2) fun _ => ?_
  refine tot_ite (fun _ => tot_ret hu.2) fun _ => tot_ite (fun _ => tot_ret hu.2) fun _ => ?_
  refine tot_ite (fun _ => tot_get (below_tot hb hu.2) fun v hv => tot_ret hv.2) fun _ => ?_
  refine tot_ite (fun _ => tot_get (below_tot hb hu.2) fun v hv => tot_ret hv.2) fun _ => ?_
  exact tot_get (below_tot hb hu.2) fun v hv => tot_ret hv.2
def f35_tree (a0 : List Int) (a1 : Int) (a2 : Int) : Out (((Int × Int × Int × Int × Unit) × Unit) × ((Int × Int × Unit) × Unit)) :=
 .get (k29_V a0 a1 a2) fun y1 =>
 .get (k30_V a0 y1.2.1.1 y1.2.1.2.1 (10 : Int)) fun y2 =>
 .ite y2.1.1.1
 (.get (k26_V a0 y2.2.1.1 y2.2.1.2.1 (4 : Int)) fun y3 =>
 .ite ((y3.1.1.1 == (0 : Int)))
 (.get (k53_V a0 y3.2.1.1 y3.2.1.2.1 ([(-1 : Int), (0 : Int), (9 : Int)] : List (Int))) fun y4 =>
 .ret (((y4.1.1.1, y1.1.1.2.1, y1.1.1.2.2.1, y1.1.1.2.2.2.1, ()), ()), ((y4.2.1.1, y4.2.1.2.1, ()), ())))
 (.ite ((y3.1.1.1 == (1 : Int)))
 (.get (k53_V a0 y3.2.1.1 y3.2.1.2.1 ([(-1 : Int), (4 : Int), (20 : Int), (21 : Int), (40 : Int), (41 : Int)] : List (Int))) fun y5 =>
 .ret (((y1.1.1.1, y5.1.1.1, y1.1.1.2.2.1, y1.1.1.2.2.2.1, ()), ()), ((y5.2.1.1, y5.2.1.2.1, ()), ())))
 (.ite ((y3.1.1.1 == (2 : Int)))
 (.get (k53_V a0 y3.2.1.1 y3.2.1.2.1 ([(-1 : Int), (4 : Int), (40 : Int), (41 : Int), (1000000 : Int), (-1000000 : Int), (1000001 : Int)] : List (Int))) fun y6 =>
 .ret (((y1.1.1.1, y1.1.1.2.1, y6.1.1.1, y1.1.1.2.2.2.1, ()), ()), ((y6.2.1.1, y6.2.1.2.1, ()), ())))
 (.get (k53_V a0 y3.2.1.1 y3.2.1.2.1 ([(-1 : Int), (3 : Int), (4 : Int)] : List (Int))) fun y7 =>
 .ret (((y1.1.1.1, y1.1.1.2.1, y1.1.1.2.2.1, y7.1.1.1, ()), ()), ((y7.2.1.1, y7.2.1.2.1, ()), ()))))))
 (.ret (((y1.1.1.1, y1.1.1.2.1, y1.1.1.2.2.1, y1.1.1.2.2.2.1, ()), ()), ((y2.2.1.1, y2.2.1.2.1, ()), ())))
def k35_V (a0 : List Int) (a1 : Int) (a2 : Int) : Option (((Int × Int × Int × Int × Unit) × Unit) × ((Int × Int × Unit) × Unit)) := (f35_tree a0 a1 a2).eval
def k35 : Con := { f := 35, lend := true, its := [⟨true, false, [.ro (.int .u8), .i .i64, .i .i64]⟩], lay := [none], rs := [⟨false, true, [.i .i64, .i .i64, .i .i64, .i .i64]⟩], F := fun x => .get (k35_V x.1.1 x.1.2.1 x.1.2.2.1) fun y => .ret y }
theorem f35_eq (x : itemsD k35.its) : bo [k29, k30, k26, k53] (fun _ => none) Tryz.f35 k35 [.cell 2 40] x = f35_tree x.1.1 x.1.2.1 x.1.2.2.1 := by kernel_rfl
theorem f35_ok (hr : ∀ x : (List Int × Int × Int × Unit) × Unit, itemsWF k35.its x → (f35_tree x.1.1 x.1.2.1 x.1.2.2.1).eval = (k35.F x).eval) : k35.Ok Tryz.prog := con_fn [k29, k30, k26, k53] ⟨k29_ok, k30_ok, k26_ok, k53_ok, trivial⟩ f35_eq fun x hw _ hy => (hr x hw).trans hy
theorem k35_ok : k35.Ok Tryz.prog := f35_ok fun x _ => (eval_get_ret _).symm
theorem any_tot {b : List Int} {i h : Int} (hb : b.length ≤ BIG) (hi : 0 ≤ i) : TotV (k35_V b i h) fun y => 0 ≤ y.2.1.1 := by
  unfold k35_V f35_tree
  refine tot_get (ins_tot hb hi) fun y hy => tot_get (once_tot hb hy) fun z hz => ?_
  refine tot_ite (fun _ => tot_get (below_tot hb hz) fun u hu => ?_) fun _ => tot_ret hz
  refine tot_ite (fun _ => tot_get (pick_tot hb hu.2 (by decide)) fun v hv => tot_ret hv.2) fun _ => ?_
  refine tot_ite (fun _ => tot_get (pick_tot hb hu.2 (by decide)) fun v hv => tot_ret hv.2) fun _ => ?_
  refine tot_ite (fun _ => tot_get (pick_tot hb hu.2 (by decide)) fun v hv => tot_ret hv.2) fun _ => ?_
  exact tot_get (pick_tot hb hu.2 (by decide)) fun v hv => tot_ret hv.2
abbrev f34_S0 := (Int × Unit) × ((List (Int) × Int × Int × Unit) × List ((Int × Int × Int × Int × Unit)) × Unit)
def f34_L0 : f34_S0 → Out (Round f34_S0 ((Unit) × (List ((Int × Int × Int × Int × Unit)) × (List (Int) × Int × Int × Unit) × Unit)) Empty)
| ((p0, _), (p1, p2, p3, _), p4, _) =>
 .ite (decide (p0 > (0 : Int)))
 (.get (k29_V p1 p2 p3) fun y1 =>
 .ite (decide (List.length p4 + List.length ([(y1.1.1.1, y1.1.1.2.1, y1.1.1.2.2.1, y1.1.1.2.2.2.1, ())] : List ((Int × Int × Int × Int × Unit))) ≤ LIM))
 (.ret (.again (((IntKind.i64.wrap (p0 - (1 : Int))), ()), ((p1, y1.2.1.1, y1.2.1.2.1, ()), (p4 ++ ([(y1.1.1.1, y1.1.1.2.1, y1.1.1.2.2.1, y1.1.1.2.2.2.1, ())] : List ((Int × Int × Int × Int × Unit)))), ()))))
 .fail)
 (.ret (.out ((), (p4, (p1, p2, p3, ()), ()))))
def f34_tree (a0 : List Int) (a1 : Int) (a2 : Int) (a3 : Int) : Out (((List (Int × Int × Int × Int × Unit) × Unit) × Unit) × ((Int × Int × Unit) × Unit × Unit)) :=
 .get (k26_V a0 a1 a2 (IntKind.i64.wrap (a3 + (1 : Int)))) fun y1 =>
 .get (iter1 f34_L0 FUEL ((y1.1.1.1, ()), ((a0, y1.2.1.1, y1.2.1.2.1, ()), ([] : List ((Int × Int × Int × Int × Unit))), ()))) fun y2 =>
 .ret (((y2.2.1, ()), ()), ((y2.2.2.1.2.1, y2.2.2.1.2.2.1, ()), (), ()))
def f34_A : Nat → Option LoopAnn := fun n => annOf [(0, { head := { t := [.vptr 0 0] ++ dd 4 ++ [.srf 64000000, .i .i64] ++ dd 15, v := [(0, .var [.ro (.int .u8) (some 1), .i .i64, .i .i64]), (64000000, .arr tyN)] }, out := { t := [.vptr 0 0] ++ dd 4 ++ [.srf 64000256] ++ dd 16, v := [(64000256, .arr tyN), (0, .var [.ro (.int .u8) (some 1), .i .i64, .i .i64])] }, ret := none })] n
def k34_V (a0 : List Int) (a1 : Int) (a2 : Int) (a3 : Int) : Option (((List (Int × Int × Int × Int × Unit) × Unit) × Unit) × ((Int × Int × Unit) × Unit × Unit)) := (f34_tree a0 a1 a2 a3).eval
def k34 : Con := { f := 34, lend := true, its := [⟨true, false, [.ro (.int .u8), .i .i64, .i .i64]⟩, ⟨false, false, [.i .i64]⟩], lay := [none, none], rs := [⟨false, false, [.own tyN]⟩], F := fun x => .get (k34_V x.1.1 x.1.2.1 x.1.2.2.1 x.2.1.1) fun y => .ret y }
theorem f34_eq (x : itemsD k34.its) : bo [k26, k29] f34_A Tryz.f34 k34 [.tmp 4] x = f34_tree x.1.1 x.1.2.1 x.1.2.2.1 x.2.1.1 := by kernel_rfl
theorem f34_ok (hr : ∀ x : (List Int × Int × Int × Unit) × (Int × Unit) × Unit, itemsWF k34.its x → (f34_tree x.1.1 x.1.2.1 x.1.2.2.1 x.2.1.1).eval = (k34.F x).eval) : k34.Ok Tryz.prog := con_fn [k26, k29] ⟨k26_ok, k29_ok, trivial⟩ f34_eq fun x hw _ hy => (hr x hw).trans hy
theorem k34_ok : k34.Ok Tryz.prog := f34_ok fun x _ => (eval_get_ret _).symm
theorem progD_tot {b : List Int} {i h : Int} (hb : b.length ≤ BIG) (hi : 0 ≤ i) : TotV (k34_V b i h 8) fun y => y.1.1.1.length ≤ 8 ∧ 0 ≤ y.2.1.1 := by
  unfold k34_V f34_tree
  refine tot_get (below_tot hb hi) fun y hy => ?_
  have h1 := hy.1.1
  have h2 : y.1.1.1 < 9 := hy.1.2.1 (by decide)
  refine tot_get (P := fun x => x.2.1.length ≤ 8 ∧ 0 ≤ x.2.2.1.2.1) (tot_iter1 (fun x => x.2.1.1 = b ∧ 0 ≤ x.1.1 ∧ 0 ≤ x.2.1.2.1 ∧ (x.2.2.1.length : Int) + x.1.1 ≤ 8) (fun x => x.1.1.toNat) _ (fun x hx => ?_) _ _ ?_ ?_) fun x hx => tot_ret hx
  · obtain ⟨⟨k, _⟩, ⟨b', i, h, _⟩, out, _⟩ := x
    obtain ⟨e1, h1, h2, h3⟩ := hx
    simp only at e1 h1 h2 h3
    subst e1
    unfold f34_L0
    refine tot_ite (fun h4 => ?_) (fun h4 => tot_ret ?_)
    · have h4 : k > 0 := of_decide_eq_true h4
      have w : IntKind.i64.wrap (k - 1) = k - 1 := wrap_id (by omega) (by omega)
      refine tot_get (ins_tot hb h2) fun u hu => tot_t (decide_eq_true (by rw [LIM_eq]; simp; omega)) (tot_ret ?_)
      exact ⟨⟨rfl, by simp only [w]; omega, hu, by simp only [w]; simp; omega⟩, by simp only [w]; omega⟩
    · exact ⟨by simp only at *; omega, h2⟩
  · exact ⟨rfl, h1, hy.2, by simp; omega⟩
  · exact Nat.lt_of_le_of_lt (show y.1.1.1.toNat ≤ 8 by omega) (by decide)
abbrev f14_S0 := (Int × Unit) × ((List (Int) × Int × Int × Unit) × List ((Int × Int × Int × Int × Unit)) × Unit)
def f14_L0 : f14_S0 → Out (Round f14_S0 ((Unit) × (List ((Int × Int × Int × Int × Unit)) × Unit)) Empty)
| ((p0, _), (p1, p2, p3, _), p4, _) =>
 .ite (decide (((List.length p4 : Nat) : Int) < p0))
 (.get (k29_V p1 p2 p3) fun y1 =>
 .ite (decide (List.length p4 + List.length ([(y1.1.1.1, y1.1.1.2.1, y1.1.1.2.2.1, y1.1.1.2.2.2.1, ())] : List ((Int × Int × Int × Int × Unit))) ≤ LIM))
 (.ret (.again ((p0, ()), ((p1, y1.2.1.1, y1.2.1.2.1, ()), (p4 ++ ([(y1.1.1.1, y1.1.1.2.1, y1.1.1.2.2.1, y1.1.1.2.2.2.1, ())] : List ((Int × Int × Int × Int × Unit)))), ()))))
 .fail)
 (.ret (.out ((), (p4, ()))))
def f14_tree (a0 : List Int) : Out (((List (Int × Int × Int × Int × Unit) × Unit) × Unit) × (Unit × Unit)) :=
 .get (k25_V a0) fun y1 =>
 .get (k34_V y1.1.1.1 y1.1.1.2.1 y1.1.1.2.2.1 (8 : Int)) fun y2 =>
 .get (k30_V y1.1.1.1 y2.2.1.1 y2.2.1.2.1 (4 : Int)) fun y3 =>
 .ite y3.1.1.1
 (.get (k35_V y1.1.1.1 y3.2.1.1 y3.2.1.2.1) fun y4 =>
 .ite (decide (List.length y2.1.1.1 + List.length ([(y4.1.1.1, y4.1.1.2.1, y4.1.1.2.2.1, y4.1.1.2.2.2.1, ())] : List ((Int × Int × Int × Int × Unit))) ≤ LIM))
 (.get (k30_V y1.1.1.1 y4.2.1.1 y4.2.1.2.1 (20 : Int)) fun y5 =>
 .ite y5.1.1.1
 (.get (k26_V y1.1.1.1 y5.2.1.1 y5.2.1.2.1 (2 : Int)) fun y6 =>
 .get (iter1 f14_L0 FUEL (((IntKind.i64.wrap ((40 : Int) + y6.1.1.1)), ()), ((y1.1.1.1, y6.2.1.1, y6.2.1.2.1, ()), (y2.1.1.1 ++ ([(y4.1.1.1, y4.1.1.2.1, y4.1.1.2.2.1, y4.1.1.2.2.2.1, ())] : List ((Int × Int × Int × Int × Unit)))), ()))) fun y7 =>
 .ret (((y7.2.1, ()), ()), ((), ())))
 (.ret ((((y2.1.1.1 ++ ([(y4.1.1.1, y4.1.1.2.1, y4.1.1.2.2.1, y4.1.1.2.2.2.1, ())] : List ((Int × Int × Int × Int × Unit)))), ()), ()), ((), ()))))
 .fail)
 (.get (k30_V y1.1.1.1 y3.2.1.1 y3.2.1.2.1 (20 : Int)) fun y8 =>
 .ite y8.1.1.1
 (.get (k26_V y1.1.1.1 y8.2.1.1 y8.2.1.2.1 (2 : Int)) fun y9 =>
 .get (iter1 f14_L0 FUEL (((IntKind.i64.wrap ((40 : Int) + y9.1.1.1)), ()), ((y1.1.1.1, y9.2.1.1, y9.2.1.2.1, ()), y2.1.1.1, ()))) fun y10 =>
 .ret (((y10.2.1, ()), ()), ((), ())))
 (.ret (((y2.1.1.1, ()), ()), ((), ()))))
def f14_A : Nat → Option LoopAnn := fun n => annOf [(0, { head := { t := [.dead, .dead, .dead, .vptr 64000000 0, .srf 64000001, .i .i64] ++ dd 26, v := [(64000000, .var [.ro (.int .u8) none, .i .i64, .i .i64]), (64000001, .arr tyN)] }, out := { t := dd 4 ++ [.srf 64000256] ++ dd 27, v := [(64000256, .arr tyN)] }, ret := none })] n
def k14_V (a0 : List Int) : Option (((List (Int × Int × Int × Int × Unit) × Unit) × Unit) × (Unit × Unit)) := (f14_tree a0).eval
def k14 : Con := { f := 14, lend := true, its := [⟨false, false, [.ro (.int .u8)]⟩], lay := [none], rs := [⟨false, false, [.own tyN]⟩], F := fun x => .get (k14_V x.1.1) fun y => .ret y }
theorem f14_eq (x : itemsD k14.its) : bo [k25, k34, k30, k35, k26, k29] f14_A Tryz.f14 k14 [.tmp 2] x = f14_tree x.1.1 := by kernel_rfl
theorem f14_ok (hr : ∀ x : (List Int × Unit) × Unit, itemsWF k14.its x → (f14_tree x.1.1).eval = (k14.F x).eval) : k14.Ok Tryz.prog := con_fn [k25, k34, k30, k35, k26, k29] ⟨k25_ok, k34_ok, k30_ok, k35_ok, k26_ok, k29_ok, trivial⟩ f14_eq fun x hw _ hy => (hr x hw).trans hy
theorem k14_ok : k14.Ok Tryz.prog := f14_ok fun x _ => (eval_get_ret _).symm
theorem fill_tot {b : List Int} (hb : b.length ≤ BIG) {n i h : Int} {p : List InsD} (hi : 0 ≤ i) (hn : n ≤ 41) (hp : p.length ≤ 41) : TotV (iter1 f14_L0 FUEL ((n, ()), ((b, (i, (h, ()))), (p, ())))) fun _ => True := by
  refine tot_iter1 (fun x => x.2.1.1 = b ∧ 0 ≤ x.2.1.2.1 ∧ x.1.1 ≤ 41 ∧ x.2.2.1.length ≤ 41) (fun x => 41 - x.2.2.1.length) _ (fun x hx => ?_) _ _ ⟨rfl, hi, hn, hp⟩ (Nat.lt_of_le_of_lt (Nat.sub_le _ _) (by decide))
  obtain ⟨⟨k, _⟩, ⟨b', i, h, _⟩, out, _⟩ := x
  obtain ⟨e1, h1, h2, h3⟩ := hx
  simp only at e1 h1 h2 h3
  subst e1
  unfold f14_L0
  refine tot_ite (fun h4 => ?_) (fun h4 => tot_ret trivial)
  have h4 : ((out.length : Nat) : Int) < k := of_decide_eq_true h4
  refine tot_get (ins_tot hb h1) fun u hu => tot_t (decide_eq_true (by rw [LIM_eq]; simp; omega)) (tot_ret ?_)
  exact ⟨⟨rfl, hu, h2, by simp; omega⟩, by simp; omega⟩
theorem below40 {n : Int} (h0 : 0 ≤ n) (h1 : n < 2) : IntKind.i64.wrap ((40 : Int) + n) ≤ 41 := by rw [wrap_id (by omega) (by omega)]; omega
theorem drawProg_tot {b : List Int} (hb : b.length ≤ BIG) : TotV (k14_V b) fun _ => True := by
  unfold k14_V f14_tree
  refine tot_get (newCur_tot hb) fun c hc => ?_
  have h0 : 0 ≤ c.1.1.2.1 := by rw [hc.2]; exact Int.le_refl _
  rw [hc.1]
  refine tot_get (progD_tot hb h0) fun p hp => tot_get (once_tot hb hp.2) fun z hz => ?_
  refine tot_ite (fun _ => ?_) fun _ => ?_
  · refine tot_get (any_tot hb hz) fun u hu => tot_t (decide_eq_true (by rw [LIM_eq]; simp; omega)) (tot_get (once_tot hb hu) fun v hv => ?_)
    refine tot_ite (fun _ => tot_get (below_tot hb hv) fun t ht => ?_) fun _ => tot_ret trivial
    exact tot_get (fill_tot hb ht.2 (below40 ht.1.1 (ht.1.2.1 (by decide))) (by simp; omega)) fun _ _ => tot_ret trivial
  · refine tot_get (once_tot hb hz) fun v hv => ?_
    refine tot_ite (fun _ => tot_get (below_tot hb hv) fun t ht => ?_) fun _ => tot_ret trivial
    exact tot_get (fill_tot hb ht.2 (below40 ht.1.1 (ht.1.2.1 (by decide))) (by omega)) fun _ _ => tot_ret trivial
def f5_tree (a0 : List Int) : Out (((List (Int × Int × Int × Int × Unit) × Unit) × Unit) × (Unit × Unit)) :=
 .get (k14_V a0) fun y1 =>
 .ret (((y1.1.1.1, ()), ()), ((), ()))
def k5_V (a0 : List Int) : Option (((List (Int × Int × Int × Int × Unit) × Unit) × Unit) × (Unit × Unit)) := (f5_tree a0).eval
def k5 : Con := { f := 5, lend := true, its := [⟨false, false, [.ro (.int .u8)]⟩], lay := [none], rs := [⟨false, false, [.own tyN]⟩], F := fun x => .get (k5_V x.1.1) fun y => .ret y }
theorem f5_eq (x : itemsD k5.its) : bo [k14] (fun _ => none) Tryz.f5 k5 [.tmp 2] x = f5_tree x.1.1 := by kernel_rfl
theorem f5_ok (hr : ∀ x : (List Int × Unit) × Unit, itemsWF k5.its x → (f5_tree x.1.1).eval = (k5.F x).eval) : k5.Ok Tryz.prog := con_fn [k14] ⟨k14_ok, trivial⟩ f5_eq fun x hw _ hy => (hr x hw).trans hy
theorem k5_ok : k5.Ok Tryz.prog := f5_ok fun x _ => (eval_get_ret _).symm
theorem drawShow_tot {b : List Int} (hb : b.length ≤ BIG) : TotV (k5_V b) fun _ => True := by
  unfold k5_V f5_tree
  exact tot_get (drawProg_tot hb) fun _ _ => tot_ret trivial
theorem listing_one (x : InsD) : (listingV [x]).length ≤ 75 := by
  unfold listingV
  split
  · rename_i h
    exact listT_len (p := [x]) (prog_parts h).2
  · exact Nat.zero_le _
abbrev f12_S0 := (List UInt8 × Int × Unit) × ((List (Int) × Int × Int × Unit) × Unit)
def f12_L0 : f12_S0 → Out (Round f12_S0 ((List UInt8 × Unit) × ((List (Int) × Int × Int × Unit) × Unit)) Empty)
| ((p0, p1, _), (p2, p3, p4, _), _) =>
 .ite (decide (p1 > (0 : Int)))
 (.get (k26_V p2 p3 p4 (10 : Int)) fun y1 =>
 .ite ((y1.1.1.1 == (0 : Int)))
 (.get (k27_V p2 y1.2.1.1 y1.2.1.2.1 ([([] : List UInt8), ([115, 101, 116, 32, 114, 48] : List UInt8), ([115, 101, 116, 32, 114, 52, 32, 49] : List UInt8), ([97, 100, 100, 32, 114, 48, 32, 114, 49] : List UInt8), ([115, 121, 115, 32, 48] : List UInt8), ([115, 121, 115, 32, 50, 49] : List UInt8), ([106, 117, 109, 112, 32, 52, 49] : List UInt8), ([122, 101, 114, 111, 32, 114, 49, 32, 120] : List UInt8), ([110, 111, 112] : List UInt8), ([115, 101, 116, 32, 114, 48, 32, 49, 48, 48, 48, 48, 48, 49] : List UInt8), ([108, 111, 97, 100, 32, 114, 49, 32, 50] : List UInt8), ([32, 115, 121, 115, 32, 49] : List UInt8)] : List (List UInt8))) fun y2 =>
 .ite (decide (List.length p0 + List.length y2.1.1.1 ≤ LIM))
 (.ite (decide (List.length (p0 ++ y2.1.1.1) + List.length ([10] : List UInt8) ≤ LIM))
 (.ret (.again ((((p0 ++ y2.1.1.1) ++ ([10] : List UInt8)), (IntKind.i64.wrap (p1 - (1 : Int))), ()), ((p2, y2.2.1.1, y2.2.1.2.1, ()), ()))))
 .fail)
 .fail)
 (.get (k29_V p2 y1.2.1.1 y1.2.1.2.1) fun y3 =>
 .ite (decide (List.length p0 + List.length (listingV ([(y3.1.1.1, y3.1.1.2.1, y3.1.1.2.2.1, y3.1.1.2.2.2.1, ())] : List ((Int × Int × Int × Int × Unit)))) ≤ LIM))
 (.ret (.again (((p0 ++ (listingV ([(y3.1.1.1, y3.1.1.2.1, y3.1.1.2.2.1, y3.1.1.2.2.2.1, ())] : List ((Int × Int × Int × Int × Unit))))), (IntKind.i64.wrap (p1 - (1 : Int))), ()), ((p2, y3.2.1.1, y3.2.1.2.1, ()), ()))))
 .fail))
 (.ret (.out ((p0, ()), ((p2, p3, p4, ()), ()))))
abbrev f12_S3 := (List UInt8 × Int × Unit) × ((List (Int) × Int × Int × Unit) × Unit)
def f12_L3 : f12_S3 → Out (Round f12_S3 ((List UInt8 × Unit) × (Unit)) Empty)
| ((p0, p1, _), (p2, p3, p4, _), _) =>
 .get (k26_V p2 p3 p4 (2 : Int)) fun y1 =>
 .ite (decide (p1 < (IntKind.i64.wrap ((40 : Int) + y1.1.1.1))))
 (.ite (decide (List.length p0 + List.length ([115, 121, 115, 32, 49, 10] : List UInt8) ≤ LIM))
 (.ret (.again (((p0 ++ ([115, 121, 115, 32, 49, 10] : List UInt8)), (IntKind.i64.wrap (p1 + (1 : Int))), ()), ((p2, y1.2.1.1, y1.2.1.2.1, ()), ()))))
 .fail)
 (.ret (.out ((p0, ()), ())))
def f12_tree (a0 : List Int) : Out (((List UInt8 × Unit) × Unit) × (Unit × Unit)) :=
 .get (k25_V a0) fun y1 =>
 .get (k26_V y1.1.1.1 y1.1.1.2.1 y1.1.1.2.2.1 (8 : Int)) fun y2 =>
 .get (iter1 f12_L0 FUEL ((([] : List UInt8), y2.1.1.1, ()), ((y1.1.1.1, y2.2.1.1, y2.2.1.2.1, ()), ()))) fun y3 =>
 .get (k30_V y3.2.1.1 y3.2.1.2.1 y3.2.1.2.2.1 (4 : Int)) fun y4 =>
 .ite y4.1.1.1
 (.get (k31_V y3.2.1.1 y4.2.1.1 y4.2.1.2.1 y3.1.1) fun y5 =>
 .ret (((y5.1.1.1, ()), ()), ((), ())))
 (.get (k30_V y3.2.1.1 y4.2.1.1 y4.2.1.2.1 (20 : Int)) fun y6 =>
 .ite y6.1.1.1
 (.get (iter1 f12_L3 FUEL ((y3.1.1, (0 : Int), ()), ((y3.2.1.1, y6.2.1.1, y6.2.1.2.1, ()), ()))) fun y7 =>
 .ret (((y7.1.1, ()), ()), ((), ())))
 (.ret (((y3.1.1, ()), ()), ((), ()))))
def f12_A : Nat → Option LoopAnn := fun n => annOf [(0, { head := { t := [.dead, .dead, .dead, .vptr 64000000 0, .s, .i .i64] ++ dd 42, v := [(64000000, .var [.ro (.int .u8) none, .i .i64, .i .i64])] }, out := { t := [.dead, .dead, .dead, .vptr 64000256 0, .s] ++ dd 43, v := [(64000256, .var [.ro (.int .u8) none, .i .i64, .i .i64])] }, ret := none }), (3, { head := { t := [.dead, .dead, .dead, .vptr 64003072 0, .s, .dead, .i .i64] ++ dd 41, v := [(64003072, .var [.ro (.int .u8) none, .i .i64, .i .i64])] }, out := { t := dd 4 ++ [.s] ++ dd 43, v := [] }, ret := none })] n
def k12_V (a0 : List Int) : Option (((List UInt8 × Unit) × Unit) × (Unit × Unit)) := (f12_tree a0).eval
def k12 : Con := { f := 12, lend := true, its := [⟨false, false, [.ro (.int .u8)]⟩], lay := [none], rs := [⟨false, false, [.s]⟩], F := fun x => .get (k12_V x.1.1) fun y => .ret y }
theorem f12_eq (x : itemsD k12.its) : bo [k25, k26, k27, k29, k28, k30, k31] f12_A Tryz.f12 k12 [.tmp 2] x = f12_tree x.1.1 := by kernel_rfl
theorem f12_ok (hr : ∀ x : (List Int × Unit) × Unit, itemsWF k12.its x → (f12_tree x.1.1).eval = (k12.F x).eval) : k12.Ok Tryz.prog := con_fn [k25, k26, k27, k29, k28, k30, k31] ⟨k25_ok, k26_ok, k27_ok, k29_ok, k28_ok, k30_ok, k31_ok, trivial⟩ f12_eq fun x hw _ hy => (hr x hw).trans hy
theorem k12_ok : k12.Ok Tryz.prog := f12_ok fun x _ => (eval_get_ret _).symm
theorem lines_tot {b : List Int} (hb : b.length ≤ BIG) {s : Str} {i h : Int} (hi : 0 ≤ i) (hs : s.length ≤ 1000) : TotV (iter1 f12_L3 FUEL ((s, ((0 : Int), ())), ((b, (i, (h, ()))), ()))) fun y => y.1.1.length ≤ 1300 := by
  refine tot_iter1 (fun x => x.2.1.1 = b ∧ 0 ≤ x.2.1.2.1 ∧ 0 ≤ x.1.2.1 ∧ x.1.2.1 ≤ 41 ∧ (x.1.1.length : Int) ≤ 1000 + 6 * x.1.2.1) (fun x => 41 - x.1.2.1.toNat) _ (fun x hx => ?_) _ _ ⟨rfl, hi, Int.le_refl _, (by decide : (0 : Int) ≤ 41), by simp; omega⟩ (Nat.lt_of_le_of_lt (Nat.sub_le _ _) (by decide))
  obtain ⟨⟨s, k, _⟩, ⟨b', i, h, _⟩, _⟩ := x
  obtain ⟨e1, h1, h2, h3, h4⟩ := hx
  simp only at e1 h1 h2 h3 h4
  subst e1
  unfold f12_L3
  refine tot_get (below_tot hb h1) fun y hy => ?_
  have q := below40 hy.1.1 (hy.1.2.1 (by decide))
  refine tot_ite (fun h5 => ?_) (fun h5 => tot_ret (by show s.length ≤ 1300; omega))
  have h5 : k < _ := of_decide_eq_true h5
  have w : IntKind.i64.wrap (k + 1) = k + 1 := wrap_id (by omega) (by omega)
  refine tot_t (decide_eq_true (by rw [LIM_eq]; simp; omega)) (tot_ret ?_)
  exact ⟨⟨rfl, hy.2, by simp only [w]; omega, by simp only [w]; omega, by simp only [w]; simp; omega⟩, by simp only [w]; omega⟩
theorem drawAsm_tot {b : List Int} (hb : b.length ≤ BIG) : TotV (k12_V b) fun y => y.1.1.1.length ≤ 1000000 := by
  unfold k12_V f12_tree
  refine tot_get (newCur_tot hb) fun c hc => ?_
  have h0 : 0 ≤ c.1.1.2.1 := by rw [hc.2]; exact Int.le_refl _
  rw [hc.1]
  refine tot_get (below_tot hb h0) fun y hy => ?_
  have h1 := hy.1.1
  have h2 : y.1.1.1 < 8 := hy.1.2.1 (by decide)
  refine tot_get (P := fun x => x.2.1.1 = b ∧ 0 ≤ x.2.1.2.1 ∧ x.1.1.length ≤ 600) (tot_iter1 (fun x => x.2.1.1 = b ∧ 0 ≤ x.1.2.1 ∧ 0 ≤ x.2.1.2.1 ∧ (x.1.1.length : Int) + 80 * x.1.2.1 ≤ 600) (fun x => x.1.2.1.toNat) _ (fun x hx => ?_) _ _ ?_ ?_) fun x hx => ?_
  · obtain ⟨⟨s, k, _⟩, ⟨b', i, h, _⟩, _⟩ := x
    obtain ⟨e1, h1, h2, h3⟩ := hx
    simp only at e1 h1 h2 h3
    subst e1
    unfold f12_L0
    refine tot_ite (fun h4 => ?_) (fun h4 => tot_ret ⟨rfl, h2, by show s.length ≤ 600; omega⟩)
    have h4 : k > 0 := of_decide_eq_true h4
    have w : IntKind.i64.wrap (k - 1) = k - 1 := wrap_id (by omega) (by omega)
    refine tot_get (below_tot hb h2) fun u hu => tot_ite (fun _ => ?_) fun _ => ?_
    · refine tot_get (pickS_tot hb hu.2 (by decide)) fun v hv => ?_
      have hl : v.1.1.1.length ≤ 20 := (by decide : ∀ z ∈ ([([] : List UInt8), ([115, 101, 116, 32, 114, 48] : List UInt8), ([115, 101, 116, 32, 114, 52, 32, 49] : List UInt8), ([97, 100, 100, 32, 114, 48, 32, 114, 49] : List UInt8), ([115, 121, 115, 32, 48] : List UInt8), ([115, 121, 115, 32, 50, 49] : List UInt8), ([106, 117, 109, 112, 32, 52, 49] : List UInt8), ([122, 101, 114, 111, 32, 114, 49, 32, 120] : List UInt8), ([110, 111, 112] : List UInt8), ([115, 101, 116, 32, 114, 48, 32, 49, 48, 48, 48, 48, 48, 49] : List UInt8), ([108, 111, 97, 100, 32, 114, 49, 32, 50] : List UInt8), ([32, 115, 121, 115, 32, 49] : List UInt8)] : List (List UInt8)), z.length ≤ 20) _ hv.1
      refine tot_t (decide_eq_true (by rw [LIM_eq]; omega)) (tot_t (decide_eq_true (by rw [LIM_eq, List.length_append]; simp only [List.length_cons, List.length_nil]; omega)) (tot_ret ?_))
      exact ⟨⟨rfl, by simp only [w]; omega, hv.2, by simp only [w]; simp only [List.length_append, List.length_cons, List.length_nil]; omega⟩, by simp only [w]; omega⟩
    · refine tot_get (ins_tot hb hu.2) fun v hv => ?_
      have hl := listing_one (v.1.1.1, v.1.1.2.1, v.1.1.2.2.1, v.1.1.2.2.2.1, ())
      refine tot_t (decide_eq_true (by rw [LIM_eq]; omega)) (tot_ret ?_)
      exact ⟨⟨rfl, by simp only [w]; omega, hv, by simp only [w]; simp only [List.length_append]; omega⟩, by simp only [w]; omega⟩
  · exact ⟨rfl, h1, hy.2, by simp; omega⟩
  · exact Nat.lt_of_le_of_lt (show y.1.1.1.toNat ≤ 8 by omega) (by decide)
  · obtain ⟨e1, g1, g2⟩ := hx
    rw [e1]
    refine tot_get (once_tot hb g1) fun z hz => tot_ite (fun _ => tot_get (spoil_tot hb hz (by omega)) fun u hu => tot_ret (by have := hu.1; simp only; omega)) fun _ => ?_
    refine tot_get (once_tot hb hz) fun u hu => tot_ite (fun _ => tot_get (lines_tot hb hu (by omega)) fun v hv => tot_ret (by simp only; omega)) fun _ => tot_ret (by simp only; omega)
end Go.Proofs.YtnglkhjpdpgahaaGreatDoor.Dm
