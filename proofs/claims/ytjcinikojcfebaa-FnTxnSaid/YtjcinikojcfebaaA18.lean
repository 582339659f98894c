/- Functions of the program, and what they compute. -/
import Derived.Test.YtjcinikojcfebaaA21
namespace Go.Proofs.Ytjcinikojcfebaa.Dm
open Go Go.ChangeShapes Go.WideShapes Go.ChangeAt Go.RowKit

/-! ## What is drawn: records -/
abbrev f177_S0 := (Int × Unit) × ((List (Int) × Int × Int × Unit) × (Int × Unit) × (Int × Unit) × List ((Int × List UInt8 × Unit)) × List ((Int × List UInt8 × Unit)) × Unit)
def f177_L0 (x : f177_S0) : Out (Round f177_S0 ((Unit) × ((List (Int) × Int × Int × Unit) × (Int × Unit) × (Int × Unit) × List ((Int × List UInt8 × Unit)) × List ((Int × List UInt8 × Unit)) × Unit)) Empty) :=
 .ite (decide (x.1.1 < (6 : Int)))
 (.get (k217_V x.2.1.1 x.2.1.2.1 x.2.1.2.2.1 (9 : Int)) fun y1 =>
 .ite (decide (List.length x.2.2.2.2.2.1 + List.length ([(x.1.1, y1.1.1.1, ())] : List ((Int × List UInt8 × Unit))) ≤ LIM))
 (.get (k139_V x.2.1.1 y1.2.1.1 y1.2.1.2.1 (3 : Int)) fun y2 =>
 .ret (.again (((IntKind.i64.wrap ((IntKind.i64.wrap (x.1.1 + (1 : Int))) + y2.1.1.1)), ()), ((x.2.1.1, y2.2.1.1, y2.2.1.2.1, ()), (x.2.2.1.1, ()), (x.2.2.2.1.1, ()), x.2.2.2.2.1, (x.2.2.2.2.2.1 ++ ([(x.1.1, y1.1.1.1, ())] : List ((Int × List UInt8 × Unit)))), ()))))
 .fail)
 (.ret (.out ((), ((x.2.1.1, x.2.1.2.1, x.2.1.2.2.1, ()), (x.2.2.1.1, ()), (x.2.2.2.1.1, ()), x.2.2.2.2.1, x.2.2.2.2.2.1, ()))))
abbrev f177_S3 := (Int × Unit) × ((Int × Unit) × (Int × Unit) × List (Int) × List ((Int × List UInt8 × Unit)) × List ((Int × List UInt8 × Unit)) × (List (Int) × Int × Int × Unit) × Unit)
def f177_L3 (x : f177_S3) : Out (Round f177_S3 ((Unit) × ((Int × Unit) × (Int × Unit) × List (Int) × List ((Int × List UInt8 × Unit)) × List ((Int × List UInt8 × Unit)) × (List (Int) × Int × Int × Unit) × Unit)) Empty) :=
 .ite (decide (((List.length x.2.2.2.1 : Nat) : Int) < x.1.1))
 (.ite (decide (List.length x.2.2.2.1 + List.length ([(66 : Int)] : List (Int)) ≤ LIM))
 (.ret (.again ((x.1.1, ()), ((x.2.1.1, ()), (x.2.2.1.1, ()), (x.2.2.2.1 ++ ([(66 : Int)] : List (Int))), x.2.2.2.2.1, x.2.2.2.2.2.1, (x.2.2.2.2.2.2.1.1, x.2.2.2.2.2.2.1.2.1, x.2.2.2.2.2.2.1.2.2.1, ()), ()))))
 .fail)
 (.ret (.out ((), ((x.2.1.1, ()), (x.2.2.1.1, ()), x.2.2.2.1, x.2.2.2.2.1, x.2.2.2.2.2.1, (x.2.2.2.2.2.2.1.1, x.2.2.2.2.2.2.1.2.1, x.2.2.2.2.2.2.1.2.2.1, ()), ()))))
def f177_tree (a0 : List Int) (a1 : Int) (a2 : Int) : Out (((Int × List (Int × List UInt8 × Unit) × Unit) × Unit) × ((Int × Int × Unit) × Unit)) :=
 .get (k139_V a0 a1 a2 (300 : Int)) fun y1 =>
 .get (k139_V a0 y1.2.1.1 y1.2.1.2.1 (3 : Int)) fun y2 =>
 .get (iter1 f177_L0 FUEL ((y2.1.1.1, ()), ((a0, y2.2.1.1, y2.2.1.2.1, ()), ((0 : Int), ()), ((IntKind.i64.wrap ((1 : Int) + y1.1.1.1)), ()), ([] : List ((Int × List UInt8 × Unit))), ([] : List ((Int × List UInt8 × Unit))), ()))) fun y3 =>
 .get (k140_V y3.2.1.1 y3.2.1.2.1 y3.2.1.2.2.1 (10 : Int)) fun y4 =>
 .ite y4.1.1.1
 (.get (k139_V y3.2.1.1 y4.2.1.1 y4.2.1.2.1 (4 : Int)) fun y5 =>
 .ite ((y5.1.1.1 == (0 : Int)))
 (.get (k141_V y3.2.1.1 y5.2.1.1 y5.2.1.2.1 ([(-1 : Int), (0 : Int), (1000000 : Int), (1000001 : Int)] : List (Int))) fun y6 =>
 .ret (((y6.1.1.1, y3.2.2.2.2.2.1, ()), ()), ((y6.2.1.1, y6.2.1.2.1, ()), ())))
 (.ite ((y5.1.1.1 == (1 : Int)))
 (.ret (((y3.2.2.2.1.1, ([] : List ((Int × List UInt8 × Unit))), ()), ()), ((y5.2.1.1, y5.2.1.2.1, ()), ())))
 (.ite ((y5.1.1.1 == (2 : Int)))
 (.get (k141_V y3.2.1.1 y5.2.1.1 y5.2.1.2.1 ([(0 : Int), (5 : Int), (6 : Int)] : List (Int))) fun y7 =>
 .ite (decide (List.length y3.2.2.2.2.2.1 + List.length ([(y7.1.1.1, ([] : List UInt8), ())] : List ((Int × List UInt8 × Unit))) ≤ LIM))
 (.ret (((y3.2.2.2.1.1, (y3.2.2.2.2.2.1 ++ ([(y7.1.1.1, ([] : List UInt8), ())] : List ((Int × List UInt8 × Unit)))), ()), ()), ((y7.2.1.1, y7.2.1.2.1, ()), ())))
 .fail)
 (.get (k139_V y3.2.1.1 y5.2.1.1 y5.2.1.2.1 (2 : Int)) fun y8 =>
 .get (iter1 f177_L3 FUEL (((IntKind.i64.wrap ((60 : Int) + y8.1.1.1)), ()), ((y3.2.2.1.1, ()), (y3.2.2.2.1.1, ()), ([] : List (Int)), y3.2.2.2.2.1, y3.2.2.2.2.2.1, (y3.2.1.1, y8.2.1.1, y8.2.1.2.1, ()), ()))) fun y9 =>
 .ite (decide (0 ≤ (0 : Int) ∧ (0 : Int) < ((List.length y9.2.2.2.2.2.1 : Nat) : Int)))
 (.get (nth y9.2.2.2.2.2.1 (Int.toNat (0 : Int))) fun y10 =>
 .ret (((y9.2.2.1.1, (List.set y9.2.2.2.2.2.1 (Int.toNat (0 : Int)) (y10.1, ((List.map (fun n : Int => UInt8.ofNat n.toNat) y9.2.2.2.1), y10.2.2))), ()), ()), ((y9.2.2.2.2.2.2.1.2.1, y9.2.2.2.2.2.2.1.2.2.1, ()), ())))
 .fail))))
 (.ret (((y3.2.2.2.1.1, y3.2.2.2.2.2.1, ()), ()), ((y4.2.1.1, y4.2.1.2.1, ()), ())))
def f177_A : Nat → Option LoopAnn := fun n => annOf [(0, { head := { t := [.vptr 0 0, .dead, .vptr 64000000 0, .vptr 64000001 0, .i .i64, .dead, .dead, .dead, .dead, .dead, .dead, .dead, .dead, .dead, .dead, .dead, .dead, .dead, .dead, .dead, .dead, .dead, .dead, .dead, .dead, .dead, .dead, .dead, .dead, .dead, .dead, .dead, .dead, .dead, .dead, .dead, .dead, .dead, .dead, .dead, .dead, .dead, .dead, .dead, .dead, .dead, .dead, .dead, .dead, .dead, .dead, .dead, .dead, .dead, .dead, .dead, .dead, .dead, .dead, .dead, .dead, .dead, .dead, .dead, .dead, .dead, .dead, .dead, .dead, .dead, .dead, .dead], v := [(0, .var [.ro (.int .u8) (some 1), .i .i64, .i .i64]), (64000000, .var [.i .i64, .srf 64000002]), (64000001, .var [.i .i64, .srf 64000003]), (64000002, .arr (.st (.cons (.int .i64) (.cons .str .nil)))), (64000003, .arr (.st (.cons (.int .i64) (.cons .str .nil))))] }, out := { t := [.vptr 0 0, .dead, .vptr 64000256 0, .vptr 64000257 0, .dead, .dead, .dead, .dead, .dead, .dead, .dead, .dead, .dead, .dead, .dead, .dead, .dead, .dead, .dead, .dead, .dead, .dead, .dead, .dead, .dead, .dead, .dead, .dead, .dead, .dead, .dead, .dead, .dead, .dead, .dead, .dead, .dead, .dead, .dead, .dead, .dead, .dead, .dead, .dead, .dead, .dead, .dead, .dead, .dead, .dead, .dead, .dead, .dead, .dead, .dead, .dead, .dead, .dead, .dead, .dead, .dead, .dead, .dead, .dead, .dead, .dead, .dead, .dead, .dead, .dead, .dead, .dead], v := [(0, .var [.ro (.int .u8) (some 1), .i .i64, .i .i64]), (64000256, .var [.i .i64, .srf 64000258]), (64000257, .var [.i .i64, .srf 64000259]), (64000258, .arr (.st (.cons (.int .i64) (.cons .str .nil)))), (64000259, .arr (.st (.cons (.int .i64) (.cons .str .nil))))] }, ret := none }), (3, { head := { t := [.vptr 0 0, .dead, .vptr 64003072 0, .vptr 64003073 0, .dead, .srf 64003074, .i .i64, .dead, .dead, .dead, .dead, .dead, .dead, .dead, .dead, .dead, .dead, .dead, .dead, .dead, .dead, .dead, .dead, .dead, .dead, .dead, .dead, .dead, .dead, .dead, .dead, .dead, .dead, .dead, .dead, .dead, .dead, .dead, .dead, .dead, .dead, .dead, .dead, .dead, .dead, .dead, .dead, .dead, .dead, .dead, .dead, .dead, .dead, .dead, .dead, .dead, .dead, .dead, .dead, .dead, .dead, .dead, .dead, .dead, .dead, .dead, .dead, .dead, .dead, .dead, .dead, .dead], v := [(64003072, .var [.i .i64, .srf 64003075]), (64003073, .var [.i .i64, .srf 64003076]), (64003074, .arr (.int .u8)), (64003075, .arr (.st (.cons (.int .i64) (.cons .str .nil)))), (64003076, .arr (.st (.cons (.int .i64) (.cons .str .nil)))), (0, .var [.ro (.int .u8) (some 1), .i .i64, .i .i64])] }, out := { t := [.vptr 0 0, .dead, .vptr 64003328 0, .vptr 64003329 0, .dead, .srf 64003330, .dead, .dead, .dead, .dead, .dead, .dead, .dead, .dead, .dead, .dead, .dead, .dead, .dead, .dead, .dead, .dead, .dead, .dead, .dead, .dead, .dead, .dead, .dead, .dead, .dead, .dead, .dead, .dead, .dead, .dead, .dead, .dead, .dead, .dead, .dead, .dead, .dead, .dead, .dead, .dead, .dead, .dead, .dead, .dead, .dead, .dead, .dead, .dead, .dead, .dead, .dead, .dead, .dead, .dead, .dead, .dead, .dead, .dead, .dead, .dead, .dead, .dead, .dead, .dead, .dead, .dead], v := [(64003328, .var [.i .i64, .srf 64003331]), (64003329, .var [.i .i64, .srf 64003332]), (64003330, .arr (.int .u8)), (64003331, .arr (.st (.cons (.int .i64) (.cons .str .nil)))), (64003332, .arr (.st (.cons (.int .i64) (.cons .str .nil)))), (0, .var [.ro (.int .u8) (some 1), .i .i64, .i .i64])] }, ret := none })] n
def k177_V (a0 : List Int) (a1 : Int) (a2 : Int) : Option (((Int × List (Int × List UInt8 × Unit) × Unit) × Unit) × ((Int × Int × Unit) × Unit)) := (f177_tree a0 a1 a2).eval
def k177 : Con := { f := 177, lend := true, its := [⟨true, false, [.ro (.int .u8), .i .i64, .i .i64]⟩], lay := [none], rs := [⟨false, true, [.i .i64, .own (.st (.cons (.int .i64) (.cons .str .nil)))]⟩], F := fun x => .get (k177_V x.1.1 x.1.2.1 x.1.2.2.1) fun y => .ret y }
theorem f177_eq (x : itemsD k177.its) : bodyOut (cxOf [k139, k217, k140, k141]) (f177_A) (codeOf Try.f177) k177.its k177.lay Try.f177.ntmps k177.rs [.cell 2 54] x = f177_tree x.1.1 x.1.2.1 x.1.2.2.1 := by kernel_rfl
theorem f177_ok (hr : ∀ x : (List Int × Int × Int × Unit) × Unit, itemsWF k177.its x → (f177_tree x.1.1 x.1.2.1 x.1.2.2.1).eval = (k177.F x).eval) : k177.Ok Try.prog :=
  con_fn [k139, k217, k140, k141] ⟨k139_ok, k217_ok, k140_ok, k141_ok, trivial⟩ (by kernel_rfl) (codeOf_eq (by kernel_rfl)) (by kernel_rfl) (by kernel_rfl) (by kernel_rfl) f177_eq fun x hw _ hy => (hr x hw).trans hy
theorem k177_ok : k177.Ok Try.prog := f177_ok fun x _ => (eval_get_ret _).symm
theorem txn_tot {b : List Int} {i h : Int} (hb : b.length ≤ BIG) (hi : 0 ≤ i) : TotV (k177_V b i h) fun y => 0 ≤ y.2.1.1 := by
  unfold k177_V f177_tree
  refine tot_get (below_tot hb hi) fun y hy => tot_get (below_tot hb hy.2) fun z hz => ?_
  have z0 := hz.1.1
  have z1 := hz.1.2.1 (by omega)
  refine tot_get (P := fun x => (x.2.1.1 = b ∧ 0 ≤ x.2.1.2.1) ∧ 0 < x.2.2.2.2.2.1.length ∧ x.2.2.2.2.2.1.length ≤ 6)
    (tot_iter1 (fun x => (x.2.1.1 = b ∧ 0 ≤ x.2.1.2.1) ∧ (x.1.1 ≤ 2 ∨ 0 < x.2.2.2.2.2.1.length) ∧ (0 ≤ x.1.1 ∧ x.1.1 ≤ 8) ∧ (x.2.2.2.2.2.1.length : Int) ≤ x.1.1 ∧ x.2.2.2.2.2.1.length ≤ 6) (fun x => 10 - x.1.1.toNat) _ (fun x hx => ?_) _ _ ⟨⟨rfl, hz.2⟩, .inl (by simp only; omega), ⟨by simp only; omega, by simp only; omega⟩, by simp only [List.length_nil]; omega, by simp⟩ (Nat.lt_of_le_of_lt (Nat.sub_le _ _) (by decide))) fun x hx => ?_
  · obtain ⟨⟨n, _⟩, ⟨b', i, h, _⟩, ⟨q0, _⟩, ⟨q, _⟩, o0, out, _⟩ := x
    obtain ⟨⟨q1, q2⟩, q3, ⟨q4, q5⟩, q6, q7⟩ := hx
    simp only at q1 q2 q3 q4 q5 q6 q7
    subst q1
    unfold f177_L0
    refine tot_ite (fun g => ?_) fun g => tot_ret ⟨⟨rfl, q2⟩, ?_, q7⟩
    · have g : n < 6 := of_decide_eq_true g
      refine tot_get (text_tot (n := 9) hb q2 (by omega)) fun t ht => tot_t (decide_eq_true (by rw [LIM_eq]; simp; omega)) (tot_get (below_tot hb ht.2) fun u hu => ?_)
      have u0 := hu.1.1
      have u1 := hu.1.2.1 (by omega)
      have w1 : IntKind.i64.wrap (n + 1) = n + 1 := wrap_id (by omega) (by omega)
      have w2 : IntKind.i64.wrap (n + 1 + u.1.1.1) = n + 1 + u.1.1.1 := wrap_id (by omega) (by omega)
      have e : IntKind.i64.wrap (IntKind.i64.wrap (n + 1) + u.1.1.1) = n + 1 + u.1.1.1 := by rw [w1, w2]
      refine tot_ret ⟨⟨⟨rfl, hu.2⟩, .inr (by simp), ⟨by simp only [e]; omega, by simp only [e]; omega⟩, by simp only [e]; simp; omega, by simp; omega⟩, by simp only [e]; omega⟩
    · have g : ¬ n < 6 := of_decide_eq_false g
      simp only; omega
  · obtain ⟨⟨p1, p2⟩, p3, p4⟩ := hx
    rw [p1]
    refine tot_get (once_tot hb p2) fun u hu => tot_ite (fun _ => ?_) fun _ => tot_ret hu
    refine tot_get (below_tot hb hu) fun v hv => tot_ite (fun _ => ?_) fun _ => tot_ite (fun _ => tot_ret hv.2) fun _ => tot_ite (fun _ => ?_) fun _ => ?_
    · exact tot_get (pick_tot hb hv.2 (by simp)) fun t ht => tot_ret ht.2
    · exact tot_get (pick_tot hb hv.2 (by simp)) fun t ht => tot_t (decide_eq_true (by rw [LIM_eq]; simp only [List.length_cons, List.length_nil]; omega)) (tot_ret ht.2)
    · refine tot_get (below_tot hb hv.2) fun t ht => ?_
      have t0 := ht.1.1
      have t1 := ht.1.2.1 (by omega)
      have w : IntKind.i64.wrap ((60 : Int) + t.1.1.1) = 60 + t.1.1.1 := wrap_id (by omega) (by omega)
      rw [w]
      refine tot_get (P := fun z => 0 < z.2.2.2.2.2.1.length ∧ 0 ≤ z.2.2.2.2.2.2.1.2.1) (tot_iter1 (fun z => z.1.1 ≤ 61 ∧ z.2.2.2.1.length ≤ 61 ∧ 0 < z.2.2.2.2.2.1.length ∧ 0 ≤ z.2.2.2.2.2.2.1.2.1) (fun z => 61 - z.2.2.2.1.length) _ (fun z hz => ?_) _ _ ⟨by simp only; omega, by simp, p3, ht.2⟩ (by simp; decide)) fun z hz => ?_
      · obtain ⟨⟨n, _⟩, ⟨s0, _⟩, ⟨s1, _⟩, out, o0, o1, ⟨b', i, h, _⟩, _⟩ := z
        obtain ⟨g1, g2, g3, g4⟩ := hz
        simp only at g1 g2 g3 g4
        unfold f177_L3
        refine tot_ite (fun g5 => ?_) fun _ => tot_ret ⟨g3, g4⟩
        have g5 : (out.length : Int) < n := of_decide_eq_true g5
        exact tot_t (decide_eq_true (by rw [LIM_eq]; simp; omega)) (tot_ret ⟨⟨g1, by simp; omega, g3, g4⟩, by simp; omega⟩)
      · exact tot_t (decide_eq_true (by omega)) (tot_get (P := fun _ => True) ⟨_, List.getElem?_eq_getElem (show Int.toNat (0 : Int) < z.2.2.2.2.2.1.length from hz.1), trivial⟩ fun r _ => tot_ret hz.2)
def f90_tree (a0 : List Int) : Out (((Int × List (Int × List UInt8 × Unit) × Unit) × Unit) × (Unit × Unit)) :=
 .get (k138_V a0) fun y1 =>
 .get (k177_V y1.1.1.1 y1.1.1.2.1 y1.1.1.2.2.1) fun y2 =>
 .ret (((y2.1.1.1, y2.1.1.2.1, ()), ()), ((), ()))
def k90_V (a0 : List Int) : Option (((Int × List (Int × List UInt8 × Unit) × Unit) × Unit) × (Unit × Unit)) := (f90_tree a0).eval
def k90 : Con := { f := 90, lend := true, its := [⟨false, false, [.ro (.int .u8)]⟩], lay := [none], rs := [⟨false, true, [.i .i64, .own (.st (.cons (.int .i64) (.cons .str .nil)))]⟩], F := fun x => .get (k90_V x.1.1) fun y => .ret y }
theorem f90_eq (x : itemsD k90.its) : bodyOut (cxOf [k138, k177]) (fun _ => none) (codeOf Try.f90) k90.its k90.lay Try.f90.ntmps k90.rs [.cell 2 54] x = f90_tree x.1.1 := by kernel_rfl
theorem f90_ok (hr : ∀ x : (List Int × Unit) × Unit, itemsWF k90.its x → (f90_tree x.1.1).eval = (k90.F x).eval) : k90.Ok Try.prog :=
  con_fn [k138, k177] ⟨k138_ok, k177_ok, trivial⟩ (by kernel_rfl) (codeOf_eq (by kernel_rfl)) (by kernel_rfl) (by kernel_rfl) (by kernel_rfl) f90_eq fun x hw _ hy => (hr x hw).trans hy
theorem k90_ok : k90.Ok Try.prog := f90_ok fun x _ => (eval_get_ret _).symm
theorem drawTxn_tot {b : List Int} (hb : b.length ≤ BIG) : TotV (k90_V b) fun _ => True := by
  unfold k90_V f90_tree
  refine tot_get (newCur_tot hb) fun c hc => ?_
  have hb' : c.1.1.1.length ≤ BIG := by rw [hc.1]; exact hb
  exact tot_get (txn_tot hb' (Int.le_of_eq hc.2.symm)) fun y _ => tot_ret trivial
theorem showTxn_len (q : Int) (a : List WriteD) : (showTxnV q a).length ≤ 463 := by
  by_cases h : txnOkV q a = true
  · have := txnS_len h
    rw [showTxnV_ok h, List.length_append, sumS_len]
    unfold txnS
    rw [List.length_append]; omega
  · rw [showTxnV_nil.2 (Bool.eq_false_iff.2 h)]; simp
def f91_tree (a0 : List Int) : Out (((List UInt8 × Unit) × Unit) × (Unit × Unit)) :=
 .get (k138_V a0) fun y1 =>
 .get (k177_V y1.1.1.1 y1.1.1.2.1 y1.1.1.2.2.1) fun y2 =>
 .get (k139_V y1.1.1.1 y2.2.1.1 y2.2.1.2.1 (4 : Int)) fun y3 =>
 .ite ((y3.1.1.1 == (0 : Int)))
 (.get (k178_V y1.1.1.1 y3.2.1.1 y3.2.1.2.1 (showTxnV y2.1.1.1 y2.1.1.2.1)) fun y4 =>
 .ret (((y4.1.1.1, ()), ()), ((), ())))
 (.ite ((y3.1.1.1 == (1 : Int)))
 (.ite (decide (((List.length (showTxnV y2.1.1.1 y2.1.1.2.1) : Nat) : Int) > (4 : Int)))
 (.ite (decide (0 ≤ (4 : Int) ∧ (4 : Int) ≤ ((List.length (showTxnV y2.1.1.1 y2.1.1.2.1) : Nat) : Int)))
 (.get (k178_V y1.1.1.1 y3.2.1.1 y3.2.1.2.1 (List.drop (Int.toNat (4 : Int)) (showTxnV y2.1.1.1 y2.1.1.2.1))) fun y5 =>
 .get (fixedV (crcV y5.1.1.1) (4 : Int)) fun y6 =>
 .ite (decide (List.length y6 + List.length y5.1.1.1 ≤ LIM))
 (.ret ((((y6 ++ y5.1.1.1), ()), ()), ((), ())))
 .fail)
 .fail)
 (.ret ((((showTxnV y2.1.1.1 y2.1.1.2.1), ()), ()), ((), ()))))
 (.ret ((((showTxnV y2.1.1.1 y2.1.1.2.1), ()), ()), ((), ()))))
def k91_V (a0 : List Int) : Option (((List UInt8 × Unit) × Unit) × (Unit × Unit)) := (f91_tree a0).eval
def k91 : Con := { f := 91, lend := true, its := [⟨false, false, [.ro (.int .u8)]⟩], lay := [none], rs := [⟨false, false, [.s]⟩], F := fun x => .get (k91_V x.1.1) fun y => .ret y }
theorem f91_eq (x : itemsD k91.its) : bodyOut (cxOf [k138, k177, k41, k139, k178, k133, k132]) (fun _ => none) (codeOf Try.f91) k91.its k91.lay Try.f91.ntmps k91.rs [.tmp 2] x = f91_tree x.1.1 := by kernel_rfl
theorem f91_ok (hr : ∀ x : (List Int × Unit) × Unit, itemsWF k91.its x → (f91_tree x.1.1).eval = (k91.F x).eval) : k91.Ok Try.prog :=
  con_fn [k138, k177, k41, k139, k178, k133, k132] ⟨k138_ok, k177_ok, k41_ok, k139_ok, k178_ok, k133_ok, k132_ok, trivial⟩ (by kernel_rfl) (codeOf_eq (by kernel_rfl)) (by kernel_rfl) (by kernel_rfl) (by kernel_rfl) f91_eq fun x hw _ hy => (hr x hw).trans hy
theorem k91_ok : k91.Ok Try.prog := f91_ok fun x _ => (eval_get_ret _).symm
theorem drawRead_tot {b : List Int} (hb : b.length ≤ BIG) : TotV (k91_V b) fun _ => True := by
  unfold k91_V f91_tree
  refine tot_get (newCur_tot hb) fun c hc => ?_
  have hb' : c.1.1.1.length ≤ BIG := by rw [hc.1]; exact hb
  refine tot_get (txn_tot hb' (Int.le_of_eq hc.2.symm)) fun y hy => ?_
  have hl := showTxn_len y.1.1.1 y.1.1.2.1
  generalize showTxnV y.1.1.1 y.1.1.2.1 = s at hl ⊢
  refine tot_get (below_tot hb' hy) fun u hu => tot_ite (fun _ => ?_) fun _ => tot_ite (fun _ => tot_ite (fun g => ?_) fun _ => tot_ret trivial) fun _ => tot_ret trivial
  · exact tot_get (spoil_tot hb' hu.2 (by omega)) fun v _ => tot_ret trivial
  · have g : 4 < s.length := by have := of_decide_eq_true g; omega
    refine tot_t (decide_eq_true (by omega)) (tot_get (spoil_tot hb' hu.2 (by rw [List.length_drop]; omega)) fun v hv => tot_get (P := fun x => x.length = 4) ⟨_, fixed_crc _, sumS_len _⟩ fun x hx => tot_t (decide_eq_true ?_) (tot_ret trivial))
    have := hv.1
    rw [List.length_drop] at this
    rw [hx, LIM_eq]; omega
/-! ## Bytes of a code -/
def f92_tree (a0 : List Int) (a1 : Int) : Out (((Int × Unit) × Unit) × (Unit × Unit × Unit)) :=
 .ite (decide (a1 < ((List.length a0 : Nat) : Int)))
 (.ite (decide (0 ≤ a1))
 (.get (nth a0 (Int.toNat a1)) fun y1 =>
 .ret ((((IntKind.i64.wrap y1), ()), ()), ((), (), ())))
 .fail)
 (.ite ((256 : Int) == 0)
 .fail
 (.ret ((((Int.tmod (IntKind.i64.wrap ((IntKind.i64.wrap (a1 * (37 : Int))) + (IntKind.i64.wrap (((List.length a0 : Nat) : Int) * (11 : Int))))) (256 : Int)), ()), ()), ((), (), ()))))
def atV (c : List Int) (i : Int) : Option Int := if i < ((c.length : Nat) : Int) then (if 0 ≤ i then (nth c i.toNat).map fun y => IntKind.i64.wrap y else none)
  else some (Int.tmod (IntKind.i64.wrap (IntKind.i64.wrap (i * 37) + IntKind.i64.wrap (((c.length : Nat) : Int) * 11))) 256)
def k92 : Con := { f := 92, lend := true, its := [⟨false, false, [.ro (.int .u8)]⟩, ⟨false, false, [.i .i64]⟩], lay := [none, none], rs := [⟨false, false, [.i .i64]⟩], F := fun x => .get (atV x.1.1 x.2.1.1) fun y => .ret (((y, ()), ()), ((), (), ())) }
theorem f92_eq (x : itemsD k92.its) : bodyOut (cxOf []) (fun _ => none) (codeOf Try.f92) k92.its k92.lay Try.f92.ntmps k92.rs [.tmp 4] x = f92_tree x.1.1 x.2.1.1 := by kernel_rfl
theorem f92_ok (hr : ∀ x : (List Int × Unit) × (Int × Unit) × Unit, itemsWF k92.its x → (f92_tree x.1.1 x.2.1.1).eval = (k92.F x).eval) : k92.Ok Try.prog :=
  con_fn [] trivial (by kernel_rfl) (codeOf_eq (by kernel_rfl)) (by kernel_rfl) (by kernel_rfl) (by kernel_rfl) f92_eq fun x hw _ hy => (hr x hw).trans hy
theorem k92_ok : k92.Ok Try.prog := by
  refine f92_ok fun x _ => ?_
  obtain ⟨⟨c, _⟩, ⟨i, _⟩, _⟩ := x
  show (f92_tree c i).eval = (Out.get (atV c i) fun y => Out.ret (((y, ()), ()), ((), ((), ())))).eval
  unfold f92_tree atV
  by_cases h : i < ((c.length : Nat) : Int)
  · rw [eval_ite_t (decide_eq_true h), if_pos h]
    by_cases h0 : 0 ≤ i
    · rw [eval_ite_t (decide_eq_true h0), if_pos h0]
      cases nth c i.toNat <;> rfl
    · rw [eval_ite_f (decide_eq_false h0), if_neg h0]; rfl
  · rw [eval_ite_f (decide_eq_false h), if_neg h]; rfl
def bytesV (c : List Int) : Bool := c.all fun y => decide (0 ≤ y) && decide (y < 256)
theorem at_byte {c : List Int} {i : Int} (hc : bytesV c = true) (hl : c.length ≤ 1048576) (h : 0 ≤ i) (h2 : i ≤ 1000) : ∃ v, atV c i = some v ∧ 0 ≤ v ∧ v < 256 := by
  unfold atV
  split
  · rename_i hi
    have e : nth c i.toNat = some (c[i.toNat]'(by omega)) := List.getElem?_eq_getElem _
    have hr := List.all_eq_true.1 hc (c[i.toNat]'(by omega)) (List.getElem_mem _)
    rw [Bool.and_eq_true] at hr
    have r1 := of_decide_eq_true hr.1
    have r2 := of_decide_eq_true hr.2
    refine ⟨_, by rw [e]; rfl, ?_⟩
    dsimp only
    rw [wrap_id (by omega) (by omega)]
    exact ⟨r1, r2⟩
  · refine ⟨_, rfl, ?_⟩
    rw [wrap_id (n := i * 37) (by omega) (by omega), wrap_id (n := ((c.length : Nat) : Int) * 11) (by omega) (by omega), wrap_id (by omega) (by omega)]
    exact tmod_bounds (by omega) (by decide)
theorem xor_ne {x e : Nat} (h : 0 < e) : x ^^^ e ≠ x := fun q => by
  have := congrArg (x ^^^ ·) q
  simp only [← Nat.xor_assoc, Nat.xor_self, Nat.zero_xor] at this
  omega
/-- A byte turned is another one. -/
theorem turned_ne {t : UInt8} {e : Int} (h0 : 1 ≤ e) (h1 : e ≤ 255) : UInt8.ofNat (Int.toNat (IntKind.u8.wrap (IntKind.i64.wrap (((BitVec.ofInt (IntKind.bits IntKind.i64) (IntKind.i64.wrap ((UInt8.toNat t : Nat) : Int)) ^^^ BitVec.ofInt (IntKind.bits IntKind.i64) e).toNat : Nat) : Int)))) ≠ t := by
  obtain ⟨n, rfl⟩ := Int.eq_ofNat_of_zero_le (show 0 ≤ e by omega)
  have ht := t.toNat_lt
  have hx : t.toNat ^^^ n < 2 ^ 8 := Nat.xor_lt_two_pow (by omega) (by omega)
  rw [byte_wrap, bit_xor (by unfold BIG; omega) (by unfold BIG; omega), u8_n, u8_back]
  intro q
  have := congrArg UInt8.toNat q
  rw [UInt8.toNat_ofNat'] at this
  have e2 : (t.toNat ^^^ n) % 2 ^ 8 = t.toNat ^^^ n := Nat.mod_eq_of_lt hx
  rw [e2] at this
  exact xor_ne (by omega) this
/-! ## A law whose argument are bytes -/
section
variable {H : Type} {enc : TypeId × Value → H} {P : Program} {w : World} {base : Nat} {sp : Nat → Bool} {held : Bool}
theorem trod_bytes {tid : TypeId} {fuel : Nat} {cs : List Value} {y : Go.DataW H × List Go.MemPlace} (hok : (Ty.sl (.int .u8)).Ok P tid) (h : Go.DataW.trod enc P w base sp held fuel tid cs = some y) :
    ∃ x : List Int, (Ty.sl (.int .u8)).repS (fun b => b < w.heap.size) w cs x ∧ bytesV x = true := by
  simp only [Ty.Ok] at hok
  obtain ⟨_, eid, hu, hoke⟩ := hok
  have hoke : (Ty.int .u8).Ok P eid := by simpa only [Ty.Ok] using hoke
  rcases DataW.trod_slice hu h with ⟨rfl, _⟩ | ⟨a, len, cap, elems, rest, n, _, rfl, _, _, hl, hm, hel, hi, _⟩
  · exact ⟨[], repS_nil _ w _ none, rfl⟩
  have hmax : maxLen = BIG := by unfold maxLen; decide
  rw [hoke.cellsOf] at hi
  have hpos := hoke.pos
  have hex : ∀ i, i < len → ∃ x : Int, (a.block < w.heap.size ∧ (a.add (i * (Ty.int .u8).size)).spot = none ∧ (Ty.int .u8).repS (fun b => b < w.heap.size) w (cellsAt w (a.add (i * (Ty.int .u8).size)).block (a.add (i * (Ty.int .u8).size)).off (Ty.int .u8).size) x) ∧ 0 ≤ x ∧ x < 256 := by
    intro i hlt
    have h1 := hi i hlt
    rw [List.getElem?_eq_getElem (by omega)] at h1
    obtain ⟨cs', hc, h2⟩ := Option.bind_eq_some_iff.1 h1
    obtain ⟨q1, q2, q3⟩ := cells?_cellsAt hc hpos
    have hoke2 := hoke
    simp only [Ty.Ok] at hoke2
    obtain ⟨m, hm, _, hwf⟩ := DataW.trod_int hoke2.2 h2
    refine ⟨m, ⟨?_, q1, by rw [q3]; simp [Ty.repS, hm]⟩, ?_⟩
    · have : (a.add (i * (Ty.int .u8).size)).block = a.block := by unfold Addr.add; split <;> rfl
      rw [← this]; exact q2
    · have : (0 : Int) ≤ m ∧ m ≤ 255 := by simpa [Lit.wf, IntKind.min, IntKind.max, IntKind.bits, IntKind.signed] using hwf
      omega
  obtain ⟨xs, hxl, hxs⟩ := choose_list hex
  refine ⟨xs, ?_, ?_⟩
  · simp only [Ty.repS]
    refine ⟨some a, cap, (by rw [← hxl]; rfl), ⟨(show xs.length ≤ cap by rw [hxl]; exact hl), (show xs.length ≤ BIG by rw [hxl, ← hmax]; omega)⟩, ?_⟩
    by_cases h0 : xs = []
    · exact .inl h0
    right
    have hp : 0 < xs.length := List.length_pos_iff.2 h0
    have hz := (hxs 0 xs[0] (List.getElem?_eq_getElem hp)).1
    have hsp : a.spot = none := by simpa [Addr.add] using hz.2.1
    refine ⟨a.block, a.off, by obtain ⟨b, o, s⟩ := a; simp only at hsp; subst hsp; rfl, hz.1, fun i y hy => ?_⟩
    have := (hxs i y hy).1.2.2
    obtain ⟨b, o, s⟩ := a
    simp only at hsp
    subst hsp
    unfold Addr.add at this
    split at this
    · rename_i e0
      have e0 : i * (Ty.int .u8).size = 0 := e0
      simpa only [Ty.repS, e0, Nat.add_zero] using this
    · simpa only [Ty.repS] using this
  · refine List.all_eq_true.2 fun y hy => ?_
    obtain ⟨i, hi⟩ := List.getElem?_of_mem hy
    have := (hxs i y hi).2
    rw [decide_eq_true this.1, decide_eq_true this.2]; rfl
end
theorem law_calls_bytes {P : Program} {f : Nat} {lend : Bool} {tid : TypeId} {F : itemsD [⟨false, false, [.ro (.int .u8)]⟩] → Out (itemsD [⟨false, false, [.b]⟩] × backD [⟨false, false, [.ro (.int .u8)]⟩])} {H : Type} {enc : TypeId × Value → H} {w : World} {base b0 : Nat} {sp : Nat → Bool} {held : Bool}
    (hK : Con.Ok P { f := f, lend := lend, its := [⟨false, false, [.ro (.int .u8)]⟩], lay := [none], rs := [⟨false, false, [.b]⟩], F := F }) (hp : (Ty.sl (.int .u8)).Ok P tid)
    (hF : ∀ c : List Int, c.length ≤ BIG → bytesV c = true → ∃ z, (F ((c, ()), ())).eval = some (((true, ()), ()), z)) {args : Array Value} {ds : List (Go.DataW H)} {p : List Go.MemPlace}
    (hv : ∀ (j : Nat) t v, [tid][j]? = some t → args[j]? = some v → Value.okWide P w .any b0 t v) (h : Go.DataW.TrodAll enc P w base sp held [tid] args.toList ds p) :
    Calls P f args w fun e w' => e = .returned (.bool true) ∧ Grown w w' ∧ ∀ b, b < w.heap.size → w'.heap[b]? = w.heap[b]? := by
  obtain ⟨v, vs', d, ds', p1, p2, ha, rfl, rfl, h1, h2⟩ := trodAll_cons h
  obtain ⟨fuel, h1⟩ := h1
  obtain ⟨rfl, _, _⟩ := trodAll_nil h2
  obtain ⟨x, hx, hbx⟩ := trod_bytes hp h1
  have hav : args[0]? = some v := by
    have : args.toList[0]? = some v := by rw [ha]; rfl
    simpa using this
  have hone := okWide_one hp (hv 0 tid v rfl hav)
  have hrep : ItemsRep (fun b => b < w.heap.size) w [⟨false, false, [.ro (.int .u8)]⟩] args.toList ((x, ()), ()) [] [] := by
    obtain ⟨z, hz⟩ := Ty.flat_rep' (.sl (.int .u8)) hx
    have h' := hx
    simp only [Ty.repS] at hx
    obtain ⟨a, cap, e, _⟩ := hx
    have hcm : cmRep (fun b => b < w.heap.size) w [.ro (.int .u8)] v.cells.toList ((x, ()) : cmD [.ro (.int .u8)]) [] := by
      rw [e] at h' ⊢
      simp only [cmRep]
      exact ⟨_, _, rfl, h', by simp⟩
    rw [ha]
    have h1 : ItemRep (fun b => b < w.heap.size) w ⟨false, false, [.ro (.int .u8)]⟩ v ((x, ()) : cmD [.ro (.int .u8)]) [] [] := ⟨rfl, hcm, hone.1, hone.2⟩
    simp only [ItemsRep]
    exact ⟨v, [], [], [], [], [], rfl, rfl, rfl, h1, rfl, rfl, rfl⟩
  have hwf := (ItemsRep_WF _ hrep).1.1.1
  obtain ⟨z, hz⟩ := hF x hwf hbx
  have hc := (hK ((x, ()), ()) _ hz (fun b => b < w.heap.size) w (fun b hb => hb) args.toList [] [] hrep (by simp) (by simp)).2
  have hl : args.toList.length = 1 := by rw [ha]; rfl
  have harg : (layV [none] args.toList).toArray = args := by rw [ha]; exact congrArg List.toArray ha.symm
  have hc : Calls P f (layV [none] args.toList).toArray w _ := hc
  rw [harg] at hc
  refine Calls.mono hc fun e w' he => ?_
  cases e with
  | panicked _ => exact he.elim
  | outgrown => exact he.elim
  | returned v =>
    obtain ⟨⟨rvs, f1, g1, f2, rfl, hr, _⟩, hev⟩ := he
    refine ⟨?_, grown_of_ev hev, same_of_ev hev⟩
    simp only [ItemsRep, ItemRep] at hr
    obtain ⟨v, vs', _, _, _, _, rfl, _, _, ⟨_, hr, _, ho⟩, rfl, _⟩ := hr
    simp only [cmRep] at hr
    obtain ⟨q, hq, rfl, _⟩ := hr
    rw [cells_of_oneCell (ho trivial)] at hq
    simp only [retV]
    simp only [List.cons.injEq, and_true] at hq
    rw [hq]

end Go.Proofs.Ytjcinikojcfebaa.Dm
