/- Functions of the program, and what they compute. -/
import Derived.Test.YtjcinikojcfebaaA15
import Derived.Test.YtjcinikojcfebaaA21
namespace Go.Proofs.Ytjcinikojcfebaa.Dm
open Go Go.ChangeShapes Go.WideShapes Go.ChangeAt Go.RowKit

/-! ## What is drawn: files -/
def f218_tree (a0 : Int) : Out (((List Int × Unit) × Unit) × (Unit × Unit)) :=
 .ite (decide (0 ≤ a0 ∧ a0 ≤ a0 ∧ a0 ≤ (LIM : Int)))
 (.ret ((((List.replicate (Int.toNat a0) (0 : Int)), ()), ()), ((), ())))
 .fail
def zerosV (n : Int) : Option (List Int) := if 0 ≤ n ∧ n ≤ (LIM : Int) then some (List.replicate n.toNat 0) else none
def k218 : Con := { f := 218, lend := true, its := [⟨false, false, [.i .i64]⟩], lay := [none], rs := [⟨false, false, [.own (.int .i64)]⟩], F := fun x => .get (zerosV x.1.1) fun y => .ret (((y, ()), ()), ((), ())) }
theorem f218_eq (x : itemsD k218.its) : bodyOut (cxOf []) (fun _ => none) (codeOf Try.f218) k218.its k218.lay Try.f218.ntmps k218.rs [.tmp 2] x = f218_tree x.1.1 := by kernel_rfl
theorem f218_ok (hr : ∀ x : (Int × Unit) × Unit, itemsWF k218.its x → (f218_tree x.1.1).eval = (k218.F x).eval) : k218.Ok Try.prog :=
  con_fn [] trivial (by kernel_rfl) (codeOf_eq (by kernel_rfl)) (by kernel_rfl) (by kernel_rfl) (by kernel_rfl) f218_eq fun x hw _ hy => (hr x hw).trans hy
theorem k218_ok : k218.Ok Try.prog := by
  refine f218_ok fun x _ => ?_
  obtain ⟨⟨n, _⟩, _⟩ := x
  show (f218_tree n).eval = (Out.get (zerosV n) fun y => Out.ret (((y, ()), ()), ((), ()))).eval
  unfold f218_tree zerosV
  by_cases h : 0 ≤ n ∧ n ≤ (LIM : Int)
  · rw [eval_ite_t (decide_eq_true (by omega)), if_pos h]; rfl
  · rw [eval_ite_f (decide_eq_false (by omega)), if_neg h]; rfl
theorem filesOf_snoc (d : Option (List Int)) : ∀ (ds : List (Option (List Int))) (i : Nat), filesOf i (ds ++ [d]) = filesOf i ds ++ filesOf (i + ds.length) [d]
  | [], i => by simp [filesOf]
  | none :: r, i => by simp only [List.cons_append, filesOf, filesOf_snoc d r (i + 1), List.length_cons]; rw [show i + 1 + r.length = i + (r.length + 1) by omega]
  | some e :: r, i => by simp only [List.cons_append, filesOf, filesOf_snoc d r (i + 1), List.length_cons]; rw [show i + 1 + r.length = i + (r.length + 1) by omega]
/-- Files for the first names. -/
def SomeF (n : Nat) (l : List FileD) : Prop := ∃ ds : List (Option (List Int)), ds.length = n ∧ filesOf 0 ds = l ∧ ds.all okO = true
theorem SomeF.skip {n : Nat} {l : List FileD} (h : SomeF n l) : SomeF (n + 1) l := by
  obtain ⟨ds, h1, h2, h3⟩ := h
  exact ⟨ds ++ [none], by simp [h1], by rw [filesOf_snoc, h2]; simp [filesOf], by rw [List.all_append, h3]; rfl⟩
theorem SomeF.more {n : Nat} {l : List FileD} {d : List Int} (h : SomeF n l) (hw : wordsOkV d = true) (hl : d.length ≤ 8) : SomeF (n + 1) (l ++ [(((n : Nat) : Int), (d, ()))]) := by
  obtain ⟨ds, h1, h2, h3⟩ := h
  refine ⟨ds ++ [some d], by simp [h1], ?_, ?_⟩
  · rw [filesOf_snoc, h2, Nat.zero_add, h1]; rfl
  · rw [List.all_append, h3, Bool.true_and, List.all_cons]
    show (wordsOkV d && decide (d.length ≤ 8)) && true = true
    rw [hw, decide_eq_true hl]; rfl
theorem SomeF.ok {n : Nat} {l : List FileD} (h : SomeF n l) (hn : n ≤ 6) : filesOkV l = true ∧ l.length ≤ n := by
  obtain ⟨ds, h1, rfl, h3⟩ := h
  exact ⟨by rw [filesOf_ok (by omega)]; exact h3, by have := filesOf_len ds 0; omega⟩
abbrev f181_S2 := (Int × Int × Unit) × ((List (Int) × Int × Int × Unit) × List ((Int × List Int × Unit)) × (Int × Unit) × List (Int) × Unit)
def f181_L2 (x : f181_S2) : Out (Round f181_S2 ((Int × Unit) × ((List (Int) × Int × Int × Unit) × List ((Int × List Int × Unit)) × (Int × Unit) × List (Int) × Unit)) Empty) :=
 .ite (decide (x.1.2.1 > (0 : Int)))
 (.get (k141_V x.2.1.1 x.2.1.2.1 x.2.1.2.2.1 ([(0 : Int), (1 : Int), (-1 : Int), (300 : Int), (1000000 : Int), (9 : Int)] : List (Int))) fun y1 =>
 .ite (decide (List.length x.2.2.2.2.1 + List.length ([y1.1.1.1] : List (Int)) ≤ LIM))
 (.ret (.again ((x.1.1, (IntKind.i64.wrap (x.1.2.1 - (1 : Int))), ()), ((x.2.1.1, y1.2.1.1, y1.2.1.2.1, ()), x.2.2.1, (x.2.2.2.1.1, ()), (x.2.2.2.2.1 ++ ([y1.1.1.1] : List (Int))), ()))))
 .fail)
 (.ret (.out ((x.1.1, ()), ((x.2.1.1, x.2.1.2.1, x.2.1.2.2.1, ()), x.2.2.1, (x.2.2.2.1.1, ()), x.2.2.2.2.1, ()))))
abbrev f181_S0 := (Int × Unit) × ((List (Int) × Int × Int × Unit) × List ((Int × List Int × Unit)) × Unit)
def f181_L0 (x : f181_S0) : Out (Round f181_S0 ((Unit) × (List ((Int × List Int × Unit)) × (List (Int) × Int × Int × Unit) × Unit)) Empty) :=
 .ite (decide (x.1.1 < (6 : Int)))
 (.get (k140_V x.2.1.1 x.2.1.2.1 x.2.1.2.2.1 (2 : Int)) fun y1 =>
 .ite y1.1.1.1
 (.get (k139_V x.2.1.1 y1.2.1.1 y1.2.1.2.1 (5 : Int)) fun y2 =>
 .get (iter1 f181_L2 FUEL ((x.1.1, y2.1.1.1, ()), ((x.2.1.1, y2.2.1.1, y2.2.1.2.1, ()), x.2.2.1, (x.1.1, ()), ([] : List (Int)), ()))) fun y3 =>
 .ite (decide (List.length y3.2.2.1 + List.length ([(y3.2.2.2.1.1, y3.2.2.2.2.1, ())] : List ((Int × List Int × Unit))) ≤ LIM))
 (.ret (.again (((IntKind.i64.wrap (y3.1.1 + (1 : Int))), ()), ((y3.2.1.1, y3.2.1.2.1, y3.2.1.2.2.1, ()), (y3.2.2.1 ++ ([(y3.2.2.2.1.1, y3.2.2.2.2.1, ())] : List ((Int × List Int × Unit)))), ()))))
 .fail)
 (.ret (.again (((IntKind.i64.wrap (x.1.1 + (1 : Int))), ()), ((x.2.1.1, y1.2.1.1, y1.2.1.2.1, ()), x.2.2.1, ())))))
 (.ret (.out ((), (x.2.2.1, (x.2.1.1, x.2.1.2.1, x.2.1.2.2.1, ()), ()))))
def f181_tree (a0 : List Int) (a1 : Int) (a2 : Int) : Out (((List (Int × List Int × Unit) × Unit) × Unit) × ((Int × Int × Unit) × Unit)) :=
 .get (iter1 f181_L0 FUEL (((0 : Int), ()), ((a0, a1, a2, ()), ([] : List ((Int × List Int × Unit))), ()))) fun y1 =>
 .ret (((y1.2.1, ()), ()), ((y1.2.2.1.2.1, y1.2.2.1.2.2.1, ()), ()))
def f181_A : Nat → Option LoopAnn := fun n => annOf [(0, { head := { t := [.vptr 0 0, .dead, .dead, .srf 64000000, .i .i64, .dead, .dead, .dead, .dead, .dead, .dead, .dead, .dead, .dead, .dead, .dead, .dead, .dead, .dead, .dead, .dead, .dead, .dead, .dead, .dead, .dead, .dead, .dead, .dead, .dead, .dead, .dead, .dead, .dead, .dead], v := [(0, .var [.ro (.int .u8) (some 1), .i .i64, .i .i64]), (64000000, .arr (.st (.cons (.int .i64) (.cons (.sl (.int .i64)) .nil))))] }, out := { t := [.vptr 0 0, .dead, .dead, .srf 64000256, .dead, .dead, .dead, .dead, .dead, .dead, .dead, .dead, .dead, .dead, .dead, .dead, .dead, .dead, .dead, .dead, .dead, .dead, .dead, .dead, .dead, .dead, .dead, .dead, .dead, .dead, .dead, .dead, .dead, .dead, .dead], v := [(64000256, .arr (.st (.cons (.int .i64) (.cons (.sl (.int .i64)) .nil)))), (0, .var [.ro (.int .u8) (some 1), .i .i64, .i .i64])] }, ret := none }), (2, { head := { t := [.vptr 0 0, .dead, .dead, .srf 64002048, .i .i64, .vptr 64002049 0, .i .i64, .dead, .dead, .dead, .dead, .dead, .dead, .dead, .dead, .dead, .dead, .dead, .dead, .dead, .dead, .dead, .dead, .dead, .dead, .dead, .dead, .dead, .dead, .dead, .dead, .dead, .dead, .dead, .dead], v := [(0, .var [.ro (.int .u8) (some 1), .i .i64, .i .i64]), (64002048, .arr (.st (.cons (.int .i64) (.cons (.sl (.int .i64)) .nil)))), (64002049, .var [.i .i64, .srf 64002050]), (64002050, .arr (.int .i64))] }, out := { t := [.vptr 0 0, .dead, .dead, .srf 64002304, .i .i64, .vptr 64002305 0, .dead, .dead, .dead, .dead, .dead, .dead, .dead, .dead, .dead, .dead, .dead, .dead, .dead, .dead, .dead, .dead, .dead, .dead, .dead, .dead, .dead, .dead, .dead, .dead, .dead, .dead, .dead, .dead, .dead], v := [(0, .var [.ro (.int .u8) (some 1), .i .i64, .i .i64]), (64002304, .arr (.st (.cons (.int .i64) (.cons (.sl (.int .i64)) .nil)))), (64002305, .var [.i .i64, .srf 64002306]), (64002306, .arr (.int .i64))] }, ret := none })] n
def k181_V (a0 : List Int) (a1 : Int) (a2 : Int) : Option (((List (Int × List Int × Unit) × Unit) × Unit) × ((Int × Int × Unit) × Unit)) := (f181_tree a0 a1 a2).eval
def k181 : Con := { f := 181, lend := true, its := [⟨true, false, [.ro (.int .u8), .i .i64, .i .i64]⟩], lay := [none], rs := [⟨false, false, [.own (.st (.cons (.int .i64) (.cons (.sl (.int .i64)) .nil)))]⟩], F := fun x => .get (k181_V x.1.1 x.1.2.1 x.1.2.2.1) fun y => .ret y }
theorem f181_eq (x : itemsD k181.its) : bodyOut (cxOf [k140, k139, k141]) (f181_A) (codeOf Try.f181) k181.its k181.lay Try.f181.ntmps k181.rs [.tmp 2] x = f181_tree x.1.1 x.1.2.1 x.1.2.2.1 := by kernel_rfl
theorem f181_ok (hr : ∀ x : (List Int × Int × Int × Unit) × Unit, itemsWF k181.its x → (f181_tree x.1.1 x.1.2.1 x.1.2.2.1).eval = (k181.F x).eval) : k181.Ok Try.prog :=
  con_fn [k140, k139, k141] ⟨k140_ok, k139_ok, k141_ok, trivial⟩ (by kernel_rfl) (codeOf_eq (by kernel_rfl)) (by kernel_rfl) (by kernel_rfl) (by kernel_rfl) f181_eq fun x hw _ hy => (hr x hw).trans hy
theorem k181_ok : k181.Ok Try.prog := f181_ok fun x _ => (eval_get_ret _).symm
theorem files_tot {b : List Int} {i h : Int} (hb : b.length ≤ BIG) (hi : 0 ≤ i) : TotV (k181_V b i h) fun y => filesOkV y.1.1.1 = true ∧ 0 ≤ y.2.1.1 := by
  unfold k181_V f181_tree
  refine tot_get (P := fun x => filesOkV x.2.1 = true ∧ 0 ≤ x.2.2.1.2.1) (tot_iter1 (fun x => x.2.1.1 = b ∧ 0 ≤ x.2.1.2.1 ∧ 0 ≤ x.1.1 ∧ x.1.1 ≤ 6 ∧ SomeF x.1.1.toNat x.2.2.1) (fun x => 6 - x.1.1.toNat) _ (fun x hx => ?_) _ _ ⟨rfl, hi, by simp, by simp, ⟨[], rfl, rfl, rfl⟩⟩ (by simp; decide)) fun x hx => tot_ret hx
  obtain ⟨⟨n, _⟩, ⟨b', i, h, _⟩, out, _⟩ := x
  obtain ⟨e1, h1, h2, h3, h4⟩ := hx
  simp only at e1 h1 h2 h3 h4
  subst e1
  obtain ⟨n, rfl⟩ := Int.eq_ofNat_of_zero_le h2
  rw [Int.toNat_natCast] at h4
  unfold f181_L0
  refine tot_ite (fun h5 => ?_) fun h5 => tot_ret ⟨(h4.ok (by omega)).1, h1⟩
  have h5 : ((n : Nat) : Int) < 6 := of_decide_eq_true h5
  have w : IntKind.i64.wrap (((n : Nat) : Int) + 1) = ((n + 1 : Nat) : Int) := wrap_succ (by unfold BIG; omega)
  refine tot_get (once_tot hb h1) fun u hu => tot_ite (fun _ => ?_) fun _ => tot_ret ⟨⟨rfl, hu, by simp only [w]; omega, by simp only [w]; omega, by simp only [w, Int.toNat_natCast]; exact h4.skip⟩, by simp only [w, Int.toNat_natCast]; omega⟩
  refine tot_get (below_tot hb hu) fun v hv => tot_get (P := fun z => (z.1.1 = ((n : Nat) : Int) ∧ z.2.1.1 = b' ∧ 0 ≤ z.2.1.2.1) ∧ (z.2.2.1 = out ∧ z.2.2.2.1.1 = ((n : Nat) : Int)) ∧ wordsOkV z.2.2.2.2.1 = true ∧ z.2.2.2.2.1.length ≤ 8)
    (tot_iter1 (fun z => (z.1.1 = ((n : Nat) : Int) ∧ z.2.1.1 = b' ∧ 0 ≤ z.2.1.2.1) ∧ (z.2.2.1 = out ∧ z.2.2.2.1.1 = ((n : Nat) : Int)) ∧ wordsOkV z.2.2.2.2.1 = true ∧ (z.2.2.2.2.1.length : Int) + z.1.2.1 ≤ 8 ∧ z.2.2.2.2.1.length ≤ 8) (fun z => z.1.2.1.toNat) _ (fun z hz => ?_) _ _ ⟨⟨rfl, rfl, hv.2⟩, ⟨rfl, rfl⟩, rfl, ?_, by simp⟩ ?_) fun z hz => ?_
  · obtain ⟨⟨n', k, _⟩, ⟨b2, i2, hh, _⟩, out', ⟨nm, _⟩, data, _⟩ := z
    obtain ⟨⟨q1, q2, q3⟩, ⟨q4, q5⟩, q6, q7, q8⟩ := hz
    simp only at q1 q2 q3 q4 q5 q6 q7 q8
    subst q1; subst q2; subst q4; subst q5
    unfold f181_L2
    refine tot_ite (fun g => ?_) fun g => tot_ret ⟨⟨rfl, rfl, q3⟩, ⟨rfl, rfl⟩, q6, q8⟩
    have g : k > 0 := of_decide_eq_true g
    have w : IntKind.i64.wrap (k - 1) = k - 1 := wrap_id (by omega) (by omega)
    refine tot_get (pick_tot hb q3 (by simp)) fun t ht => tot_t (decide_eq_true (by rw [LIM_eq]; simp; omega)) (tot_ret ⟨⟨⟨rfl, rfl, ht.2⟩, ⟨rfl, rfl⟩, ?_, by simp only [w]; simp; omega, by simp; omega⟩, by simp only [w]; omega⟩)
    have hm : ∀ x ∈ ([(0 : Int), (1 : Int), (-1 : Int), (300 : Int), (1000000 : Int), (9 : Int)] : List Int), wordV x = true := by decide
    show wordsOkV (data ++ [t.1.1.1]) = true
    unfold wordsOkV at q6 ⊢
    rw [List.all_append, q6, Bool.true_and, List.all_cons, hm _ ht.1]; rfl
  · have := hv.1.2.1 (by omega)
    simp; omega
  · have := hv.1.2.1 (by omega)
    exact Nat.lt_of_le_of_lt (show v.1.1.1.toNat ≤ 5 by omega) (by decide)
  · obtain ⟨⟨q1, q2, q3⟩, ⟨q4, q5⟩, q6, q7⟩ := hz
    have hlen := (h4.ok (by omega)).2
    rw [q1, q4, q5, w]
    refine tot_t (decide_eq_true (by rw [LIM_eq]; simp; omega)) (tot_ret ⟨⟨q2, q3, by simp only; omega, by simp only; omega, ?_⟩, by simp only [Int.toNat_natCast]; omega⟩)
    simp only [Int.toNat_natCast]
    exact h4.more q6 q7
def f179_tree (a0 : List Int) (a1 : Int) (a2 : Int) : Out (((List (Int × List Int × Unit) × Unit) × Unit) × ((Int × Int × Unit) × Unit)) :=
 .get (k181_V a0 a1 a2) fun y1 =>
 .get (k140_V a0 y1.2.1.1 y1.2.1.2.1 (8 : Int)) fun y2 =>
 .ite y2.1.1.1
 (.get (k139_V a0 y2.2.1.1 y2.2.1.2.1 (3 : Int)) fun y3 =>
 .ite ((y3.1.1.1 == (0 : Int)))
 (.get (k139_V a0 y3.2.1.1 y3.2.1.2.1 (8 : Int)) fun y4 =>
 .ite (decide (List.length y1.1.1.1 + List.length ([((IntKind.i64.wrap (y4.1.1.1 - (1 : Int))), ([] : List (Int)), ())] : List ((Int × List Int × Unit))) ≤ LIM))
 (.ret ((((y1.1.1.1 ++ ([((IntKind.i64.wrap (y4.1.1.1 - (1 : Int))), ([] : List (Int)), ())] : List ((Int × List Int × Unit)))), ()), ()), ((y4.2.1.1, y4.2.1.2.1, ()), ())))
 .fail)
 (.ite ((y3.1.1.1 == (1 : Int)))
 (.get (k139_V a0 y3.2.1.1 y3.2.1.2.1 (2 : Int)) fun y5 =>
 .get (zerosV (IntKind.i64.wrap ((8 : Int) + y5.1.1.1))) fun y6 =>
 .ite (decide (List.length y1.1.1.1 + List.length ([((5 : Int), y6, ())] : List ((Int × List Int × Unit))) ≤ LIM))
 (.ret ((((y1.1.1.1 ++ ([((5 : Int), y6, ())] : List ((Int × List Int × Unit)))), ()), ()), ((y5.2.1.1, y5.2.1.2.1, ()), ())))
 .fail)
 (.ite (decide (((List.length y1.1.1.1 : Nat) : Int) > (0 : Int)))
 (.ite (decide (0 ≤ (0 : Int) ∧ (0 : Int) < ((List.length y1.1.1.1 : Nat) : Int)))
 (.get (nth y1.1.1.1 (Int.toNat (0 : Int))) fun y7 =>
 .ret ((((List.set y1.1.1.1 (Int.toNat (0 : Int)) (y7.1, (([(1000001 : Int)] : List (Int)), y7.2.2))), ()), ()), ((y3.2.1.1, y3.2.1.2.1, ()), ())))
 .fail)
 (.ret (((y1.1.1.1, ()), ()), ((y3.2.1.1, y3.2.1.2.1, ()), ()))))))
 (.ret (((y1.1.1.1, ()), ()), ((y2.2.1.1, y2.2.1.2.1, ()), ())))
def k179_V (a0 : List Int) (a1 : Int) (a2 : Int) : Option (((List (Int × List Int × Unit) × Unit) × Unit) × ((Int × Int × Unit) × Unit)) := (f179_tree a0 a1 a2).eval
def k179 : Con := { f := 179, lend := true, its := [⟨true, false, [.ro (.int .u8), .i .i64, .i .i64]⟩], lay := [none], rs := [⟨false, false, [.own (.st (.cons (.int .i64) (.cons (.sl (.int .i64)) .nil)))]⟩], F := fun x => .get (k179_V x.1.1 x.1.2.1 x.1.2.2.1) fun y => .ret y }
theorem f179_eq (x : itemsD k179.its) : bodyOut (cxOf [k181, k140, k139, k218]) (fun _ => none) (codeOf Try.f179) k179.its k179.lay Try.f179.ntmps k179.rs [.tmp 2] x = f179_tree x.1.1 x.1.2.1 x.1.2.2.1 := by kernel_rfl
theorem f179_ok (hr : ∀ x : (List Int × Int × Int × Unit) × Unit, itemsWF k179.its x → (f179_tree x.1.1 x.1.2.1 x.1.2.2.1).eval = (k179.F x).eval) : k179.Ok Try.prog :=
  con_fn [k181, k140, k139, k218] ⟨k181_ok, k140_ok, k139_ok, k218_ok, trivial⟩ (by kernel_rfl) (codeOf_eq (by kernel_rfl)) (by kernel_rfl) (by kernel_rfl) (by kernel_rfl) f179_eq fun x hw _ hy => (hr x hw).trans hy
theorem k179_ok : k179.Ok Try.prog := f179_ok fun x _ => (eval_get_ret _).symm
theorem any_tot {b : List Int} {i h : Int} (hb : b.length ≤ BIG) (hi : 0 ≤ i) : TotV (k179_V b i h) fun y => (y.1.1.1.length ≤ 7 ∧ ∀ x ∈ y.1.1.1, x.2.1.length ≤ 10) ∧ 0 ≤ y.2.1.1 := by
  unfold k179_V f179_tree
  refine tot_get (files_tot hb hi) fun y hy => ?_
  obtain ⟨p1, p2⟩ := filesOkV_parts hy.1
  have p2 : ∀ x ∈ y.1.1.1, x.2.1.length ≤ 10 := fun x hx => by have := (p2 x hx).2.1; omega
  refine tot_get (once_tot hb hy.2) fun u hu => tot_ite (fun _ => ?_) fun _ => tot_ret ⟨⟨by simp only; omega, p2⟩, hu⟩
  refine tot_get (below_tot hb hu) fun v hv => tot_ite (fun _ => ?_) fun _ => tot_ite (fun _ => ?_) fun _ => tot_ite (fun g => ?_) fun _ => tot_ret ⟨⟨by simp only; omega, p2⟩, hv.2⟩
  · refine tot_get (below_tot hb hv.2) fun t ht => tot_t (decide_eq_true (by rw [LIM_eq]; simp only [List.length_cons, List.length_nil]; omega)) (tot_ret ⟨⟨by simp; omega, ?_⟩, ht.2⟩)
    intro x hx
    rcases List.mem_append.1 hx with hx | hx
    · exact p2 x hx
    · simp only [List.mem_singleton] at hx; subst hx; simp
  · refine tot_get (below_tot hb hv.2) fun t ht => ?_
    have h1 := ht.1.1
    have h2 := ht.1.2.1 (by omega)
    have w : IntKind.i64.wrap ((8 : Int) + t.1.1.1) = 8 + t.1.1.1 := wrap_id (by omega) (by omega)
    refine tot_get (P := fun z => z.length ≤ 10) ⟨_, if_pos ⟨by rw [w]; omega, by rw [w, LIM_eq]; omega⟩, by show (List.replicate (IntKind.i64.wrap ((8 : Int) + t.1.1.1)).toNat (0 : Int)).length ≤ 10; rw [w, List.length_replicate]; omega⟩ fun z hz =>
      tot_t (decide_eq_true (by rw [LIM_eq]; simp only [List.length_cons, List.length_nil]; omega)) (tot_ret ⟨⟨by simp; omega, ?_⟩, ht.2⟩)
    intro x hx
    rcases List.mem_append.1 hx with hx | hx
    · exact p2 x hx
    · simp only [List.mem_singleton] at hx; subst hx; exact hz
  · have g : 0 < y.1.1.1.length := by have := of_decide_eq_true g; omega
    refine tot_t (decide_eq_true (by omega)) (tot_get (P := fun _ => True) ⟨_, List.getElem?_eq_getElem (show Int.toNat (0 : Int) < y.1.1.1.length from g), trivial⟩ fun z _ => tot_ret ⟨⟨by simp only [List.length_set]; omega, ?_⟩, hv.2⟩)
    intro x hx
    rcases List.mem_or_eq_of_mem_set hx with hx | hx
    · exact p2 x hx
    · subst hx; simp
def f93_tree (a0 : List Int) : Out (((List (Int × List Int × Unit) × Unit) × Unit) × (Unit × Unit)) :=
 .get (k138_V a0) fun y1 =>
 .get (k179_V y1.1.1.1 y1.1.1.2.1 y1.1.1.2.2.1) fun y2 =>
 .ret (((y2.1.1.1, ()), ()), ((), ()))
def k93_V (a0 : List Int) : Option (((List (Int × List Int × Unit) × Unit) × Unit) × (Unit × Unit)) := (f93_tree a0).eval
def k93 : Con := { f := 93, lend := true, its := [⟨false, false, [.ro (.int .u8)]⟩], lay := [none], rs := [⟨false, false, [.own (.st (.cons (.int .i64) (.cons (.sl (.int .i64)) .nil)))]⟩], F := fun x => .get (k93_V x.1.1) fun y => .ret y }
theorem f93_eq (x : itemsD k93.its) : bodyOut (cxOf [k138, k179]) (fun _ => none) (codeOf Try.f93) k93.its k93.lay Try.f93.ntmps k93.rs [.tmp 2] x = f93_tree x.1.1 := by kernel_rfl
theorem f93_ok (hr : ∀ x : (List Int × Unit) × Unit, itemsWF k93.its x → (f93_tree x.1.1).eval = (k93.F x).eval) : k93.Ok Try.prog :=
  con_fn [k138, k179] ⟨k138_ok, k179_ok, trivial⟩ (by kernel_rfl) (codeOf_eq (by kernel_rfl)) (by kernel_rfl) (by kernel_rfl) (by kernel_rfl) f93_eq fun x hw _ hy => (hr x hw).trans hy
theorem k93_ok : k93.Ok Try.prog := f93_ok fun x _ => (eval_get_ret _).symm
theorem drawFiles_tot {b : List Int} (hb : b.length ≤ BIG) : TotV (k93_V b) fun y => y.1.1.1.length ≤ 7 ∧ ∀ x ∈ y.1.1.1, x.2.1.length ≤ 10 := by
  unfold k93_V f93_tree
  refine tot_get (newCur_tot hb) fun c hc => ?_
  have hb' : c.1.1.1.length ≤ BIG := by rw [hc.1]; exact hb
  exact tot_get (any_tot hb' (Int.le_of_eq hc.2.symm)) fun y hy => tot_ret hy.1
theorem blkO_len {x : Option (List Int)} (h : okO x = true) : (blkO x).length ≤ 64 := by
  cases x with
  | none => simp [blkO]
  | some d =>
    have h : (wordsOkV d && decide (d.length ≤ 8)) = true := h
    have := wordsS_len (of_decide_eq_true (Bool.and_eq_true_iff.1 h).2)
    unfold blkO fileS
    rw [List.length_append, List.length_cons, List.length_nil]; omega
theorem fileBlocks_mem {a : List FileD} (h : filesOkV a = true) : ∀ x ∈ fileBlocksV a, x.length ≤ 64 := by
  obtain ⟨ds, _, _, h3, h4⟩ := places h
  intro x hx
  rw [h4] at hx
  obtain ⟨d, hd, rfl⟩ := List.mem_map.1 hx
  exact blkO_len (List.all_eq_true.1 h3 d hd)
def f95_tree (a0 : List Int) : Out (((List (List UInt8) × Unit) × Unit) × (Unit × Unit)) :=
 .get (k138_V a0) fun y1 =>
 .get (k181_V y1.1.1.1 y1.1.1.2.1 y1.1.1.2.2.1) fun y2 =>
 .get (k140_V y1.1.1.1 y2.2.1.1 y2.2.1.2.1 (3 : Int)) fun y3 =>
 .ite y3.1.1.1
 (.get (k139_V y1.1.1.1 y3.2.1.1 y3.2.1.2.1 ((List.length (fileBlocksV y2.1.1.1) : Nat) : Int)) fun y4 =>
 .ite (decide (0 ≤ y4.1.1.1 ∧ y4.1.1.1 < ((List.length (fileBlocksV y2.1.1.1) : Nat) : Int)))
 (.get (nth (fileBlocksV y2.1.1.1) (Int.toNat y4.1.1.1)) fun y5 =>
 .get (k178_V y1.1.1.1 y4.2.1.1 y4.2.1.2.1 y5) fun y6 =>
 .ite (decide (0 ≤ y4.1.1.1 ∧ y4.1.1.1 < ((List.length (fileBlocksV y2.1.1.1) : Nat) : Int)))
 (.get (nth (fileBlocksV y2.1.1.1) (Int.toNat y4.1.1.1)) fun y7 =>
 .get (k140_V y1.1.1.1 y6.2.1.1 y6.2.1.2.1 (12 : Int)) fun y8 =>
 .ite y8.1.1.1
 (.ite (decide (0 ≤ (0 : Int) ∧ (0 : Int) ≤ (4 : Int) ∧ (4 : Int) ≤ ((List.length (List.set (fileBlocksV y2.1.1.1) (Int.toNat y4.1.1.1) y6.1.1.1) : Nat) : Int)))
 (.ret ((((List.take (Int.toNat (4 : Int) - Int.toNat (0 : Int)) (List.drop (0 + Int.toNat (0 : Int)) (List.set (fileBlocksV y2.1.1.1) (Int.toNat y4.1.1.1) y6.1.1.1))), ()), ()), ((), ())))
 .fail)
 (.ret ((((List.set (fileBlocksV y2.1.1.1) (Int.toNat y4.1.1.1) y6.1.1.1), ()), ()), ((), ()))))
 .fail)
 .fail)
 (.get (k140_V y1.1.1.1 y3.2.1.1 y3.2.1.2.1 (12 : Int)) fun y9 =>
 .ite y9.1.1.1
 (.ite (decide (0 ≤ (0 : Int) ∧ (0 : Int) ≤ (4 : Int) ∧ (4 : Int) ≤ ((List.length (fileBlocksV y2.1.1.1) : Nat) : Int)))
 (.ret ((((List.take (Int.toNat (4 : Int) - Int.toNat (0 : Int)) (List.drop (0 + Int.toNat (0 : Int)) (fileBlocksV y2.1.1.1))), ()), ()), ((), ())))
 .fail)
 (.ret ((((fileBlocksV y2.1.1.1), ()), ()), ((), ()))))
def k95_V (a0 : List Int) : Option (((List (List UInt8) × Unit) × Unit) × (Unit × Unit)) := (f95_tree a0).eval
def k95 : Con := { f := 95, lend := true, its := [⟨false, false, [.ro (.int .u8)]⟩], lay := [none], rs := [⟨false, false, [.own .str]⟩], F := fun x => .get (k95_V x.1.1) fun y => .ret y }
theorem f95_eq (x : itemsD k95.its) : bodyOut (cxOf [k138, k181, k56, k140, k139, k178]) (fun _ => none) (codeOf Try.f95) k95.its k95.lay Try.f95.ntmps k95.rs [.tmp 2] x = f95_tree x.1.1 := by kernel_rfl
theorem f95_ok (hr : ∀ x : (List Int × Unit) × Unit, itemsWF k95.its x → (f95_tree x.1.1).eval = (k95.F x).eval) : k95.Ok Try.prog :=
  con_fn [k138, k181, k56, k140, k139, k178] ⟨k138_ok, k181_ok, k56_ok, k140_ok, k139_ok, k178_ok, trivial⟩ (by kernel_rfl) (codeOf_eq (by kernel_rfl)) (by kernel_rfl) (by kernel_rfl) (by kernel_rfl) f95_eq fun x hw _ hy => (hr x hw).trans hy
theorem k95_ok : k95.Ok Try.prog := f95_ok fun x _ => (eval_get_ret _).symm
theorem drawBlocks_tot {b : List Int} (hb : b.length ≤ BIG) : TotV (k95_V b) fun _ => True := by
  unfold k95_V f95_tree
  refine tot_get (newCur_tot hb) fun c hc => ?_
  have hb' : c.1.1.1.length ≤ BIG := by rw [hc.1]; exact hb
  refine tot_get (files_tot hb' (Int.le_of_eq hc.2.symm)) fun y hy => ?_
  have h6 := fileBlocksV_len hy.1
  have hm := fileBlocks_mem hy.1
  generalize fileBlocksV y.1.1.1 = X at h6 hm ⊢
  refine tot_get (once_tot hb' hy.2) fun u hu => tot_ite (fun _ => ?_) fun _ => ?_
  · refine tot_get (below_tot hb' hu) fun v hv => ?_
    have k0 := hv.1.1
    have k1 := hv.1.2.1 (by omega)
    have hx : ∃ z, nth X (Int.toNat v.1.1.1) = some z ∧ z ∈ X := ⟨_, List.getElem?_eq_getElem (show Int.toNat v.1.1.1 < X.length by omega), List.getElem_mem _⟩
    refine tot_t (decide_eq_true (by omega)) (tot_get hx fun z hz => tot_get (spoil_tot hb' hv.2 (by have := hm z hz; omega)) fun t ht => tot_t (decide_eq_true (by omega)) (tot_get hx fun _ _ => tot_get (once_tot hb' ht.2) fun s _ => tot_ite (fun _ => ?_) fun _ => tot_ret trivial))
    exact tot_t (decide_eq_true (by rw [List.length_set]; omega)) (tot_ret trivial)
  · exact tot_get (once_tot hb' hu) fun s _ => tot_ite (fun _ => tot_t (decide_eq_true (by omega)) (tot_ret trivial)) fun _ => tot_ret trivial
abbrev f180_S0 := (List (Int) × List (Int) × Int × Unit) × (Unit)
def f180_L0 (x : f180_S0) : Out (Round f180_S0 ((Unit) × (Unit)) ((Bool × Unit) × (Unit))) :=
 .ite (decide (x.1.2.2.1 < ((List.length x.1.1 : Nat) : Int)))
 (.ite (decide (0 ≤ x.1.2.2.1))
 (.get (nth x.1.1 (Int.toNat x.1.2.2.1)) fun y1 =>
 .ite (decide (0 ≤ x.1.2.2.1))
 (.get (nth x.1.2.1 (Int.toNat x.1.2.2.1)) fun y2 =>
 .ite ((y1 != y2))
 (.ret (.ret ((false, ()), ())))
 (.ret (.again ((x.1.1, x.1.2.1, (IntKind.i64.wrap (x.1.2.2.1 + (1 : Int))), ()), ()))))
 .fail)
 .fail)
 (.ret (.out ((), ())))
def f180_tree (a0 : List Int) (a1 : List Int) : Out (((Bool × Unit) × Unit) × (Unit × Unit × Unit)) :=
 .ite ((((List.length a0 : Nat) : Int) != ((List.length a1 : Nat) : Int)))
 (.ret (((false, ()), ()), ((), (), ())))
 (.get (iter f180_L0 FUEL ((a0, a1, (0 : Int), ()), ())) fun y1 => .alt y1 (fun y2 =>
 .ret (((true, ()), ()), ((), (), ()))) (fun y3 =>
 .ret (((y3.1.1, ()), ()), ((), (), ()))))
def f180_A : Nat → Option LoopAnn := fun n => annOf [(0, { head := { t := [.ro (.int .i64) (some 0), .ro (.int .i64) (some 1), .dead, .dead, .dead, .i .i64, .dead, .dead, .dead, .dead, .dead, .dead, .dead, .dead, .dead, .dead, .dead, .dead, .dead, .dead, .dead, .dead, .dead, .dead, .dead, .dead], v := [] }, out := { t := [.dead, .dead, .dead, .dead, .dead, .dead, .dead, .dead, .dead, .dead, .dead, .dead, .dead, .dead, .dead, .dead, .dead, .dead, .dead, .dead, .dead, .dead, .dead, .dead, .dead, .dead], v := [] }, ret := some { t := [.dead, .dead, .dead, .dead, .b, .dead, .dead, .dead, .dead, .dead, .dead, .dead, .dead, .dead, .dead, .dead, .dead, .dead, .dead, .dead, .dead, .dead, .dead, .dead, .dead, .dead], v := [] } })] n
def k180 : Con := { f := 180, lend := true, its := [⟨false, false, [.ro (.int .i64)]⟩, ⟨false, false, [.ro (.int .i64)]⟩], lay := [none, none], rs := [⟨false, false, [.b]⟩], F := fun x => .ret ((((eqIntsV x.1.1 x.2.1.1), ()), ()), ((), (), ())) }
theorem f180_eq (x : itemsD k180.its) : bodyOut (cxOf []) (f180_A) (codeOf Try.f180) k180.its k180.lay Try.f180.ntmps k180.rs [.tmp 4] x = f180_tree x.1.1 x.2.1.1 := by kernel_rfl
theorem f180_ok (hr : ∀ x : (List Int × Unit) × (List Int × Unit) × Unit, itemsWF k180.its x → (f180_tree x.1.1 x.2.1.1).eval = (k180.F x).eval) : k180.Ok Try.prog :=
  con_fn [] trivial (by kernel_rfl) (codeOf_eq (by kernel_rfl)) (by kernel_rfl) (by kernel_rfl) (by kernel_rfl) f180_eq fun x hw _ hy => (hr x hw).trans hy
theorem k180_ok : k180.Ok Try.prog := by
  refine f180_ok fun x hw => ?_
  obtain ⟨⟨a, _⟩, ⟨b, _⟩, _⟩ := x
  have ha : a.length ≤ BIG := hw.1.1.1
  show (f180_tree a b).eval = some (((eqIntsV a b, ()), ()), ((), ((), ())))
  unfold f180_tree
  by_cases hl : a.length = b.length
  · rw [eval_ite_f (len_eq hl)]
    have := eq_loop (f := f180_L0) a b (fun i => ((a, (b, (((i : Nat) : Int), ()))), ())) (y := ((), ())) (z := ((false, ()), ())) hl ha
      (fun i hi hi' he => by
        have := wrap_succ (i := i) (by omega)
        simp [f180_L0, Out.eval, hi, hi', he, this])
      (fun i hi hi' he => by simp [f180_L0, Out.eval, hi, hi', he, cond_eq_ite])
      (by simp [f180_L0, Out.eval])
    refine (eval_get_some this).trans ?_
    unfold eqIntsV
    by_cases hab : a = b
    · simp only [if_pos hab, decide_eq_true hab]; rfl
    · simp only [if_neg hab, decide_eq_false hab]; rfl
  · rw [eval_ite_t (len_ne hl)]
    have : eqIntsV a b = false := decide_eq_false fun e => hl (by rw [e])
    rw [this]
    rfl
abbrev f94_S0 := (List ((Int × List Int × Unit)) × List ((Int × List Int × Unit)) × Int × Unit) × (Unit)
def f94_L0 (x : f94_S0) : Out (Round f94_S0 ((Unit) × (Unit)) ((Bool × Unit) × (Unit))) :=
 .ite (decide (x.1.2.2.1 < ((List.length x.1.1 : Nat) : Int)))
 (.ite (decide (0 ≤ x.1.2.2.1))
 (.get (nth x.1.1 (Int.toNat x.1.2.2.1)) fun y1 =>
 .ite (decide (0 ≤ x.1.2.2.1))
 (.get (nth x.1.2.1 (Int.toNat x.1.2.2.1)) fun y2 =>
 .ite (((y1.1 != y2.1)) == false)
 (.ite (decide (0 ≤ x.1.2.2.1))
 (.get (nth x.1.1 (Int.toNat x.1.2.2.1)) fun y3 =>
 .ite (decide (0 ≤ x.1.2.2.1))
 (.get (nth x.1.2.1 (Int.toNat x.1.2.2.1)) fun y4 =>
 .ite (!(eqIntsV y3.2.1 y4.2.1))
 (.ret (.ret ((false, ()), ())))
 (.ret (.again ((x.1.1, x.1.2.1, (IntKind.i64.wrap (x.1.2.2.1 + (1 : Int))), ()), ()))))
 .fail)
 .fail)
 (.ret (.ret ((false, ()), ()))))
 .fail)
 .fail)
 (.ret (.out ((), ())))
def f94_tree (a0 : List (Int × List Int × Unit)) (a1 : List (Int × List Int × Unit)) : Out (((Bool × Unit) × Unit) × (Unit × Unit × Unit)) :=
 .ite ((((List.length a0 : Nat) : Int) != ((List.length a1 : Nat) : Int)))
 (.ret (((false, ()), ()), ((), (), ())))
 (.get (iter f94_L0 FUEL ((a0, a1, (0 : Int), ()), ())) fun y1 => .alt y1 (fun y2 =>
 .ret (((true, ()), ()), ((), (), ()))) (fun y3 =>
 .ret (((y3.1.1, ()), ()), ((), (), ()))))
def f94_A : Nat → Option LoopAnn := fun n => annOf [(0, { head := { t := [.ro (.st (.cons (.int .i64) (.cons (.sl (.int .i64)) .nil))) (some 0), .ro (.st (.cons (.int .i64) (.cons (.sl (.int .i64)) .nil))) (some 1), .dead, .dead, .dead, .i .i64, .dead, .dead, .dead, .dead, .dead, .dead, .dead, .dead, .dead, .dead, .dead, .dead, .dead, .dead, .dead, .dead, .dead, .dead, .dead, .dead, .dead, .dead, .dead, .dead, .dead, .dead, .dead, .dead, .dead, .dead, .dead, .dead, .dead, .dead, .dead, .dead], v := [] }, out := { t := [.dead, .dead, .dead, .dead, .dead, .dead, .dead, .dead, .dead, .dead, .dead, .dead, .dead, .dead, .dead, .dead, .dead, .dead, .dead, .dead, .dead, .dead, .dead, .dead, .dead, .dead, .dead, .dead, .dead, .dead, .dead, .dead, .dead, .dead, .dead, .dead, .dead, .dead, .dead, .dead, .dead, .dead], v := [] }, ret := some { t := [.dead, .dead, .dead, .dead, .b, .dead, .dead, .dead, .dead, .dead, .dead, .dead, .dead, .dead, .dead, .dead, .dead, .dead, .dead, .dead, .dead, .dead, .dead, .dead, .dead, .dead, .dead, .dead, .dead, .dead, .dead, .dead, .dead, .dead, .dead, .dead, .dead, .dead, .dead, .dead, .dead, .dead], v := [] } })] n
def k94 : Con := { f := 94, lend := true, its := [⟨false, false, [.ro (.st (.cons (.int .i64) (.cons (.sl (.int .i64)) .nil)))]⟩, ⟨false, false, [.ro (.st (.cons (.int .i64) (.cons (.sl (.int .i64)) .nil)))]⟩], lay := [none, none], rs := [⟨false, false, [.b]⟩], F := fun x => .ret ((((eqFilesV x.1.1 x.2.1.1), ()), ()), ((), (), ())) }
theorem f94_eq (x : itemsD k94.its) : bodyOut (cxOf [k180]) (f94_A) (codeOf Try.f94) k94.its k94.lay Try.f94.ntmps k94.rs [.tmp 4] x = f94_tree x.1.1 x.2.1.1 := by kernel_rfl
theorem f94_ok (hr : ∀ x : (List (Int × List Int × Unit) × Unit) × (List (Int × List Int × Unit) × Unit) × Unit, itemsWF k94.its x → (f94_tree x.1.1 x.2.1.1).eval = (k94.F x).eval) : k94.Ok Try.prog :=
  con_fn [k180] ⟨k180_ok, trivial⟩ (by kernel_rfl) (codeOf_eq (by kernel_rfl)) (by kernel_rfl) (by kernel_rfl) (by kernel_rfl) f94_eq fun x hw _ hy => (hr x hw).trans hy
theorem k94_ok : k94.Ok Try.prog := by
  refine f94_ok fun x hw => ?_
  obtain ⟨⟨a, _⟩, ⟨b, _⟩, _⟩ := x
  have ha : a.length ≤ BIG := hw.1.1.1
  show (f94_tree a b).eval = some (((eqFilesV a b, ()), ()), ((), ((), ())))
  unfold f94_tree
  by_cases hl : a.length = b.length
  · rw [eval_ite_f (len_eq hl)]
    have := eq_loop (f := f94_L0) a b (fun i => ((a, (b, (((i : Nat) : Int), ()))), ())) (y := ((), ())) (z := ((false, ()), ())) hl ha
      (fun i hi hi' he => by
        have := wrap_succ (i := i) (by omega)
        simp [f94_L0, Out.eval, hi, hi', he, this, eqIntsV])
      (fun i hi hi' he => by
        have hx : a[i] = (a[i].1, (a[i].2.1, ())) := rfl
        have hy : b[i] = (b[i].1, (b[i].2.1, ())) := rfl
        by_cases q1 : a[i].1 = b[i].1
        · have q2 : ¬ a[i].2.1 = b[i].2.1 := fun q => he (by rw [hx, hy, q1, q])
          simp [f94_L0, Out.eval, hi, hi', q1, q2, eqIntsV]
        · simp [f94_L0, Out.eval, hi, hi', q1, cond_eq_ite])
      (by simp [f94_L0, Out.eval])
    refine (eval_get_some this).trans ?_
    unfold eqFilesV
    by_cases hab : a = b
    · simp only [if_pos hab, decide_eq_true hab]; rfl
    · simp only [if_neg hab, decide_eq_false hab]; rfl
  · rw [eval_ite_t (len_ne hl)]
    have : eqFilesV a b = false := decide_eq_false fun e => hl (by rw [e])
    rw [this]
    rfl
theorem readFiles_blocks (a : List FileD) : readFilesV (fileBlocksV a) = if filesOkV a = true then (a, true) else ([], false) := by
  by_cases h : filesOkV a = true
  · rw [if_pos h, readFilesV_some (readBlocks_file h)]
  · rw [if_neg h, fileBlocksV_not h, readFilesV_none (if_neg (by simp))]
theorem readFiles_again (l : List Str) (h : (readFilesV l).2 = true) : fileBlocksV (readFilesV l).1 = l := by
  cases hr : readBlocksV l with
  | none => rw [readFilesV_none hr] at h; exact nomatch h
  | some f => rw [readFilesV_some hr]; exact (readBlocks_ok hr).2
end Go.Proofs.Ytjcinikojcfebaa.Dm
