/- Functions of the program, and what they compute. -/
import Derived.Test.YtnglkhjpdpgahaaGreatDoorP12
namespace Go.Proofs.YtnglkhjpdpgahaaGreatDoor.Dm
open Go Go.ChangeShapes Go.WideShapes Go.ChangeAt Go.RowKit
theorem form_name : ∀ k, k < 9 → formV (opOfV (opNamesV.getD k [])) = formV k := by decide
theorem itoa_len {n : Int} (h : In64 n) : (Lib.itoa n).length ≤ 21 := Lib.itoa_length_le n h.1 h.2
theorem argT_len {k : UInt8} {n : Int} (h : In64 n) : (argT k n).length ≤ 22 := by
  have := itoa_len h
  unfold argT
  rw [List.length_append]
  split <;> simp <;> omega
theorem zip_len : ∀ (f : Str) (l : List Int), (∀ n ∈ l, In64 n) → ((List.zipWith argT f l).flatMap fun w => 32 :: w).length ≤ 23 * l.length
  | [], _, _ => by simp
  | _ :: _, [], _ => by simp
  | k :: f, n :: l, h => by
    have h1 := argT_len (k := k) (h n (by simp))
    have h2 := zip_len f l fun x hx => h x (by simp [hx])
    rw [List.zipWith_cons_cons, List.flatMap_cons, List.length_append]
    simp only [List.length_cons]
    omega
theorem ins_in {x : InsD} (h : insOk1 x = true) : (1 ≤ x.1 ∧ x.1 ≤ 8) ∧ In64 x.2.1 ∧ In64 x.2.2.1 ∧ In64 x.2.2.2.1 := by
  obtain ⟨_, h1, h2⟩ := ins_line h
  refine ⟨⟨h1, h2⟩, ?_⟩
  have hin : ∀ {n lo hi : Int}, inV n lo hi = true → lo ≤ n ∧ n ≤ hi := fun q => by
    unfold inV at q
    simpa using q
  have hreg : ∀ {n : Int}, regV n = true → 0 ≤ n ∧ n ≤ 3 := fun q => by
    unfold regV at q
    simp only [Bool.and_eq_true, decide_eq_true_eq] at q
    omega
  have z : ∀ {n : Int}, (n == 0) = true → n = 0 := fun q => by simpa using q
  obtain ⟨o, a, b, c, u⟩ := x
  have h : insOkV o a b c = true := h
  have cases8 : o = 1 ∨ o = 2 ∨ o = 3 ∨ o = 4 ∨ o = 5 ∨ o = 6 ∨ o = 7 ∨ o = 8 := by simp only at h1 h2; omega
  rcases cases8 with rfl | rfl | rfl | rfl | rfl | rfl | rfl | rfl <;> simp only [insOkV, Int.reduceBEq, beq_self_eq_true, cond_true, cond_false, Bool.and_eq_true] at h <;> obtain ⟨q1, q2, q3⟩ := h
  · have := hreg q1; have := hin q2; have := z q3; refine ⟨?_, ?_, ?_⟩ <;> (simp only; omega)
  · have := hreg q1; have := hreg q2; have := hreg q3; refine ⟨?_, ?_, ?_⟩ <;> (simp only; omega)
  · have := hreg q1; have := hreg q2; have := hreg q3; refine ⟨?_, ?_, ?_⟩ <;> (simp only; omega)
  · have := hreg q1; have := hreg q2; have := z q3; refine ⟨?_, ?_, ?_⟩ <;> (simp only; omega)
  · have := hreg q1; have := hreg q2; have := z q3; refine ⟨?_, ?_, ?_⟩ <;> (simp only; omega)
  · have := hin q1; have := z q2; have := z q3; refine ⟨?_, ?_, ?_⟩ <;> (simp only; omega)
  · have := hreg q1; have := hin q2; have := z q3; refine ⟨?_, ?_, ?_⟩ <;> (simp only; omega)
  · have := hin q1; have := z q2; have := z q3; refine ⟨?_, ?_, ?_⟩ <;> (simp only; omega)
theorem lineT_len {x : InsD} (h : insOk1 x = true) : (lineT x).length ≤ 74 := by
  obtain ⟨⟨h1, h2⟩, h3, h4, h5⟩ := ins_in h
  have q1 := name_len x.1.toNat (by omega)
  have q2 := zip_len (formV x.1.toNat) [x.2.1, x.2.2.1, x.2.2.2.1] (by
    intro n hn
    simp only [List.mem_cons, List.not_mem_nil, or_false] at hn
    rcases hn with rfl | rfl | rfl <;> assumption)
  unfold lineT
  rw [List.length_append]
  simp only [List.length_cons, List.length_nil] at q2
  omega
abbrev f28_S2 := (List ((Int × Int × Int × Int × Unit)) × List UInt8 × Int × List UInt8 × Int × Unit) × (List (List UInt8) × List (Int) × Unit)
def f28_L2 : f28_S2 → Out (Round f28_S2 ((List ((Int × Int × Int × Int × Unit)) × List UInt8 × Int × Unit) × (List (List UInt8) × Unit)) Empty)
| ((p0, p1, p2, p3, p4, _), p5, p6, _) =>
 .ite (decide (p4 < ((List.length p3 : Nat) : Int)))
 (.ite (decide (0 ≤ p4))
 (.get (nth p3 (Int.toNat p4)) fun y1 =>
 .ite ((((UInt8.toNat y1 : Nat) : Int) == (114 : Int)))
 (.ite (decide (List.length p1 + List.length ([32, 114] : List UInt8) ≤ LIM))
 (.ite (decide (0 ≤ p4 ∧ p4 < ((List.length p6 : Nat) : Int)))
 (.get (nth p6 (Int.toNat p4)) fun y2 =>
 .get (itoaP y2) fun y3 =>
 .ite (decide (List.length (p1 ++ ([32, 114] : List UInt8)) + List.length y3 ≤ LIM))
 (.ret (.again ((p0, ((p1 ++ ([32, 114] : List UInt8)) ++ y3), p2, p3, (IntKind.i64.wrap (p4 + (1 : Int))), ()), (p5, p6, ()))))
 .fail)
 .fail)
 .fail)
 (.ite (decide (List.length p1 + List.length ([32] : List UInt8) ≤ LIM))
 (.ite (decide (0 ≤ p4 ∧ p4 < ((List.length p6 : Nat) : Int)))
 (.get (nth p6 (Int.toNat p4)) fun y4 =>
 .get (itoaP y4) fun y5 =>
 .ite (decide (List.length (p1 ++ ([32] : List UInt8)) + List.length y5 ≤ LIM))
 (.ret (.again ((p0, ((p1 ++ ([32] : List UInt8)) ++ y5), p2, p3, (IntKind.i64.wrap (p4 + (1 : Int))), ()), (p5, p6, ()))))
 .fail)
 .fail)
 .fail))
 .fail)
 (.ret (.out ((p0, p1, p2, ()), (p5, ()))))
abbrev f28_S0 := (List ((Int × Int × Int × Int × Unit)) × List UInt8 × Int × Unit) × (List (List UInt8) × Unit)
def f28_L0 : f28_S0 → Out (Round f28_S0 ((List UInt8 × Unit) × (Unit)) Empty)
| ((p0, p1, p2, _), p3, _) =>
 .ite (decide (p2 < ((List.length p0 : Nat) : Int)))
 (.ite (decide (0 ≤ p2))
 (.get (nth p0 (Int.toNat p2)) fun y1 =>
 .ite (decide (0 ≤ y1.1 ∧ y1.1 < ((List.length p3 : Nat) : Int)))
 (.get (nth p3 (Int.toNat y1.1)) fun y2 =>
 .ite (decide (0 ≤ p2))
 (.get (nth p0 (Int.toNat p2)) fun y3 =>
 .ite (decide (0 ≤ p2))
 (.get (nth p0 (Int.toNat p2)) fun y4 =>
 .ite (decide (0 ≤ p2))
 (.get (nth p0 (Int.toNat p2)) fun y5 =>
 .ite (decide (0 ≤ p2))
 (.get (nth p0 (Int.toNat p2)) fun y6 =>
 .ite (decide (0 ≤ y6.1 ∧ y6.1 < ((List.length p3 : Nat) : Int)))
 (.get (nth p3 (Int.toNat y6.1)) fun y7 =>
 .ite (decide (List.length p1 + List.length y7 ≤ LIM))
 (.get (iter1 f28_L2 FUEL ((p0, (p1 ++ y7), p2, (l4FormV y2).2, (0 : Int), ()), (p3, ([y3.2.1, y4.2.2.1, y5.2.2.2.1] : List (Int)), ()))) fun y8 =>
 .ite (decide (List.length y8.1.2.1 + List.length ([10] : List UInt8) ≤ LIM))
 (.ret (.again ((y8.1.1, (y8.1.2.1 ++ ([10] : List UInt8)), (IntKind.i64.wrap (y8.1.2.2.1 + (1 : Int))), ()), (y8.2.1, ()))))
 .fail)
 .fail)
 .fail)
 .fail)
 .fail)
 .fail)
 .fail)
 .fail)
 .fail)
 (.ret (.out ((p1, ()), ())))
def f28_tree (a0 : List (Int × Int × Int × Int × Unit)) : Out (((List UInt8 × Unit) × Unit) × (Unit × Unit)) :=
 .ite (!(progOkV a0))
 (.ret (((([] : List UInt8), ()), ()), ((), ())))
 (.get (iter1 f28_L0 FUEL ((a0, ([] : List UInt8), (0 : Int), ()), (([([] : List UInt8), ([115, 101, 116] : List UInt8), ([97, 100, 100] : List UInt8), ([115, 117, 98] : List UInt8), ([108, 111, 97, 100] : List UInt8), ([115, 116, 111, 114, 101] : List UInt8), ([106, 117, 109, 112] : List UInt8), ([122, 101, 114, 111] : List UInt8), ([115, 121, 115] : List UInt8)] : List (List UInt8)), ()))) fun y1 =>
 .ret (((y1.1.1, ()), ()), ((), ())))
def f28_A : Nat → Option LoopAnn := fun n => annOf [(0, { head := { t := [.ro tyN (some 0), .dead, .dead, .srf 64000000, .s, .i .i64] ++ dd 81, v := [(64000000, .arr .str)] }, out := { t := dd 4 ++ [.s] ++ dd 82, v := [] }, ret := none }), (2, { head := { t := [.ro tyN (some 0), .dead, .dead, .srf 64002048, .s, .i .i64, .dead, .s, .srf 64002049, .i .i64] ++ dd 77, v := [(64002048, .arr .str), (64002049, .arr (.int .i64))] }, out := { t := [.ro tyN (some 0), .dead, .dead, .srf 64002304, .s, .i .i64] ++ dd 81, v := [(64002304, .arr .str)] }, ret := none })] n
def k28 : Con := { f := 28, lend := true, its := [⟨false, false, [.ro tyN]⟩], lay := [none], rs := [⟨false, false, [.s]⟩], F := fun x => .ret ((((listingV x.1.1), ()), ()), ((), ())) }
theorem f28_eq (x : itemsD k28.its) : bo [k10, k51, k52] f28_A Tryz.f28 k28 [.tmp 2] x = f28_tree x.1.1 := by kernel_rfl
theorem f28_ok (hr : ∀ x : (List (Int × Int × Int × Int × Unit) × Unit) × Unit, itemsWF k28.its x → (f28_tree x.1.1).eval = (k28.F x).eval) : k28.Ok Tryz.prog := con_fn [k10, k51, k52] ⟨k10_ok, k51_ok, k52_ok, trivial⟩ f28_eq fun x hw _ hy => (hr x hw).trans hy
theorem list_in_s (form : Str) (hf : form.length ≤ 3) (n : List Int) (hn : n.length = 3) (h64 : ∀ x ∈ n, In64 x) (hasc : ∀ b ∈ form, b.toNat < 128) (p : List InsD) (i : Int) (nm : List Str) : ∀ (m k N : Nat) (s : Str), k + m = form.length → m < N → s.length + 23 * m ≤ 1000000 →
    iter1 f28_L2 N ((p, s, i, form, ((k : Nat) : Int), ()), (nm, n, ())) = some ((p, (s ++ (List.zipWith argT (form.drop k) (n.drop k)).flatMap fun w => 32 :: w), i, ()), (nm, ())) := by
  intro m
  induction m with
  | zero =>
    intro k N s hk hN hs
    rw [List.drop_eq_nil_of_le (by omega)]
    refine iter1_out' ?_ hN
    unfold f28_L2
    rw [eval_ite_f (decide_eq_false (by omega))]
    simp [Out.eval]
  | succ m ih =>
    intro k N s hk hN hs
    have hlt : k < form.length := by omega
    have hkn : k < n.length := by omega
    obtain ⟨N, rfl⟩ : ∃ N', N = N' + 1 := ⟨N - 1, by omega⟩
    have w1 := wrap_succ (i := k) (by unfold BIG; omega)
    have h1 := h64 _ (List.getElem_mem hkn)
    have h2 := itoa_len h1
    have h3 := hasc _ (List.getElem_mem hlt)
    have hi : itoaP n[k] = some (Lib.itoa n[k]) := if_pos h1
    rw [List.drop_eq_getElem_cons hlt, List.drop_eq_getElem_cons hkn, List.zipWith_cons_cons, List.flatMap_cons]
    have ht := argT_len (k := form[k]) h1
    have e := ih (k + 1) N (s ++ 32 :: argT form[k] n[k]) (by omega) (by omega) (by rw [List.length_append]; simp only [List.length_cons]; omega)
    rw [List.append_assoc] at e
    rw [← e]
    refine iter1_again ?_
    unfold f28_L2 argT
    rw [eval_ite_t (decide_eq_true (by omega)), eval_ite_t (ge0 k)]
    refine (eval_get_some (nth_get hlt)).trans ?_
    rw [eq114]
    by_cases q : form[k] = 114
    · rw [eval_ite_t (decide_eq_true q), eval_ite_t (decide_eq_true (by rw [LIM_eq]; simp only [List.length_cons, List.length_nil]; omega)), eval_ite_t (inr_t hkn)]
      refine (eval_get_some (nth_get hkn)).trans ((eval_get_some hi).trans ?_)
      rw [eval_ite_t (decide_eq_true (by rw [LIM_eq, List.length_append]; simp only [List.length_cons, List.length_nil]; omega)), if_pos q, w1]
      simp [Out.eval]
    · rw [eval_ite_f (decide_eq_false q), eval_ite_t (decide_eq_true (by rw [LIM_eq]; simp only [List.length_cons, List.length_nil]; omega)), eval_ite_t (inr_t hkn)]
      refine (eval_get_some (nth_get hkn)).trans ((eval_get_some hi).trans ?_)
      rw [eval_ite_t (decide_eq_true (by rw [LIM_eq, List.length_append]; simp only [List.length_cons, List.length_nil]; omega)), if_neg q, w1]
      simp [Out.eval]
theorem form_asc : ∀ k, k < 9 → ∀ b ∈ formV k, b.toNat < 128 := by decide
theorem listT_snoc (p : List InsD) (x : InsD) : listT (p ++ [x]) = listT p ++ (lineT x ++ [10]) := by unfold listT; rw [List.flatMap_append, List.flatMap_singleton]
theorem listT_len {p : List InsD} (h : ∀ x ∈ p, insOk1 x = true) : (listT p).length ≤ 75 * p.length := flatMap_len _ 75 p fun x hx => by
  have := lineT_len (h x hx)
  rw [List.length_append, List.length_singleton]; omega
theorem k28_ok : k28.Ok Tryz.prog := by
  refine f28_ok fun x hw => ?_
  obtain ⟨⟨a0, _⟩, _⟩ := x
  have l0 : List.length a0 ≤ BIG := hw.1.1.1
  show (f28_tree a0).eval = some ((((listingV a0), ()), ()), ((), ()))
  unfold f28_tree listingV
  by_cases hp : progOkV a0 = true
  case neg => rw [eval_ite_t (by simpa using hp), if_neg hp]; rfl
  rw [eval_ite_f (by simpa using hp), if_pos hp]
  obtain ⟨hl, hok⟩ := prog_parts hp
  have key : ∀ (m i N : Nat), i + m = a0.length → m < N → iter1 f28_L0 N ((a0, listT (a0.take i), ((i : Nat) : Int), ()), (opNamesV, ())) = some ((listT a0, ()), ()) := by
    intro m
    induction m with
    | zero =>
      intro i N hi hN
      refine iter1_out' ?_ hN
      unfold f28_L0
      rw [eval_ite_f (decide_eq_false (by omega)), List.take_of_length_le (by omega)]; rfl
    | succ m ih =>
      intro i N hi hN
      have hlt : i < a0.length := by omega
      obtain ⟨N, rfl⟩ : ∃ N', N = N' + 1 := ⟨N - 1, by omega⟩
      have w1 := wrap_succ (i := i) (by unfold BIG; omega)
      rw [← ih (i + 1) N (by omega) (by omega), List.take_succ_eq_append_getElem hlt, listT_snoc]
      have hx := hok _ (List.getElem_mem hlt)
      have hlen := listT_len (p := a0.take i) fun x hx => hok x (List.mem_of_mem_take hx)
      rw [List.length_take] at hlen
      generalize listT (a0.take i) = s at *
      obtain ⟨⟨h1, h2⟩, h3, h4, h5⟩ := ins_in hx
      have ht := lineT_len hx
      have hg : ∀ {α : Type} {k : InsD → Out α}, (Out.get (nth a0 (Int.toNat ((i : Nat) : Int))) k).eval = (k a0[i]).eval := fun {α k} => eval_get_some (nth_get hlt)
      unfold lineT at ht ⊢
      generalize a0[i] = x at *
      obtain ⟨o, a, b, c, u⟩ := x
      simp only at h1 h2 h3 h4 h5 ht ⊢
      obtain ⟨o, rfl⟩ := Int.eq_ofNat_of_zero_le (show 0 ≤ o by omega)
      rw [Int.toNat_natCast] at ht ⊢
      have ho : o < 9 := by omega
      have q1 := name_len o ho
      have hn : nth opNamesV (Int.toNat ((o : Nat) : Int)) = some (opNamesV.getD o []) := by rw [Int.toNat_natCast]; exact name_nth o ho
      have hol : decide (0 ≤ ((o : Nat) : Int) ∧ ((o : Nat) : Int) < ((List.length opNamesV : Nat) : Int)) = true := decide_eq_true (by show _ ∧ _ < (9 : Int); omega)
      have hin := list_in_s (formV o) (form_len o ho) [a, b, c] rfl (by
        intro n hn
        simp only [List.mem_cons, List.not_mem_nil, or_false] at hn
        rcases hn with rfl | rfl | rfl <;> assumption) (form_asc o ho) a0 ((i : Nat) : Int) opNamesV (formV o).length 0 FUEL (s ++ opNamesV.getD o []) (by omega) (Nat.lt_of_le_of_lt (form_len o ho) (by decide)) (by
        have := form_len o ho
        rw [List.length_append]; omega)
      rw [List.drop_zero, List.drop_zero] at hin
      refine iter1_again ?_
      unfold f28_L0
      rw [eval_ite_t (decide_eq_true (by omega)), eval_ite_t (ge0 i)]
      refine hg.trans ((eval_ite_t hol).trans ((eval_get_some hn).trans ((eval_ite_t (ge0 i)).trans (hg.trans ((eval_ite_t (ge0 i)).trans (hg.trans ((eval_ite_t (ge0 i)).trans (hg.trans ((eval_ite_t (ge0 i)).trans (hg.trans ((eval_ite_t hol).trans ((eval_get_some hn).trans ?_))))))))))))
      rw [eval_ite_t (decide_eq_true (by rw [LIM_eq]; omega))]
      unfold l4FormV
      rw [form_name o ho]
      refine (eval_get_some hin).trans ?_
      rw [eval_ite_t (decide_eq_true (by
        rw [LIM_eq]
        simp only [List.length_append, List.length_cons, List.length_nil] at ht ⊢
        omega)), w1]
      simp [Out.eval]
  have := key a0.length 0 FUEL (by omega) (Nat.lt_of_le_of_lt hl (by decide))
  exact (eval_get_some this).trans rfl
abbrev f9_S2 := (List UInt8 × List ((Int × Int × Int × Int × Unit)) × Int × Int × Unit) × (List (Int) × (List UInt8 × Nat) × Unit)
def f9_L2 : f9_S2 → Out (Round f9_S2 ((List UInt8 × List ((Int × Int × Int × Int × Unit)) × Int × Int × Unit) × (Unit)) Empty)
| ((p0, p1, p2, p3, _), p4, (p5, p6), _) =>
 .ite (decide (p6 < List.length p5))
 (.get (nth p5 p6) fun y1 =>
 .ite (decide (UInt8.toNat y1 < 128))
 (.ite true
 (.ite (decide (List.length p0 + List.length ([32] : List UInt8) ≤ LIM))
 (.ite ((((UInt8.toNat y1 : Nat) : Int) == (114 : Int)))
 (.ite (decide (List.length (p0 ++ ([32] : List UInt8)) + List.length ([114] : List UInt8) ≤ LIM))
 (.ite (decide (0 ≤ ((p6 : Nat) : Int) ∧ ((p6 : Nat) : Int) < ((List.length p4 : Nat) : Int)))
 (.get (nth p4 (Int.toNat ((p6 : Nat) : Int))) fun y2 =>
 .get (itoaP y2) fun y3 =>
 .ite (decide (List.length ((p0 ++ ([32] : List UInt8)) ++ ([114] : List UInt8)) + List.length y3 ≤ LIM))
 (.ret (.again (((((p0 ++ ([32] : List UInt8)) ++ ([114] : List UInt8)) ++ y3), p1, p2, p3, ()), (p4, (p5, (p6 + 1)), ()))))
 .fail)
 .fail)
 .fail)
 (.ite (decide (0 ≤ ((p6 : Nat) : Int) ∧ ((p6 : Nat) : Int) < ((List.length p4 : Nat) : Int)))
 (.get (nth p4 (Int.toNat ((p6 : Nat) : Int))) fun y4 =>
 .get (itoaP y4) fun y5 =>
 .ite (decide (List.length (p0 ++ ([32] : List UInt8)) + List.length y5 ≤ LIM))
 (.ret (.again ((((p0 ++ ([32] : List UInt8)) ++ y5), p1, p2, p3, ()), (p4, (p5, (p6 + 1)), ()))))
 .fail)
 .fail))
 .fail)
 (.ret (.out ((p0, p1, p2, p3, ()), ()))))
 .fail)
 (.ite false
 .fail
 (.ret (.out ((p0, p1, p2, p3, ()), ()))))
abbrev f9_S0 := (List UInt8 × List ((Int × Int × Int × Int × Unit)) × Int × Int × Unit) × (Unit)
def f9_L0 : f9_S0 → Out (Round f9_S0 ((List UInt8 × Unit) × (Unit)) Empty)
| ((p0, p1, p2, p3, _), _) =>
 .ite (decide (p3 < p2))
 (.ite (decide (0 ≤ p3))
 (.get (nth p1 (Int.toNat p3)) fun y1 =>
 .ite (decide (0 ≤ y1.1 ∧ y1.1 < ((List.length opNamesL : Nat) : Int)))
 (.get (nth opNamesL (Int.toNat y1.1)) fun y2 =>
 .ite (decide (List.length p0 + List.length y2 ≤ LIM))
 (.get (opFormI y1.1) fun y3 =>
 .get (iter1 f9_L2 FUEL (((p0 ++ y2), p1, p2, p3, ()), (([y1.2.1, y1.2.2.1, y1.2.2.2.1] : List (Int)), (y3, (0 : Nat)), ()))) fun y4 =>
 .ite (decide (List.length y4.1.1 + List.length ([10] : List UInt8) ≤ LIM))
 (.ret (.again (((y4.1.1 ++ ([10] : List UInt8)), y4.1.2.1, y4.1.2.2.1, (IntKind.i64.wrap (y4.1.2.2.2.1 + (1 : Int))), ()), ())))
 .fail)
 .fail)
 .fail)
 .fail)
 (.ret (.out ((p0, ()), ())))
def f9_tree (a0 : List (Int × Int × Int × Int × Unit)) : Out (((List UInt8 × Unit) × Unit) × (Unit × Unit)) :=
 .ite (!(progOkV a0))
 (.ret (((([] : List UInt8), ()), ()), ((), ())))
 (.get (iter1 f9_L0 FUEL ((([] : List UInt8), a0, ((List.length a0 : Nat) : Int), (0 : Int), ()), ())) fun y1 =>
 .ret (((y1.1.1, ()), ()), ((), ())))
def f9_A : Nat → Option LoopAnn := fun n => annOf [(0, { head := { t := [.dead, .dead, .dead, .s] ++ dd 8 ++ [.ro tyN (some 0), .i .i64, .i .i64] ++ dd 42, v := [] }, out := { t := [.dead, .dead, .dead, .s] ++ dd 53, v := [] }, ret := none }), (2, { head := { t := [.dead, .dead, .dead, .s, .dead, .dead, .srf 64002048] ++ dd 5 ++ [.ro tyN (some 0), .i .i64, .i .i64] ++ dd 20 ++ [.vptr 64002049 0] ++ dd 21, v := [(64002048, .arr (.int .i64)), (64002049, .it)] }, out := { t := [.dead, .dead, .dead, .s] ++ dd 8 ++ [.ro tyN (some 0), .i .i64, .i .i64] ++ dd 42, v := [] }, ret := none })] n
def k9 : Con := { f := 9, lend := true, its := [⟨false, false, [.ro tyN]⟩], lay := [none], rs := [⟨false, false, [.s]⟩], F := fun x => .ret ((((listingV x.1.1), ()), ()), ((), ())) }
theorem f9_eq (x : itemsD k9.its) : bo [k16, k21, k22, k23] f9_A Tryz.f9 k9 [.tmp 2] x = f9_tree x.1.1 := by kernel_rfl
theorem f9_ok (hr : ∀ x : (List (Int × Int × Int × Int × Unit) × Unit) × Unit, itemsWF k9.its x → (f9_tree x.1.1).eval = (k9.F x).eval) : k9.Ok Tryz.prog := con_fn [k16, k21, k22, k23] ⟨k16_ok, k21_ok, k22_ok, k23_ok, trivial⟩ f9_eq fun x hw _ hy => (hr x hw).trans hy
theorem list_in_i (form : Str) (hf : form.length ≤ 3) (n : List Int) (hn : n.length = 3) (h64 : ∀ x ∈ n, In64 x) (hasc : ∀ b ∈ form, b.toNat < 128) (p : List InsD) (i q : Int) : ∀ (m k N : Nat) (s : Str), k + m = form.length → m < N → s.length + 23 * m ≤ 1000000 →
    iter1 f9_L2 N ((s, p, i, q, ()), (n, (form, k), ())) = some (((s ++ (List.zipWith argT (form.drop k) (n.drop k)).flatMap fun w => 32 :: w), p, i, q, ()), ()) := by
  intro m
  induction m with
  | zero =>
    intro k N s hk hN hs
    rw [List.drop_eq_nil_of_le (by omega)]
    refine iter1_out' ?_ hN
    unfold f9_L2
    rw [eval_ite_f (decide_eq_false (by omega))]
    simp [Out.eval]
  | succ m ih =>
    intro k N s hk hN hs
    have hlt : k < form.length := by omega
    have hkn : k < n.length := by omega
    obtain ⟨N, rfl⟩ : ∃ N', N = N' + 1 := ⟨N - 1, by omega⟩
    have w1 := wrap_succ (i := k) (by unfold BIG; omega)
    have h1 := h64 _ (List.getElem_mem hkn)
    have h2 := itoa_len h1
    have h3 := hasc _ (List.getElem_mem hlt)
    have hi : itoaP n[k] = some (Lib.itoa n[k]) := if_pos h1
    rw [List.drop_eq_getElem_cons hlt, List.drop_eq_getElem_cons hkn, List.zipWith_cons_cons, List.flatMap_cons]
    have ht := argT_len (k := form[k]) h1
    have e := ih (k + 1) N (s ++ 32 :: argT form[k] n[k]) (by omega) (by omega) (by rw [List.length_append]; simp only [List.length_cons]; omega)
    rw [List.append_assoc] at e
    rw [← e]
    refine iter1_again ?_
    unfold f9_L2 argT
    rw [eval_ite_t (decide_eq_true (by omega))]
    refine (eval_get_some (x := form[k]) (List.getElem?_eq_getElem hlt)).trans ?_
    rw [eval_ite_t (decide_eq_true h3), eval_ite_t rfl, eval_ite_t (decide_eq_true (by rw [LIM_eq]; simp only [List.length_cons, List.length_nil]; omega)), eq114]
    by_cases q' : form[k] = 114
    · rw [eval_ite_t (decide_eq_true q'), eval_ite_t (decide_eq_true (by rw [LIM_eq, List.length_append]; simp only [List.length_cons, List.length_nil]; omega)), eval_ite_t (inr_t hkn)]
      refine (eval_get_some (nth_get hkn)).trans ((eval_get_some hi).trans ?_)
      rw [eval_ite_t (decide_eq_true (by rw [LIM_eq, List.length_append, List.length_append]; simp only [List.length_cons, List.length_nil]; omega)), if_pos q']
      simp [Out.eval]
    · rw [eval_ite_f (decide_eq_false q'), eval_ite_t (inr_t hkn)]
      refine (eval_get_some (nth_get hkn)).trans ((eval_get_some hi).trans ?_)
      rw [eval_ite_t (decide_eq_true (by rw [LIM_eq, List.length_append]; simp only [List.length_cons, List.length_nil]; omega)), if_neg q']
      simp [Out.eval]
theorem k9_ok : k9.Ok Tryz.prog := by
  refine f9_ok fun x hw => ?_
  obtain ⟨⟨a0, _⟩, _⟩ := x
  have l0 : List.length a0 ≤ BIG := hw.1.1.1
  show (f9_tree a0).eval = some ((((listingV a0), ()), ()), ((), ()))
  unfold f9_tree listingV
  by_cases hp : progOkV a0 = true
  case neg => rw [eval_ite_t (by simpa using hp), if_neg hp]; rfl
  rw [eval_ite_f (by simpa using hp), if_pos hp]
  obtain ⟨hl, hok⟩ := prog_parts hp
  have key : ∀ (m i N : Nat), i + m = a0.length → m < N → iter1 f9_L0 N ((listT (a0.take i), a0, ((List.length a0 : Nat) : Int), ((i : Nat) : Int), ()), ()) = some ((listT a0, ()), ()) := by
    intro m
    induction m with
    | zero =>
      intro i N hi hN
      refine iter1_out' ?_ hN
      unfold f9_L0
      rw [eval_ite_f (decide_eq_false (by omega)), List.take_of_length_le (by omega)]; rfl
    | succ m ih =>
      intro i N hi hN
      have hlt : i < a0.length := by omega
      obtain ⟨N, rfl⟩ : ∃ N', N = N' + 1 := ⟨N - 1, by omega⟩
      have w1 := wrap_succ (i := i) (by unfold BIG; omega)
      rw [← ih (i + 1) N (by omega) (by omega), List.take_succ_eq_append_getElem hlt, listT_snoc]
      have hx := hok _ (List.getElem_mem hlt)
      have hlen := listT_len (p := a0.take i) fun x hx => hok x (List.mem_of_mem_take hx)
      rw [List.length_take] at hlen
      generalize listT (a0.take i) = s at *
      obtain ⟨⟨h1, h2⟩, h3, h4, h5⟩ := ins_in hx
      have ht := lineT_len hx
      have hg : ∀ {α : Type} {k : InsD → Out α}, (Out.get (nth a0 (Int.toNat ((i : Nat) : Int))) k).eval = (k a0[i]).eval := fun {α k} => eval_get_some (nth_get hlt)
      unfold lineT at ht ⊢
      generalize a0[i] = x at *
      obtain ⟨o, a, b, c, u⟩ := x
      simp only at h1 h2 h3 h4 h5 ht ⊢
      obtain ⟨o, rfl⟩ := Int.eq_ofNat_of_zero_le (show 0 ≤ o by omega)
      rw [Int.toNat_natCast] at ht ⊢
      have ho : o < 9 := by omega
      have q1 := name_len o ho
      have hn : nth opNamesL (Int.toNat ((o : Nat) : Int)) = some (opNamesV.getD o []) := by rw [Int.toNat_natCast]; exact name_nth o ho
      have hol : decide (0 ≤ ((o : Nat) : Int) ∧ ((o : Nat) : Int) < ((List.length opNamesL : Nat) : Int)) = true := decide_eq_true (by show _ ∧ _ < (9 : Int); omega)
      have hin := list_in_i (formV o) (form_len o ho) [a, b, c] rfl (by
        intro n hn
        simp only [List.mem_cons, List.not_mem_nil, or_false] at hn
        rcases hn with rfl | rfl | rfl <;> assumption) (form_asc o ho) a0 ((List.length a0 : Nat) : Int) ((i : Nat) : Int) (formV o).length 0 FUEL (s ++ opNamesV.getD o []) (by omega) (Nat.lt_of_le_of_lt (form_len o ho) (by decide)) (by
        have := form_len o ho
        rw [List.length_append]; omega)
      rw [List.drop_zero, List.drop_zero] at hin
      refine iter1_again ?_
      unfold f9_L0
      rw [eval_ite_t (decide_eq_true (by omega)), eval_ite_t (ge0 i)]
      refine hg.trans ((eval_ite_t hol).trans ((eval_get_some hn).trans ?_))
      rw [eval_ite_t (decide_eq_true (by rw [LIM_eq]; omega))]
      refine (eval_get_some (form_at (by omega))).trans ((eval_get_some hin).trans ?_)
      rw [eval_ite_t (decide_eq_true (by
        rw [LIM_eq]
        simp only [List.length_append, List.length_cons, List.length_nil] at ht ⊢
        omega)), w1]
      simp [Out.eval]
  have := key a0.length 0 FUEL (by omega) (Nat.lt_of_le_of_lt hl (by decide))
  exact (eval_get_some this).trans rfl
end Go.Proofs.YtnglkhjpdpgahaaGreatDoor.Dm
