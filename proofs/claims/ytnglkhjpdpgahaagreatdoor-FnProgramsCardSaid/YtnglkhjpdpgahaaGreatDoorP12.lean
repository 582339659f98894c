/- Functions of the program, and what they compute. -/
import Derived.Test.YtnglkhjpdpgahaaGreatDoorP11
namespace Go.Proofs.YtnglkhjpdpgahaaGreatDoor.Dm
open Go Go.ChangeShapes Go.WideShapes Go.ChangeAt Go.RowKit
def asmP (t : Str) : Option (List InsD × Int) := if t.length ≤ 1000000 then some (asmV t) else none
def asmO : Nat → List InsD → List Str → List InsD ⊕ Nat
  | _, out, [] => .inl out
  | k, out, l :: r => if l = [] then asmO (k + 1) out r else
    if (insRV l).2.2.2.2 = true then (if 40 ≤ out.length then .inr (k + 1) else asmO (k + 1) (out ++ [((insRV l).1, (insRV l).2.1, (insRV l).2.2.1, (insRV l).2.2.2.1, ())]) r) else .inr (k + 1)
theorem asmO_eq : ∀ (ls : List Str) (k : Nat) (out : List InsD), asmGo k out ls = match asmO k out ls with
    | .inl z => (z, 0)
    | .inr k => ([], ((k : Nat) : Int))
  | [], k, out => rfl
  | l :: r, k, out => by
    unfold asmGo asmO
    by_cases h : l = []
    · rw [if_pos h, if_pos h]; exact asmO_eq r _ _
    · rw [if_neg h, if_neg h, insRV_of]
      by_cases q : (insRV l).2.2.2.2 = true
      · rw [if_pos q, if_pos q]
        dsimp only
        by_cases q2 : 40 ≤ out.length
        · rw [if_pos q2, if_pos q2]
        · rw [if_neg q2, if_neg q2]; exact asmO_eq r _ _
      · rw [if_neg q, if_neg q]
theorem lines_mem {t : Str} {x : Str} (h : x ∈ linesV t) : x.length ≤ t.length := by
  unfold linesV at h
  split at h
  · exact splitOn_le t x (List.dropLast_subset _ h)
  · exact splitOn_le t x h
theorem lines_len (t : Str) : (linesV t).length ≤ t.length + 1 := by
  have h1 := splitOn_len (c := 10) t
  have h2 := List.count_le_length (a := (10 : UInt8)) (l := t)
  unfold linesV
  split
  · rw [List.length_dropLast]; omega
  · omega
abbrev f13_S0 := (Int × Unit) × (List ((Int × Int × Int × Int × Unit)) × List (List UInt8) × Unit)
def f13_L0 : f13_S0 → Out (Round f13_S0 ((Unit) × (List ((Int × Int × Int × Int × Unit)) × Unit)) ((Int × Unit) × (List ((Int × Int × Int × Int × Unit)) × Unit)))
| ((p0, _), p1, p2, _) =>
 .ite (decide (p0 < ((List.length p2 : Nat) : Int)))
 (.ite (decide (0 ≤ p0 ∧ p0 < ((List.length p2 : Nat) : Int)))
 (.get (nth p2 (Int.toNat p0)) fun y1 =>
 .ite (y1 == ([] : List UInt8))
 (.ret (.again (((IntKind.i64.wrap (p0 + (1 : Int))), ()), (p1, p2, ()))))
 (.ite (decide (0 ≤ p0 ∧ p0 < ((List.length p2 : Nat) : Int)))
 (.get (nth p2 (Int.toNat p0)) fun y2 =>
 .get (readInsP y2) fun y3 =>
 .ite ((!y3.2.2.2.2) == false)
 (.ite (decide (((List.length p1 : Nat) : Int) ≥ (40 : Int)))
 (.ret (.ret (((IntKind.i64.wrap (p0 + (1 : Int))), ()), (([] : List ((Int × Int × Int × Int × Unit))), ()))))
 (.ite (decide (List.length p1 + List.length ([(y3.1, y3.2.1, y3.2.2.1, y3.2.2.2.1, ())] : List ((Int × Int × Int × Int × Unit))) ≤ LIM))
 (.ret (.again (((IntKind.i64.wrap (p0 + (1 : Int))), ()), ((p1 ++ ([(y3.1, y3.2.1, y3.2.2.1, y3.2.2.2.1, ())] : List ((Int × Int × Int × Int × Unit)))), p2, ()))))
 .fail))
 (.ret (.ret (((IntKind.i64.wrap (p0 + (1 : Int))), ()), (([] : List ((Int × Int × Int × Int × Unit))), ())))))
 .fail))
 .fail)
 (.ret (.out ((), (p1, ()))))
def f13_tree (a0 : List UInt8) : Out (((List (Int × Int × Int × Int × Unit) × Unit) × (Int × Unit) × Unit) × (Unit × Unit)) :=
 .get (linesS a0) fun y1 =>
 .get (iter f13_L0 FUEL (((0 : Int), ()), (([] : List ((Int × Int × Int × Int × Unit))), y1, ()))) fun y2 => .alt y2 (fun y3 =>
 .ret (((y3.2.1, ()), ((0 : Int), ()), ()), ((), ()))) (fun y4 =>
 .ret (((y4.2.1, ()), (y4.1.1, ()), ()), ((), ())))
def f13_A : Nat → Option LoopAnn := fun n => annOf [(0, { head := { t := dd 4 ++ [.srf 64000000, .srf 64000001, .i .i64] ++ dd 39, v := [(64000000, .arr tyN), (64000001, .arr .str)] }, out := { t := dd 4 ++ [.srf 64000256] ++ dd 41, v := [(64000256, .arr tyN)] }, ret := some { t := [.dead, .dead, .srf 64000512, .i .i64] ++ dd 42, v := [(64000512, .arr tyN)] } })] n
def k13 : Con := { f := 13, lend := true, its := [⟨false, false, [.s]⟩], lay := [none], rs := [⟨false, false, [.own tyN]⟩, ⟨false, false, [.i .i64]⟩], F := fun x => .get (asmP x.1.1) fun y => .ret (((y.1, ()), (y.2, ()), ()), ((), ())) }
theorem f13_eq (x : itemsD k13.its) : bo [k32, k33] f13_A Tryz.f13 k13 [.tmp 2, .tmp 3] x = f13_tree x.1.1 := by kernel_rfl
theorem f13_okp (hr : ∀ x : (List UInt8 × Unit) × Unit, itemsWF k13.its x → ∀ y, (k13.F x).eval = some y → (f13_tree x.1.1).eval = some y) : k13.Ok Tryz.prog := con_fn [k32, k33] ⟨k32_ok, k33_ok, trivial⟩ f13_eq hr
theorem asm_loop_s (ls : List Str) (hls : ls.length ≤ 1000001) (hb : ∀ w ∈ ls, w.length ≤ 1000000) : ∀ (m i N : Nat) (out : List InsD), i + m = ls.length → m < N → out.length ≤ 40 →
    iter f13_L0 N (((((i : Nat) : Int), ()), (out, ls, ()))) = some (match asmO i out (ls.drop i) with
      | .inl z => .inl ((), (z, ()))
      | .inr k => .inr ((((k : Nat) : Int), ()), (([] : List InsD), ()))) := by
  intro m
  induction m with
  | zero =>
    intro i N out hi hN ho
    rw [List.drop_eq_nil_of_le (by omega)]
    refine iter_out' ?_ hN
    unfold f13_L0
    rw [eval_ite_f (decide_eq_false (by omega))]; rfl
  | succ m ih =>
    intro i N out hi hN ho
    have hlt : i < ls.length := by omega
    have w1 := wrap_succ (i := i) (by unfold BIG; omega)
    have hr : readInsP ls[i] = some (insRV ls[i]) := if_pos (hb _ (List.getElem_mem hlt))
    rw [List.drop_eq_getElem_cons hlt]
    unfold asmO
    obtain ⟨N, rfl⟩ : ∃ N', N = N' + 1 := ⟨N - 1, by omega⟩
    have hs : (f13_L0 (((((i : Nat) : Int), ()), (out, ls, ())))).eval = some (if ls[i] = [] then .again (((((i + 1 : Nat) : Int), ()), (out, ls, ()))) else
        if (insRV ls[i]).2.2.2.2 = true then (if 40 ≤ out.length then .ret ((((i + 1 : Nat) : Int), ()), (([] : List InsD), ())) else .again (((((i + 1 : Nat) : Int), ()), ((out ++ [((insRV ls[i]).1, (insRV ls[i]).2.1, (insRV ls[i]).2.2.1, (insRV ls[i]).2.2.2.1, ())]), ls, ())))) else .ret ((((i + 1 : Nat) : Int), ()), (([] : List InsD), ()))) := by
      unfold f13_L0
      rw [eval_ite_t (decide_eq_true (by omega)), eval_ite_t (inr_t hlt)]
      refine (eval_get_some (nth_get hlt)).trans ?_
      by_cases h0 : ls[i] = []
      · rw [eval_ite_t (by simpa using h0), if_pos h0, w1]; rfl
      rw [eval_ite_f (by simpa using h0), if_neg h0]
      rw [eval_ite_t (inr_t hlt)]
      refine (eval_get_some (nth_get hlt)).trans ?_
      refine (eval_get_some hr).trans ?_
      by_cases h1 : (insRV ls[i]).2.2.2.2 = true
      · rw [eval_ite_t (by rw [h1]; rfl), if_pos h1]
        by_cases h2 : 40 ≤ out.length
        · rw [eval_ite_t (decide_eq_true (by omega)), if_pos h2, w1]; rfl
        · rw [eval_ite_f (decide_eq_false (by omega)), eval_ite_t (decide_eq_true (by rw [LIM_eq]; simp only [List.length_cons, List.length_nil]; omega)), if_neg h2, w1]; rfl
      · have h1 : (insRV ls[i]).2.2.2.2 = false := by simpa using h1
        rw [eval_ite_f (by rw [h1]; rfl), if_neg (by rw [h1]; decide), w1]; rfl
    by_cases h0 : ls[i] = []
    · rw [if_pos h0] at hs ⊢
      rw [iter_again hs, ih (i + 1) N out (by omega) (by omega) ho]
    rw [if_neg h0] at hs ⊢
    by_cases h1 : (insRV ls[i]).2.2.2.2 = true
    · rw [if_pos h1] at hs ⊢
      by_cases h2 : 40 ≤ out.length
      · rw [if_pos h2] at hs ⊢
        exact iter_ret' hs (by omega)
      · rw [if_neg h2] at hs ⊢
        rw [iter_again hs, ih (i + 1) N _ (by omega) (by omega) (by simp; omega)]
    · rw [if_neg h1] at hs ⊢
      exact iter_ret' hs (by omega)
theorem k13_ok : k13.Ok Tryz.prog := by
  refine f13_okp fun x hw y hy => ?_
  obtain ⟨⟨a0, _⟩, _⟩ := x
  change (Out.get (asmP a0) fun y => Out.ret (((y.1, ()), (y.2, ()), ()), ((), ()))).eval = some y at hy
  show (f13_tree a0).eval = some y
  unfold asmP at hy
  by_cases hl : List.length a0 ≤ 1000000
  case neg => rw [if_neg hl] at hy; exact nomatch hy
  rw [if_pos hl] at hy
  refine Eq.trans ?_ hy
  unfold f13_tree asmV
  refine (eval_get_some (if_pos (by omega) : linesS a0 = some (linesV a0))).trans ?_
  have h1 := lines_len a0
  have key := asm_loop_s (linesV a0) (by omega) (fun w hw => Nat.le_trans (lines_mem hw) hl) (linesV a0).length 0 FUEL [] (by omega) (lt_fuel (by unfold BIG; omega)) (by simp)
  refine (eval_get_some key).trans ?_
  rw [List.drop_zero, asmO_eq]
  cases asmO 0 [] (linesV a0) with
  | inl z => exact (eval_alt_l _).trans rfl
  | inr k => exact (eval_alt_r _).trans rfl
abbrev f8_S0 := (Int × Int × Unit) × (List ((Int × Int × Int × Int × Unit)) × List (List UInt8) × Unit)
def f8_L0 : f8_S0 → Out (Round f8_S0 ((Unit) × (List ((Int × Int × Int × Int × Unit)) × Unit)) ((Int × Unit) × (List ((Int × Int × Int × Int × Unit)) × Unit)))
| ((p0, p1, _), p2, p3, _) =>
 .ite (decide (p1 < p0))
 (.ite (decide (0 ≤ p1 ∧ p1 < ((List.length p3 : Nat) : Int)))
 (.get (nth p3 (Int.toNat p1)) fun y1 =>
 .ite (y1 == ([] : List UInt8))
 (.ret (.again ((p0, (IntKind.i64.wrap (p1 + (1 : Int))), ()), (p2, p3, ()))))
 (.get (readInsP y1) fun y2 =>
 .ite ((!y2.2.2.2.2) == false)
 (.ite ((((List.length p2 : Nat) : Int) == (40 : Int)))
 (.ret (.ret (((IntKind.i64.wrap (p1 + (1 : Int))), ()), (([] : List ((Int × Int × Int × Int × Unit))), ()))))
 (.ite (decide (List.length p2 + List.length ([(y2.1, y2.2.1, y2.2.2.1, y2.2.2.2.1, ())] : List ((Int × Int × Int × Int × Unit))) ≤ LIM))
 (.ret (.again ((p0, (IntKind.i64.wrap (p1 + (1 : Int))), ()), ((p2 ++ ([(y2.1, y2.2.1, y2.2.2.1, y2.2.2.2.1, ())] : List ((Int × Int × Int × Int × Unit)))), p3, ()))))
 .fail))
 (.ret (.ret (((IntKind.i64.wrap (p1 + (1 : Int))), ()), (([] : List ((Int × Int × Int × Int × Unit))), ()))))))
 .fail)
 (.ret (.out ((), (p2, ()))))
def f8_tree (a0 : List UInt8) : Out (((List (Int × Int × Int × Int × Unit) × Unit) × (Int × Unit) × Unit) × (Unit × Unit)) :=
 .get (linesP a0) fun y1 =>
 .get (iter f8_L0 FUEL ((((List.length y1 : Nat) : Int), (0 : Int), ()), (([] : List ((Int × Int × Int × Int × Unit))), y1, ()))) fun y2 => .alt y2 (fun y3 =>
 .ret (((y3.2.1, ()), ((0 : Int), ()), ()), ((), ()))) (fun y4 =>
 .ret (((y4.2.1, ()), (y4.1.1, ()), ()), ((), ())))
def f8_A : Nat → Option LoopAnn := fun n => annOf [(0, { head := { t := dd 4 ++ [.srf 64000000] ++ dd 6 ++ [.srf 64000001, .i .i64, .i .i64] ++ dd 26, v := [(64000000, .arr tyN), (64000001, .arr .str)] }, out := { t := dd 4 ++ [.srf 64000256] ++ dd 35, v := [(64000256, .arr tyN)] }, ret := some { t := [.dead, .dead, .srf 64000512, .i .i64] ++ dd 36, v := [(64000512, .arr tyN)] } })] n
def k8 : Con := { f := 8, lend := true, its := [⟨false, false, [.s]⟩], lay := [none], rs := [⟨false, false, [.own tyN]⟩, ⟨false, false, [.i .i64]⟩], F := fun x => .get (asmP x.1.1) fun y => .ret (((y.1, ()), (y.2, ()), ()), ((), ())) }
theorem f8_eq (x : itemsD k8.its) : bo [k19, k20] f8_A Tryz.f8 k8 [.tmp 2, .tmp 3] x = f8_tree x.1.1 := by kernel_rfl
theorem f8_okp (hr : ∀ x : (List UInt8 × Unit) × Unit, itemsWF k8.its x → ∀ y, (k8.F x).eval = some y → (f8_tree x.1.1).eval = some y) : k8.Ok Tryz.prog := con_fn [k19, k20] ⟨k19_ok, k20_ok, trivial⟩ f8_eq hr
theorem asm_loop_i (ls : List Str) (hls : ls.length ≤ 1000001) (hb : ∀ w ∈ ls, w.length ≤ 1000000) : ∀ (m i N : Nat) (out : List InsD), i + m = ls.length → m < N → out.length ≤ 40 →
    iter f8_L0 N (((((ls.length : Nat) : Int), ((i : Nat) : Int), ()), (out, ls, ()))) = some (match asmO i out (ls.drop i) with
      | .inl z => .inl ((), (z, ()))
      | .inr k => .inr ((((k : Nat) : Int), ()), (([] : List InsD), ()))) := by
  intro m
  induction m with
  | zero =>
    intro i N out hi hN ho
    rw [List.drop_eq_nil_of_le (by omega)]
    refine iter_out' ?_ hN
    unfold f8_L0
    rw [eval_ite_f (decide_eq_false (by omega))]; rfl
  | succ m ih =>
    intro i N out hi hN ho
    have hlt : i < ls.length := by omega
    have w1 := wrap_succ (i := i) (by unfold BIG; omega)
    have hr : readInsP ls[i] = some (insRV ls[i]) := if_pos (hb _ (List.getElem_mem hlt))
    rw [List.drop_eq_getElem_cons hlt]
    unfold asmO
    obtain ⟨N, rfl⟩ : ∃ N', N = N' + 1 := ⟨N - 1, by omega⟩
    have hs : (f8_L0 (((((ls.length : Nat) : Int), ((i : Nat) : Int), ()), (out, ls, ())))).eval = some (if ls[i] = [] then .again (((((ls.length : Nat) : Int), ((i + 1 : Nat) : Int), ()), (out, ls, ()))) else
        if (insRV ls[i]).2.2.2.2 = true then (if 40 ≤ out.length then .ret ((((i + 1 : Nat) : Int), ()), (([] : List InsD), ())) else .again (((((ls.length : Nat) : Int), ((i + 1 : Nat) : Int), ()), ((out ++ [((insRV ls[i]).1, (insRV ls[i]).2.1, (insRV ls[i]).2.2.1, (insRV ls[i]).2.2.2.1, ())]), ls, ())))) else .ret ((((i + 1 : Nat) : Int), ()), (([] : List InsD), ()))) := by
      unfold f8_L0
      rw [eval_ite_t (decide_eq_true (by omega)), eval_ite_t (inr_t hlt)]
      refine (eval_get_some (nth_get hlt)).trans ?_
      by_cases h0 : ls[i] = []
      · rw [eval_ite_t (by simpa using h0), if_pos h0, w1]; rfl
      rw [eval_ite_f (by simpa using h0), if_neg h0]
      refine (eval_get_some hr).trans ?_
      by_cases h1 : (insRV ls[i]).2.2.2.2 = true
      · rw [eval_ite_t (by rw [h1]; rfl), if_pos h1]
        by_cases h2 : 40 ≤ out.length
        · rw [eval_ite_t (by simp; omega), if_pos h2, w1]; rfl
        · rw [eval_ite_f (by simp; omega), eval_ite_t (decide_eq_true (by rw [LIM_eq]; simp only [List.length_cons, List.length_nil]; omega)), if_neg h2, w1]; rfl
      · have h1 : (insRV ls[i]).2.2.2.2 = false := by simpa using h1
        rw [eval_ite_f (by rw [h1]; rfl), if_neg (by rw [h1]; decide), w1]; rfl
    by_cases h0 : ls[i] = []
    · rw [if_pos h0] at hs ⊢
      rw [iter_again hs, ih (i + 1) N out (by omega) (by omega) ho]
    rw [if_neg h0] at hs ⊢
    by_cases h1 : (insRV ls[i]).2.2.2.2 = true
    · rw [if_pos h1] at hs ⊢
      by_cases h2 : 40 ≤ out.length
      · rw [if_pos h2] at hs ⊢
        exact iter_ret' hs (by omega)
      · rw [if_neg h2] at hs ⊢
        rw [iter_again hs, ih (i + 1) N _ (by omega) (by omega) (by simp; omega)]
    · rw [if_neg h1] at hs ⊢
      exact iter_ret' hs (by omega)
theorem k8_ok : k8.Ok Tryz.prog := by
  refine f8_okp fun x hw y hy => ?_
  obtain ⟨⟨a0, _⟩, _⟩ := x
  change (Out.get (asmP a0) fun y => Out.ret (((y.1, ()), (y.2, ()), ()), ((), ()))).eval = some y at hy
  show (f8_tree a0).eval = some y
  unfold asmP at hy
  by_cases hl : List.length a0 ≤ 1000000
  case neg => rw [if_neg hl] at hy; exact nomatch hy
  rw [if_pos hl] at hy
  refine Eq.trans ?_ hy
  unfold f8_tree asmV
  refine (eval_get_some (if_pos (by omega) : linesP a0 = some (linesV a0))).trans ?_
  have h1 := lines_len a0
  have key := asm_loop_i (linesV a0) (by omega) (fun w hw => Nat.le_trans (lines_mem hw) hl) (linesV a0).length 0 FUEL [] (by omega) (lt_fuel (by unfold BIG; omega)) (by simp)
  refine (eval_get_some key).trans ?_
  rw [List.drop_zero, asmO_eq]
  cases asmO 0 [] (linesV a0) with
  | inl z => exact (eval_alt_l _).trans rfl
  | inr k => exact (eval_alt_r _).trans rfl
end Go.Proofs.YtnglkhjpdpgahaaGreatDoor.Dm
