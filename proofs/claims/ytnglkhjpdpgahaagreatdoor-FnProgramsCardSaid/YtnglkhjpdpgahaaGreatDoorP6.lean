/- Functions of the program, and what they compute. -/
import Derived.Test.YtnglkhjpdpgahaaGreatDoorP4
import Derived.Test.YtnglkhjpdpgahaaGreatDoorShelf
import Derived.Test.YtnglkhjpdpgahaaGreatDoorIt
namespace Go.Proofs.YtnglkhjpdpgahaaGreatDoor.Dm
open Go Go.ChangeShapes Go.WideShapes Go.ChangeAt Go.RowKit
abbrev opNamesL : List Str := opNamesV
def f21_tree  : Out (((List (List UInt8) × Unit) × Unit) × (Unit)) :=
 .ret (((([([] : List UInt8), ([115, 101, 116] : List UInt8), ([97, 100, 100] : List UInt8), ([115, 117, 98] : List UInt8), ([108, 111, 97, 100] : List UInt8), ([115, 116, 111, 114, 101] : List UInt8), ([106, 117, 109, 112] : List UInt8), ([122, 101, 114, 111] : List UInt8), ([115, 121, 115] : List UInt8)] : List (List UInt8)), ()), ()), ())
def k21 : Con := { f := 21, lend := true, its := [], lay := [], rs := [⟨false, false, [.own .str]⟩], F := fun x => .ret ((((opNamesL), ()), ()), ()) }
theorem f21_eq (x : itemsD k21.its) : bo [] (fun _ => none) Tryz.f21 k21 [.tmp 0] x = f21_tree  := by kernel_rfl
theorem f21_ok (hr : ∀ x : Unit, itemsWF k21.its x → (f21_tree ).eval = (k21.F x).eval) : k21.Ok Tryz.prog := con_fn [] trivial f21_eq fun x hw _ hy => (hr x hw).trans hy
theorem k21_ok : k21.Ok Tryz.prog := f21_ok fun _ _ => rfl
theorem form_nth : ∀ n, n < 9 → nth opFormsV n = some (formV n) := by decide
theorem form_len : ∀ n, n < 9 → (formV n).length ≤ 3 := by decide
theorem name_nth : ∀ n, n < 9 → nth opNamesV n = some (opNamesV.getD n []) := by decide
theorem name_len : ∀ n, n < 9 → (opNamesV.getD n []).length ≤ 5 := by decide
def opFormI (o : Int) : Option Str := if 0 ≤ o ∧ o ≤ 8 then some (formV o.toNat) else none
def f22_tree (a0 : Int) : Out (((List UInt8 × Unit) × Unit) × (Unit × Unit)) :=
 .ite (decide (0 ≤ a0 ∧ a0 < ((List.length ([([] : List UInt8), ([114, 110] : List UInt8), ([114, 114, 114] : List UInt8), ([114, 114, 114] : List UInt8), ([114, 114] : List UInt8), ([114, 114] : List UInt8), ([110] : List UInt8), ([114, 110] : List UInt8), ([110] : List UInt8)] : List (List UInt8)) : Nat) : Int)))
 (.get (nth ([([] : List UInt8), ([114, 110] : List UInt8), ([114, 114, 114] : List UInt8), ([114, 114, 114] : List UInt8), ([114, 114] : List UInt8), ([114, 114] : List UInt8), ([110] : List UInt8), ([114, 110] : List UInt8), ([110] : List UInt8)] : List (List UInt8)) (Int.toNat a0)) fun y1 =>
 .ret (((y1, ()), ()), ((), ())))
 .fail
def k22 : Con := { f := 22, lend := true, its := [⟨false, false, [.i .i64]⟩], lay := [none], rs := [⟨false, false, [.s]⟩], F := fun x => .get (opFormI x.1.1) fun y => .ret (((y, ()), ()), ((), ())) }
theorem f22_eq (x : itemsD k22.its) : bo [] (fun _ => none) Tryz.f22 k22 [.tmp 2] x = f22_tree x.1.1 := by kernel_rfl
theorem f22_ok (hr : ∀ x : (Int × Unit) × Unit, itemsWF k22.its x → (f22_tree x.1.1).eval = (k22.F x).eval) : k22.Ok Tryz.prog := con_fn [] trivial f22_eq fun x hw _ hy => (hr x hw).trans hy
theorem k22_ok : k22.Ok Tryz.prog := by
  refine f22_ok fun x hw => ?_
  obtain ⟨⟨a0, _⟩, _⟩ := x
  show (f22_tree a0).eval = (Out.get (opFormI a0) fun y => Out.ret (((y, ()), ()), ((), ()))).eval
  unfold f22_tree opFormI
  by_cases h : 0 ≤ a0 ∧ a0 ≤ 8
  · have e : decide (0 ≤ a0 ∧ a0 < ((List.length opFormsV : Nat) : Int)) = true := decide_eq_true (by show 0 ≤ a0 ∧ a0 < 9; omega)
    rw [if_pos h, eval_ite_t e]
    exact (eval_get_some (form_nth a0.toNat (by omega))).trans rfl
  · have e : decide (0 ≤ a0 ∧ a0 < ((List.length opFormsV : Nat) : Int)) = false := decide_eq_false (by show ¬ (0 ≤ a0 ∧ a0 < 9); omega)
    rw [if_neg h, eval_ite_f e]; rfl
def k43 : Con := { f := 43, lend := true, its := [⟨false, false, [.s]⟩, ⟨false, false, [.s]⟩], lay := [none, none], rs := [⟨false, false, [.own .str]⟩], F := fun x => .get (splitP x.1.1 x.2.1.1) fun y => .ret (((y, ()), ()), ((), (), ())) }
theorem k43_ok : k43.Ok Tryz.prog := con_split (g := 0) ⟨⟨_, Tryz.func43, by kernel_rfl, by kernel_rfl⟩⟩ (by simp [tabs]) fun s sep m w hs hm h1 => Tryz.strings_Split s sep m w hs hm h1
def linesP (s : Str) : Option (List Str) := if s.length ≤ 4000000000 then some (linesV s) else none
theorem splitP_in {s : Str} {c : UInt8} (h : s.length ≤ 4000000000) : splitP s [c] = some (splitOn c s) := if_pos ⟨h, rfl⟩
theorem lines_eq (l : List Str) (hl : l ≠ []) : (if l.getLast? = some [] then l.dropLast else l) = if l.getLast hl = [] then l.dropLast else l := by
  rw [List.getLast?_eq_some_getLast hl]
  by_cases h : l.getLast hl = [] <;> simp [h]
def f19_tree (a0 : List UInt8) : Out (((List (List UInt8) × Unit) × Unit) × (Unit × Unit)) :=
 .get (splitP a0 ([10] : List UInt8)) fun y1 =>
 .ite (decide (0 ≤ (IntKind.i64.wrap (((List.length y1 : Nat) : Int) - (1 : Int))) ∧ (IntKind.i64.wrap (((List.length y1 : Nat) : Int) - (1 : Int))) < ((List.length y1 : Nat) : Int)))
 (.get (nth y1 (Int.toNat (IntKind.i64.wrap (((List.length y1 : Nat) : Int) - (1 : Int))))) fun y2 =>
 .ite (y2 == ([] : List UInt8))
 (.ite (decide (0 ≤ (0 : Int) ∧ (0 : Int) ≤ (IntKind.i64.wrap (((List.length y1 : Nat) : Int) - (1 : Int))) ∧ (IntKind.i64.wrap (((List.length y1 : Nat) : Int) - (1 : Int))) ≤ ((List.length y1 : Nat) : Int)))
 (.ret ((((List.take (Int.toNat (IntKind.i64.wrap (((List.length y1 : Nat) : Int) - (1 : Int))) - Int.toNat (0 : Int)) (List.drop (0 + Int.toNat (0 : Int)) y1)), ()), ()), ((), ())))
 .fail)
 (.ret (((y1, ()), ()), ((), ()))))
 .fail
def k19 : Con := { f := 19, lend := true, its := [⟨false, false, [.s]⟩], lay := [none], rs := [⟨false, false, [.own .str]⟩], F := fun x => .get (linesP x.1.1) fun y => .ret (((y, ()), ()), ((), ())) }
theorem f19_eq (x : itemsD k19.its) : bo [k43] (fun _ => none) Tryz.f19 k19 [.tmp 2] x = f19_tree x.1.1 := by kernel_rfl
theorem f19_okp (hr : ∀ x : (List UInt8 × Unit) × Unit, itemsWF k19.its x → ∀ y, (k19.F x).eval = some y → (f19_tree x.1.1).eval = some y) : k19.Ok Tryz.prog := con_fn [k43] ⟨k43_ok, trivial⟩ f19_eq hr
theorem k19_ok : k19.Ok Tryz.prog := by
  refine f19_okp fun x hw y hy => ?_
  obtain ⟨⟨a0, _⟩, _⟩ := x
  change (Out.get (linesP a0) fun y => Out.ret (((y, ()), ()), ((), ()))).eval = some y at hy
  show (f19_tree a0).eval = some y
  unfold linesP at hy
  by_cases hl : List.length a0 ≤ 4000000000
  case neg => rw [if_neg hl] at hy; exact nomatch hy
  rw [if_pos hl] at hy
  refine Eq.trans ?_ hy
  unfold f19_tree linesV
  have hne := splitOn_ne 10 a0
  have hlen : (splitOn 10 a0).length ≤ 4000000001 := by
    rw [splitOn_len]
    have := List.count_le_length (a := (10 : UInt8)) (l := a0)
    omega
  have hpos := List.length_pos_iff.2 hne
  refine (eval_get_some (splitP_in hl)).trans ?_
  rw [lines_eq _ hne]
  have hg : (splitOn 10 a0)[(splitOn 10 a0).length - 1]? = some ((splitOn 10 a0).getLast hne) := by
    rw [← List.getLast?_eq_getElem?]
    exact List.getLast?_eq_some_getLast hne
  generalize hL : (splitOn 10 a0).getLast hne = last at hg ⊢
  generalize splitOn 10 a0 = l at *
  have w : IntKind.i64.wrap (((List.length l : Nat) : Int) - 1) = ((l.length - 1 : Nat) : Int) := by rw [wrap_id (by omega) (by omega)]; omega
  rw [w, eval_ite_t (inr_t (by omega)), Int.toNat_natCast]
  refine (eval_get_some hg).trans ?_
  by_cases q : last = []
  · rw [if_pos q, eval_ite_t (by simpa using q), eval_ite_t (decide_eq_true (by omega))]
    show some (((List.take (l.length - 1 - 0) (List.drop (0 + 0) l), ()), ()), ((), ())) = _
    rw [Nat.sub_zero, Nat.add_zero, List.drop_zero, ← List.dropLast_eq_take]
    rfl
  · rw [if_neg q, eval_ite_f (by simpa using q)]; rfl
def wordsP (s : Str) : Option (List Str) := if s.length ≤ 4000000000 then some (splitOn 32 s) else none
theorem byte_eq (b c : UInt8) : (((UInt8.toNat b : Nat) : Int) == ((UInt8.toNat c : Nat) : Int)) = decide (b = c) := by
  rw [Bool.eq_iff_iff]
  simp only [beq_iff_eq, decide_eq_true_eq]
  constructor
  · intro h; exact UInt8.toNat_inj.1 (by omega)
  · rintro rfl; rfl
theorem cut_bound {c : UInt8} {s : Str} : ∀ (suf : Str) (d : List Str × Nat × Nat), (suf.foldl (cutG c s) d).1.length ≤ d.1.length + suf.length
  | [], d => Nat.le_refl _
  | b :: r, d => by
    rw [List.foldl_cons, List.length_cons]
    have := cut_bound (c := c) (s := s) r (cutG c s d b)
    have h2 : (cutG c s d b).1.length ≤ d.1.length + 1 := by
      unfold cutG
      split <;> simp
    omega
abbrev f55_S0 := (List UInt8 × Int × Int × Unit) × (List (List UInt8) × Unit)
def f55_L0 : f55_S0 → Out (Round f55_S0 ((List UInt8 × Int × Unit) × (List (List UInt8) × Unit)) Empty)
| ((p0, p1, p2, _), p3, _) =>
 .ite (decide (p2 < ((List.length p0 : Nat) : Int)))
 (.ite (decide (0 ≤ p2))
 (.get (nth p0 (Int.toNat p2)) fun y1 =>
 .ite ((((UInt8.toNat y1 : Nat) : Int) == (32 : Int)))
 (.ite (decide (0 ≤ p1 ∧ p1 ≤ p2 ∧ p2 ≤ ((List.length p0 : Nat) : Int)))
 (.ite (decide (List.length p3 + List.length ([(List.drop (Int.toNat p1) (List.take (Int.toNat p2) p0))] : List (List UInt8)) ≤ LIM))
 (.ret (.again ((p0, (IntKind.i64.wrap (p2 + (1 : Int))), (IntKind.i64.wrap (p2 + (1 : Int))), ()), ((p3 ++ ([(List.drop (Int.toNat p1) (List.take (Int.toNat p2) p0))] : List (List UInt8))), ()))))
 .fail)
 .fail)
 (.ret (.again ((p0, p1, (IntKind.i64.wrap (p2 + (1 : Int))), ()), (p3, ())))))
 .fail)
 (.ret (.out ((p0, p1, ()), (p3, ()))))
def f55_tree (a0 : List UInt8) : Out (((List (List UInt8) × Unit) × Unit) × (Unit × Unit)) :=
 .get (iter1 f55_L0 FUEL ((a0, (0 : Int), (0 : Int), ()), (([] : List (List UInt8)), ()))) fun y1 =>
 .ite (decide (0 ≤ y1.1.2.1 ∧ y1.1.2.1 ≤ ((List.length y1.1.1 : Nat) : Int)))
 (.ite (decide (List.length y1.2.1 + List.length ([(List.drop (Int.toNat y1.1.2.1) y1.1.1)] : List (List UInt8)) ≤ LIM))
 (.ret ((((y1.2.1 ++ ([(List.drop (Int.toNat y1.1.2.1) y1.1.1)] : List (List UInt8))), ()), ()), ((), ())))
 .fail)
 .fail
def f55_A : Nat → Option LoopAnn := fun n => annOf [(0, { head := { t := [.s, .dead, .dead, .srf 64000000, .i .i64, .i .i64] ++ dd 26, v := [(64000000, .arr .str)] }, out := { t := [.s, .dead, .dead, .srf 64000256, .i .i64] ++ dd 27, v := [(64000256, .arr .str)] }, ret := none })] n
def k55 : Con := { f := 55, lend := true, its := [⟨false, false, [.s]⟩], lay := [none], rs := [⟨false, false, [.own .str]⟩], F := fun x => .get (wordsP x.1.1) fun y => .ret (((y, ()), ()), ((), ())) }
theorem f55_eq (x : itemsD k55.its) : bo [] f55_A Tryz.f55 k55 [.tmp 2] x = f55_tree x.1.1 := by kernel_rfl
theorem f55_okp (hr : ∀ x : (List UInt8 × Unit) × Unit, itemsWF k55.its x → ∀ y, (k55.F x).eval = some y → (f55_tree x.1.1).eval = some y) : k55.Ok Tryz.prog := con_fn [] trivial f55_eq hr
theorem k55_ok : k55.Ok Tryz.prog := by
  refine f55_okp fun x hw y hy => ?_
  obtain ⟨⟨a0, _⟩, _⟩ := x
  change (Out.get (wordsP a0) fun y => Out.ret (((y, ()), ()), ((), ()))).eval = some y at hy
  show (f55_tree a0).eval = some y
  unfold wordsP at hy
  by_cases hl : List.length a0 ≤ 4000000000
  case neg => rw [if_neg hl] at hy; exact nomatch hy
  rw [if_pos hl] at hy
  refine Eq.trans ?_ hy
  unfold f55_tree
  have key : iter1 f55_L0 FUEL ((a0, (0 : Int), (0 : Int), ()), (([] : List (List UInt8)), ())) = some ((a0, (((a0.foldl (cutG 32 a0) ([], 0, 0)).2.1 : Nat) : Int), ()), ((a0.foldl (cutG 32 a0) ([], 0, 0)).1, ())) :=
    foldl_loop (f := f55_L0) (fun (d : List Str × Nat × Nat) i => d.2.2 = i ∧ d.2.1 ≤ i ∧ d.1.length ≤ i) (cutG 32 a0) a0 (fun d i => ((a0, ((d.2.1 : Nat) : Int), ((i : Nat) : Int), ()), (d.1, ()))) (fun d => ((a0, ((d.2.1 : Nat) : Int), ()), (d.1, ())))
      (fun i hi d hd => by
        obtain ⟨h1, h2, h3⟩ := hd
        have h4 := wrap_succ (i := i) (by unfold BIG; omega)
        unfold f55_L0 cutG
        dsimp only
        rw [eval_ite_t (decide_eq_true (by omega)), eval_ite_t (ge0 i)]
        refine (eval_get_some (nth_get hi)).trans ?_
        by_cases q : a0[i] = 32
        · rw [eval_ite_t (by rw [show (32 : Int) = ((UInt8.toNat 32 : Nat) : Int) from rfl, byte_eq]; exact decide_eq_true q), eval_ite_t (decide_eq_true (by omega)), eval_ite_t (decide_eq_true (by rw [LIM_eq]; simp only [List.length_cons, List.length_nil]; omega)), if_pos q]
          show some _ = _
          rw [h4, h1, Int.toNat_natCast, Int.toNat_natCast, List.drop_take]
        · rw [eval_ite_f (by rw [show (32 : Int) = ((UInt8.toNat 32 : Nat) : Int) from rfl, byte_eq]; exact decide_eq_false q), if_neg q]
          show some _ = _
          rw [h4])
      (fun d _ => by unfold f55_L0; rw [eval_ite_f (decide_eq_false (by show ¬ (((List.length a0 : Nat) : Int) < ((List.length a0 : Nat) : Int)); omega))]; rfl)
      (fun i hi d hd => by
        obtain ⟨h1, h2, h3⟩ := hd
        unfold cutG
        split
        · exact ⟨by dsimp only; omega, by dsimp only; omega, by simp; omega⟩
        · exact ⟨by dsimp only; omega, by dsimp only; omega, by dsimp only; omega⟩) (by unfold BIG; omega) ([], 0, 0) ⟨rfl, Nat.le_refl _, Nat.le_refl _⟩
  refine (eval_get_some key).trans ?_
  obtain ⟨c1, c2⟩ := cut_all 32 a0
  have c3 := cut_bound (c := 32) (s := a0) a0 ([], 0, 0)
  simp only [List.length_nil, Nat.zero_add] at c3
  generalize a0.foldl (cutG 32 a0) ([], 0, 0) = d at *
  rw [eval_ite_t (decide_eq_true (by dsimp only; omega)), eval_ite_t (decide_eq_true (by rw [LIM_eq]; simp only [List.length_cons, List.length_nil]; omega)), c2]
  rfl
def linesS (s : Str) : Option (List Str) := linesP s
theorem linesV_cut {t : Str} {o : List Str} {r : Str} (h : splitOn 10 t = o ++ [r]) : linesV t = if r = [] then o else o ++ [r] := by
  unfold linesV
  rw [h, List.getLast?_append]
  by_cases q : r = [] <;> simp [q]
abbrev f32_S0 := (List UInt8 × Int × Int × Unit) × (List (List UInt8) × Unit)
def f32_L0 : f32_S0 → Out (Round f32_S0 ((List UInt8 × Int × Unit) × (List (List UInt8) × Unit)) Empty)
| ((p0, p1, p2, _), p3, _) =>
 .ite (decide (p2 < ((List.length p0 : Nat) : Int)))
 (.ite (decide (0 ≤ p2))
 (.get (nth p0 (Int.toNat p2)) fun y1 =>
 .ite ((((UInt8.toNat y1 : Nat) : Int) == (10 : Int)))
 (.ite (decide (0 ≤ p1 ∧ p1 ≤ p2 ∧ p2 ≤ ((List.length p0 : Nat) : Int)))
 (.ite (decide (List.length p3 + List.length ([(List.drop (Int.toNat p1) (List.take (Int.toNat p2) p0))] : List (List UInt8)) ≤ LIM))
 (.ret (.again ((p0, (IntKind.i64.wrap (p2 + (1 : Int))), (IntKind.i64.wrap (p2 + (1 : Int))), ()), ((p3 ++ ([(List.drop (Int.toNat p1) (List.take (Int.toNat p2) p0))] : List (List UInt8))), ()))))
 .fail)
 .fail)
 (.ret (.again ((p0, p1, (IntKind.i64.wrap (p2 + (1 : Int))), ()), (p3, ())))))
 .fail)
 (.ret (.out ((p0, p1, ()), (p3, ()))))
def f32_tree (a0 : List UInt8) : Out (((List (List UInt8) × Unit) × Unit) × (Unit × Unit)) :=
 .get (iter1 f32_L0 FUEL ((a0, (0 : Int), (0 : Int), ()), (([] : List (List UInt8)), ()))) fun y1 =>
 .ite (decide (y1.1.2.1 < ((List.length y1.1.1 : Nat) : Int)))
 (.ite (decide (0 ≤ y1.1.2.1 ∧ y1.1.2.1 ≤ ((List.length y1.1.1 : Nat) : Int)))
 (.ite (decide (List.length y1.2.1 + List.length ([(List.drop (Int.toNat y1.1.2.1) y1.1.1)] : List (List UInt8)) ≤ LIM))
 (.ret ((((y1.2.1 ++ ([(List.drop (Int.toNat y1.1.2.1) y1.1.1)] : List (List UInt8))), ()), ()), ((), ())))
 .fail)
 .fail)
 (.ret (((y1.2.1, ()), ()), ((), ())))
def f32_A : Nat → Option LoopAnn := fun n => annOf [(0, { head := { t := [.s, .dead, .dead, .srf 64000000, .i .i64, .i .i64] ++ dd 31, v := [(64000000, .arr .str)] }, out := { t := [.s, .dead, .dead, .srf 64000256, .i .i64] ++ dd 32, v := [(64000256, .arr .str)] }, ret := none })] n
def k32 : Con := { f := 32, lend := true, its := [⟨false, false, [.s]⟩], lay := [none], rs := [⟨false, false, [.own .str]⟩], F := fun x => .get (linesS x.1.1) fun y => .ret (((y, ()), ()), ((), ())) }
theorem f32_eq (x : itemsD k32.its) : bo [] f32_A Tryz.f32 k32 [.tmp 2] x = f32_tree x.1.1 := by kernel_rfl
theorem f32_okp (hr : ∀ x : (List UInt8 × Unit) × Unit, itemsWF k32.its x → ∀ y, (k32.F x).eval = some y → (f32_tree x.1.1).eval = some y) : k32.Ok Tryz.prog := con_fn [] trivial f32_eq hr
theorem k32_ok : k32.Ok Tryz.prog := by
  refine f32_okp fun x hw y hy => ?_
  obtain ⟨⟨a0, _⟩, _⟩ := x
  change (Out.get (linesS a0) fun y => Out.ret (((y, ()), ()), ((), ()))).eval = some y at hy
  show (f32_tree a0).eval = some y
  unfold linesS linesP at hy
  by_cases hl : List.length a0 ≤ 4000000000
  case neg => rw [if_neg hl] at hy; exact nomatch hy
  rw [if_pos hl] at hy
  refine Eq.trans ?_ hy
  unfold f32_tree
  have key : iter1 f32_L0 FUEL ((a0, (0 : Int), (0 : Int), ()), (([] : List (List UInt8)), ())) = some ((a0, (((a0.foldl (cutG 10 a0) ([], 0, 0)).2.1 : Nat) : Int), ()), ((a0.foldl (cutG 10 a0) ([], 0, 0)).1, ())) :=
    foldl_loop (f := f32_L0) (fun (d : List Str × Nat × Nat) i => d.2.2 = i ∧ d.2.1 ≤ i ∧ d.1.length ≤ i) (cutG 10 a0) a0 (fun d i => ((a0, ((d.2.1 : Nat) : Int), ((i : Nat) : Int), ()), (d.1, ()))) (fun d => ((a0, ((d.2.1 : Nat) : Int), ()), (d.1, ())))
      (fun i hi d hd => by
        obtain ⟨h1, h2, h3⟩ := hd
        have h4 := wrap_succ (i := i) (by unfold BIG; omega)
        unfold f32_L0 cutG
        dsimp only
        rw [eval_ite_t (decide_eq_true (by omega)), eval_ite_t (ge0 i)]
        refine (eval_get_some (nth_get hi)).trans ?_
        by_cases q : a0[i] = 10
        · rw [eval_ite_t (by rw [show (10 : Int) = ((UInt8.toNat 10 : Nat) : Int) from rfl, byte_eq]; exact decide_eq_true q), eval_ite_t (decide_eq_true (by omega)), eval_ite_t (decide_eq_true (by rw [LIM_eq]; simp only [List.length_cons, List.length_nil]; omega)), if_pos q]
          show some _ = _
          rw [h4, h1, Int.toNat_natCast, Int.toNat_natCast, List.drop_take]
        · rw [eval_ite_f (by rw [show (10 : Int) = ((UInt8.toNat 10 : Nat) : Int) from rfl, byte_eq]; exact decide_eq_false q), if_neg q]
          show some _ = _
          rw [h4])
      (fun d _ => by unfold f32_L0; rw [eval_ite_f (decide_eq_false (by show ¬ (((List.length a0 : Nat) : Int) < ((List.length a0 : Nat) : Int)); omega))]; rfl)
      (fun i hi d hd => by
        obtain ⟨h1, h2, h3⟩ := hd
        unfold cutG
        split
        · exact ⟨by dsimp only; omega, by dsimp only; omega, by simp; omega⟩
        · exact ⟨by dsimp only; omega, by dsimp only; omega, by dsimp only; omega⟩) (by unfold BIG; omega) ([], 0, 0) ⟨rfl, Nat.le_refl _, Nat.le_refl _⟩
  refine (eval_get_some key).trans ?_
  obtain ⟨c1, c2⟩ := cut_all 10 a0
  have c3 := cut_bound (c := 10) (s := a0) a0 ([], 0, 0)
  simp only [List.length_nil, Nat.zero_add] at c3
  generalize a0.foldl (cutG 10 a0) ([], 0, 0) = d at *
  rw [linesV_cut c2]
  by_cases q : d.2.1 < a0.length
  · rw [eval_ite_t (decide_eq_true (by dsimp only; omega)), eval_ite_t (decide_eq_true (by dsimp only; omega)), eval_ite_t (decide_eq_true (by rw [LIM_eq]; simp only [List.length_cons, List.length_nil]; omega)), if_neg (fun e => by
      have := congrArg List.length e
      rw [List.length_drop] at this
      simp only [List.length_nil] at this
      omega)]
    rfl
  · rw [eval_ite_f (decide_eq_false (by dsimp only; omega)), if_pos (List.drop_eq_nil_of_le (by omega))]; rfl
def readRegV (s : Str) : Int × Bool := match regOfV s with
  | some n => (n, true)
  | none => (0, false)
def l4RegV (s : Str) : Int := match regOfV s with
  | some n => n
  | none => -1
theorem reg_wrap {b : UInt8} (h1 : 48 ≤ b.toNat) (h2 : b.toNat ≤ 51) : IntKind.i64.wrap (IntKind.u8.wrap (((UInt8.toNat b : Nat) : Int) - (48 : Int))) = ((b.toNat - 48 : Nat) : Int) := by
  rw [IntKind.wrap_u8, IntKind.wrap_i64]; omega
theorem ne114 (a : UInt8) : (((UInt8.toNat a : Nat) : Int) != (114 : Int)) = !decide (a = 114) := by
  rw [bne, show (114 : Int) = ((UInt8.toNat 114 : Nat) : Int) from rfl, byte_eq]
theorem eq114 (a : UInt8) : (((UInt8.toNat a : Nat) : Int) == (114 : Int)) = decide (a = 114) := by
  rw [show (114 : Int) = ((UInt8.toNat 114 : Nat) : Int) from rfl, byte_eq]
def f45_tree (a0 : List UInt8) : Out (((Int × Unit) × (Bool × Unit) × Unit) × (Unit × Unit)) :=
 .ite (((((List.length a0 : Nat) : Int) != (2 : Int))) == false)
 (.ite (decide (0 ≤ (0 : Int)))
 (.get (nth a0 (Int.toNat (0 : Int))) fun y1 =>
 .ite (((((UInt8.toNat y1 : Nat) : Int) != (114 : Int))) == false)
 (.ite (decide (0 ≤ (1 : Int)))
 (.get (nth a0 (Int.toNat (1 : Int))) fun y2 =>
 .ite ((decide (((UInt8.toNat y2 : Nat) : Int) < (48 : Int))) == false)
 (.ite (decide (0 ≤ (1 : Int)))
 (.get (nth a0 (Int.toNat (1 : Int))) fun y3 =>
 .ite (decide (((UInt8.toNat y3 : Nat) : Int) > (51 : Int)))
 (.ret ((((0 : Int), ()), (false, ()), ()), ((), ())))
 (.ite (decide (0 ≤ (1 : Int)))
 (.get (nth a0 (Int.toNat (1 : Int))) fun y4 =>
 .ret ((((IntKind.i64.wrap (IntKind.u8.wrap (((UInt8.toNat y4 : Nat) : Int) - (48 : Int)))), ()), (true, ()), ()), ((), ())))
 .fail))
 .fail)
 (.ret ((((0 : Int), ()), (false, ()), ()), ((), ()))))
 .fail)
 (.ret ((((0 : Int), ()), (false, ()), ()), ((), ()))))
 .fail)
 (.ret ((((0 : Int), ()), (false, ()), ()), ((), ())))
def k45 : Con := { f := 45, lend := true, its := [⟨false, false, [.s]⟩], lay := [none], rs := [⟨false, false, [.i .i64]⟩, ⟨false, false, [.b]⟩], F := fun x => .ret ((((readRegV x.1.1).1, ()), ((readRegV x.1.1).2, ()), ()), ((), ())) }
theorem f45_eq (x : itemsD k45.its) : bo [] (fun _ => none) Tryz.f45 k45 [.tmp 2, .tmp 3] x = f45_tree x.1.1 := by kernel_rfl
theorem f45_ok (hr : ∀ x : (List UInt8 × Unit) × Unit, itemsWF k45.its x → (f45_tree x.1.1).eval = (k45.F x).eval) : k45.Ok Tryz.prog := con_fn [] trivial f45_eq fun x hw _ hy => (hr x hw).trans hy
theorem k45_ok : k45.Ok Tryz.prog := by
  refine f45_ok fun x hw => ?_
  obtain ⟨⟨a0, _⟩, _⟩ := x
  show (f45_tree a0).eval = some ((((readRegV a0).1, ()), ((readRegV a0).2, ()), ()), ((), ()))
  unfold f45_tree readRegV
  rcases a0 with _ | ⟨a, _ | ⟨b, _ | ⟨c, r⟩⟩⟩
  · rfl
  · rfl
  · show (Out.ite true (.ite true (.ite ((((UInt8.toNat a : Nat) : Int) != (114 : Int)) == false) (.ite true (.ite ((decide (((UInt8.toNat b : Nat) : Int) < (48 : Int))) == false) (.ite true (.ite (decide (((UInt8.toNat b : Nat) : Int) > (51 : Int))) (.ret ((((0 : Int), ()), (false, ()), ()), ((), ()))) (.ite true (.ret ((((IntKind.i64.wrap (IntKind.u8.wrap (((UInt8.toNat b : Nat) : Int) - (48 : Int)))), ()), (true, ()), ()), ((), ()))) .fail)) .fail) (.ret ((((0 : Int), ()), (false, ()), ()), ((), ())))) .fail) (.ret ((((0 : Int), ()), (false, ()), ()), ((), ())))) .fail) (.ret ((((0 : Int), ()), (false, ()), ()), ((), ())))).eval = _
    simp only [Out.eval, cond_eq_ite, if_true, ne114, regOfV]
    by_cases h1 : a = 114
    · by_cases h2 : 48 ≤ b.toNat
      · by_cases h3 : b.toNat ≤ 51
        · have e2 : decide (((UInt8.toNat b : Nat) : Int) < 48) = false := decide_eq_false (by omega)
          have e3 : decide (((UInt8.toNat b : Nat) : Int) > 51) = false := decide_eq_false (by omega)
          rw [e2, e3, reg_wrap h2 h3]
          simp [h1, h2, h3]
        · have e2 : decide (((UInt8.toNat b : Nat) : Int) < 48) = false := decide_eq_false (by omega)
          have e3 : decide (((UInt8.toNat b : Nat) : Int) > 51) = true := decide_eq_true (by omega)
          rw [e2, e3]
          simp [h1, h3]
      · have e2 : decide (((UInt8.toNat b : Nat) : Int) < 48) = true := decide_eq_true (by omega)
        rw [e2]
        simp [h1, h2]
    · simp [h1]
  · have e : ((((List.length (a :: b :: c :: r) : Nat) : Int) != (2 : Int)) == false) = false := by
      rw [beq_eq_false_iff_ne, ne_eq, Bool.not_eq_false, bne_iff_ne]
      simp only [List.length_cons]
      omega
    rw [eval_ite_f e]
    rfl
def f56_tree (a0 : List UInt8) : Out (((Int × Unit) × Unit) × (Unit × Unit)) :=
 .ite (((((List.length a0 : Nat) : Int) != (2 : Int))) == false)
 (.ite (decide (0 ≤ (0 : Int)))
 (.get (nth a0 (Int.toNat (0 : Int))) fun y1 =>
 .ite (((((UInt8.toNat y1 : Nat) : Int) != (114 : Int))) == false)
 (.ite (decide (0 ≤ (1 : Int)))
 (.get (nth a0 (Int.toNat (1 : Int))) fun y2 =>
 .ite ((decide (((UInt8.toNat y2 : Nat) : Int) < (48 : Int))) == false)
 (.ite (decide (0 ≤ (1 : Int)))
 (.get (nth a0 (Int.toNat (1 : Int))) fun y3 =>
 .ite (decide (((UInt8.toNat y3 : Nat) : Int) > (51 : Int)))
 (.ret ((((-1 : Int), ()), ()), ((), ())))
 (.ite (decide (0 ≤ (1 : Int)))
 (.get (nth a0 (Int.toNat (1 : Int))) fun y4 =>
 .ret ((((IntKind.i64.wrap (IntKind.u8.wrap (((UInt8.toNat y4 : Nat) : Int) - (48 : Int)))), ()), ()), ((), ())))
 .fail))
 .fail)
 (.ret ((((-1 : Int), ()), ()), ((), ()))))
 .fail)
 (.ret ((((-1 : Int), ()), ()), ((), ()))))
 .fail)
 (.ret ((((-1 : Int), ()), ()), ((), ())))
def k56 : Con := { f := 56, lend := true, its := [⟨false, false, [.s]⟩], lay := [none], rs := [⟨false, false, [.i .i64]⟩], F := fun x => .ret ((((l4RegV x.1.1), ()), ()), ((), ())) }
theorem f56_eq (x : itemsD k56.its) : bo [] (fun _ => none) Tryz.f56 k56 [.tmp 2] x = f56_tree x.1.1 := by kernel_rfl
theorem f56_ok (hr : ∀ x : (List UInt8 × Unit) × Unit, itemsWF k56.its x → (f56_tree x.1.1).eval = (k56.F x).eval) : k56.Ok Tryz.prog := con_fn [] trivial f56_eq fun x hw _ hy => (hr x hw).trans hy
theorem k56_ok : k56.Ok Tryz.prog := by
  refine f56_ok fun x hw => ?_
  obtain ⟨⟨a0, _⟩, _⟩ := x
  show (f56_tree a0).eval = some ((((l4RegV a0), ()), ()), ((), ()))
  unfold f56_tree l4RegV
  rcases a0 with _ | ⟨a, _ | ⟨b, _ | ⟨c, r⟩⟩⟩
  · rfl
  · rfl
  · show (Out.ite true (.ite true (.ite ((((UInt8.toNat a : Nat) : Int) != (114 : Int)) == false) (.ite true (.ite ((decide (((UInt8.toNat b : Nat) : Int) < (48 : Int))) == false) (.ite true (.ite (decide (((UInt8.toNat b : Nat) : Int) > (51 : Int))) (.ret ((((-1 : Int), ()), ()), ((), ()))) (.ite true (.ret ((((IntKind.i64.wrap (IntKind.u8.wrap (((UInt8.toNat b : Nat) : Int) - (48 : Int)))), ()), ()), ((), ()))) .fail)) .fail) (.ret ((((-1 : Int), ()), ()), ((), ())))) .fail) (.ret ((((-1 : Int), ()), ()), ((), ())))) .fail) (.ret ((((-1 : Int), ()), ()), ((), ())))).eval = _
    simp only [Out.eval, cond_eq_ite, if_true, ne114, regOfV]
    by_cases h1 : a = 114
    · by_cases h2 : 48 ≤ b.toNat
      · by_cases h3 : b.toNat ≤ 51
        · have e2 : decide (((UInt8.toNat b : Nat) : Int) < 48) = false := decide_eq_false (by omega)
          have e3 : decide (((UInt8.toNat b : Nat) : Int) > 51) = false := decide_eq_false (by omega)
          rw [e2, e3, reg_wrap h2 h3]
          simp [h1, h2, h3]
        · have e2 : decide (((UInt8.toNat b : Nat) : Int) < 48) = false := decide_eq_false (by omega)
          have e3 : decide (((UInt8.toNat b : Nat) : Int) > 51) = true := decide_eq_true (by omega)
          rw [e2, e3]
          simp [h1, h3]
      · have e2 : decide (((UInt8.toNat b : Nat) : Int) < 48) = true := decide_eq_true (by omega)
        rw [e2]
        simp [h1, h2]
    · simp [h1]
  · have e : ((((List.length (a :: b :: c :: r) : Nat) : Int) != (2 : Int)) == false) = false := by
      rw [beq_eq_false_iff_ne, ne_eq, Bool.not_eq_false, bne_iff_ne]
      simp only [List.length_cons]
      omega
    rw [eval_ite_f e]
    rfl
def indexStrV (l : List Str) (w : Str) : Int := idxV (l.findIdx? fun y => w == y)
abbrev f44_S0 := (List (List UInt8) × List UInt8 × Int × Int × Unit) × (Unit)
def f44_L0 : f44_S0 → Out (Round f44_S0 ((Unit) × (Unit)) ((Int × Unit) × (Unit)))
| ((p0, p1, p2, p3, _), _) =>
 .ite (decide (p3 < p2))
 (.ite (decide (0 ≤ p3))
 (.get (nth p0 (Int.toNat p3)) fun y1 =>
 .ite (p1 == y1)
 (.ret (.ret ((p3, ()), ())))
 (.ret (.again ((p0, p1, p2, (IntKind.i64.wrap (p3 + (1 : Int))), ()), ()))))
 .fail)
 (.ret (.out ((), ())))
def f44_tree (a0 : List (List UInt8)) (a1 : List UInt8) : Out (((Int × Unit) × Unit) × (Unit × Unit × Unit)) :=
 .get (iter f44_L0 FUEL ((a0, a1, ((List.length a0 : Nat) : Int), (0 : Int), ()), ())) fun y1 => .alt y1 (fun y2 =>
 .ret ((((-1 : Int), ()), ()), ((), (), ()))) (fun y3 =>
 .ret (((y3.1.1, ()), ()), ((), (), ())))
def f44_A : Nat → Option LoopAnn := fun n => annOf [(0, { head := { t := [.ro .str (some 0), .s] ++ dd 5 ++ [.i .i64, .i .i64] ++ dd 10, v := [] }, out := { t := dd 19, v := [] }, ret := some { t := dd 4 ++ [.i .i64] ++ dd 14, v := [] } })] n
def k44 : Con := { f := 44, lend := true, its := [⟨false, false, [.ro .str]⟩, ⟨false, false, [.s]⟩], lay := [none, none], rs := [⟨false, false, [.i .i64]⟩], F := fun x => .ret ((((indexStrV x.1.1 x.2.1.1), ()), ()), ((), (), ())) }
theorem f44_eq (x : itemsD k44.its) : bo [] f44_A Tryz.f44 k44 [.tmp 4] x = f44_tree x.1.1 x.2.1.1 := by kernel_rfl
theorem f44_ok (hr : ∀ x : (List (List UInt8) × Unit) × (List UInt8 × Unit) × Unit, itemsWF k44.its x → (f44_tree x.1.1 x.2.1.1).eval = (k44.F x).eval) : k44.Ok Tryz.prog := con_fn [] trivial f44_eq fun x hw _ hy => (hr x hw).trans hy
theorem k44_ok : k44.Ok Tryz.prog := by
  refine f44_ok fun x hw => ?_
  obtain ⟨⟨a0, _⟩, ⟨a1, _⟩, _⟩ := x
  have l0 : List.length a0 ≤ BIG := hw.1.1.1
  show (f44_tree a0 a1).eval = some ((((indexStrV a0 a1), ()), ()), ((), (), ()))
  unfold f44_tree indexStrV
  have h : iter f44_L0 FUEL ((a0, a1, ((List.length a0 : Nat) : Int), (0 : Int), ()), ()) = some (match List.findIdx? (fun y => a1 == y) a0 with | some i => .inr ((((i : Nat) : Int), ()), ()) | none => .inl ((), ())) := idx_loop (f := f44_L0) a0 (fun y => a1 == y) (fun i => ((a0, a1, ((List.length a0 : Nat) : Int), ((i : Nat) : Int), ()), ())) (y := ((), ())) (z := fun i => ((((i : Nat) : Int), ()), ()))
      (fun i hi hp => by
        have h1 := wrap_succ (i := i) (by omega)
        simp [f44_L0, Out.eval, hi, h1, cond_eq_ite] at hp ⊢ <;> (try simp_all) <;> (try (rcases hp with h | h <;> simp_all)))
      (fun i hi hp => by simp [f44_L0, Out.eval, hi, cond_eq_ite] at hp ⊢ <;> (try simp_all) <;> (try (rcases hp with h | h <;> simp_all)))
      (by simp [f44_L0, Out.eval]) l0
  refine (eval_get_some h).trans ?_
  cases List.findIdx? (fun y => a1 == y) a0 <;> rfl
theorem op_le (w : Str) : opOfV w ≤ 8 := by
  unfold opOfV
  repeat' split
  all_goals decide
theorem index_op (w : Str) : indexStrV opNamesL w = if w = [] then 0 else if opOfV w = 0 then -1 else ((opOfV w : Nat) : Int) := by
  unfold indexStrV opOfV opNamesL opNamesV
  by_cases h0 : w = []; · subst h0; rfl
  by_cases h1 : w = [115, 101, 116]; · subst h1; rfl
  by_cases h2 : w = [97, 100, 100]; · subst h2; rfl
  by_cases h3 : w = [115, 117, 98]; · subst h3; rfl
  by_cases h4 : w = [108, 111, 97, 100]; · subst h4; rfl
  by_cases h5 : w = [115, 116, 111, 114, 101]; · subst h5; rfl
  by_cases h6 : w = [106, 117, 109, 112]; · subst h6; rfl
  by_cases h7 : w = [122, 101, 114, 111]; · subst h7; rfl
  by_cases h8 : w = [115, 121, 115]; · subst h8; rfl
  have b : ∀ {x : Str}, w ≠ x → (w == x) = false := fun h => beq_eq_false_iff_ne.2 h
  simp only [List.findIdx?_cons, List.findIdx?_nil, b h0, b h1, b h2, b h3, b h4, b h5, b h6, b h7, b h8, if_neg h0, if_neg h1, if_neg h2, if_neg h3, if_neg h4, if_neg h5, if_neg h6, if_neg h7, if_neg h8]
  rfl
def l4FormV (w : Str) : Int × Str := (((opOfV w : Nat) : Int), formV (opOfV w))
def f51_tree (a0 : List UInt8) : Out (((Int × Unit) × (List UInt8 × Unit) × Unit) × (Unit × Unit)) :=
 .ite (a0 == ([115, 101, 116] : List UInt8))
 (.ret ((((1 : Int), ()), (([114, 110] : List UInt8), ()), ()), ((), ())))
 (.ite (a0 == ([97, 100, 100] : List UInt8))
 (.ret ((((2 : Int), ()), (([114, 114, 114] : List UInt8), ()), ()), ((), ())))
 (.ite (a0 == ([115, 117, 98] : List UInt8))
 (.ret ((((3 : Int), ()), (([114, 114, 114] : List UInt8), ()), ()), ((), ())))
 (.ite (a0 == ([108, 111, 97, 100] : List UInt8))
 (.ret ((((4 : Int), ()), (([114, 114] : List UInt8), ()), ()), ((), ())))
 (.ite (a0 == ([115, 116, 111, 114, 101] : List UInt8))
 (.ret ((((5 : Int), ()), (([114, 114] : List UInt8), ()), ()), ((), ())))
 (.ite (a0 == ([106, 117, 109, 112] : List UInt8))
 (.ret ((((6 : Int), ()), (([110] : List UInt8), ()), ()), ((), ())))
 (.ite (a0 == ([122, 101, 114, 111] : List UInt8))
 (.ret ((((7 : Int), ()), (([114, 110] : List UInt8), ()), ()), ((), ())))
 (.ite (a0 == ([115, 121, 115] : List UInt8))
 (.ret ((((8 : Int), ()), (([110] : List UInt8), ()), ()), ((), ())))
 (.ret ((((0 : Int), ()), (([] : List UInt8), ()), ()), ((), ()))))))))))
def k51 : Con := { f := 51, lend := true, its := [⟨false, false, [.s]⟩], lay := [none], rs := [⟨false, false, [.i .i64]⟩, ⟨false, false, [.s]⟩], F := fun x => .ret ((((l4FormV x.1.1).1, ()), ((l4FormV x.1.1).2, ()), ()), ((), ())) }
theorem f51_eq (x : itemsD k51.its) : bo [] (fun _ => none) Tryz.f51 k51 [.tmp 2, .tmp 3] x = f51_tree x.1.1 := by kernel_rfl
theorem f51_ok (hr : ∀ x : (List UInt8 × Unit) × Unit, itemsWF k51.its x → (f51_tree x.1.1).eval = (k51.F x).eval) : k51.Ok Tryz.prog := con_fn [] trivial f51_eq fun x hw _ hy => (hr x hw).trans hy
theorem k51_ok : k51.Ok Tryz.prog := by
  refine f51_ok fun x hw => ?_
  obtain ⟨⟨a0, _⟩, _⟩ := x
  show (f51_tree a0).eval = some ((((l4FormV a0).1, ()), ((l4FormV a0).2, ()), ()), ((), ()))
  unfold f51_tree l4FormV opOfV
  simp only [Out.eval, cond_eq_ite, beq_iff_eq]
  repeat' split
  all_goals first | rfl | contradiction
end Go.Proofs.YtnglkhjpdpgahaaGreatDoor.Dm
