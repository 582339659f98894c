/- Functions of the program, and what they compute. -/
import Derived.Test.YtjcinikojcfebaaA6
namespace Go.Proofs.Ytjcinikojcfebaa.Dm
open Go Go.ChangeShapes Go.WideShapes Go.ChangeAt Go.RowKit

abbrev FileD := Int × (List Int × Unit)
/-! ## Loops that change each item, and carry something -/
def mapAcc {α δ : Type} (g : δ → α → δ × α) : δ → List α → δ × List α
  | d, [] => (d, [])
  | d, x :: r => ((mapAcc g (g d x).1 r).1, (g d x).2 :: (mapAcc g (g d x).1 r).2)
theorem mapAcc_len {α δ : Type} {g : δ → α → δ × α} : ∀ {d : δ} {a : List α}, (mapAcc g d a).2.length = a.length
  | _, [] => rfl
  | d, x :: r => by simp only [mapAcc, List.length_cons, mapAcc_len]
theorem acc_loop {α δ σ β : Type} {f : σ → Out (Round σ β Empty)} (g : δ → α → δ × α) (a : List α) (S : δ → List α → Nat → σ) (y : δ → List α → β)
    (hs : ∀ i (hi : i < a.length) d (l : List α) (hl : l.length = a.length), l[i]? = some a[i] → (f (S d l i)).eval = some (.again (S (g d a[i]).1 (l.set i (g d a[i]).2) (i + 1))))
    (hy : ∀ d (l : List α), l.length = a.length → (f (S d l a.length)).eval = some (.out (y d l))) (ha : a.length ≤ BIG) (d : δ) : iter1 f FUEL (S d a 0) = some (y (mapAcc g d a).1 (mapAcc g d a).2) := by
  have key : ∀ (m i : Nat) (d : δ) (p : List α) (n : Nat), i + m = a.length → p.length = i → m < n → iter1 f n (S d (p ++ a.drop i) i) = some (y (mapAcc g d (a.drop i)).1 (p ++ (mapAcc g d (a.drop i)).2)) := by
    intro m
    induction m with
    | zero =>
      intro i d p n hi hp hn
      have : i = a.length := by omega
      subst this
      rw [List.drop_length, List.append_nil]
      rw [iter1_out' (hy d p hp) hn]
      simp [mapAcc]
    | succ m ih =>
      intro i d p n hi hp hn
      have hlt : i < a.length := by omega
      obtain ⟨n, rfl⟩ : ∃ n', n = n' + 1 := ⟨n - 1, by omega⟩
      have h1 : (p ++ a.drop i)[i]? = some a[i] := by
        rw [List.getElem?_append_right (by omega), hp, Nat.sub_self, List.getElem?_drop, Nat.add_zero, List.getElem?_eq_getElem hlt]
      have h2 : (p ++ a.drop i).set i (g d a[i]).2 = (p ++ [(g d a[i]).2]) ++ a.drop (i + 1) := by
        rw [List.drop_eq_getElem_cons hlt, List.set_append_right _ _ (by omega), hp, Nat.sub_self, List.set_cons_zero, List.append_assoc]; rfl
      rw [iter1_again (hs i hlt d _ (by simp; omega) h1), h2, ih (i + 1) _ _ n (by omega) (by simp; omega) (by omega), List.drop_eq_getElem_cons hlt]
      simp [mapAcc]
  simpa using key a.length 0 d [] FUEL (by omega) rfl (lt_fuel ha)
/-! ## Files: equal ones, marks -/
def f153_tree (a0 : Int) (a1 : List Int) (a2 : Int) (a3 : List Int) : Out (((Bool × Unit) × Unit) × (Unit × Unit × Unit)) :=
 .ite ((a0 != a2))
 (.ret (((false, ()), ()), ((), (), ())))
 (.ite (!(eqIntsV a1 a3))
 (.ret (((false, ()), ()), ((), (), ())))
 (.ret (((true, ()), ()), ((), (), ()))))
def eqFileV (a : Int) (b : List Int) (c : Int) (d : List Int) : Bool := decide ((a, (b, ())) = ((c, (d, ())) : FileD))
def k153 : Con := { f := 153, lend := true, its := [⟨false, true, [.i .i64, .ro (.int .i64)]⟩, ⟨false, true, [.i .i64, .ro (.int .i64)]⟩], lay := [none, none], rs := [⟨false, false, [.b]⟩], F := fun x => .ret ((((eqFileV x.1.1 x.1.2.1 x.2.1.1 x.2.1.2.1), ()), ()), ((), (), ())) }
theorem f153_eq (x : itemsD k153.its) : bodyOut (cxOf [k100]) (fun _ => none) (codeOf Try.f153) k153.its k153.lay Try.f153.ntmps k153.rs [.tmp 4] x = f153_tree x.1.1 x.1.2.1 x.2.1.1 x.2.1.2.1 := by kernel_rfl
theorem f153_ok (hr : ∀ x : (Int × List Int × Unit) × (Int × List Int × Unit) × Unit, itemsWF k153.its x → (f153_tree x.1.1 x.1.2.1 x.2.1.1 x.2.1.2.1).eval = (k153.F x).eval) : k153.Ok Try.prog :=
  con_fn [k100] ⟨k100_ok, trivial⟩ (by kernel_rfl) (codeOf_eq (by kernel_rfl)) (by kernel_rfl) (by kernel_rfl) (by kernel_rfl) f153_eq fun x hw _ hy => (hr x hw).trans hy
theorem k153_ok : k153.Ok Try.prog := by
  refine f153_ok fun x _ => ?_
  obtain ⟨⟨a, b, _⟩, ⟨c, d, _⟩, _⟩ := x
  show (f153_tree a b c d).eval = some (((eqFileV a b c d, ()), ()), ((), ((), ())))
  unfold f153_tree eqFileV eqIntsV
  by_cases h1 : a = c <;> by_cases h2 : b = d <;> simp [Out.eval, h1, h2, cond_eq_ite]
theorem eqFileV_eq (x y : FileD) : eqFileV x.1 x.2.1 y.1 y.2.1 = decide (x = y) := rfl
abbrev f60_S0 := (List ((Int × List Int × Unit)) × List ((Int × List Int × Unit)) × Int × Unit) × (Unit)
def f60_L0 (x : f60_S0) : Out (Round f60_S0 ((Unit) × (Unit)) ((Bool × Unit) × (Unit))) :=
 .ite (decide (x.1.2.2.1 < ((List.length x.1.1 : Nat) : Int)))
 (.ite (decide (0 ≤ x.1.2.2.1))
 (.get (nth x.1.1 (Int.toNat x.1.2.2.1)) fun y1 =>
 .ite (decide (0 ≤ x.1.2.2.1))
 (.get (nth x.1.2.1 (Int.toNat x.1.2.2.1)) fun y2 =>
 .ite (!(eqFileV y1.1 y1.2.1 y2.1 y2.2.1))
 (.ret (.ret ((false, ()), ())))
 (.ret (.again ((x.1.1, x.1.2.1, (IntKind.i64.wrap (x.1.2.2.1 + (1 : Int))), ()), ()))))
 .fail)
 .fail)
 (.ret (.out ((), ())))
def f60_tree (a0 : List (Int × List Int × Unit)) (a1 : List (Int × List Int × Unit)) : Out (((Bool × Unit) × Unit) × (Unit × Unit × Unit)) :=
 .ite ((((List.length a0 : Nat) : Int) != ((List.length a1 : Nat) : Int)))
 (.ret (((false, ()), ()), ((), (), ())))
 (.get (iter f60_L0 FUEL ((a0, a1, (0 : Int), ()), ())) fun y1 => .alt y1 (fun y2 =>
 .ret (((true, ()), ()), ((), (), ()))) (fun y3 =>
 .ret (((y3.1.1, ()), ()), ((), (), ()))))
def f60_A : Nat → Option LoopAnn := fun n => annOf [(0, { head := { t := [.ro (.st (.cons (.int .i64) (.cons (.sl (.int .i64)) .nil))) (some 0), .ro (.st (.cons (.int .i64) (.cons (.sl (.int .i64)) .nil))) (some 1), .dead, .dead, .dead, .i .i64, .dead, .dead, .dead, .dead, .dead, .dead, .dead, .dead, .dead, .dead, .dead, .dead, .dead, .dead, .dead, .dead, .dead, .dead, .dead, .dead, .dead], v := [] }, out := { t := [.dead, .dead, .dead, .dead, .dead, .dead, .dead, .dead, .dead, .dead, .dead, .dead, .dead, .dead, .dead, .dead, .dead, .dead, .dead, .dead, .dead, .dead, .dead, .dead, .dead, .dead, .dead], v := [] }, ret := some { t := [.dead, .dead, .dead, .dead, .b, .dead, .dead, .dead, .dead, .dead, .dead, .dead, .dead, .dead, .dead, .dead, .dead, .dead, .dead, .dead, .dead, .dead, .dead, .dead, .dead, .dead, .dead], v := [] } })] n
def eqFilesV (a b : List FileD) : Bool := decide (a = b)
def k60 : Con := { f := 60, lend := true, its := [⟨false, false, [.ro (.st (.cons (.int .i64) (.cons (.sl (.int .i64)) .nil)))]⟩, ⟨false, false, [.ro (.st (.cons (.int .i64) (.cons (.sl (.int .i64)) .nil)))]⟩], lay := [none, none], rs := [⟨false, false, [.b]⟩], F := fun x => .ret ((((eqFilesV x.1.1 x.2.1.1), ()), ()), ((), (), ())) }
theorem f60_eq (x : itemsD k60.its) : bodyOut (cxOf [k153]) (f60_A) (codeOf Try.f60) k60.its k60.lay Try.f60.ntmps k60.rs [.tmp 4] x = f60_tree x.1.1 x.2.1.1 := by kernel_rfl
theorem f60_ok (hr : ∀ x : (List (Int × List Int × Unit) × Unit) × (List (Int × List Int × Unit) × Unit) × Unit, itemsWF k60.its x → (f60_tree x.1.1 x.2.1.1).eval = (k60.F x).eval) : k60.Ok Try.prog :=
  con_fn [k153] ⟨k153_ok, trivial⟩ (by kernel_rfl) (codeOf_eq (by kernel_rfl)) (by kernel_rfl) (by kernel_rfl) (by kernel_rfl) f60_eq fun x hw _ hy => (hr x hw).trans hy
theorem k60_ok : k60.Ok Try.prog := by
  refine f60_ok fun x hw => ?_
  obtain ⟨⟨a, _⟩, ⟨b, _⟩, _⟩ := x
  have ha : a.length ≤ BIG := hw.1.1.1
  show (f60_tree a b).eval = some (((eqFilesV a b, ()), ()), ((), ((), ())))
  unfold f60_tree
  by_cases hl : a.length = b.length
  · rw [eval_ite_f (len_eq hl)]
    have := eq_loop (f := f60_L0) a b (fun i => ((a, (b, (((i : Nat) : Int), ()))), ())) (y := ((), ())) (z := ((false, ()), ())) hl ha
      (fun i hi hi' he => by
        have := wrap_succ (i := i) (by omega)
        simp [f60_L0, Out.eval, hi, hi', he, this, eqFileV_eq])
      (fun i hi hi' he => by simp [f60_L0, Out.eval, hi, hi', he, cond_eq_ite, eqFileV_eq])
      (by simp [f60_L0, Out.eval])
    refine (eval_get_some this).trans ?_
    unfold eqFilesV
    by_cases hab : a = b
    · simp only [if_pos hab, decide_eq_true hab]; rfl
    · simp only [if_neg hab, decide_eq_false hab]; rfl
  · rw [eval_ite_t (len_ne hl)]
    have : eqFilesV a b = false := decide_eq_false fun e => hl (by rw [e])
    rw [this]
    rfl
abbrev f103_S0 := (Int × Int × Unit) × (List (Int) × Unit)
def f103_L0 (x : f103_S0) : Out (Round f103_S0 ((Int × Unit) × (List (Int) × Unit)) Empty) :=
 .ite (decide (x.1.2.1 < ((List.length x.2.1 : Nat) : Int)))
 (.ite (decide (0 ≤ x.1.2.1 ∧ x.1.2.1 < ((List.length x.2.1 : Nat) : Int)))
 (.get (nth x.2.1 (Int.toNat x.1.2.1)) fun y1 =>
 .ret (.again (((IntKind.i64.wrap (x.1.1 + (1 : Int))), (IntKind.i64.wrap (x.1.2.1 + (1 : Int))), ()), ((List.set x.2.1 (Int.toNat x.1.2.1) x.1.1), ()))))
 .fail)
 (.ret (.out ((x.1.1, ()), (x.2.1, ()))))
def f103_tree (a0 : List Int) (a1 : Int) : Out (((Int × Unit) × Unit) × ((List Int × Unit) × Unit × Unit)) :=
 .get (iter1 f103_L0 FUEL ((a1, (0 : Int), ()), (a0, ()))) fun y1 =>
 .ret (((y1.1.1, ()), ()), ((y1.2.1, ()), (), ()))
def f103_A : Nat → Option LoopAnn := fun n => annOf [(0, { head := { t := [.srf 0, .i .i64, .dead, .dead, .dead, .i .i64, .dead, .dead, .dead, .dead, .dead, .dead, .dead, .dead, .dead, .dead, .dead, .dead, .dead], v := [(0, .arr (.int .i64))] }, out := { t := [.srf 0, .i .i64, .dead, .dead, .dead, .dead, .dead, .dead, .dead, .dead, .dead, .dead, .dead, .dead, .dead, .dead, .dead, .dead, .dead], v := [(0, .arr (.int .i64))] }, ret := none })] n
def markIntSV (a : List Int) (k : Int) : Int × List Int := (up k a.length, (List.range a.length).map (up k))
def k103 : Con := { f := 103, lend := true, its := [⟨false, false, [.mut (.int .i64)]⟩, ⟨false, false, [.i .i64]⟩], lay := [none, none], rs := [⟨false, false, [.i .i64]⟩], F := fun x => .ret ((((markIntSV x.1.1 x.2.1.1).1, ()), ()), (((markIntSV x.1.1 x.2.1.1).2, ()), (), ())) }
theorem f103_eq (x : itemsD k103.its) : bodyOut (cxOf []) (f103_A) (codeOf Try.f103) k103.its k103.lay Try.f103.ntmps k103.rs [.tmp 4] x = f103_tree x.1.1 x.2.1.1 := by kernel_rfl
theorem f103_ok (hr : ∀ x : (List Int × Unit) × (Int × Unit) × Unit, itemsWF k103.its x → (f103_tree x.1.1 x.2.1.1).eval = (k103.F x).eval) : k103.Ok Try.prog :=
  con_fn [] trivial (by kernel_rfl) (codeOf_eq (by kernel_rfl)) (by kernel_rfl) (by kernel_rfl) (by kernel_rfl) f103_eq fun x hw _ hy => (hr x hw).trans hy
theorem k103_ok : k103.Ok Try.prog := by
  refine f103_ok fun x hw => ?_
  obtain ⟨⟨a, _⟩, ⟨k, _⟩, _⟩ := x
  have ha : a.length ≤ BIG := hw.1.1.1
  show (f103_tree a k).eval = some ((((markIntSV a k).1, ()), ()), (((markIntSV a k).2, ()), ((), ())))
  unfold f103_tree
  have := iter1_out (f := f103_L0) (fun i => ((up k i, (((i : Nat) : Int), ())), (markL (up k) a i, ()))) a.length (y := ((up k a.length, ()), (markL (up k) a a.length, ()))) (lt_fuel ha)
    (fun i hi => by
      have h1 := wrap_succ (i := i) (by omega)
      have h2 := markL_length (g := up k) (show i ≤ a.length by omega)
      have h3 := markL_get (g := up k) hi
      have h4 := markL_set (g := up k) hi
      simp [f103_L0, Out.eval, h1, h2, h3, h4, hi, up])
    (by
      have h2 := markL_length (g := up k) (Nat.le_refl a.length)
      simp [f103_L0, Out.eval, h2])
  simp only [markL_zero] at this
  refine (eval_get_some this).trans ?_
  rw [markL_all]
  rfl
abbrev f104_S0 := (List (Int) × Int × Int × Unit) × (Unit)
def f104_L0 (x : f104_S0) : Out (Round f104_S0 ((Int × Unit) × (Unit)) ((Int × Unit) × (Unit))) :=
 .ite (decide (x.1.2.2.1 < ((List.length x.1.1 : Nat) : Int)))
 (.ite (decide (0 ≤ x.1.2.2.1))
 (.get (nth x.1.1 (Int.toNat x.1.2.2.1)) fun y1 =>
 .ite ((y1 != x.1.2.1))
 (.ret (.ret (((-1 : Int), ()), ())))
 (.ret (.again ((x.1.1, (IntKind.i64.wrap (x.1.2.1 + (1 : Int))), (IntKind.i64.wrap (x.1.2.2.1 + (1 : Int))), ()), ()))))
 .fail)
 (.ret (.out ((x.1.2.1, ()), ())))
def f104_tree (a0 : List Int) (a1 : Int) : Out (((Int × Unit) × Unit) × (Unit × Unit × Unit)) :=
 .get (iter f104_L0 FUEL ((a0, a1, (0 : Int), ()), ())) fun y1 => .alt y1 (fun y2 =>
 .ret (((y2.1.1, ()), ()), ((), (), ()))) (fun y3 =>
 .ret (((y3.1.1, ()), ()), ((), (), ())))
def f104_A : Nat → Option LoopAnn := fun n => annOf [(0, { head := { t := [.ro (.int .i64) (some 0), .i .i64, .dead, .dead, .dead, .i .i64, .dead, .dead, .dead, .dead, .dead, .dead, .dead, .dead, .dead, .dead, .dead, .dead, .dead, .dead, .dead], v := [] }, out := { t := [.dead, .i .i64, .dead, .dead, .dead, .dead, .dead, .dead, .dead, .dead, .dead, .dead, .dead, .dead, .dead, .dead, .dead, .dead, .dead, .dead, .dead], v := [] }, ret := some { t := [.dead, .dead, .dead, .dead, .i .i64, .dead, .dead, .dead, .dead, .dead, .dead, .dead, .dead, .dead, .dead, .dead, .dead, .dead, .dead, .dead, .dead], v := [] } })] n
def heldIntSV (a : List Int) (k : Int) : Int := if a = (List.range a.length).map (up k) then up k a.length else -1
def k104 : Con := { f := 104, lend := true, its := [⟨false, false, [.ro (.int .i64)]⟩, ⟨false, false, [.i .i64]⟩], lay := [none, none], rs := [⟨false, false, [.i .i64]⟩], F := fun x => .ret ((((heldIntSV x.1.1 x.2.1.1), ()), ()), ((), (), ())) }
theorem f104_eq (x : itemsD k104.its) : bodyOut (cxOf []) (f104_A) (codeOf Try.f104) k104.its k104.lay Try.f104.ntmps k104.rs [.tmp 4] x = f104_tree x.1.1 x.2.1.1 := by kernel_rfl
theorem f104_ok (hr : ∀ x : (List Int × Unit) × (Int × Unit) × Unit, itemsWF k104.its x → (f104_tree x.1.1 x.2.1.1).eval = (k104.F x).eval) : k104.Ok Try.prog :=
  con_fn [] trivial (by kernel_rfl) (codeOf_eq (by kernel_rfl)) (by kernel_rfl) (by kernel_rfl) (by kernel_rfl) f104_eq fun x hw _ hy => (hr x hw).trans hy
theorem k104_ok : k104.Ok Try.prog := by
  refine f104_ok fun x hw => ?_
  obtain ⟨⟨a, _⟩, ⟨k, _⟩, _⟩ := x
  have ha : a.length ≤ BIG := hw.1.1.1
  show (f104_tree a k).eval = some (((heldIntSV a k, ()), ()), ((), ((), ())))
  unfold f104_tree
  have := eq_loop (f := f104_L0) a ((List.range a.length).map (up k)) (fun i => ((a, (up k i, (((i : Nat) : Int), ()))), ())) (y := ((up k a.length, ()), ())) (z := ((-1, ()), ())) (by simp) ha
    (fun i hi hi' he => by
      have := wrap_succ (i := i) (by omega)
      simp only [List.getElem_map, List.getElem_range] at he
      simp [f104_L0, Out.eval, hi, he, this, up])
    (fun i hi hi' he => by
      simp only [List.getElem_map, List.getElem_range] at he
      simp [f104_L0, Out.eval, hi, he, cond_eq_ite])
    (by simp [f104_L0, Out.eval])
  refine (eval_get_some this).trans ?_
  unfold heldIntSV
  by_cases hab : a = (List.range a.length).map (up k)
  · rw [if_pos hab, if_pos hab]; rfl
  · rw [if_neg hab, if_neg hab]; rfl
def markFile1 (k : Int) (x : FileD) : Int × FileD := ((markIntSV x.2.1 (IntKind.i64.wrap (k + 1))).1, (k, ((markIntSV x.2.1 (IntKind.i64.wrap (k + 1))).2, ())))
abbrev f61_S0 := (Int × Int × Unit) × (List ((Int × List Int × Unit)) × Unit)
def f61_L0 (x : f61_S0) : Out (Round f61_S0 ((Int × Unit) × (List ((Int × List Int × Unit)) × Unit)) Empty) :=
 .ite (decide (x.1.2.1 < ((List.length x.2.1 : Nat) : Int)))
 (.ite (decide (0 ≤ x.1.2.1 ∧ x.1.2.1 < ((List.length x.2.1 : Nat) : Int)))
 (.get (nth x.2.1 (Int.toNat x.1.2.1)) fun y1 =>
 .ite (decide (0 ≤ x.1.2.1 ∧ x.1.2.1 < ((List.length (List.set x.2.1 (Int.toNat x.1.2.1) (x.1.1, y1.2)) : Nat) : Int)))
 (.get (nth (List.set x.2.1 (Int.toNat x.1.2.1) (x.1.1, y1.2)) (Int.toNat x.1.2.1)) fun y2 =>
 .ret (.again (((markIntSV y2.2.1 (IntKind.i64.wrap (x.1.1 + (1 : Int)))).1, (IntKind.i64.wrap (x.1.2.1 + (1 : Int))), ()), ((List.set (List.set x.2.1 (Int.toNat x.1.2.1) (x.1.1, y1.2)) (Int.toNat x.1.2.1) (y2.1, ((markIntSV y2.2.1 (IntKind.i64.wrap (x.1.1 + (1 : Int)))).2, y2.2.2))), ()))))
 .fail)
 .fail)
 (.ret (.out ((x.1.1, ()), (x.2.1, ()))))
def f61_tree (a0 : List (Int × List Int × Unit)) (a1 : Int) : Out (((Int × Unit) × Unit) × ((List (Int × List Int × Unit) × Unit) × Unit × Unit)) :=
 .get (iter1 f61_L0 FUEL ((a1, (0 : Int), ()), (a0, ()))) fun y1 =>
 .ret (((y1.1.1, ()), ()), ((y1.2.1, ()), (), ()))
def f61_A : Nat → Option LoopAnn := fun n => annOf [(0, { head := { t := [.srf 0, .i .i64, .dead, .dead, .dead, .i .i64, .dead, .dead, .dead, .dead, .dead, .dead, .dead, .dead, .dead, .dead, .dead, .dead, .dead, .dead, .dead, .dead, .dead, .dead, .dead, .dead, .dead], v := [(0, .arr (.st (.cons (.int .i64) (.cons (.sl (.int .i64)) .nil))))] }, out := { t := [.srf 0, .i .i64, .dead, .dead, .dead, .dead, .dead, .dead, .dead, .dead, .dead, .dead, .dead, .dead, .dead, .dead, .dead, .dead, .dead, .dead, .dead, .dead, .dead, .dead, .dead, .dead, .dead], v := [(0, .arr (.st (.cons (.int .i64) (.cons (.sl (.int .i64)) .nil))))] }, ret := none })] n
def markFileSV (a : List FileD) (k : Int) : Int × List FileD := mapAcc markFile1 k a
def k61 : Con := { f := 61, lend := true, its := [⟨false, false, [.mut (.st (.cons (.int .i64) (.cons (.sl (.int .i64)) .nil)))]⟩, ⟨false, false, [.i .i64]⟩], lay := [none, none], rs := [⟨false, false, [.i .i64]⟩], F := fun x => .ret ((((markFileSV x.1.1 x.2.1.1).1, ()), ()), (((markFileSV x.1.1 x.2.1.1).2, ()), (), ())) }
theorem f61_eq (x : itemsD k61.its) : bodyOut (cxOf [k103]) (f61_A) (codeOf Try.f61) k61.its k61.lay Try.f61.ntmps k61.rs [.tmp 4] x = f61_tree x.1.1 x.2.1.1 := by kernel_rfl
theorem f61_ok (hr : ∀ x : (List (Int × List Int × Unit) × Unit) × (Int × Unit) × Unit, itemsWF k61.its x → (f61_tree x.1.1 x.2.1.1).eval = (k61.F x).eval) : k61.Ok Try.prog :=
  con_fn [k103] ⟨k103_ok, trivial⟩ (by kernel_rfl) (codeOf_eq (by kernel_rfl)) (by kernel_rfl) (by kernel_rfl) (by kernel_rfl) f61_eq fun x hw _ hy => (hr x hw).trans hy
theorem k61_ok : k61.Ok Try.prog := by
  refine f61_ok fun x hw => ?_
  obtain ⟨⟨a, _⟩, ⟨k, _⟩, _⟩ := x
  have ha : a.length ≤ BIG := hw.1.1.1
  show (f61_tree a k).eval = some ((((markFileSV a k).1, ()), ()), (((markFileSV a k).2, ()), ((), ())))
  unfold f61_tree
  have := acc_loop (f := f61_L0) markFile1 a (fun k l i => ((k, (((i : Nat) : Int), ())), (l, ()))) (fun k l => ((k, ()), (l, ())))
    (fun i hi d l hl h3 => by
      have h1 := wrap_succ (i := i) (by omega)
      have h2 : i < l.length := by omega
      have h4 : l[i] = a[i] := by rw [List.getElem?_eq_getElem h2] at h3; exact Option.some.inj h3
      simp [f61_L0, Out.eval, h1, h2, h3, h4, hl, hi, markFile1])
    (fun d l hl => by simp [f61_L0, Out.eval, hl]) ha k
  refine (eval_get_some this).trans ?_
  rfl
def heldFile1 (k : Int) (x : FileD) : Int := if x.1 = k then heldIntSV x.2.1 (IntKind.i64.wrap (k + 1)) else -1
abbrev f89_S0 := (List ((Int × List Int × Unit)) × Int × Int × Unit) × (Unit)
def f89_L0 (x : f89_S0) : Out (Round f89_S0 ((Int × Unit) × (Unit)) ((Int × Unit) × (Unit))) :=
 .ite (decide (x.1.2.2.1 < ((List.length x.1.1 : Nat) : Int)))
 (.ite (decide (0 ≤ x.1.2.2.1))
 (.get (nth x.1.1 (Int.toNat x.1.2.2.1)) fun y1 =>
 .ite ((y1.1 != x.1.2.1))
 (.ret (.ret (((-1 : Int), ()), ())))
 (.ite (decide (0 ≤ x.1.2.2.1))
 (.get (nth x.1.1 (Int.toNat x.1.2.2.1)) fun y2 =>
 .ite (decide ((heldIntSV y2.2.1 (IntKind.i64.wrap (x.1.2.1 + (1 : Int)))) < (0 : Int)))
 (.ret (.ret (((-1 : Int), ()), ())))
 (.ret (.again ((x.1.1, (heldIntSV y2.2.1 (IntKind.i64.wrap (x.1.2.1 + (1 : Int)))), (IntKind.i64.wrap (x.1.2.2.1 + (1 : Int))), ()), ()))))
 .fail))
 .fail)
 (.ret (.out ((x.1.2.1, ()), ())))
def f89_tree (a0 : List (Int × List Int × Unit)) (a1 : Int) : Out (((Int × Unit) × Unit) × (Unit × Unit × Unit)) :=
 .get (iter f89_L0 FUEL ((a0, a1, (0 : Int), ()), ())) fun y1 => .alt y1 (fun y2 =>
 .ret (((y2.1.1, ()), ()), ((), (), ()))) (fun y3 =>
 .ret (((y3.1.1, ()), ()), ((), (), ())))
def f89_A : Nat → Option LoopAnn := fun n => annOf [(0, { head := { t := [.ro (.st (.cons (.int .i64) (.cons (.sl (.int .i64)) .nil))) (some 0), .i .i64, .dead, .dead, .dead, .i .i64, .dead, .dead, .dead, .dead, .dead, .dead, .dead, .dead, .dead, .dead, .dead, .dead, .dead, .dead, .dead, .dead, .dead, .dead, .dead, .dead, .dead, .dead, .dead, .dead, .dead], v := [] }, out := { t := [.dead, .i .i64, .dead, .dead, .dead, .dead, .dead, .dead, .dead, .dead, .dead, .dead, .dead, .dead, .dead, .dead, .dead, .dead, .dead, .dead, .dead, .dead, .dead, .dead, .dead, .dead, .dead, .dead, .dead, .dead, .dead], v := [] }, ret := some { t := [.dead, .dead, .dead, .dead, .i .i64, .dead, .dead, .dead, .dead, .dead, .dead, .dead, .dead, .dead, .dead, .dead, .dead, .dead, .dead, .dead, .dead, .dead, .dead, .dead, .dead, .dead, .dead, .dead, .dead, .dead, .dead], v := [] } })] n
def heldFileSV (a : List FileD) (k : Int) : Int := (foldG heldFile1 negB k a).getD (-1)
def k89 : Con := { f := 89, lend := true, its := [⟨false, false, [.ro (.st (.cons (.int .i64) (.cons (.sl (.int .i64)) .nil)))]⟩, ⟨false, false, [.i .i64]⟩], lay := [none, none], rs := [⟨false, false, [.i .i64]⟩], F := fun x => .ret ((((heldFileSV x.1.1 x.2.1.1), ()), ()), ((), (), ())) }
theorem f89_eq (x : itemsD k89.its) : bodyOut (cxOf [k104]) (f89_A) (codeOf Try.f89) k89.its k89.lay Try.f89.ntmps k89.rs [.tmp 4] x = f89_tree x.1.1 x.2.1.1 := by kernel_rfl
theorem f89_ok (hr : ∀ x : (List (Int × List Int × Unit) × Unit) × (Int × Unit) × Unit, itemsWF k89.its x → (f89_tree x.1.1 x.2.1.1).eval = (k89.F x).eval) : k89.Ok Try.prog :=
  con_fn [k104] ⟨k104_ok, trivial⟩ (by kernel_rfl) (codeOf_eq (by kernel_rfl)) (by kernel_rfl) (by kernel_rfl) (by kernel_rfl) f89_eq fun x hw _ hy => (hr x hw).trans hy
theorem k89_ok : k89.Ok Try.prog := by
  refine f89_ok fun x hw => ?_
  obtain ⟨⟨a, _⟩, ⟨k, _⟩, _⟩ := x
  have ha : a.length ≤ BIG := hw.1.1.1
  show (f89_tree a k).eval = some (((heldFileSV a k, ()), ()), ((), ((), ())))
  unfold f89_tree heldFileSV
  have := fold_loop (f := f89_L0) a (fun l i => ((a, (l, (((i : Nat) : Int), ()))), ())) heldFile1 negB (y := fun l => ((l, ()), ())) (z := ((-1, ()), ()))
    (fun i hi l hb => by
      have h1 := wrap_succ (i := i) (by omega)
      have hb : ¬ heldFile1 l a[i] < 0 := of_decide_eq_false hb
      unfold heldFile1 at hb ⊢
      split at hb
      · rename_i h; rw [if_pos h]; simp [f89_L0, Out.eval, hi, h1, h, hb]
      · omega)
    (fun i hi l hb => by
      have hb : heldFile1 l a[i] < 0 := of_decide_eq_true hb
      unfold heldFile1 at hb
      split at hb
      · rename_i h; simp [f89_L0, Out.eval, hi, h, hb]
      · rename_i h; simp [f89_L0, Out.eval, hi, h, cond_eq_ite])
    (fun l => by simp [f89_L0, Out.eval]) ha k
  refine (eval_get_some this).trans ?_
  cases foldG heldFile1 negB k a <;> rfl
/-- How many places files have. -/
def cntF : List FileD → Nat
  | [] => 0
  | x :: r => x.2.1.length + 1 + cntF r
theorem markFile1_up {k : Int} {x : FileD} : (markFile1 k x).1 = up k (x.2.1.length + 1) := by
  show up (up k 1) x.2.1.length = _
  rw [up_add, Nat.add_comm]
theorem markFileSV_up : ∀ (a : List FileD) (k : Int), (markFileSV a k).1 = up k (cntF a)
  | [], _ => rfl
  | x :: r, k => by
    show (markFileSV r (markFile1 k x).1).1 = _
    rw [markFileSV_up r, markFile1_up, up_add]; rfl
theorem held_markInts {a : List Int} {k : Int} : heldIntSV (markIntSV a k).2 k = (markIntSV a k).1 := by
  unfold heldIntSV markIntSV
  simp
theorem held_markFiles : ∀ {a : List FileD} {m : Nat}, m + cntF a < BIG → heldFileSV (markFileSV a (up 1 m)).2 (up 1 m) = up 1 (m + cntF a)
  | [], _, _ => rfl
  | x :: r, m, h => by
    have h' : m + (x.2.1.length + 1 + cntF r) < BIG := h
    have e : heldFile1 (up 1 m) (markFile1 (up 1 m) x).2 = up 1 (m + (x.2.1.length + 1)) := by
      show (if (up 1 m) = up 1 m then heldIntSV (markIntSV x.2.1 (up (up 1 m) 1)).2 (up (up 1 m) 1) else -1) = _
      rw [if_pos rfl, held_markInts, ← up_add, ← markFile1_up]; rfl
    have e2 : (markFileSV (x :: r) (up 1 m)).2 = (markFile1 (up 1 m) x).2 :: (markFileSV r (up 1 (m + (x.2.1.length + 1)))).2 := by
      rw [← up_add, ← markFile1_up]; rfl
    rw [e2]
    unfold heldFileSV
    have hn : negB (up 1 (m + (x.2.1.length + 1))) = false := decide_eq_false (by rw [up_one (by omega)]; omega)
    simp only [foldG, e, hn]
    have := held_markFiles (a := r) (m := m + (x.2.1.length + 1)) (by omega)
    unfold heldFileSV at this
    rw [show m + cntF (x :: r) = m + (x.2.1.length + 1) + cntF r by simp only [cntF]; omega, ← this]
    rfl
/-! ## Files: how great, copies -/
def f147_tree (a0 : Int) (a1 : List Int) (a2 : Int) : Out (((Int × Unit) × Unit) × (Unit × Unit × Unit)) :=
 .ite (decide ((szIntSV a1 a2) < (0 : Int)))
 (.ret ((((-1 : Int), ()), ()), ((), (), ())))
 (.ret ((((szIntSV a1 a2), ()), ()), ((), (), ())))
def szFileV (_p : Int) (a : List Int) (left : Int) : Int := thenV (szIntSV a left) (szIntSV a left)
def k147 : Con := { f := 147, lend := true, its := [⟨false, true, [.i .i64, .ro (.int .i64)]⟩, ⟨false, false, [.i .i64]⟩], lay := [none, none], rs := [⟨false, false, [.i .i64]⟩], F := fun x => .ret ((((szFileV x.1.1 x.1.2.1 x.2.1.1), ()), ()), ((), (), ())) }
theorem f147_eq (x : itemsD k147.its) : bodyOut (cxOf [k118]) (fun _ => none) (codeOf Try.f147) k147.its k147.lay Try.f147.ntmps k147.rs [.tmp 4] x = f147_tree x.1.1 x.1.2.1 x.2.1.1 := by kernel_rfl
theorem f147_ok (hr : ∀ x : (Int × List Int × Unit) × (Int × Unit) × Unit, itemsWF k147.its x → (f147_tree x.1.1 x.1.2.1 x.2.1.1).eval = (k147.F x).eval) : k147.Ok Try.prog :=
  con_fn [k118] ⟨k118_ok, trivial⟩ (by kernel_rfl) (codeOf_eq (by kernel_rfl)) (by kernel_rfl) (by kernel_rfl) (by kernel_rfl) f147_eq fun x hw _ hy => (hr x hw).trans hy
theorem k147_ok : k147.Ok Try.prog := by
  refine f147_ok fun x _ => ?_
  obtain ⟨⟨p, a, _⟩, ⟨k, _⟩, _⟩ := x
  show (f147_tree p a k).eval = some (((szFileV p a k, ()), ()), ((), ((), ())))
  unfold f147_tree szFileV thenV
  by_cases h : szIntSV a k < 0 <;> simp [Out.eval, h]
abbrev f55_S0 := (List ((Int × List Int × Unit)) × Int × Int × Unit) × (Unit)
def f55_L0 (x : f55_S0) : Out (Round f55_S0 ((Int × Unit) × (Unit)) ((Int × Unit) × (Unit))) :=
 .ite (decide (x.1.2.2.1 < ((List.length x.1.1 : Nat) : Int)))
 (.ite (decide (0 ≤ x.1.2.2.1))
 (.get (nth x.1.1 (Int.toNat x.1.2.2.1)) fun y1 =>
 .ite (decide ((szFileV y1.1 y1.2.1 x.1.2.1) < (0 : Int)))
 (.ret (.ret (((-1 : Int), ()), ())))
 (.ret (.again ((x.1.1, (szFileV y1.1 y1.2.1 x.1.2.1), (IntKind.i64.wrap (x.1.2.2.1 + (1 : Int))), ()), ()))))
 .fail)
 (.ret (.out ((x.1.2.1, ()), ())))
def f55_tree (a0 : List (Int × List Int × Unit)) (a1 : Int) : Out (((Int × Unit) × Unit) × (Unit × Unit × Unit)) :=
 .ite (decide ((IntKind.i64.wrap (a1 - ((List.length a0 : Nat) : Int))) < (0 : Int)))
 (.ret ((((-1 : Int), ()), ()), ((), (), ())))
 (.get (iter f55_L0 FUEL ((a0, (IntKind.i64.wrap (a1 - ((List.length a0 : Nat) : Int))), (0 : Int), ()), ())) fun y1 => .alt y1 (fun y2 =>
 .ret (((y2.1.1, ()), ()), ((), (), ()))) (fun y3 =>
 .ret (((y3.1.1, ()), ()), ((), (), ()))))
def f55_A : Nat → Option LoopAnn := fun n => annOf [(0, { head := { t := [.ro (.st (.cons (.int .i64) (.cons (.sl (.int .i64)) .nil))) (some 0), .i .i64, .dead, .dead, .dead, .i .i64, .dead, .dead, .dead, .dead, .dead, .dead, .dead, .dead, .dead, .dead, .dead, .dead, .dead, .dead, .dead, .dead, .dead, .dead, .dead, .dead, .dead], v := [] }, out := { t := [.dead, .i .i64, .dead, .dead, .dead, .dead, .dead, .dead, .dead, .dead, .dead, .dead, .dead, .dead, .dead, .dead, .dead, .dead, .dead, .dead, .dead, .dead, .dead, .dead, .dead, .dead, .dead], v := [] }, ret := some { t := [.dead, .dead, .dead, .dead, .i .i64, .dead, .dead, .dead, .dead, .dead, .dead, .dead, .dead, .dead, .dead, .dead, .dead, .dead, .dead, .dead, .dead, .dead, .dead, .dead, .dead, .dead, .dead], v := [] } })] n
def szFilesV (a : List FileD) (left : Int) : Int := szListV (fun l (x : FileD) => szFileV x.1 x.2.1 l) a left
def k55 : Con := { f := 55, lend := true, its := [⟨false, false, [.ro (.st (.cons (.int .i64) (.cons (.sl (.int .i64)) .nil)))]⟩, ⟨false, false, [.i .i64]⟩], lay := [none, none], rs := [⟨false, false, [.i .i64]⟩], F := fun x => .ret ((((szFilesV x.1.1 x.2.1.1), ()), ()), ((), (), ())) }
theorem f55_eq (x : itemsD k55.its) : bodyOut (cxOf [k147]) (f55_A) (codeOf Try.f55) k55.its k55.lay Try.f55.ntmps k55.rs [.tmp 4] x = f55_tree x.1.1 x.2.1.1 := by kernel_rfl
theorem f55_ok (hr : ∀ x : (List (Int × List Int × Unit) × Unit) × (Int × Unit) × Unit, itemsWF k55.its x → (f55_tree x.1.1 x.2.1.1).eval = (k55.F x).eval) : k55.Ok Try.prog :=
  con_fn [k147] ⟨k147_ok, trivial⟩ (by kernel_rfl) (codeOf_eq (by kernel_rfl)) (by kernel_rfl) (by kernel_rfl) (by kernel_rfl) f55_eq fun x hw _ hy => (hr x hw).trans hy
theorem k55_ok : k55.Ok Try.prog := by
  refine f55_ok fun x hw => ?_
  obtain ⟨⟨a, _⟩, ⟨k, _⟩, _⟩ := x
  have ha : a.length ≤ BIG := hw.1.1.1
  show (f55_tree a k).eval = some (((szFilesV a k, ()), ()), ((), ((), ())))
  unfold f55_tree szFilesV
  by_cases h : IntKind.i64.wrap (k - ((a.length : Nat) : Int)) < 0
  · rw [eval_ite_t (decide_eq_true h), szListV_t h]; rfl
  · rw [eval_ite_f (decide_eq_false h), szListV_f h]
    have := fold_loop (f := f55_L0) a (fun l i => ((a, (l, (((i : Nat) : Int), ()))), ())) (fun l (x : FileD) => szFileV x.1 x.2.1 l) negB (y := fun l => ((l, ()), ())) (z := ((-1, ()), ()))
      (fun i hi l hb => by
        have h1 := wrap_succ (i := i) (by omega)
        have hb : ¬ szFileV a[i].1 a[i].2.1 l < 0 := of_decide_eq_false hb
        simp [f55_L0, Out.eval, hi, h1, hb])
      (fun i hi l hb => by
        have hb : szFileV a[i].1 a[i].2.1 l < 0 := of_decide_eq_true hb
        simp [f55_L0, Out.eval, hi, hb])
      (fun l => by simp [f55_L0, Out.eval]) ha (IntKind.i64.wrap (k - ((a.length : Nat) : Int)))
    refine (eval_get_some this).trans ?_
    cases foldG (fun l (x : FileD) => szFileV x.1 x.2.1 l) negB (IntKind.i64.wrap (k - ((a.length : Nat) : Int))) a <;> rfl
def f150_tree (a0 : Int) (a1 : List Int) : Out (((Int × List Int × Unit) × Unit) × (Unit × Unit)) :=
 .get (toIntsV a1) fun y1 =>
 .ret (((a0, y1, ()), ()), ((), ()))
def toFileV (p : Int) (a : List Int) : Option (Int × List Int) := lim a (p, a)
def k150 : Con := { f := 150, lend := true, its := [⟨false, true, [.i .i64, .ro (.int .i64)]⟩], lay := [none], rs := [⟨false, true, [.i .i64, .own (.int .i64)]⟩], F := fun x => .get (toFileV x.1.1 x.1.2.1) fun y => .ret (((y.1, y.2, ()), ()), ((), ())) }
theorem f150_eq (x : itemsD k150.its) : bodyOut (cxOf [k121]) (fun _ => none) (codeOf Try.f150) k150.its k150.lay Try.f150.ntmps k150.rs [.cell 2 160] x = f150_tree x.1.1 x.1.2.1 := by kernel_rfl
theorem f150_ok (hr : ∀ x : (Int × List Int × Unit) × Unit, itemsWF k150.its x → (f150_tree x.1.1 x.1.2.1).eval = (k150.F x).eval) : k150.Ok Try.prog :=
  con_fn [k121] ⟨k121_ok, trivial⟩ (by kernel_rfl) (codeOf_eq (by kernel_rfl)) (by kernel_rfl) (by kernel_rfl) (by kernel_rfl) f150_eq fun x hw _ hy => (hr x hw).trans hy
theorem k150_ok : k150.Ok Try.prog := by
  refine f150_ok fun x _ => ?_
  obtain ⟨⟨p, a, _⟩, _⟩ := x
  show (f150_tree p a).eval = (Out.get (toFileV p a) fun y => Out.ret (((y.1, (y.2, ())), ()), ((), ()))).eval
  unfold f150_tree toFileV toIntsV
  by_cases h : a.length ≤ LIM
  · rw [lim_some h, lim_some h]; rfl
  · rw [lim_not h, lim_not h]; rfl
def limF (a : List FileD) : Bool := decide (a.length ≤ LIM) && a.all fun x => decide (x.2.1.length ≤ LIM)
abbrev f57_S0 := (List ((Int × List Int × Unit)) × Int × Unit) × (List ((Int × List Int × Unit)) × Unit)
def f57_L0 (x : f57_S0) : Out (Round f57_S0 ((Unit) × (List ((Int × List Int × Unit)) × Unit)) Empty) :=
 .ite (decide (x.1.2.1 < ((List.length x.1.1 : Nat) : Int)))
 (.ite (decide (0 ≤ x.1.2.1))
 (.get (nth x.1.1 (Int.toNat x.1.2.1)) fun y1 =>
 .get (toFileV y1.1 y1.2.1) fun y2 =>
 .ite (decide (0 ≤ x.1.2.1 ∧ x.1.2.1 < ((List.length x.2.1 : Nat) : Int)))
 (.get (nth x.2.1 (Int.toNat x.1.2.1)) fun y3 =>
 .ret (.again ((x.1.1, (IntKind.i64.wrap (x.1.2.1 + (1 : Int))), ()), ((List.set x.2.1 (Int.toNat x.1.2.1) (y2.1, y2.2, ())), ()))))
 .fail)
 .fail)
 (.ret (.out ((), (x.2.1, ()))))
def f57_tree (a0 : List (Int × List Int × Unit)) : Out (((List (Int × List Int × Unit) × Unit) × Unit) × (Unit × Unit)) :=
 .ite (decide (0 ≤ ((List.length a0 : Nat) : Int) ∧ ((List.length a0 : Nat) : Int) ≤ ((List.length a0 : Nat) : Int) ∧ ((List.length a0 : Nat) : Int) ≤ (LIM : Int)))
 (.get (iter1 f57_L0 FUEL ((a0, (0 : Int), ()), ((List.replicate (Int.toNat ((List.length a0 : Nat) : Int)) ((0 : Int), (([] : List (Int)), ()))), ()))) fun y1 =>
 .ret (((y1.2.1, ()), ()), ((), ())))
 .fail
def f57_A : Nat → Option LoopAnn := fun n => annOf [(0, { head := { t := [.ro (.st (.cons (.int .i64) (.cons (.sl (.int .i64)) .nil))) (some 0), .dead, .dead, .srf 64000000, .i .i64, .dead, .dead, .dead, .dead, .dead, .dead, .dead, .dead, .dead, .dead, .dead, .dead, .dead, .dead, .dead, .dead, .dead, .dead], v := [(64000000, .arr (.st (.cons (.int .i64) (.cons (.sl (.int .i64)) .nil))))] }, out := { t := [.dead, .dead, .dead, .srf 64000256, .dead, .dead, .dead, .dead, .dead, .dead, .dead, .dead, .dead, .dead, .dead, .dead, .dead, .dead, .dead, .dead, .dead, .dead, .dead], v := [(64000256, .arr (.st (.cons (.int .i64) (.cons (.sl (.int .i64)) .nil))))] }, ret := none })] n
def toFilesV (a : List FileD) : Option (List FileD) := if limF a = true then some a else none
def k57 : Con := { f := 57, lend := true, its := [⟨false, false, [.ro (.st (.cons (.int .i64) (.cons (.sl (.int .i64)) .nil)))]⟩], lay := [none], rs := [⟨false, false, [.own (.st (.cons (.int .i64) (.cons (.sl (.int .i64)) .nil)))]⟩], F := fun x => .get (toFilesV x.1.1) fun y => .ret (((y, ()), ()), ((), ())) }
theorem f57_eq (x : itemsD k57.its) : bodyOut (cxOf [k150]) (f57_A) (codeOf Try.f57) k57.its k57.lay Try.f57.ntmps k57.rs [.tmp 2] x = f57_tree x.1.1 := by kernel_rfl
theorem f57_okp (hr : ∀ x : (List (Int × List Int × Unit) × Unit) × Unit, itemsWF k57.its x → ∀ y, (k57.F x).eval = some y → (f57_tree x.1.1).eval = some y) : k57.Ok Try.prog :=
  con_fn [k150] ⟨k150_ok, trivial⟩ (by kernel_rfl) (codeOf_eq (by kernel_rfl)) (by kernel_rfl) (by kernel_rfl) (by kernel_rfl) f57_eq hr
theorem limF_at {a : List FileD} (h : limF a = true) : a.length ≤ LIM ∧ ∀ i (hi : i < a.length), a[i].2.1.length ≤ LIM := by
  obtain ⟨h1, h2⟩ := Bool.and_eq_true_iff.1 h
  exact ⟨of_decide_eq_true h1, fun i hi => of_decide_eq_true (List.all_eq_true.1 h2 _ (List.getElem_mem hi))⟩
theorem k57_ok : k57.Ok Try.prog := by
  refine f57_okp fun x hw y hy => ?_
  obtain ⟨⟨a, _⟩, _⟩ := x
  have ha : a.length ≤ BIG := hw.1.1.1
  change (Out.get (toFilesV a) fun y => Out.ret (((y, ()), ()), ((), ()))).eval = some y at hy
  show (f57_tree a).eval = some y
  unfold toFilesV at hy
  split at hy
  case isFalse => exact nomatch hy
  rename_i h
  refine Eq.trans ?_ hy
  have hl := limF_at h
  unfold f57_tree
  rw [eval_ite_t (lim_cond hl.1), Int.toNat_natCast]
  have := copy_loop (f := f57_L0) a (fun x : FileD => x) (List.replicate a.length ((0 : Int), (([] : List Int), ()))) (fun i l => ((a, (((i : Nat) : Int), ())), (l, ()))) (by simp) ha
    (fun i hi l hl' => by
      have h1 := wrap_succ (i := i) (by omega)
      have h2 : i < l.length := by omega
      have h4 : toFileV a[i].1 a[i].2.1 = some (a[i].1, a[i].2.1) := lim_some (hl.2 i hi)
      simp [f57_L0, Out.eval, hi, h1, h2, h4])
    (fun l => by simp [f57_L0, Out.eval])
  refine (eval_get_some this).trans ?_
  rw [List.map_id']
  rfl
/-! ## Savers -/
def f50_tree  : Out (((List (List UInt8) × List (Int × List UInt8 × Unit) × List (Int × List Int × Unit) × List (Int × List Int × Unit) × Int × Int × Unit) × Unit) × (Unit)) :=
 .ret (((newDiskV.1, newDiskV.2, ([] : List ((Int × List Int × Unit))), ([] : List ((Int × List Int × Unit))), (0 : Int), (0 : Int), ()), ()), ())
def newSaverV : List Str × List WriteD × List FileD × List FileD × Int × Int := (List.replicate 7 [], [], [], [], 0, 0)
def k50 : Con := { f := 50, lend := true, its := [], lay := [], rs := [⟨false, true, [.own .str, .own (.st (.cons (.int .i64) (.cons .str .nil))), .own (.st (.cons (.int .i64) (.cons (.sl (.int .i64)) .nil))), .own (.st (.cons (.int .i64) (.cons (.sl (.int .i64)) .nil))), .i .i64, .i .i64]⟩], F := fun x => .ret ((((newSaverV).1, (newSaverV).2.1, (newSaverV).2.2.1, (newSaverV).2.2.2.1, (newSaverV).2.2.2.2.1, (newSaverV).2.2.2.2.2, ()), ()), ()) }
theorem f50_eq (x : itemsD k50.its) : bodyOut (cxOf [k26]) (fun _ => none) (codeOf Try.f50) k50.its k50.lay Try.f50.ntmps k50.rs [.cell 0 70] x = f50_tree  := by kernel_rfl
theorem f50_ok (hr : ∀ x : Unit, itemsWF k50.its x → (f50_tree ).eval = (k50.F x).eval) : k50.Ok Try.prog :=
  con_fn [k26] ⟨k26_ok, trivial⟩ (by kernel_rfl) (codeOf_eq (by kernel_rfl)) (by kernel_rfl) (by kernel_rfl) (by kernel_rfl) f50_eq fun x hw _ hy => (hr x hw).trans hy
theorem k50_ok : k50.Ok Try.prog := f50_ok fun _ _ => rfl
def f51_tree  : Out (((List (List UInt8) × List (Int × List UInt8 × Unit) × List (Int × List Int × Unit) × List (Int × List Int × Unit) × Int × Int × Unit) × Unit) × (Unit)) :=
 .ret (((newDiskV.1, newDiskV.2, ([] : List ((Int × List Int × Unit))), ([] : List ((Int × List Int × Unit))), (0 : Int), (0 : Int), ()), ()), ())
def k51 : Con := { f := 51, lend := true, its := [], lay := [], rs := [⟨false, true, [.own .str, .own (.st (.cons (.int .i64) (.cons .str .nil))), .own (.st (.cons (.int .i64) (.cons (.sl (.int .i64)) .nil))), .own (.st (.cons (.int .i64) (.cons (.sl (.int .i64)) .nil))), .i .i64, .i .i64]⟩], F := fun x => .ret ((((newSaverV).1, (newSaverV).2.1, (newSaverV).2.2.1, (newSaverV).2.2.2.1, (newSaverV).2.2.2.2.1, (newSaverV).2.2.2.2.2, ()), ()), ()) }
theorem f51_eq (x : itemsD k51.its) : bodyOut (cxOf [k27]) (fun _ => none) (codeOf Try.f51) k51.its k51.lay Try.f51.ntmps k51.rs [.cell 0 70] x = f51_tree  := by kernel_rfl
theorem f51_ok (hr : ∀ x : Unit, itemsWF k51.its x → (f51_tree ).eval = (k51.F x).eval) : k51.Ok Try.prog :=
  con_fn [k27] ⟨k27_ok, trivial⟩ (by kernel_rfl) (codeOf_eq (by kernel_rfl)) (by kernel_rfl) (by kernel_rfl) (by kernel_rfl) f51_eq fun x hw _ hy => (hr x hw).trans hy
theorem k51_ok : k51.Ok Try.prog := f51_ok fun _ _ => rfl
def f52_tree (a0 : List (List UInt8)) (a1 : List (Int × List UInt8 × Unit)) (a2 : List (Int × List Int × Unit)) (a3 : List (Int × List Int × Unit)) (a4 : Int) (a5 : Int) (a6 : List (List UInt8)) (a7 : List (Int × List UInt8 × Unit)) (a8 : List (Int × List Int × Unit)) (a9 : List (Int × List Int × Unit)) (a10 : Int) (a11 : Int) : Out (((Bool × Unit) × Unit) × (Unit × Unit × Unit)) :=
 .ite (!(eqDiskV a0 a1 a6 a7))
 (.ret (((false, ()), ()), ((), (), ())))
 (.ite (!(eqFilesV a2 a8))
 (.ret (((false, ()), ()), ((), (), ())))
 (.ite (!(eqFilesV a3 a9))
 (.ret (((false, ()), ()), ((), (), ())))
 (.ite ((a4 != a10))
 (.ret (((false, ()), ()), ((), (), ())))
 (.ite ((a5 != a11))
 (.ret (((false, ()), ()), ((), (), ())))
 (.ret (((true, ()), ()), ((), (), ())))))))
def eqSaverV (a : List Str) (b : List WriteD) (c d : List FileD) (q p : Int) (a' : List Str) (b' : List WriteD) (c' d' : List FileD) (q' p' : Int) : Bool := eqDiskV a b a' b' && (eqFilesV c c' && (eqFilesV d d' && (decide (q = q') && decide (p = p'))))
def k52 : Con := { f := 52, lend := true, its := [⟨false, true, [.ro .str, .ro (.st (.cons (.int .i64) (.cons .str .nil))), .ro (.st (.cons (.int .i64) (.cons (.sl (.int .i64)) .nil))), .ro (.st (.cons (.int .i64) (.cons (.sl (.int .i64)) .nil))), .i .i64, .i .i64]⟩, ⟨false, true, [.ro .str, .ro (.st (.cons (.int .i64) (.cons .str .nil))), .ro (.st (.cons (.int .i64) (.cons (.sl (.int .i64)) .nil))), .ro (.st (.cons (.int .i64) (.cons (.sl (.int .i64)) .nil))), .i .i64, .i .i64]⟩], lay := [none, none], rs := [⟨false, false, [.b]⟩], F := fun x => .ret ((((eqSaverV x.1.1 x.1.2.1 x.1.2.2.1 x.1.2.2.2.1 x.1.2.2.2.2.1 x.1.2.2.2.2.2.1 x.2.1.1 x.2.1.2.1 x.2.1.2.2.1 x.2.1.2.2.2.1 x.2.1.2.2.2.2.1 x.2.1.2.2.2.2.2.1), ()), ()), ((), (), ())) }
theorem f52_eq (x : itemsD k52.its) : bodyOut (cxOf [k28, k60]) (fun _ => none) (codeOf Try.f52) k52.its k52.lay Try.f52.ntmps k52.rs [.tmp 4] x = f52_tree x.1.1 x.1.2.1 x.1.2.2.1 x.1.2.2.2.1 x.1.2.2.2.2.1 x.1.2.2.2.2.2.1 x.2.1.1 x.2.1.2.1 x.2.1.2.2.1 x.2.1.2.2.2.1 x.2.1.2.2.2.2.1 x.2.1.2.2.2.2.2.1 := by kernel_rfl
theorem f52_ok (hr : ∀ x : (List (List UInt8) × List (Int × List UInt8 × Unit) × List (Int × List Int × Unit) × List (Int × List Int × Unit) × Int × Int × Unit) × (List (List UInt8) × List (Int × List UInt8 × Unit) × List (Int × List Int × Unit) × List (Int × List Int × Unit) × Int × Int × Unit) × Unit, itemsWF k52.its x → (f52_tree x.1.1 x.1.2.1 x.1.2.2.1 x.1.2.2.2.1 x.1.2.2.2.2.1 x.1.2.2.2.2.2.1 x.2.1.1 x.2.1.2.1 x.2.1.2.2.1 x.2.1.2.2.2.1 x.2.1.2.2.2.2.1 x.2.1.2.2.2.2.2.1).eval = (k52.F x).eval) : k52.Ok Try.prog :=
  con_fn [k28, k60] ⟨k28_ok, k60_ok, trivial⟩ (by kernel_rfl) (codeOf_eq (by kernel_rfl)) (by kernel_rfl) (by kernel_rfl) (by kernel_rfl) f52_eq fun x hw _ hy => (hr x hw).trans hy
theorem k52_ok : k52.Ok Try.prog := by
  refine f52_ok fun x _ => ?_
  obtain ⟨⟨a, b, c, d, q, p, _⟩, ⟨a', b', c', d', q', p', _⟩, _⟩ := x
  show (f52_tree a b c d q p a' b' c' d' q' p').eval = some (((eqSaverV a b c d q p a' b' c' d' q' p', ()), ()), ((), ((), ())))
  unfold f52_tree eqSaverV
  cases h1 : eqDiskV a b a' b' <;> cases h2 : eqFilesV c c' <;> cases h3 : eqFilesV d d' <;> by_cases h4 : q = q' <;> by_cases h5 : p = p' <;> simp [Out.eval, h4, h5, cond_eq_ite]
theorem eqSaverV_self (a : List Str) (b : List WriteD) (c d : List FileD) (q p : Int) : eqSaverV a b c d q p a b c d q p = true := by simp [eqSaverV, eqDiskV, eqFilesV]
def f53_tree (a0 : List (List UInt8)) (a1 : List (Int × List UInt8 × Unit)) (a2 : List (Int × List Int × Unit)) (a3 : List (Int × List Int × Unit)) (a4 : Int) (a5 : Int) (a6 : Int) : Out (((Int × Unit) × Unit) × ((List (List UInt8) × List (Int × List UInt8 × Unit) × List (Int × List Int × Unit) × List (Int × List Int × Unit) × Unit) × Unit × Unit)) :=
 .ret ((((markFileSV a3 (markFileSV a2 (markDiskV a0 a1 a6).1).1).1, ()), ()), (((markDiskV a0 a1 a6).2.1, (markDiskV a0 a1 a6).2.2, (markFileSV a2 (markDiskV a0 a1 a6).1).2, (markFileSV a3 (markFileSV a2 (markDiskV a0 a1 a6).1).1).2, ()), (), ()))
def markSaverV (a : List Str) (b : List WriteD) (c d : List FileD) (_q _p : Int) (k : Int) : Int × List Str × List WriteD × List FileD × List FileD :=
  ((markFileSV d (markFileSV c (markDiskV a b k).1).1).1, (markDiskV a b k).2.1, (markDiskV a b k).2.2, (markFileSV c (markDiskV a b k).1).2, (markFileSV d (markFileSV c (markDiskV a b k).1).1).2)
def k53 : Con := { f := 53, lend := true, its := [⟨false, true, [.mut .str, .mut (.st (.cons (.int .i64) (.cons .str .nil))), .mut (.st (.cons (.int .i64) (.cons (.sl (.int .i64)) .nil))), .mut (.st (.cons (.int .i64) (.cons (.sl (.int .i64)) .nil))), .i .i64, .i .i64]⟩, ⟨false, false, [.i .i64]⟩], lay := [none, none], rs := [⟨false, false, [.i .i64]⟩], F := fun x => .ret ((((markSaverV x.1.1 x.1.2.1 x.1.2.2.1 x.1.2.2.2.1 x.1.2.2.2.2.1 x.1.2.2.2.2.2.1 x.2.1.1).1, ()), ()), (((markSaverV x.1.1 x.1.2.1 x.1.2.2.1 x.1.2.2.2.1 x.1.2.2.2.2.1 x.1.2.2.2.2.2.1 x.2.1.1).2.1, (markSaverV x.1.1 x.1.2.1 x.1.2.2.1 x.1.2.2.2.1 x.1.2.2.2.2.1 x.1.2.2.2.2.2.1 x.2.1.1).2.2.1, (markSaverV x.1.1 x.1.2.1 x.1.2.2.1 x.1.2.2.2.1 x.1.2.2.2.2.1 x.1.2.2.2.2.2.1 x.2.1.1).2.2.2.1, (markSaverV x.1.1 x.1.2.1 x.1.2.2.1 x.1.2.2.2.1 x.1.2.2.2.2.1 x.1.2.2.2.2.2.1 x.2.1.1).2.2.2.2, ()), (), ())) }
theorem f53_eq (x : itemsD k53.its) : bodyOut (cxOf [k29, k61]) (fun _ => none) (codeOf Try.f53) k53.its k53.lay Try.f53.ntmps k53.rs [.tmp 4] x = f53_tree x.1.1 x.1.2.1 x.1.2.2.1 x.1.2.2.2.1 x.1.2.2.2.2.1 x.1.2.2.2.2.2.1 x.2.1.1 := by kernel_rfl
theorem f53_ok (hr : ∀ x : (List (List UInt8) × List (Int × List UInt8 × Unit) × List (Int × List Int × Unit) × List (Int × List Int × Unit) × Int × Int × Unit) × (Int × Unit) × Unit, itemsWF k53.its x → (f53_tree x.1.1 x.1.2.1 x.1.2.2.1 x.1.2.2.2.1 x.1.2.2.2.2.1 x.1.2.2.2.2.2.1 x.2.1.1).eval = (k53.F x).eval) : k53.Ok Try.prog :=
  con_fn [k29, k61] ⟨k29_ok, k61_ok, trivial⟩ (by kernel_rfl) (codeOf_eq (by kernel_rfl)) (by kernel_rfl) (by kernel_rfl) (by kernel_rfl) f53_eq fun x hw _ hy => (hr x hw).trans hy
theorem k53_ok : k53.Ok Try.prog := f53_ok fun _ _ => rfl
def f54_tree (a0 : List (List UInt8)) (a1 : List (Int × List UInt8 × Unit)) (a2 : List (Int × List Int × Unit)) (a3 : List (Int × List Int × Unit)) (a4 : Int) (a5 : Int) (a6 : Int) : Out (((Int × Unit) × Unit) × (Unit × Unit × Unit)) :=
 .ite (decide ((heldDiskV a0 a1 a6) < (0 : Int)))
 (.ret ((((-1 : Int), ()), ()), ((), (), ())))
 (.ite (decide ((heldFileSV a2 (heldDiskV a0 a1 a6)) < (0 : Int)))
 (.ret ((((-1 : Int), ()), ()), ((), (), ())))
 (.ite (decide ((heldFileSV a3 (heldFileSV a2 (heldDiskV a0 a1 a6))) < (0 : Int)))
 (.ret ((((-1 : Int), ()), ()), ((), (), ())))
 (.ret ((((heldFileSV a3 (heldFileSV a2 (heldDiskV a0 a1 a6))), ()), ()), ((), (), ())))))
def heldSaverV (a : List Str) (b : List WriteD) (c d : List FileD) (_q _p : Int) (k : Int) : Int :=
  thenV (heldDiskV a b k) (thenV (heldFileSV c (heldDiskV a b k)) (thenV (heldFileSV d (heldFileSV c (heldDiskV a b k))) (heldFileSV d (heldFileSV c (heldDiskV a b k)))))
def k54 : Con := { f := 54, lend := true, its := [⟨false, true, [.ro .str, .ro (.st (.cons (.int .i64) (.cons .str .nil))), .ro (.st (.cons (.int .i64) (.cons (.sl (.int .i64)) .nil))), .ro (.st (.cons (.int .i64) (.cons (.sl (.int .i64)) .nil))), .i .i64, .i .i64]⟩, ⟨false, false, [.i .i64]⟩], lay := [none, none], rs := [⟨false, false, [.i .i64]⟩], F := fun x => .ret ((((heldSaverV x.1.1 x.1.2.1 x.1.2.2.1 x.1.2.2.2.1 x.1.2.2.2.2.1 x.1.2.2.2.2.2.1 x.2.1.1), ()), ()), ((), (), ())) }
theorem f54_eq (x : itemsD k54.its) : bodyOut (cxOf [k30, k89]) (fun _ => none) (codeOf Try.f54) k54.its k54.lay Try.f54.ntmps k54.rs [.tmp 4] x = f54_tree x.1.1 x.1.2.1 x.1.2.2.1 x.1.2.2.2.1 x.1.2.2.2.2.1 x.1.2.2.2.2.2.1 x.2.1.1 := by kernel_rfl
theorem f54_ok (hr : ∀ x : (List (List UInt8) × List (Int × List UInt8 × Unit) × List (Int × List Int × Unit) × List (Int × List Int × Unit) × Int × Int × Unit) × (Int × Unit) × Unit, itemsWF k54.its x → (f54_tree x.1.1 x.1.2.1 x.1.2.2.1 x.1.2.2.2.1 x.1.2.2.2.2.1 x.1.2.2.2.2.2.1 x.2.1.1).eval = (k54.F x).eval) : k54.Ok Try.prog :=
  con_fn [k30, k89] ⟨k30_ok, k89_ok, trivial⟩ (by kernel_rfl) (codeOf_eq (by kernel_rfl)) (by kernel_rfl) (by kernel_rfl) (by kernel_rfl) f54_eq fun x hw _ hy => (hr x hw).trans hy
theorem k54_ok : k54.Ok Try.prog := by
  refine f54_ok fun x _ => ?_
  obtain ⟨⟨a, b, c, d, q, p, _⟩, ⟨k, _⟩, _⟩ := x
  show (f54_tree a b c d q p k).eval = some (((heldSaverV a b c d q p k, ()), ()), ((), ((), ())))
  unfold f54_tree heldSaverV thenV
  by_cases h1 : heldDiskV a b k < 0
  · simp [Out.eval, h1]
  · by_cases h2 : heldFileSV c (heldDiskV a b k) < 0
    · simp [Out.eval, h1, h2]
    · by_cases h3 : heldFileSV d (heldFileSV c (heldDiskV a b k)) < 0 <;> simp [Out.eval, h1, h2, h3]
/-- How many places a saver has. -/
def cntS (a : List Str) (b : List WriteD) (c d : List FileD) : Nat := a.length + 2 * b.length + cntF c + cntF d
theorem markSaverV_up {a : List Str} {b : List WriteD} {c d : List FileD} {q p : Int} {k : Int} : (markSaverV a b c d q p k).1 = up k (cntS a b c d) := by
  show (markFileSV d (markFileSV c (up (up k a.length) (2 * b.length))).1).1 = _
  rw [markFileSV_up, markFileSV_up, up_add, up_add, up_add]
  congr 1
  unfold cntS; omega
theorem thenV_ok {x y : Int} (h : ¬ x < 0) : thenV x y = y := if_neg h
theorem held_markSaver {a : List Str} {b : List WriteD} {c d : List FileD} {q p q' p' : Int} (h : cntS a b c d < 4611686018427387904) :
    heldSaverV (markSaverV a b c d q p 1).2.1 (markSaverV a b c d q p 1).2.2.1 (markSaverV a b c d q p 1).2.2.2.1 (markSaverV a b c d q p 1).2.2.2.2 q' p' 1 = (markSaverV a b c d q p 1).1 ∧ ¬ (markSaverV a b c d q p 1).1 < 0 := by
  have h' : a.length + 2 * b.length + cntF c + cntF d < 4611686018427387904 := h
  have e1 := (held_markDisk (a := a) (b := b) (by omega)).1
  have e1' : heldDiskV (markDiskV a b 1).2.1 (markDiskV a b 1).2.2 1 = up 1 (a.length + 2 * b.length) := e1.trans mark_disk_up
  have e2 := held_markFiles (a := c) (m := a.length + 2 * b.length) (by unfold BIG; omega)
  have e3 := held_markFiles (a := d) (m := a.length + 2 * b.length + cntF c) (by unfold BIG; omega)
  have e4 : (markFileSV c (up 1 (a.length + 2 * b.length))).1 = up 1 (a.length + 2 * b.length + cntF c) := by rw [markFileSV_up, up_add]
  have n1 := up_nonneg (n := a.length + 2 * b.length) (by unfold BIG; omega)
  have n2 := up_nonneg (n := a.length + 2 * b.length + cntF c) (by unfold BIG; omega)
  have n3 := up_nonneg (n := a.length + 2 * b.length + cntF c + cntF d) (by unfold BIG; omega)
  have m : (markSaverV a b c d q p 1).1 = up 1 (a.length + 2 * b.length + cntF c + cntF d) := markSaverV_up
  rw [m]
  refine ⟨?_, n3⟩
  show heldSaverV (markDiskV a b 1).2.1 (markDiskV a b 1).2.2 (markFileSV c (markDiskV a b 1).1).2 (markFileSV d (markFileSV c (markDiskV a b 1).1).1).2 q' p' 1 = _
  unfold heldSaverV
  rw [e1', mark_disk_up, e4, e2, thenV_ok n1, thenV_ok n2, e3, thenV_ok n3]
def f77_tree (a0 : List (List UInt8)) (a1 : List (Int × List UInt8 × Unit)) (a2 : List (Int × List Int × Unit)) (a3 : List (Int × List Int × Unit)) (a4 : Int) (a5 : Int) (a6 : Int) : Out (((Int × Unit) × Unit) × (Unit × Unit × Unit)) :=
 .ite (decide ((szDiskV a0 a1 a6) < (0 : Int)))
 (.ret ((((-1 : Int), ()), ()), ((), (), ())))
 (.ite (decide ((szFilesV a2 (szDiskV a0 a1 a6)) < (0 : Int)))
 (.ret ((((-1 : Int), ()), ()), ((), (), ())))
 (.ite (decide ((szFilesV a3 (szFilesV a2 (szDiskV a0 a1 a6))) < (0 : Int)))
 (.ret ((((-1 : Int), ()), ()), ((), (), ())))
 (.ret ((((szFilesV a3 (szFilesV a2 (szDiskV a0 a1 a6))), ()), ()), ((), (), ())))))
def szSaverV (a : List Str) (b : List WriteD) (c d : List FileD) (_q _p : Int) (k : Int) : Int :=
  thenV (szDiskV a b k) (thenV (szFilesV c (szDiskV a b k)) (thenV (szFilesV d (szFilesV c (szDiskV a b k))) (szFilesV d (szFilesV c (szDiskV a b k)))))
def k77 : Con := { f := 77, lend := true, its := [⟨false, true, [.ro .str, .ro (.st (.cons (.int .i64) (.cons .str .nil))), .ro (.st (.cons (.int .i64) (.cons (.sl (.int .i64)) .nil))), .ro (.st (.cons (.int .i64) (.cons (.sl (.int .i64)) .nil))), .i .i64, .i .i64]⟩, ⟨false, false, [.i .i64]⟩], lay := [none, none], rs := [⟨false, false, [.i .i64]⟩], F := fun x => .ret ((((szSaverV x.1.1 x.1.2.1 x.1.2.2.1 x.1.2.2.2.1 x.1.2.2.2.2.1 x.1.2.2.2.2.2.1 x.2.1.1), ()), ()), ((), (), ())) }
theorem f77_eq (x : itemsD k77.its) : bodyOut (cxOf [k36, k55]) (fun _ => none) (codeOf Try.f77) k77.its k77.lay Try.f77.ntmps k77.rs [.tmp 4] x = f77_tree x.1.1 x.1.2.1 x.1.2.2.1 x.1.2.2.2.1 x.1.2.2.2.2.1 x.1.2.2.2.2.2.1 x.2.1.1 := by kernel_rfl
theorem f77_ok (hr : ∀ x : (List (List UInt8) × List (Int × List UInt8 × Unit) × List (Int × List Int × Unit) × List (Int × List Int × Unit) × Int × Int × Unit) × (Int × Unit) × Unit, itemsWF k77.its x → (f77_tree x.1.1 x.1.2.1 x.1.2.2.1 x.1.2.2.2.1 x.1.2.2.2.2.1 x.1.2.2.2.2.2.1 x.2.1.1).eval = (k77.F x).eval) : k77.Ok Try.prog :=
  con_fn [k36, k55] ⟨k36_ok, k55_ok, trivial⟩ (by kernel_rfl) (codeOf_eq (by kernel_rfl)) (by kernel_rfl) (by kernel_rfl) (by kernel_rfl) f77_eq fun x hw _ hy => (hr x hw).trans hy
theorem k77_ok : k77.Ok Try.prog := by
  refine f77_ok fun x _ => ?_
  obtain ⟨⟨a, b, c, d, q, p, _⟩, ⟨k, _⟩, _⟩ := x
  show (f77_tree a b c d q p k).eval = some (((szSaverV a b c d q p k, ()), ()), ((), ((), ())))
  unfold f77_tree szSaverV thenV
  by_cases h1 : szDiskV a b k < 0
  · simp [Out.eval, h1]
  · by_cases h2 : szFilesV c (szDiskV a b k) < 0
    · simp [Out.eval, h1, h2]
    · by_cases h3 : szFilesV d (szFilesV c (szDiskV a b k)) < 0 <;> simp [Out.eval, h1, h2, h3]
def f79_tree (a0 : List (List UInt8)) (a1 : List (Int × List UInt8 × Unit)) (a2 : List (Int × List Int × Unit)) (a3 : List (Int × List Int × Unit)) (a4 : Int) (a5 : Int) : Out (((List (List UInt8) × List (Int × List UInt8 × Unit) × List (Int × List Int × Unit) × List (Int × List Int × Unit) × Int × Int × Unit) × Unit) × (Unit × Unit)) :=
 .get (toDiskV a0 a1) fun y1 =>
 .get (toFilesV a2) fun y2 =>
 .get (toFilesV a3) fun y3 =>
 .ret (((y1.1, y1.2, y2, y3, a4, a5, ()), ()), ((), ()))
def toSaverV (a : List Str) (b : List WriteD) (c d : List FileD) (q p : Int) : Option (List Str × List WriteD × List FileD × List FileD × Int × Int) := if (a.length ≤ LIM ∧ b.length ≤ LIM) ∧ limF c = true ∧ limF d = true then some (a, b, c, d, q, p) else none
def k79 : Con := { f := 79, lend := true, its := [⟨false, true, [.ro .str, .ro (.st (.cons (.int .i64) (.cons .str .nil))), .ro (.st (.cons (.int .i64) (.cons (.sl (.int .i64)) .nil))), .ro (.st (.cons (.int .i64) (.cons (.sl (.int .i64)) .nil))), .i .i64, .i .i64]⟩], lay := [none], rs := [⟨false, true, [.own .str, .own (.st (.cons (.int .i64) (.cons .str .nil))), .own (.st (.cons (.int .i64) (.cons (.sl (.int .i64)) .nil))), .own (.st (.cons (.int .i64) (.cons (.sl (.int .i64)) .nil))), .i .i64, .i .i64]⟩], F := fun x => .get (toSaverV x.1.1 x.1.2.1 x.1.2.2.1 x.1.2.2.2.1 x.1.2.2.2.2.1 x.1.2.2.2.2.2.1) fun y => .ret (((y.1, y.2.1, y.2.2.1, y.2.2.2.1, y.2.2.2.2.1, y.2.2.2.2.2, ()), ()), ((), ())) }
theorem f79_eq (x : itemsD k79.its) : bodyOut (cxOf [k38, k57]) (fun _ => none) (codeOf Try.f79) k79.its k79.lay Try.f79.ntmps k79.rs [.cell 2 70] x = f79_tree x.1.1 x.1.2.1 x.1.2.2.1 x.1.2.2.2.1 x.1.2.2.2.2.1 x.1.2.2.2.2.2.1 := by kernel_rfl
theorem f79_ok (hr : ∀ x : (List (List UInt8) × List (Int × List UInt8 × Unit) × List (Int × List Int × Unit) × List (Int × List Int × Unit) × Int × Int × Unit) × Unit, itemsWF k79.its x → (f79_tree x.1.1 x.1.2.1 x.1.2.2.1 x.1.2.2.2.1 x.1.2.2.2.2.1 x.1.2.2.2.2.2.1).eval = (k79.F x).eval) : k79.Ok Try.prog :=
  con_fn [k38, k57] ⟨k38_ok, k57_ok, trivial⟩ (by kernel_rfl) (codeOf_eq (by kernel_rfl)) (by kernel_rfl) (by kernel_rfl) (by kernel_rfl) f79_eq fun x hw _ hy => (hr x hw).trans hy
theorem k79_ok : k79.Ok Try.prog := by
  refine f79_ok fun x _ => ?_
  obtain ⟨⟨a, b, c, d, q, p, _⟩, _⟩ := x
  show (f79_tree a b c d q p).eval = (Out.get (toSaverV a b c d q p) fun y => Out.ret (((y.1, (y.2.1, (y.2.2.1, (y.2.2.2.1, (y.2.2.2.2.1, (y.2.2.2.2.2, ())))))), ()), ((), ()))).eval
  unfold f79_tree toSaverV toDiskV toFilesV
  by_cases h1 : a.length ≤ LIM <;> by_cases h1' : b.length ≤ LIM <;> cases h2 : limF c <;> cases h3 : limF d <;> simp [Out.eval, h1, h1']
/-- What the size of files tells. -/
theorem szFiles_le {a : List FileD} {left : Int} (ha : a.length ≤ BIG) (ha' : ∀ x ∈ a, x.2.1.length ≤ BIG) (h0 : -1 ≤ left) (h1 : left ≤ 1048576) (h : ¬ szFilesV a left < 0) :
    a.length ≤ 1048576 ∧ -1 ≤ szFilesV a left ∧ szFilesV a left ≤ 1048576 :=
  szList_le (m := 1048576) (by decide) h0 h1 ha (fun x hx l hl1 hl2 => by
    have := lessV_bound (m := 1048576) (by decide) hl1 hl2 (ha' x hx)
    show -1 ≤ thenV (lessV l x.2.1.length) (lessV l x.2.1.length) ∧ thenV (lessV l x.2.1.length) (lessV l x.2.1.length) ≤ _
    unfold thenV
    split <;> omega) h
theorem lessV_eq0 {left : Int} {n : Nat} (h0 : 0 ≤ left) (h1 : left ≤ 1048576) (hn : n ≤ BIG) (h : ¬ lessV left n < 0) : lessV left n = left - ((n : Nat) : Int) := by
  rw [lessV_ite] at h
  rw [lessV_eq h]
  exact wrap_id (by unfold BIG at hn; omega) (by omega)
theorem lessV_neg {left : Int} {n : Nat} (h : lessV left n < 0) : lessV left n = -1 := by
  rw [lessV_ite] at h
  unfold lessV
  exact if_pos h
theorem szFilesV_eq {a : List FileD} {left : Int} (ha : a.length ≤ BIG) (ha' : ∀ x ∈ a, x.2.1.length ≤ BIG) (h0 : 0 ≤ left) (h1 : left ≤ 1048576) (h : ¬ szFilesV a left < 0) : szFilesV a left = left - ((cntF a : Nat) : Int) := by
  have key : ∀ (b : List FileD), (∀ x ∈ b, x.2.1.length ≤ BIG) → ∀ l : Int, 0 ≤ l → l ≤ 1048576 → ¬ (foldG (fun l (x : FileD) => szFileV x.1 x.2.1 l) negB l b).getD (-1) < 0 →
      (foldG (fun l (x : FileD) => szFileV x.1 x.2.1 l) negB l b).getD (-1) = l + ((b.length : Nat) : Int) - ((cntF b : Nat) : Int) := by
    intro b
    induction b with
    | nil => intro _ l _ _ _; simp [foldG, cntF]
    | cons x r ih =>
      intro hb l hl0 hl1 hn
      have e : szFileV x.1 x.2.1 l = lessV l x.2.1.length := by
        show thenV (lessV l x.2.1.length) (lessV l x.2.1.length) = _
        unfold thenV
        split
        · rename_i q; exact (lessV_neg q).symm
        · rfl
      simp only [foldG, e] at hn ⊢
      by_cases q : lessV l x.2.1.length < 0
      · have : negB (lessV l x.2.1.length) = true := decide_eq_true q
        rw [if_pos this] at hn
        simp at hn
      · have q1 : ¬ negB (lessV l x.2.1.length) = true := by unfold negB; simpa using q
        rw [if_neg q1] at hn ⊢
        have e2 := lessV_eq0 hl0 hl1 (hb x (by simp)) q
        rw [e2] at hn q ⊢
        rw [ih (fun y hy => hb y (by simp [hy])) _ (by omega) (by omega) hn]
        simp only [List.length_cons, cntF]
        omega
  unfold szFilesV szListV at h ⊢
  split at h
  · omega
  · rename_i q
    rw [if_neg q]
    have e2 := lessV_eq0 h0 h1 ha q
    rw [e2] at q h ⊢
    rw [key a ha' _ (by omega) (by omega) h]
    omega
theorem cntF_mem : ∀ {a : List FileD} {x : FileD}, x ∈ a → x.2.1.length < cntF a
  | y :: r, x, h => by
    rcases List.mem_cons.1 h with rfl | h
    · simp only [cntF]; omega
    · have := cntF_mem h
      simp only [cntF]; omega
theorem cntF_len : ∀ (a : List FileD), a.length ≤ cntF a
  | [] => Nat.le_refl _
  | _ :: r => by have := cntF_len r; simp only [cntF, List.length_cons]; omega
theorem limF_of {a : List FileD} (h : cntF a ≤ 1048576) : limF a = true := by
  unfold limF
  have := cntF_len a
  rw [decide_eq_true (by rw [LIM_eq]; omega), Bool.true_and]
  refine List.all_eq_true.2 fun x hx => decide_eq_true ?_
  have := cntF_mem hx
  rw [LIM_eq]; omega

end Go.Proofs.Ytjcinikojcfebaa.Dm
