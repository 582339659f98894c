/- Functions of the program, and what they compute. -/
import Derived.Test.YtjcinikojcfebaaGreatA1
namespace Go.Proofs.YtjcinikojcfebaaGreat.Dm
open Go Go.ChangeShapes Go.WideShapes Go.ChangeAt Go.RowKit

/-! ## How much there is -/
/-- What is left of a measure. -/
def lessV (left : Int) (n : Nat) : Int := if IntKind.i64.wrap (left - ((n : Nat) : Int)) < 0 then -1 else IntKind.i64.wrap (left - ((n : Nat) : Int))
/-- A measure of at most 'm' that is not used up bounds what was measured. -/
theorem lessV_le {left : Int} {n m : Nat} (hm : m ≤ 4611686018427387904) (h0 : -1 ≤ left) (h1 : left ≤ m) (hn : n ≤ BIG) (h : ¬ lessV left n < 0) : n ≤ m ∧ 0 ≤ lessV left n ∧ lessV left n ≤ m ∧ lessV left n + n = left := by
  unfold lessV at h ⊢
  unfold BIG at hn
  have hw : IntKind.i64.wrap (left - ((n : Nat) : Int)) = left - n := by
    rw [IntKind.wrap_i64]; omega
  rw [hw] at h ⊢
  split at h
  · omega
  · rename_i hlt
    rw [if_neg hlt]
    omega
theorem lessV_bound {left : Int} {n m : Nat} (hm : m ≤ 4611686018427387904) (h0 : -1 ≤ left) (h1 : left ≤ m) (hn : n ≤ BIG) : -1 ≤ lessV left n ∧ lessV left n ≤ m := by
  by_cases h : lessV left n < 0
  · unfold lessV at h ⊢
    split at h
    · rename_i hlt; rw [if_pos hlt]; omega
    · omega
  · have := lessV_le hm h0 h1 hn h
    omega

def f63_tree (a0 : List Int) (a1 : Int) : Out (((Int × Unit) × Unit) × (Unit × Unit × Unit)) :=
 .ite (decide ((IntKind.i64.wrap (a1 - ((List.length a0 : Nat) : Int))) < (0 : Int)))
 (.ret ((((-1 : Int), ()), ()), ((), (), ())))
 (.ret ((((IntKind.i64.wrap (a1 - ((List.length a0 : Nat) : Int))), ()), ()), ((), (), ())))
def szIntSV (a : List Int) (left : Int) : Int := lessV left a.length
def k63 : Con := { f := 63, lend := true, its := [⟨false, false, [.ro (.int .i64)]⟩, ⟨false, false, [.i .i64]⟩], lay := [none, none], rs := [⟨false, false, [.i .i64]⟩], F := fun x => .ret ((((szIntSV x.1.1 x.2.1.1), ()), ()), ((), (), ())) }
theorem f63_eq (x : itemsD k63.its) : bodyOut (cxOf []) (fun _ => none) (codeOf Tryz.f63) k63.its k63.lay Tryz.f63.ntmps k63.rs [.tmp 4] x = f63_tree x.1.1 x.2.1.1 := by kernel_rfl
theorem f63_ok (hr : ∀ x : (List Int × Unit) × (Int × Unit) × Unit, itemsWF k63.its x → (f63_tree x.1.1 x.2.1.1).eval = (k63.F x).eval) : k63.Ok Tryz.prog :=
  con_fn [] trivial (by kernel_rfl) (codeOf_eq (by kernel_rfl)) (by kernel_rfl) (by kernel_rfl) (by kernel_rfl) f63_eq fun x hw _ hy => (hr x hw).trans hy
theorem k63_ok : k63.Ok Tryz.prog := by
  refine f63_ok fun x _ => ?_
  obtain ⟨⟨a, _⟩, ⟨k, _⟩, _⟩ := x
  show (f63_tree a k).eval = some (((szIntSV a k, ()), ()), ((), ((), ())))
  unfold f63_tree szIntSV lessV
  by_cases h : IntKind.i64.wrap (k - ((a.length : Nat) : Int)) < 0
  · rw [eval_ite_t (decide_eq_true h), if_pos h]; rfl
  · rw [eval_ite_f (decide_eq_false h), if_neg h]; rfl
/-- A step that is not gone on from when it is used up. -/
def thenV (x : Int) (y : Int) : Int := if x < 0 then -1 else y
def szCpuV (_pc : Int) (a : List Int) (left : Int) : Int := thenV (szIntSV a left) (szIntSV a left)
def szViewV (p : Int) (a b c : List Int) (left : Int) : Int := thenV (szCpuV p a left) (thenV (szIntSV b (szCpuV p a left)) (thenV (szIntSV c (szIntSV b (szCpuV p a left))) (szIntSV c (szIntSV b (szCpuV p a left)))))
/-! ## Copies of what the law is given -/
def lim {α β : Type} (l : List α) (x : β) : Option β := if l.length ≤ LIM then some x else none
theorem lim_some {α β : Type} {l : List α} {x : β} (h : l.length ≤ LIM) : lim l x = some x := if_pos h
theorem lim_inv {α β : Type} {l : List α} {x y : β} (h : lim l x = some y) : l.length ≤ LIM ∧ y = x := by
  unfold lim at h
  split at h
  · exact ⟨‹_›, (Option.some.inj h).symm⟩
  · cases h
theorem lim_not {α β : Type} {l : List α} {x : β} (h : ¬ l.length ≤ LIM) : lim l x = none := if_neg h
abbrev f73_S0 := (List (Int) × Int × Unit) × (List (Int) × Unit)
def f73_L0 (x : f73_S0) : Out (Round f73_S0 ((Unit) × (List (Int) × Unit)) Empty) :=
 .ite (decide (x.1.2.1 < ((List.length x.1.1 : Nat) : Int)))
 (.ite (decide (0 ≤ x.1.2.1))
 (.get (nth x.1.1 (Int.toNat x.1.2.1)) fun y1 =>
 .ite (decide (0 ≤ x.1.2.1 ∧ x.1.2.1 < ((List.length x.2.1 : Nat) : Int)))
 (.get (nth x.2.1 (Int.toNat x.1.2.1)) fun y2 =>
 .ret (.again ((x.1.1, (IntKind.i64.wrap (x.1.2.1 + (1 : Int))), ()), ((List.set x.2.1 (Int.toNat x.1.2.1) y1), ()))))
 .fail)
 .fail)
 (.ret (.out ((), (x.2.1, ()))))
def f73_tree (a0 : List Int) : Out (((List Int × Unit) × Unit) × (Unit × Unit)) :=
 .ite (decide (0 ≤ ((List.length a0 : Nat) : Int) ∧ ((List.length a0 : Nat) : Int) ≤ ((List.length a0 : Nat) : Int) ∧ ((List.length a0 : Nat) : Int) ≤ (LIM : Int)))
 (.get (iter1 f73_L0 FUEL ((a0, (0 : Int), ()), ((List.replicate (Int.toNat ((List.length a0 : Nat) : Int)) (0 : Int)), ()))) fun y1 =>
 .ret (((y1.2.1, ()), ()), ((), ())))
 .fail
def f73_A : Nat → Option LoopAnn := fun n => annOf [(0, { head := { t := [.ro (.int .i64) (some 0), .dead, .dead, .srf 64000000, .i .i64, .dead, .dead, .dead, .dead, .dead, .dead, .dead, .dead, .dead, .dead, .dead, .dead, .dead, .dead, .dead, .dead, .dead], v := [(64000000, .arr (.int .i64))] }, out := { t := [.dead, .dead, .dead, .srf 64000256, .dead, .dead, .dead, .dead, .dead, .dead, .dead, .dead, .dead, .dead, .dead, .dead, .dead, .dead, .dead, .dead, .dead, .dead], v := [(64000256, .arr (.int .i64))] }, ret := none })] n
def toIntsV (a : List Int) : Option (List Int) := lim a a
def k73 : Con := { f := 73, lend := true, its := [⟨false, false, [.ro (.int .i64)]⟩], lay := [none], rs := [⟨false, false, [.own (.int .i64)]⟩], F := fun x => .get (toIntsV x.1.1) fun y => .ret (((y, ()), ()), ((), ())) }
theorem f73_eq (x : itemsD k73.its) : bodyOut (cxOf []) (f73_A) (codeOf Tryz.f73) k73.its k73.lay Tryz.f73.ntmps k73.rs [.tmp 2] x = f73_tree x.1.1 := by kernel_rfl
theorem f73_ok (hr : ∀ x : (List Int × Unit) × Unit, itemsWF k73.its x → (f73_tree x.1.1).eval = (k73.F x).eval) : k73.Ok Tryz.prog :=
  con_fn [] trivial (by kernel_rfl) (codeOf_eq (by kernel_rfl)) (by kernel_rfl) (by kernel_rfl) (by kernel_rfl) f73_eq fun x hw _ hy => (hr x hw).trans hy
def itemAt {α : Type} (d : α) (a : List α) (i : Nat) : α := (a[i]?).getD d
theorem markL_const {α : Type} (a b : List α) (hl : b.length = a.length) (d : Nat → α) (hd : ∀ i (h : i < a.length), d i = a[i]) : (List.range b.length).map d = a := by
  apply List.ext_getElem?
  intro i
  by_cases hi : i < a.length
  · rw [List.getElem?_map, List.getElem?_range (by omega), List.getElem?_eq_getElem hi, Option.map_some, hd i hi]
  · rw [List.getElem?_eq_none (by simp; omega), List.getElem?_eq_none (by omega)]
theorem k73_ok : k73.Ok Tryz.prog := by
  refine f73_ok fun x hw => ?_
  obtain ⟨⟨a, _⟩, _⟩ := x
  have ha : a.length ≤ BIG := hw.1.1.1
  show (f73_tree a).eval = (Out.get (toIntsV a) fun y => Out.ret (((y, ()), ()), ((), ()))).eval
  by_cases h : a.length ≤ LIM
  · have hcond : decide (0 ≤ ((a.length : Nat) : Int) ∧ ((a.length : Nat) : Int) ≤ ((a.length : Nat) : Int) ∧ ((a.length : Nat) : Int) ≤ (LIM : Int)) = true := decide_eq_true (by omega)
    unfold f73_tree toIntsV
    rw [lim_some h, eval_ite_t hcond]
    have hrl : (List.replicate a.length (0 : Int)).length = a.length := by simp
    have := iter1_out (f := f73_L0) (fun i => ((a, (((i : Nat) : Int), ())), (markL (itemAt 0 a) (List.replicate a.length (0 : Int)) i, ()))) a.length
      (y := ((), (markL (itemAt 0 a) (List.replicate a.length (0 : Int)) a.length, ()))) (lt_fuel ha)
      (fun i hi => by
        have h1 := wrap_succ (i := i) (by omega)
        have h2 := markL_length (g := itemAt 0 a) (a := List.replicate a.length (0 : Int)) (i := i) (by simp; omega)
        have h3 := markL_get (g := itemAt 0 a) (a := List.replicate a.length (0 : Int)) (i := i) (by simpa using hi)
        have h4 := markL_set (g := itemAt 0 a) (a := List.replicate a.length (0 : Int)) (i := i) (by simpa using hi)
        have h5 : itemAt 0 a i = a[i] := by simp [itemAt, List.getElem?_eq_getElem hi]
        rw [h5] at h4
        rw [hrl] at h2
        simp only [List.getElem_replicate] at h3
        simp [f73_L0, Out.eval, hi, h1, h2, h3, h4])
      (by simp [f73_L0, Out.eval])
    simp only [markL_zero] at this
    rw [Int.toNat_natCast]
    refine (eval_get_some this).trans ?_
    have hall := markL_all (itemAt 0 a) (List.replicate a.length (0 : Int))
    rw [hrl] at hall
    rw [hall]
    have : (List.range a.length).map (itemAt 0 a) = a := markL_const a a rfl _ fun i hi => by simp [itemAt, List.getElem?_eq_getElem hi]
    rw [this]
    rfl
  · have hcond : decide (0 ≤ ((a.length : Nat) : Int) ∧ ((a.length : Nat) : Int) ≤ ((a.length : Nat) : Int) ∧ ((a.length : Nat) : Int) ≤ (LIM : Int)) = false := decide_eq_false (by omega)
    unfold f73_tree toIntsV
    rw [lim_not h, eval_ite_f hcond]
    rfl
def toCpuV (p : Int) (a : List Int) : Option (Int × List Int) := lim a (p, a)
def toViewV (p : Int) (a b c : List Int) : Option (Int × List Int × List Int × List Int) := if a.length ≤ LIM ∧ b.length ≤ LIM ∧ c.length ≤ LIM then some (p, a, b, c) else none
/-! ## Equal numbers -/
abbrev f89_S0 := (List (Int) × List (Int) × Int × Unit) × (Unit)
def f89_L0 (x : f89_S0) : Out (Round f89_S0 ((Unit) × (Unit)) ((Bool × Unit) × (Unit))) :=
 .ite (decide (x.1.2.2.1 < ((List.length x.1.1 : Nat) : Int)))
 (.ite (decide (0 ≤ x.1.2.2.1))
 (.get (nth x.1.1 (Int.toNat x.1.2.2.1)) fun y1 =>
 .ite (decide (0 ≤ x.1.2.2.1))
 (.get (nth x.1.2.1 (Int.toNat x.1.2.2.1)) fun y2 =>
 .ite ((y1 != y2))
 (.ret (.ret ((false, ()), ())))
 (.ret (.again ((x.1.1, x.1.2.1, (IntKind.i64.wrap (x.1.2.2.1 + (1 : Int))), ()), ()))))
 .fail)
 .fail)
 (.ret (.out ((), ())))
def f89_tree (a0 : List Int) (a1 : List Int) : Out (((Bool × Unit) × Unit) × (Unit × Unit × Unit)) :=
 .ite ((((List.length a0 : Nat) : Int) != ((List.length a1 : Nat) : Int)))
 (.ret (((false, ()), ()), ((), (), ())))
 (.get (iter f89_L0 FUEL ((a0, a1, (0 : Int), ()), ())) fun y1 => .alt y1 (fun y2 =>
 .ret (((true, ()), ()), ((), (), ()))) (fun y3 =>
 .ret (((y3.1.1, ()), ()), ((), (), ()))))
def f89_A : Nat → Option LoopAnn := fun n => annOf [(0, { head := { t := [.ro (.int .i64) (some 0), .ro (.int .i64) (some 1), .dead, .dead, .dead, .i .i64, .dead, .dead, .dead, .dead, .dead, .dead, .dead, .dead, .dead, .dead, .dead, .dead, .dead, .dead, .dead, .dead, .dead, .dead, .dead, .dead], v := [] }, out := { t := [.dead, .dead, .dead, .dead, .dead, .dead, .dead, .dead, .dead, .dead, .dead, .dead, .dead, .dead, .dead, .dead, .dead, .dead, .dead, .dead, .dead, .dead, .dead, .dead, .dead, .dead], v := [] }, ret := some { t := [.dead, .dead, .dead, .dead, .b, .dead, .dead, .dead, .dead, .dead, .dead, .dead, .dead, .dead, .dead, .dead, .dead, .dead, .dead, .dead, .dead, .dead, .dead, .dead, .dead, .dead], v := [] } })] n
def eqIntsV (a b : List Int) : Bool := decide (a = b)
def k89 : Con := { f := 89, lend := true, its := [⟨false, false, [.ro (.int .i64)]⟩, ⟨false, false, [.ro (.int .i64)]⟩], lay := [none, none], rs := [⟨false, false, [.b]⟩], F := fun x => .ret ((((eqIntsV x.1.1 x.2.1.1), ()), ()), ((), (), ())) }
theorem f89_eq (x : itemsD k89.its) : bodyOut (cxOf []) (f89_A) (codeOf Tryz.f89) k89.its k89.lay Tryz.f89.ntmps k89.rs [.tmp 4] x = f89_tree x.1.1 x.2.1.1 := by kernel_rfl
theorem f89_ok (hr : ∀ x : (List Int × Unit) × (List Int × Unit) × Unit, itemsWF k89.its x → (f89_tree x.1.1 x.2.1.1).eval = (k89.F x).eval) : k89.Ok Tryz.prog :=
  con_fn [] trivial (by kernel_rfl) (codeOf_eq (by kernel_rfl)) (by kernel_rfl) (by kernel_rfl) (by kernel_rfl) f89_eq fun x hw _ hy => (hr x hw).trans hy
theorem k89_ok : k89.Ok Tryz.prog := by
  refine f89_ok fun x hw => ?_
  obtain ⟨⟨a, _⟩, ⟨b, _⟩, _⟩ := x
  have ha : a.length ≤ BIG := hw.1.1.1
  show (f89_tree a b).eval = some (((eqIntsV a b, ()), ()), ((), ((), ())))
  unfold f89_tree
  by_cases hl : a.length = b.length
  · rw [eval_ite_f (len_eq hl)]
    have := eq_loop (f := f89_L0) a b (fun i => ((a, (b, (((i : Nat) : Int), ()))), ())) (y := ((), ())) (z := ((false, ()), ())) hl ha
      (fun i hi hi' he => by
        have := wrap_succ (i := i) (by omega)
        simp [f89_L0, Out.eval, hi, hi', he, this])
      (fun i hi hi' he => by simp [f89_L0, Out.eval, hi, hi', he, cond_eq_ite])
      (by simp [f89_L0, Out.eval])
    refine (eval_get_some this).trans ?_
    unfold eqIntsV
    by_cases hab : a = b
    · simp only [if_pos hab, decide_eq_true hab]; rfl
    · simp only [if_neg hab, decide_eq_false hab]; rfl
  · rw [eval_ite_t (len_ne hl)]
    have : eqIntsV a b = false := decide_eq_false fun e => hl (by rw [e])
    rw [this]
    rfl
def eqCpuV (p : Int) (a : List Int) (q : Int) (b : List Int) : Bool := decide (p = q) && decide (a = b)
def eqViewV (p : Int) (a b c : List Int) (q : Int) (d e f : List Int) : Bool := decide (p = q) && decide (a = d) && decide (b = e) && decide (c = f)
theorem thenV_not {x y : Int} (h : ¬ thenV x y < 0) : ¬ x < 0 ∧ thenV x y = y := by
  unfold thenV at h ⊢
  split at h
  · omega
  · rename_i hx; exact ⟨hx, if_neg hx⟩
theorem szView_le {p : Int} {a b c : List Int} {left : Int} (ha : a.length ≤ BIG) (hb : b.length ≤ BIG) (hc : c.length ≤ BIG) (h0 : -1 ≤ left) (h1 : left ≤ 1048576) (h : ¬ szViewV p a b c left < 0) :
    a.length ≤ 1048576 ∧ b.length ≤ 1048576 ∧ c.length ≤ 1048576 ∧ -1 ≤ szViewV p a b c left ∧ szViewV p a b c left ≤ 1048576 := by
  unfold szViewV at h ⊢
  obtain ⟨g1, e1⟩ := thenV_not h
  rw [e1] at h ⊢
  obtain ⟨g2, e2⟩ := thenV_not h
  rw [e2] at h ⊢
  obtain ⟨g3, e3⟩ := thenV_not h
  rw [e3]
  unfold szCpuV at g1 g2 g3 ⊢
  obtain ⟨g4, e4⟩ := thenV_not g1
  rw [e4] at g2 g3 ⊢
  unfold szIntSV at *
  have q1 := lessV_le (m := 1048576) (by decide) h0 h1 ha g4
  have q2 := lessV_le (m := 1048576) (by decide) (by omega) (by omega) hb g2
  have q3 := lessV_le (m := 1048576) (by decide) (by omega) (by omega) hc g3
  omega

end Go.Proofs.YtjcinikojcfebaaGreat.Dm
