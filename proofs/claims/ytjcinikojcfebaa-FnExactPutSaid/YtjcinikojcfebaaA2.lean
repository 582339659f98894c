/- Functions of the program, and what they compute. -/
import Derived.Test.YtjcinikojcfebaaA1
namespace Go.Proofs.Ytjcinikojcfebaa.Dm
open Go Go.ChangeShapes Go.WideShapes Go.ChangeAt Go.RowKit

/-! ## How much there is -/
/-- What is left of a measure. -/
def lessV (left : Int) (n : Nat) : Int := if IntKind.i64.wrap (left - ((n : Nat) : Int)) < 0 then -1 else IntKind.i64.wrap (left - ((n : Nat) : Int))
/-- A measure of at most 'm' that is not used up bounds what was measured. -/
theorem lessV_le {left : Int} {n m : Nat} (hm : m ≤ 4611686018427387904) (h0 : -1 ≤ left) (h1 : left ≤ m) (hn : n ≤ BIG) (h : ¬ lessV left n < 0) : n ≤ m ∧ 0 ≤ lessV left n ∧ lessV left n ≤ m ∧ lessV left n + n = left := by
  unfold lessV at h ⊢
  unfold BIG at hn
  have hw : IntKind.i64.wrap (left - ((n : Nat) : Int)) = left - n := by
    rw [IntKind.wrap_i64]; omega
  rw [hw] at h ⊢
  split at h
  · omega
  · rename_i hlt
    rw [if_neg hlt]
    omega
theorem lessV_bound {left : Int} {n m : Nat} (hm : m ≤ 4611686018427387904) (h0 : -1 ≤ left) (h1 : left ≤ m) (hn : n ≤ BIG) : -1 ≤ lessV left n ∧ lessV left n ≤ m := by
  by_cases h : lessV left n < 0
  · unfold lessV at h ⊢
    split at h
    · rename_i hlt; rw [if_pos hlt]; omega
    · omega
  · have := lessV_le hm h0 h1 hn h
    omega

def f118_tree (a0 : List (Int)) (a1 : Int) : Out ((((Int) × Unit) × Unit) × ((Unit) × (Unit) × Unit)) :=
 Out.ite ((decide ((IntKind.i64.wrap (a1 - ((List.length a0 : Nat) : Int))) < (0 : Int))))
 (Out.ret ((((-1 : Int), ()), ()), ((), ((), ()))))
 (Out.ret ((((IntKind.i64.wrap (a1 - ((List.length a0 : Nat) : Int))), ()), ()), ((), ((), ()))))
def f118_A : Nat → Option LoopAnn := fun _ => none
def f118_cx : Cx := cxOf []
theorem f118_eq (x : ((List (Int)) × Unit) × ((Int) × Unit) × Unit) : bodyOut f118_cx f118_A (codeOf Try.f118) [⟨false, false, [.ro (.int .i64)]⟩, ⟨false, false, [.i .i64]⟩] [none, none] 12 [⟨false, false, [.i .i64]⟩] [.tmp 4] x = f118_tree x.1.1 x.2.1.1 := by kernel_rfl
def szIntSV (a : List Int) (left : Int) : Int := lessV left a.length
def k118 : Con := { f := 118, lend := true, its := [⟨false, false, [.ro (.int .i64)]⟩, ⟨false, false, [.i .i64]⟩], lay := [none, none], rs := [⟨false, false, [.i .i64]⟩], F := fun x => .ret ((((szIntSV x.1.1 x.2.1.1), ()), ()), ((), ((), ()))) }
theorem f118_okp  (hr : ∀ x : ((List (Int)) × Unit) × ((Int) × Unit) × Unit, itemsWF k118.its x → ∀ y, (k118.F x).eval = some y → (f118_tree x.1.1 x.2.1.1).eval = some y) : k118.Ok Try.prog := by
  refine con_ok (A := f118_A) (code := codeOf Try.f118) (fn := Try.f118) (rtm := [.tmp 4]) [] ?_ ?_
  · exact fun K hK => by cases hK
  · exact ⟨by kernel_rfl, codeOf_eq (by kernel_rfl), by kernel_rfl, by kernel_rfl, by decide, by decide, by decide, fun x y hw hy => (congrArg Out.eval (f118_eq x)).trans (hr x hw y hy)⟩
theorem f118_ok  (hr : ∀ x : ((List (Int)) × Unit) × ((Int) × Unit) × Unit, itemsWF k118.its x → (f118_tree x.1.1 x.2.1.1).eval = (k118.F x).eval) : k118.Ok Try.prog := f118_okp  fun x hw _ hy => (hr x hw).trans hy
theorem k118_ok : k118.Ok Try.prog := by
  refine f118_ok fun x _ => ?_
  obtain ⟨⟨a, _⟩, ⟨k, _⟩, _⟩ := x
  show (f118_tree a k).eval = some (((szIntSV a k, ()), ()), ((), ((), ())))
  unfold f118_tree szIntSV lessV
  by_cases h : IntKind.i64.wrap (k - ((a.length : Nat) : Int)) < 0
  · rw [eval_ite_t (decide_eq_true h), if_pos h]; rfl
  · rw [eval_ite_f (decide_eq_false h), if_neg h]; rfl
def f117_tree (a0 : Int) (a1 : List (Int)) (a2 : Int) : Out ((((Int) × Unit) × Unit) × ((Unit) × (Unit) × Unit)) :=
 Out.ite ((decide ((szIntSV a1 a2) < (0 : Int))))
 (Out.ret ((((-1 : Int), ()), ()), ((), ((), ()))))
 (Out.ret ((((szIntSV a1 a2), ()), ()), ((), ((), ()))))
def f117_A : Nat → Option LoopAnn := fun _ => none
def f117_cx : Cx := cxOf [k118]
theorem f117_eq (x : ((Int) × (List (Int)) × Unit) × ((Int) × Unit) × Unit) : bodyOut f117_cx f117_A (codeOf Try.f117) [⟨false, true, [.i .i64, .ro (.int .i64)]⟩, ⟨false, false, [.i .i64]⟩] [none, none] 12 [⟨false, false, [.i .i64]⟩] [.tmp 4] x = f117_tree x.1.1 x.1.2.1 x.2.1.1 := by kernel_rfl
/-- A step that is not gone on from when it is used up. -/
def thenV (x : Int) (y : Int) : Int := if x < 0 then -1 else y
def szCpuV (_pc : Int) (a : List Int) (left : Int) : Int := thenV (szIntSV a left) (szIntSV a left)
def k117 : Con := { f := 117, lend := true, its := [⟨false, true, [.i .i64, .ro (.int .i64)]⟩, ⟨false, false, [.i .i64]⟩], lay := [none, none], rs := [⟨false, false, [.i .i64]⟩], F := fun x => .ret ((((szCpuV x.1.1 x.1.2.1 x.2.1.1), ()), ()), ((), ((), ()))) }
theorem f117_okp (h0 : k118.Ok Try.prog) (hr : ∀ x : ((Int) × (List (Int)) × Unit) × ((Int) × Unit) × Unit, itemsWF k117.its x → ∀ y, (k117.F x).eval = some y → (f117_tree x.1.1 x.1.2.1 x.2.1.1).eval = some y) : k117.Ok Try.prog := by
  refine con_ok (A := f117_A) (code := codeOf Try.f117) (fn := Try.f117) (rtm := [.tmp 4]) [k118] ?_ ?_
  · intro K hK
    simp only [List.mem_cons, List.not_mem_nil, or_false] at hK
    rcases hK with rfl
    · exact h0
  · exact ⟨by kernel_rfl, codeOf_eq (by kernel_rfl), by kernel_rfl, by kernel_rfl, by decide, by decide, by decide, fun x y hw hy => (congrArg Out.eval (f117_eq x)).trans (hr x hw y hy)⟩
theorem f117_ok (h0 : k118.Ok Try.prog) (hr : ∀ x : ((Int) × (List (Int)) × Unit) × ((Int) × Unit) × Unit, itemsWF k117.its x → (f117_tree x.1.1 x.1.2.1 x.2.1.1).eval = (k117.F x).eval) : k117.Ok Try.prog := f117_okp h0 fun x hw _ hy => (hr x hw).trans hy
theorem k117_ok : k117.Ok Try.prog := by
  refine f117_ok k118_ok fun x _ => ?_
  obtain ⟨⟨p, a, _⟩, ⟨k, _⟩, _⟩ := x
  show (f117_tree p a k).eval = some (((szCpuV p a k, ()), ()), ((), ((), ())))
  unfold f117_tree szCpuV thenV
  by_cases h : szIntSV a k < 0 <;> simp [Out.eval, h]
def f31_tree (a0 : Int) (a1 : List (Int)) (a2 : List (Int)) (a3 : List (Int)) (a4 : Int) : Out ((((Int) × Unit) × Unit) × ((Unit) × (Unit) × Unit)) :=
 Out.ite ((decide ((szCpuV a0 a1 a4) < (0 : Int))))
 (Out.ret ((((-1 : Int), ()), ()), ((), ((), ()))))
 (Out.ite ((decide ((szIntSV a2 (szCpuV a0 a1 a4)) < (0 : Int))))
 (Out.ret ((((-1 : Int), ()), ()), ((), ((), ()))))
 (Out.ite ((decide ((szIntSV a3 (szIntSV a2 (szCpuV a0 a1 a4))) < (0 : Int))))
 (Out.ret ((((-1 : Int), ()), ()), ((), ((), ()))))
 (Out.ret ((((szIntSV a3 (szIntSV a2 (szCpuV a0 a1 a4))), ()), ()), ((), ((), ()))))))
def f31_A : Nat → Option LoopAnn := fun _ => none
def f31_cx : Cx := cxOf [k117, k118]
theorem f31_eq (x : ((Int) × (List (Int)) × (List (Int)) × (List (Int)) × Unit) × ((Int) × Unit) × Unit) : bodyOut f31_cx f31_A (codeOf Try.f31) [⟨false, true, [.i .i64, .ro (.int .i64), .ro (.int .i64), .ro (.int .i64)]⟩, ⟨false, false, [.i .i64]⟩] [none, none] 24 [⟨false, false, [.i .i64]⟩] [.tmp 4] x = f31_tree x.1.1 x.1.2.1 x.1.2.2.1 x.1.2.2.2.1 x.2.1.1 := by kernel_rfl
def szViewV (p : Int) (a b c : List Int) (left : Int) : Int := thenV (szCpuV p a left) (thenV (szIntSV b (szCpuV p a left)) (thenV (szIntSV c (szIntSV b (szCpuV p a left))) (szIntSV c (szIntSV b (szCpuV p a left)))))
def k31 : Con := { f := 31, lend := true, its := [⟨false, true, [.i .i64, .ro (.int .i64), .ro (.int .i64), .ro (.int .i64)]⟩, ⟨false, false, [.i .i64]⟩], lay := [none, none], rs := [⟨false, false, [.i .i64]⟩], F := fun x => .ret ((((szViewV x.1.1 x.1.2.1 x.1.2.2.1 x.1.2.2.2.1 x.2.1.1), ()), ()), ((), ((), ()))) }
theorem f31_okp (h0 : k117.Ok Try.prog) (h1 : k118.Ok Try.prog) (hr : ∀ x : ((Int) × (List (Int)) × (List (Int)) × (List (Int)) × Unit) × ((Int) × Unit) × Unit, itemsWF k31.its x → ∀ y, (k31.F x).eval = some y → (f31_tree x.1.1 x.1.2.1 x.1.2.2.1 x.1.2.2.2.1 x.2.1.1).eval = some y) : k31.Ok Try.prog := by
  refine con_ok (A := f31_A) (code := codeOf Try.f31) (fn := Try.f31) (rtm := [.tmp 4]) [k117, k118] ?_ ?_
  · intro K hK
    simp only [List.mem_cons, List.not_mem_nil, or_false] at hK
    rcases hK with rfl | rfl
    · exact h0
    · exact h1
  · exact ⟨by kernel_rfl, codeOf_eq (by kernel_rfl), by kernel_rfl, by kernel_rfl, by decide, by decide, by decide, fun x y hw hy => (congrArg Out.eval (f31_eq x)).trans (hr x hw y hy)⟩
theorem f31_ok (h0 : k117.Ok Try.prog) (h1 : k118.Ok Try.prog) (hr : ∀ x : ((Int) × (List (Int)) × (List (Int)) × (List (Int)) × Unit) × ((Int) × Unit) × Unit, itemsWF k31.its x → (f31_tree x.1.1 x.1.2.1 x.1.2.2.1 x.1.2.2.2.1 x.2.1.1).eval = (k31.F x).eval) : k31.Ok Try.prog := f31_okp h0 h1 fun x hw _ hy => (hr x hw).trans hy
theorem k31_ok : k31.Ok Try.prog := by
  refine f31_ok k117_ok k118_ok fun x _ => ?_
  obtain ⟨⟨p, a, b, c, _⟩, ⟨k, _⟩, _⟩ := x
  show (f31_tree p a b c k).eval = some (((szViewV p a b c k, ()), ()), ((), ((), ())))
  unfold f31_tree szViewV thenV
  by_cases h : szCpuV p a k < 0
  · simp [Out.eval, h]
  · by_cases h2 : szIntSV b (szCpuV p a k) < 0
    · simp [Out.eval, h, h2]
    · by_cases h3 : szIntSV c (szIntSV b (szCpuV p a k)) < 0 <;> simp [Out.eval, h, h2, h3]

/-! ## Copies of what the law is given -/
def lim {α β : Type} (l : List α) (x : β) : Option β := if l.length ≤ LIM then some x else none
theorem lim_some {α β : Type} {l : List α} {x : β} (h : l.length ≤ LIM) : lim l x = some x := if_pos h
theorem lim_inv {α β : Type} {l : List α} {x y : β} (h : lim l x = some y) : l.length ≤ LIM ∧ y = x := by
  unfold lim at h
  split at h
  · exact ⟨‹_›, (Option.some.inj h).symm⟩
  · cases h
theorem lim_not {α β : Type} {l : List α} {x : β} (h : ¬ l.length ≤ LIM) : lim l x = none := if_neg h
def f121_L0 (x : ((List (Int)) × (Int) × Unit) × ((List (Int)) × Unit)) : Out (Round (((List (Int)) × (Int) × Unit) × ((List (Int)) × Unit)) ((Unit) × ((List (Int)) × Unit)) (Empty)) :=
 Out.ite ((decide (x.1.2.1 < ((List.length x.1.1 : Nat) : Int))))
 (Out.ite (decide (0 ≤ x.1.2.1))
 (Out.get (nth x.1.1 (Int.toNat x.1.2.1)) fun (y1 : Int) =>
 Out.ite (decide (0 ≤ x.1.2.1 ∧ x.1.2.1 < ((List.length x.2.1 : Nat) : Int)))
 (Out.get (nth x.2.1 (Int.toNat x.1.2.1)) fun (y2 : Int) =>
 Out.ret (Round.again ((x.1.1, ((IntKind.i64.wrap (x.1.2.1 + (1 : Int))), ())), ((List.set x.2.1 (Int.toNat x.1.2.1) y1), ()))))
 (Out.fail))
 (Out.fail))
 (Out.ret (Round.out ((), (x.2.1, ()))))
def f121_tree (a0 : List (Int)) : Out ((((List (Int)) × Unit) × Unit) × ((Unit) × Unit)) :=
 Out.ite (decide (0 ≤ ((List.length a0 : Nat) : Int) ∧ ((List.length a0 : Nat) : Int) ≤ ((List.length a0 : Nat) : Int) ∧ ((List.length a0 : Nat) : Int) ≤ (LIM : Int)))
 (Out.get (iter1 f121_L0 FUEL ((a0, ((0 : Int), ())), ((List.replicate (Int.toNat ((List.length a0 : Nat) : Int)) (0 : Int)), ()))) fun (y1 : (Unit) × ((List (Int)) × Unit)) =>
 Out.ret (((y1.2.1, ()), ()), ((), ())))
 (Out.fail)
def f121_A : Nat → Option LoopAnn := fun n => annOf [(0, { head := { t := [.ro (.int .i64) (some 0), .dead, .dead, .srf 64000000, .i .i64, .dead, .dead, .dead, .dead, .dead, .dead, .dead, .dead, .dead, .dead, .dead, .dead, .dead, .dead, .dead, .dead, .dead], v := [(64000000, .arr (.int .i64))] }, out := { t := [.dead, .dead, .dead, .srf 64000256, .dead, .dead, .dead, .dead, .dead, .dead, .dead, .dead, .dead, .dead, .dead, .dead, .dead, .dead, .dead, .dead, .dead, .dead], v := [(64000256, .arr (.int .i64))] }, ret := none })] n
def f121_cx : Cx := cxOf []
theorem f121_eq (x : ((List (Int)) × Unit) × Unit) : bodyOut f121_cx f121_A (codeOf Try.f121) [⟨false, false, [.ro (.int .i64)]⟩] [none] 22 [⟨false, false, [.own (.int .i64)]⟩] [.tmp 2] x = f121_tree x.1.1 := by kernel_rfl
def toIntsV (a : List Int) : Option (List Int) := lim a a
def k121 : Con := { f := 121, lend := true, its := [⟨false, false, [.ro (.int .i64)]⟩], lay := [none], rs := [⟨false, false, [.own (.int .i64)]⟩], F := fun x => .get (toIntsV x.1.1) fun y => .ret (((y, ()), ()), ((), ())) }
theorem f121_okp  (hr : ∀ x : ((List (Int)) × Unit) × Unit, itemsWF k121.its x → ∀ y, (k121.F x).eval = some y → (f121_tree x.1.1).eval = some y) : k121.Ok Try.prog := by
  refine con_ok (A := f121_A) (code := codeOf Try.f121) (fn := Try.f121) (rtm := [.tmp 2]) [] ?_ ?_
  · exact fun K hK => by cases hK
  · exact ⟨by kernel_rfl, codeOf_eq (by kernel_rfl), by kernel_rfl, by kernel_rfl, by decide, by decide, by decide, fun x y hw hy => (congrArg Out.eval (f121_eq x)).trans (hr x hw y hy)⟩
theorem f121_ok  (hr : ∀ x : ((List (Int)) × Unit) × Unit, itemsWF k121.its x → (f121_tree x.1.1).eval = (k121.F x).eval) : k121.Ok Try.prog := f121_okp  fun x hw _ hy => (hr x hw).trans hy
def itemAt {α : Type} (d : α) (a : List α) (i : Nat) : α := (a[i]?).getD d
theorem markL_const {α : Type} (a b : List α) (hl : b.length = a.length) (d : Nat → α) (hd : ∀ i (h : i < a.length), d i = a[i]) : (List.range b.length).map d = a := by
  apply List.ext_getElem?
  intro i
  by_cases hi : i < a.length
  · rw [List.getElem?_map, List.getElem?_range (by omega), List.getElem?_eq_getElem hi, Option.map_some, hd i hi]
  · rw [List.getElem?_eq_none (by simp; omega), List.getElem?_eq_none (by omega)]
theorem k121_ok : k121.Ok Try.prog := by
  refine f121_ok fun x hw => ?_
  obtain ⟨⟨a, _⟩, _⟩ := x
  have ha : a.length ≤ BIG := hw.1.1.1
  show (f121_tree a).eval = (Out.get (toIntsV a) fun y => Out.ret (((y, ()), ()), ((), ()))).eval
  by_cases h : a.length ≤ LIM
  · have hcond : decide (0 ≤ ((a.length : Nat) : Int) ∧ ((a.length : Nat) : Int) ≤ ((a.length : Nat) : Int) ∧ ((a.length : Nat) : Int) ≤ (LIM : Int)) = true := decide_eq_true (by omega)
    unfold f121_tree toIntsV
    rw [lim_some h, eval_ite_t hcond]
    have hrl : (List.replicate a.length (0 : Int)).length = a.length := by simp
    have := iter1_out (f := f121_L0) (fun i => ((a, (((i : Nat) : Int), ())), (markL (itemAt 0 a) (List.replicate a.length (0 : Int)) i, ()))) a.length
      (y := ((), (markL (itemAt 0 a) (List.replicate a.length (0 : Int)) a.length, ()))) (lt_fuel ha)
      (fun i hi => by
        have h1 := wrap_succ (i := i) (by omega)
        have h2 := markL_length (g := itemAt 0 a) (a := List.replicate a.length (0 : Int)) (i := i) (by simp; omega)
        have h3 := markL_get (g := itemAt 0 a) (a := List.replicate a.length (0 : Int)) (i := i) (by simpa using hi)
        have h4 := markL_set (g := itemAt 0 a) (a := List.replicate a.length (0 : Int)) (i := i) (by simpa using hi)
        have h5 : itemAt 0 a i = a[i] := by simp [itemAt, List.getElem?_eq_getElem hi]
        rw [h5] at h4
        rw [hrl] at h2
        simp only [List.getElem_replicate] at h3
        simp [f121_L0, Out.eval, hi, h1, h2, h3, h4])
      (by simp [f121_L0, Out.eval])
    simp only [markL_zero] at this
    rw [Int.toNat_natCast]
    refine (eval_get_some this).trans ?_
    have hall := markL_all (itemAt 0 a) (List.replicate a.length (0 : Int))
    rw [hrl] at hall
    rw [hall]
    have : (List.range a.length).map (itemAt 0 a) = a := markL_const a a rfl _ fun i hi => by simp [itemAt, List.getElem?_eq_getElem hi]
    rw [this]
    rfl
  · have hcond : decide (0 ≤ ((a.length : Nat) : Int) ∧ ((a.length : Nat) : Int) ≤ ((a.length : Nat) : Int) ∧ ((a.length : Nat) : Int) ≤ (LIM : Int)) = false := decide_eq_false (by omega)
    unfold f121_tree toIntsV
    rw [lim_not h, eval_ite_f hcond]
    rfl
def f120_tree (a0 : Int) (a1 : List (Int)) : Out ((((Int) × (List (Int)) × Unit) × Unit) × ((Unit) × Unit)) :=
 Out.get (toIntsV a1) fun (y1 : (List (Int))) =>
 Out.ret (((a0, (y1, ())), ()), ((), ()))
def f120_A : Nat → Option LoopAnn := fun _ => none
def f120_cx : Cx := cxOf [k121]
theorem f120_eq (x : ((Int) × (List (Int)) × Unit) × Unit) : bodyOut f120_cx f120_A (codeOf Try.f120) [⟨false, true, [.i .i64, .ro (.int .i64)]⟩] [none] 12 [⟨false, true, [.i .i64, .own (.int .i64)]⟩] [.cell 2 37] x = f120_tree x.1.1 x.1.2.1 := by kernel_rfl
def toCpuV (p : Int) (a : List Int) : Option (Int × List Int) := lim a (p, a)
def k120 : Con := { f := 120, lend := true, its := [⟨false, true, [.i .i64, .ro (.int .i64)]⟩], lay := [none], rs := [⟨false, true, [.i .i64, .own (.int .i64)]⟩], F := fun x => .get (toCpuV x.1.1 x.1.2.1) fun y => .ret (((y.1, (y.2, ())), ()), ((), ())) }
theorem f120_okp (h0 : k121.Ok Try.prog) (hr : ∀ x : ((Int) × (List (Int)) × Unit) × Unit, itemsWF k120.its x → ∀ y, (k120.F x).eval = some y → (f120_tree x.1.1 x.1.2.1).eval = some y) : k120.Ok Try.prog := by
  refine con_ok (A := f120_A) (code := codeOf Try.f120) (fn := Try.f120) (rtm := [.cell 2 37]) [k121] ?_ ?_
  · intro K hK
    simp only [List.mem_cons, List.not_mem_nil, or_false] at hK
    rcases hK with rfl
    · exact h0
  · exact ⟨by kernel_rfl, codeOf_eq (by kernel_rfl), by kernel_rfl, by kernel_rfl, by decide, by decide, by decide, fun x y hw hy => (congrArg Out.eval (f120_eq x)).trans (hr x hw y hy)⟩
theorem f120_ok (h0 : k121.Ok Try.prog) (hr : ∀ x : ((Int) × (List (Int)) × Unit) × Unit, itemsWF k120.its x → (f120_tree x.1.1 x.1.2.1).eval = (k120.F x).eval) : k120.Ok Try.prog := f120_okp h0 fun x hw _ hy => (hr x hw).trans hy
theorem k120_ok : k120.Ok Try.prog := by
  refine f120_ok k121_ok fun x _ => ?_
  obtain ⟨⟨p, a, _⟩, _⟩ := x
  show (f120_tree p a).eval = (Out.get (toCpuV p a) fun y => Out.ret (((y.1, (y.2, ())), ()), ((), ()))).eval
  unfold f120_tree toCpuV toIntsV
  by_cases h : a.length ≤ LIM
  · rw [lim_some h, lim_some h]; rfl
  · rw [lim_not h, lim_not h]; rfl
def f33_tree (a0 : Int) (a1 : List (Int)) (a2 : List (Int)) (a3 : List (Int)) : Out ((((Int) × (List (Int)) × (List (Int)) × (List (Int)) × Unit) × Unit) × ((Unit) × Unit)) :=
 Out.get (toCpuV a0 a1) fun (y1 : (Int) × (List (Int))) =>
 Out.get (toIntsV a2) fun (y2 : (List (Int))) =>
 Out.get (toIntsV a3) fun (y3 : (List (Int))) =>
 Out.ret (((y1.1, (y1.2, (y2, (y3, ())))), ()), ((), ()))
def f33_A : Nat → Option LoopAnn := fun _ => none
def f33_cx : Cx := cxOf [k120, k121]
theorem f33_eq (x : ((Int) × (List (Int)) × (List (Int)) × (List (Int)) × Unit) × Unit) : bodyOut f33_cx f33_A (codeOf Try.f33) [⟨false, true, [.i .i64, .ro (.int .i64), .ro (.int .i64), .ro (.int .i64)]⟩] [none] 17 [⟨false, true, [.i .i64, .own (.int .i64), .own (.int .i64), .own (.int .i64)]⟩] [.cell 2 39] x = f33_tree x.1.1 x.1.2.1 x.1.2.2.1 x.1.2.2.2.1 := by kernel_rfl
def toViewV (p : Int) (a b c : List Int) : Option (Int × List Int × List Int × List Int) := if a.length ≤ LIM ∧ b.length ≤ LIM ∧ c.length ≤ LIM then some (p, a, b, c) else none
def k33 : Con := { f := 33, lend := true, its := [⟨false, true, [.i .i64, .ro (.int .i64), .ro (.int .i64), .ro (.int .i64)]⟩], lay := [none], rs := [⟨false, true, [.i .i64, .own (.int .i64), .own (.int .i64), .own (.int .i64)]⟩], F := fun x => .get (toViewV x.1.1 x.1.2.1 x.1.2.2.1 x.1.2.2.2.1) fun y => .ret (((y.1, (y.2.1, (y.2.2.1, (y.2.2.2, ())))), ()), ((), ())) }
theorem f33_okp (h0 : k120.Ok Try.prog) (h1 : k121.Ok Try.prog) (hr : ∀ x : ((Int) × (List (Int)) × (List (Int)) × (List (Int)) × Unit) × Unit, itemsWF k33.its x → ∀ y, (k33.F x).eval = some y → (f33_tree x.1.1 x.1.2.1 x.1.2.2.1 x.1.2.2.2.1).eval = some y) : k33.Ok Try.prog := by
  refine con_ok (A := f33_A) (code := codeOf Try.f33) (fn := Try.f33) (rtm := [.cell 2 39]) [k120, k121] ?_ ?_
  · intro K hK
    simp only [List.mem_cons, List.not_mem_nil, or_false] at hK
    rcases hK with rfl | rfl
    · exact h0
    · exact h1
  · exact ⟨by kernel_rfl, codeOf_eq (by kernel_rfl), by kernel_rfl, by kernel_rfl, by decide, by decide, by decide, fun x y hw hy => (congrArg Out.eval (f33_eq x)).trans (hr x hw y hy)⟩
theorem f33_ok (h0 : k120.Ok Try.prog) (h1 : k121.Ok Try.prog) (hr : ∀ x : ((Int) × (List (Int)) × (List (Int)) × (List (Int)) × Unit) × Unit, itemsWF k33.its x → (f33_tree x.1.1 x.1.2.1 x.1.2.2.1 x.1.2.2.2.1).eval = (k33.F x).eval) : k33.Ok Try.prog := f33_okp h0 h1 fun x hw _ hy => (hr x hw).trans hy
theorem k33_ok : k33.Ok Try.prog := by
  refine f33_ok k120_ok k121_ok fun x _ => ?_
  obtain ⟨⟨p, a, b, c, _⟩, _⟩ := x
  show (f33_tree p a b c).eval = (Out.get (toViewV p a b c) fun y => Out.ret (((y.1, (y.2.1, (y.2.2.1, (y.2.2.2, ())))), ()), ((), ()))).eval
  unfold f33_tree toViewV toCpuV toIntsV
  by_cases h1 : a.length ≤ LIM
  · by_cases h2 : b.length ≤ LIM
    · by_cases h3 : c.length ≤ LIM
      · simp [lim_some, h1, h2, h3, Out.eval]
      · simp [lim_some, lim_not, h1, h2, h3, Out.eval]
    · simp [lim_some, lim_not, h1, h2, Out.eval]
  · simp [lim_not, h1, Out.eval]

/-! ## Equal numbers -/
def f100_L0 (x : ((List (Int)) × (List (Int)) × (Int) × Unit) × (Unit)) : Out (Round (((List (Int)) × (List (Int)) × (Int) × Unit) × (Unit)) ((Unit) × (Unit)) (((Bool) × Unit) × (Unit))) :=
 Out.ite ((decide (x.1.2.2.1 < ((List.length x.1.1 : Nat) : Int))))
 (Out.ite (decide (0 ≤ x.1.2.2.1))
 (Out.get (nth x.1.1 (Int.toNat x.1.2.2.1)) fun (y1 : Int) =>
 Out.ite (decide (0 ≤ x.1.2.2.1))
 (Out.get (nth x.1.2.1 (Int.toNat x.1.2.2.1)) fun (y2 : Int) =>
 Out.ite (((y1 != y2)))
 (Out.ret (Round.ret ((false, ()), ())))
 (Out.ret (Round.again ((x.1.1, (x.1.2.1, ((IntKind.i64.wrap (x.1.2.2.1 + (1 : Int))), ()))), ()))))
 (Out.fail))
 (Out.fail))
 (Out.ret (Round.out ((), ())))
def f100_tree (a0 : List (Int)) (a1 : List (Int)) : Out ((((Bool) × Unit) × Unit) × ((Unit) × (Unit) × Unit)) :=
 Out.ite (((((List.length a0 : Nat) : Int) != ((List.length a1 : Nat) : Int))))
 (Out.ret (((false, ()), ()), ((), ((), ()))))
 (Out.get (iter f100_L0 FUEL ((a0, (a1, ((0 : Int), ()))), ())) fun y1 => Out.alt y1 (fun (y2 : (Unit) × (Unit)) =>
 Out.ret (((true, ()), ()), ((), ((), ())))) (fun (y3 : ((Bool) × Unit) × (Unit)) =>
 Out.ret (((y3.1.1, ()), ()), ((), ((), ())))))
def f100_A : Nat → Option LoopAnn := fun n => annOf [(0, { head := { t := [.ro (.int .i64) (some 0), .ro (.int .i64) (some 1), .dead, .dead, .dead, .i .i64, .dead, .dead, .dead, .dead, .dead, .dead, .dead, .dead, .dead, .dead, .dead, .dead, .dead, .dead, .dead, .dead, .dead, .dead, .dead, .dead], v := [] }, out := { t := [.dead, .dead, .dead, .dead, .dead, .dead, .dead, .dead, .dead, .dead, .dead, .dead, .dead, .dead, .dead, .dead, .dead, .dead, .dead, .dead, .dead, .dead, .dead, .dead, .dead, .dead], v := [] }, ret := some { t := [.dead, .dead, .dead, .dead, .b, .dead, .dead, .dead, .dead, .dead, .dead, .dead, .dead, .dead, .dead, .dead, .dead, .dead, .dead, .dead, .dead, .dead, .dead, .dead, .dead, .dead], v := [] } })] n
def f100_cx : Cx := cxOf []
theorem f100_eq (x : ((List (Int)) × Unit) × ((List (Int)) × Unit) × Unit) : bodyOut f100_cx f100_A (codeOf Try.f100) [⟨false, false, [.ro (.int .i64)]⟩, ⟨false, false, [.ro (.int .i64)]⟩] [none, none] 26 [⟨false, false, [.b]⟩] [.tmp 4] x = f100_tree x.1.1 x.2.1.1 := by kernel_rfl
def eqIntsV (a b : List Int) : Bool := decide (a = b)
def k100 : Con := { f := 100, lend := true, its := [⟨false, false, [.ro (.int .i64)]⟩, ⟨false, false, [.ro (.int .i64)]⟩], lay := [none, none], rs := [⟨false, false, [.b]⟩], F := fun x => .ret ((((eqIntsV x.1.1 x.2.1.1), ()), ()), ((), ((), ()))) }
theorem f100_okp  (hr : ∀ x : ((List (Int)) × Unit) × ((List (Int)) × Unit) × Unit, itemsWF k100.its x → ∀ y, (k100.F x).eval = some y → (f100_tree x.1.1 x.2.1.1).eval = some y) : k100.Ok Try.prog := by
  refine con_ok (A := f100_A) (code := codeOf Try.f100) (fn := Try.f100) (rtm := [.tmp 4]) [] ?_ ?_
  · exact fun K hK => by cases hK
  · exact ⟨by kernel_rfl, codeOf_eq (by kernel_rfl), by kernel_rfl, by kernel_rfl, by decide, by decide, by decide, fun x y hw hy => (congrArg Out.eval (f100_eq x)).trans (hr x hw y hy)⟩
theorem f100_ok  (hr : ∀ x : ((List (Int)) × Unit) × ((List (Int)) × Unit) × Unit, itemsWF k100.its x → (f100_tree x.1.1 x.2.1.1).eval = (k100.F x).eval) : k100.Ok Try.prog := f100_okp  fun x hw _ hy => (hr x hw).trans hy
theorem k100_ok : k100.Ok Try.prog := by
  refine f100_ok fun x hw => ?_
  obtain ⟨⟨a, _⟩, ⟨b, _⟩, _⟩ := x
  have ha : a.length ≤ BIG := hw.1.1.1
  show (f100_tree a b).eval = some (((eqIntsV a b, ()), ()), ((), ((), ())))
  unfold f100_tree
  by_cases hl : a.length = b.length
  · rw [eval_ite_f (len_eq hl)]
    have := eq_loop (f := f100_L0) a b (fun i => ((a, (b, (((i : Nat) : Int), ()))), ())) (y := ((), ())) (z := ((false, ()), ())) hl ha
      (fun i hi hi' he => by
        have := wrap_succ (i := i) (by omega)
        simp [f100_L0, Out.eval, hi, hi', he, this])
      (fun i hi hi' he => by simp [f100_L0, Out.eval, hi, hi', he, cond_eq_ite])
      (by simp [f100_L0, Out.eval])
    refine (eval_get_some this).trans ?_
    unfold eqIntsV
    by_cases hab : a = b
    · simp only [if_pos hab, decide_eq_true hab]; rfl
    · simp only [if_neg hab, decide_eq_false hab]; rfl
  · rw [eval_ite_t (len_ne hl)]
    have : eqIntsV a b = false := decide_eq_false fun e => hl (by rw [e])
    rw [this]
    rfl
def f119_L0 (x : ((List (Int)) × (List (Int)) × (Int) × Unit) × (Unit)) : Out (Round (((List (Int)) × (List (Int)) × (Int) × Unit) × (Unit)) ((Unit) × (Unit)) (((Bool) × Unit) × (Unit))) :=
 Out.ite ((decide (x.1.2.2.1 < ((List.length x.1.1 : Nat) : Int))))
 (Out.ite (decide (0 ≤ x.1.2.2.1))
 (Out.get (nth x.1.1 (Int.toNat x.1.2.2.1)) fun (y1 : Int) =>
 Out.ite (decide (0 ≤ x.1.2.2.1))
 (Out.get (nth x.1.2.1 (Int.toNat x.1.2.2.1)) fun (y2 : Int) =>
 Out.ite (((y1 != y2)))
 (Out.ret (Round.ret ((false, ()), ())))
 (Out.ret (Round.again ((x.1.1, (x.1.2.1, ((IntKind.i64.wrap (x.1.2.2.1 + (1 : Int))), ()))), ()))))
 (Out.fail))
 (Out.fail))
 (Out.ret (Round.out ((), ())))
def f119_tree (a0 : List (Int)) (a1 : List (Int)) : Out ((((Bool) × Unit) × Unit) × ((Unit) × (Unit) × Unit)) :=
 Out.ite (((((List.length a0 : Nat) : Int) != ((List.length a1 : Nat) : Int))))
 (Out.ret (((false, ()), ()), ((), ((), ()))))
 (Out.get (iter f119_L0 FUEL ((a0, (a1, ((0 : Int), ()))), ())) fun y1 => Out.alt y1 (fun (y2 : (Unit) × (Unit)) =>
 Out.ret (((true, ()), ()), ((), ((), ())))) (fun (y3 : ((Bool) × Unit) × (Unit)) =>
 Out.ret (((y3.1.1, ()), ()), ((), ((), ())))))
def f119_A : Nat → Option LoopAnn := fun n => annOf [(0, { head := { t := [.ro (.int .i64) (some 0), .ro (.int .i64) (some 1), .dead, .dead, .dead, .i .i64, .dead, .dead, .dead, .dead, .dead, .dead, .dead, .dead, .dead, .dead, .dead, .dead, .dead, .dead, .dead, .dead, .dead, .dead, .dead, .dead], v := [] }, out := { t := [.dead, .dead, .dead, .dead, .dead, .dead, .dead, .dead, .dead, .dead, .dead, .dead, .dead, .dead, .dead, .dead, .dead, .dead, .dead, .dead, .dead, .dead, .dead, .dead, .dead, .dead], v := [] }, ret := some { t := [.dead, .dead, .dead, .dead, .b, .dead, .dead, .dead, .dead, .dead, .dead, .dead, .dead, .dead, .dead, .dead, .dead, .dead, .dead, .dead, .dead, .dead, .dead, .dead, .dead, .dead], v := [] } })] n
def f119_cx : Cx := cxOf []
theorem f119_eq (x : ((List (Int)) × Unit) × ((List (Int)) × Unit) × Unit) : bodyOut f119_cx f119_A (codeOf Try.f119) [⟨false, false, [.ro (.int .i64)]⟩, ⟨false, false, [.ro (.int .i64)]⟩] [none, none] 26 [⟨false, false, [.b]⟩] [.tmp 4] x = f119_tree x.1.1 x.2.1.1 := by kernel_rfl
def k119 : Con := { f := 119, lend := true, its := [⟨false, false, [.ro (.int .i64)]⟩, ⟨false, false, [.ro (.int .i64)]⟩], lay := [none, none], rs := [⟨false, false, [.b]⟩], F := fun x => .ret ((((eqIntsV x.1.1 x.2.1.1), ()), ()), ((), ((), ()))) }
theorem f119_okp  (hr : ∀ x : ((List (Int)) × Unit) × ((List (Int)) × Unit) × Unit, itemsWF k119.its x → ∀ y, (k119.F x).eval = some y → (f119_tree x.1.1 x.2.1.1).eval = some y) : k119.Ok Try.prog := by
  refine con_ok (A := f119_A) (code := codeOf Try.f119) (fn := Try.f119) (rtm := [.tmp 4]) [] ?_ ?_
  · exact fun K hK => by cases hK
  · exact ⟨by kernel_rfl, codeOf_eq (by kernel_rfl), by kernel_rfl, by kernel_rfl, by decide, by decide, by decide, fun x y hw hy => (congrArg Out.eval (f119_eq x)).trans (hr x hw y hy)⟩
theorem f119_ok  (hr : ∀ x : ((List (Int)) × Unit) × ((List (Int)) × Unit) × Unit, itemsWF k119.its x → (f119_tree x.1.1 x.2.1.1).eval = (k119.F x).eval) : k119.Ok Try.prog := f119_okp  fun x hw _ hy => (hr x hw).trans hy
theorem k119_ok : k119.Ok Try.prog := by
  refine f119_ok fun x hw => ?_
  obtain ⟨⟨a, _⟩, ⟨b, _⟩, _⟩ := x
  have ha : a.length ≤ BIG := hw.1.1.1
  show (f119_tree a b).eval = some (((eqIntsV a b, ()), ()), ((), ((), ())))
  unfold f119_tree
  by_cases hl : a.length = b.length
  · rw [eval_ite_f (len_eq hl)]
    have := eq_loop (f := f119_L0) a b (fun i => ((a, (b, (((i : Nat) : Int), ()))), ())) (y := ((), ())) (z := ((false, ()), ())) hl ha
      (fun i hi hi' he => by
        have := wrap_succ (i := i) (by omega)
        simp [f119_L0, Out.eval, hi, hi', he, this])
      (fun i hi hi' he => by simp [f119_L0, Out.eval, hi, hi', he, cond_eq_ite])
      (by simp [f119_L0, Out.eval])
    refine (eval_get_some this).trans ?_
    unfold eqIntsV
    by_cases hab : a = b
    · simp only [if_pos hab, decide_eq_true hab]; rfl
    · simp only [if_neg hab, decide_eq_false hab]; rfl
  · rw [eval_ite_t (len_ne hl)]
    have : eqIntsV a b = false := decide_eq_false fun e => hl (by rw [e])
    rw [this]
    rfl
def f122_L0 (x : ((List (Int)) × (List (Int)) × (Int) × (Int) × Unit) × (Unit)) : Out (Round (((List (Int)) × (List (Int)) × (Int) × (Int) × Unit) × (Unit)) ((Unit) × (Unit)) (((Bool) × Unit) × (Unit))) :=
 Out.ite ((decide (x.1.2.2.2.1 < x.1.2.2.1)))
 (Out.ite (decide (0 ≤ x.1.2.2.2.1))
 (Out.get (nth x.1.1 (Int.toNat x.1.2.2.2.1)) fun (y1 : Int) =>
 Out.ite (decide (0 ≤ x.1.2.2.2.1))
 (Out.get (nth x.1.2.1 (Int.toNat x.1.2.2.2.1)) fun (y2 : Int) =>
 Out.ite (((y1 != y2)))
 (Out.ret (Round.ret ((false, ()), ())))
 (Out.ret (Round.again ((x.1.1, (x.1.2.1, (x.1.2.2.1, ((IntKind.i64.wrap (x.1.2.2.2.1 + (1 : Int))), ())))), ()))))
 (Out.fail))
 (Out.fail))
 (Out.ret (Round.out ((), ())))
def f122_tree (a0 : List (Int)) (a1 : List (Int)) : Out ((((Bool) × Unit) × Unit) × ((Unit) × (Unit) × Unit)) :=
 Out.ite (((((List.length a0 : Nat) : Int) != ((List.length a1 : Nat) : Int))))
 (Out.ret (((false, ()), ()), ((), ((), ()))))
 (Out.get (iter f122_L0 FUEL ((a0, (a1, (((List.length a0 : Nat) : Int), ((0 : Int), ())))), ())) fun y1 => Out.alt y1 (fun (y2 : (Unit) × (Unit)) =>
 Out.ret (((true, ()), ()), ((), ((), ())))) (fun (y3 : ((Bool) × Unit) × (Unit)) =>
 Out.ret (((y3.1.1, ()), ()), ((), ((), ())))))
def f122_A : Nat → Option LoopAnn := fun n => annOf [(0, { head := { t := [.ro (.int .i64) (some 0), .ro (.int .i64) (some 1), .dead, .dead, .dead, .dead, .dead, .dead, .dead, .dead, .dead, .dead, .i .i64, .i .i64, .dead, .dead, .dead, .dead, .dead, .dead, .dead, .dead, .dead, .dead, .dead, .dead], v := [] }, out := { t := [.dead, .dead, .dead, .dead, .dead, .dead, .dead, .dead, .dead, .dead, .dead, .dead, .dead, .dead, .dead, .dead, .dead, .dead, .dead, .dead, .dead, .dead, .dead, .dead, .dead, .dead], v := [] }, ret := some { t := [.dead, .dead, .dead, .dead, .b, .dead, .dead, .dead, .dead, .dead, .dead, .dead, .dead, .dead, .dead, .dead, .dead, .dead, .dead, .dead, .dead, .dead, .dead, .dead, .dead, .dead], v := [] } })] n
def f122_cx : Cx := cxOf []
theorem f122_eq (x : ((List (Int)) × Unit) × ((List (Int)) × Unit) × Unit) : bodyOut f122_cx f122_A (codeOf Try.f122) [⟨false, false, [.ro (.int .i64)]⟩, ⟨false, false, [.ro (.int .i64)]⟩] [none, none] 26 [⟨false, false, [.b]⟩] [.tmp 4] x = f122_tree x.1.1 x.2.1.1 := by kernel_rfl
def k122 : Con := { f := 122, lend := true, its := [⟨false, false, [.ro (.int .i64)]⟩, ⟨false, false, [.ro (.int .i64)]⟩], lay := [none, none], rs := [⟨false, false, [.b]⟩], F := fun x => .ret ((((eqIntsV x.1.1 x.2.1.1), ()), ()), ((), ((), ()))) }
theorem f122_okp  (hr : ∀ x : ((List (Int)) × Unit) × ((List (Int)) × Unit) × Unit, itemsWF k122.its x → ∀ y, (k122.F x).eval = some y → (f122_tree x.1.1 x.2.1.1).eval = some y) : k122.Ok Try.prog := by
  refine con_ok (A := f122_A) (code := codeOf Try.f122) (fn := Try.f122) (rtm := [.tmp 4]) [] ?_ ?_
  · exact fun K hK => by cases hK
  · exact ⟨by kernel_rfl, codeOf_eq (by kernel_rfl), by kernel_rfl, by kernel_rfl, by decide, by decide, by decide, fun x y hw hy => (congrArg Out.eval (f122_eq x)).trans (hr x hw y hy)⟩
theorem f122_ok  (hr : ∀ x : ((List (Int)) × Unit) × ((List (Int)) × Unit) × Unit, itemsWF k122.its x → (f122_tree x.1.1 x.2.1.1).eval = (k122.F x).eval) : k122.Ok Try.prog := f122_okp  fun x hw _ hy => (hr x hw).trans hy
theorem k122_ok : k122.Ok Try.prog := by
  refine f122_ok fun x hw => ?_
  obtain ⟨⟨a, _⟩, ⟨b, _⟩, _⟩ := x
  have ha : a.length ≤ BIG := hw.1.1.1
  show (f122_tree a b).eval = some (((eqIntsV a b, ()), ()), ((), ((), ())))
  unfold f122_tree
  by_cases hl : a.length = b.length
  · rw [eval_ite_f (len_eq hl)]
    have := eq_loop (f := f122_L0) a b (fun i => ((a, (b, (((a.length : Nat) : Int), (((i : Nat) : Int), ())))), ())) (y := ((), ())) (z := ((false, ()), ())) hl ha
      (fun i hi hi' he => by
        have := wrap_succ (i := i) (by omega)
        simp [f122_L0, Out.eval, hi, hi', he, this])
      (fun i hi hi' he => by simp [f122_L0, Out.eval, hi, hi', he, cond_eq_ite])
      (by simp [f122_L0, Out.eval])
    refine (eval_get_some this).trans ?_
    unfold eqIntsV
    by_cases hab : a = b
    · simp only [if_pos hab, decide_eq_true hab]; rfl
    · simp only [if_neg hab, decide_eq_false hab]; rfl
  · rw [eval_ite_t (len_ne hl)]
    have : eqIntsV a b = false := decide_eq_false fun e => hl (by rw [e])
    rw [this]
    rfl
def f123_tree (a0 : Int) (a1 : List (Int)) (a2 : Int) (a3 : List (Int)) : Out ((((Bool) × Unit) × Unit) × ((Unit) × (Unit) × Unit)) :=
 Out.ite (((a0 != a2)))
 (Out.ret (((false, ()), ()), ((), ((), ()))))
 (Out.ite ((!(eqIntsV a1 a3)))
 (Out.ret (((false, ()), ()), ((), ((), ()))))
 (Out.ret (((true, ()), ()), ((), ((), ())))))
def f123_A : Nat → Option LoopAnn := fun _ => none
def f123_cx : Cx := cxOf [k100]
theorem f123_eq (x : ((Int) × (List (Int)) × Unit) × ((Int) × (List (Int)) × Unit) × Unit) : bodyOut f123_cx f123_A (codeOf Try.f123) [⟨false, true, [.i .i64, .ro (.int .i64)]⟩, ⟨false, true, [.i .i64, .ro (.int .i64)]⟩] [none, none] 16 [⟨false, false, [.b]⟩] [.tmp 4] x = f123_tree x.1.1 x.1.2.1 x.2.1.1 x.2.1.2.1 := by kernel_rfl
def eqCpuV (p : Int) (a : List Int) (q : Int) (b : List Int) : Bool := decide (p = q) && decide (a = b)
def k123 : Con := { f := 123, lend := true, its := [⟨false, true, [.i .i64, .ro (.int .i64)]⟩, ⟨false, true, [.i .i64, .ro (.int .i64)]⟩], lay := [none, none], rs := [⟨false, false, [.b]⟩], F := fun x => .ret ((((eqCpuV x.1.1 x.1.2.1 x.2.1.1 x.2.1.2.1), ()), ()), ((), ((), ()))) }
theorem f123_okp (h0 : k100.Ok Try.prog) (hr : ∀ x : ((Int) × (List (Int)) × Unit) × ((Int) × (List (Int)) × Unit) × Unit, itemsWF k123.its x → ∀ y, (k123.F x).eval = some y → (f123_tree x.1.1 x.1.2.1 x.2.1.1 x.2.1.2.1).eval = some y) : k123.Ok Try.prog := by
  refine con_ok (A := f123_A) (code := codeOf Try.f123) (fn := Try.f123) (rtm := [.tmp 4]) [k100] ?_ ?_
  · intro K hK
    simp only [List.mem_cons, List.not_mem_nil, or_false] at hK
    rcases hK with rfl
    · exact h0
  · exact ⟨by kernel_rfl, codeOf_eq (by kernel_rfl), by kernel_rfl, by kernel_rfl, by decide, by decide, by decide, fun x y hw hy => (congrArg Out.eval (f123_eq x)).trans (hr x hw y hy)⟩
theorem f123_ok (h0 : k100.Ok Try.prog) (hr : ∀ x : ((Int) × (List (Int)) × Unit) × ((Int) × (List (Int)) × Unit) × Unit, itemsWF k123.its x → (f123_tree x.1.1 x.1.2.1 x.2.1.1 x.2.1.2.1).eval = (k123.F x).eval) : k123.Ok Try.prog := f123_okp h0 fun x hw _ hy => (hr x hw).trans hy
theorem k123_ok : k123.Ok Try.prog := by
  refine f123_ok k100_ok fun x _ => ?_
  obtain ⟨⟨p, a, _⟩, ⟨q, b, _⟩, _⟩ := x
  show (f123_tree p a q b).eval = some (((eqCpuV p a q b, ()), ()), ((), ((), ())))
  unfold f123_tree eqCpuV eqIntsV
  by_cases h1 : p = q <;> by_cases h2 : a = b <;> simp [Out.eval, h1, h2, cond_eq_ite]
def f35_tree (a0 : Int) (a1 : List (Int)) (a2 : List (Int)) (a3 : List (Int)) (a4 : Int) (a5 : List (Int)) (a6 : List (Int)) (a7 : List (Int)) : Out ((((Bool) × Unit) × Unit) × ((Unit) × (Unit) × Unit)) :=
 Out.ite ((!(eqCpuV a0 a1 a4 a5)))
 (Out.ret (((false, ()), ()), ((), ((), ()))))
 (Out.ite ((!(eqIntsV a2 a6)))
 (Out.ret (((false, ()), ()), ((), ((), ()))))
 (Out.ite ((!(eqIntsV a3 a7)))
 (Out.ret (((false, ()), ()), ((), ((), ()))))
 (Out.ret (((true, ()), ()), ((), ((), ()))))))
def f35_A : Nat → Option LoopAnn := fun _ => none
def f35_cx : Cx := cxOf [k123, k100]
theorem f35_eq (x : ((Int) × (List (Int)) × (List (Int)) × (List (Int)) × Unit) × ((Int) × (List (Int)) × (List (Int)) × (List (Int)) × Unit) × Unit) : bodyOut f35_cx f35_A (codeOf Try.f35) [⟨false, true, [.i .i64, .ro (.int .i64), .ro (.int .i64), .ro (.int .i64)]⟩, ⟨false, true, [.i .i64, .ro (.int .i64), .ro (.int .i64), .ro (.int .i64)]⟩] [none, none] 23 [⟨false, false, [.b]⟩] [.tmp 4] x = f35_tree x.1.1 x.1.2.1 x.1.2.2.1 x.1.2.2.2.1 x.2.1.1 x.2.1.2.1 x.2.1.2.2.1 x.2.1.2.2.2.1 := by kernel_rfl
def eqViewV (p : Int) (a b c : List Int) (q : Int) (d e f : List Int) : Bool := decide (p = q) && decide (a = d) && decide (b = e) && decide (c = f)
def k35 : Con := { f := 35, lend := true, its := [⟨false, true, [.i .i64, .ro (.int .i64), .ro (.int .i64), .ro (.int .i64)]⟩, ⟨false, true, [.i .i64, .ro (.int .i64), .ro (.int .i64), .ro (.int .i64)]⟩], lay := [none, none], rs := [⟨false, false, [.b]⟩], F := fun x => .ret ((((eqViewV x.1.1 x.1.2.1 x.1.2.2.1 x.1.2.2.2.1 x.2.1.1 x.2.1.2.1 x.2.1.2.2.1 x.2.1.2.2.2.1), ()), ()), ((), ((), ()))) }
theorem f35_okp (h0 : k123.Ok Try.prog) (h1 : k100.Ok Try.prog) (hr : ∀ x : ((Int) × (List (Int)) × (List (Int)) × (List (Int)) × Unit) × ((Int) × (List (Int)) × (List (Int)) × (List (Int)) × Unit) × Unit, itemsWF k35.its x → ∀ y, (k35.F x).eval = some y → (f35_tree x.1.1 x.1.2.1 x.1.2.2.1 x.1.2.2.2.1 x.2.1.1 x.2.1.2.1 x.2.1.2.2.1 x.2.1.2.2.2.1).eval = some y) : k35.Ok Try.prog := by
  refine con_ok (A := f35_A) (code := codeOf Try.f35) (fn := Try.f35) (rtm := [.tmp 4]) [k123, k100] ?_ ?_
  · intro K hK
    simp only [List.mem_cons, List.not_mem_nil, or_false] at hK
    rcases hK with rfl | rfl
    · exact h0
    · exact h1
  · exact ⟨by kernel_rfl, codeOf_eq (by kernel_rfl), by kernel_rfl, by kernel_rfl, by decide, by decide, by decide, fun x y hw hy => (congrArg Out.eval (f35_eq x)).trans (hr x hw y hy)⟩
theorem f35_ok (h0 : k123.Ok Try.prog) (h1 : k100.Ok Try.prog) (hr : ∀ x : ((Int) × (List (Int)) × (List (Int)) × (List (Int)) × Unit) × ((Int) × (List (Int)) × (List (Int)) × (List (Int)) × Unit) × Unit, itemsWF k35.its x → (f35_tree x.1.1 x.1.2.1 x.1.2.2.1 x.1.2.2.2.1 x.2.1.1 x.2.1.2.1 x.2.1.2.2.1 x.2.1.2.2.2.1).eval = (k35.F x).eval) : k35.Ok Try.prog := f35_okp h0 h1 fun x hw _ hy => (hr x hw).trans hy
theorem k35_ok : k35.Ok Try.prog := by
  refine f35_ok k123_ok k100_ok fun x _ => ?_
  obtain ⟨⟨p, a, b, c, _⟩, ⟨q, d, e, f, _⟩, _⟩ := x
  show (f35_tree p a b c q d e f).eval = some (((eqViewV p a b c q d e f, ()), ()), ((), ((), ())))
  unfold f35_tree eqViewV eqCpuV eqIntsV
  by_cases h1 : p = q <;> by_cases h2 : a = d <;> by_cases h3 : b = e <;> by_cases h4 : c = f <;> simp [Out.eval, h1, h2, h3, h4, cond_eq_ite]
def f32_tree (a0 : Int) (a1 : List (Int)) (a2 : List (Int)) (a3 : List (Int)) (a4 : Int) (a5 : List (Int)) (a6 : List (Int)) (a7 : List (Int)) : Out ((((Bool) × Unit) × Unit) × ((Unit) × (Unit) × Unit)) :=
 Out.ite (((a0 == a4)) == true)
 (Out.ite ((eqIntsV a1 a5) == true)
 (Out.ite ((eqIntsV a2 a6) == true)
 (Out.ret ((((eqIntsV a3 a7), ()), ()), ((), ((), ()))))
 (Out.ret (((false, ()), ()), ((), ((), ())))))
 (Out.ret (((false, ()), ()), ((), ((), ())))))
 (Out.ret (((false, ()), ()), ((), ((), ()))))
def f32_A : Nat → Option LoopAnn := fun _ => none
def f32_cx : Cx := cxOf [k119]
theorem f32_eq (x : ((Int) × (List (Int)) × (List (Int)) × (List (Int)) × Unit) × ((Int) × (List (Int)) × (List (Int)) × (List (Int)) × Unit) × Unit) : bodyOut f32_cx f32_A (codeOf Try.f32) [⟨false, true, [.i .i64, .ro (.int .i64), .ro (.int .i64), .ro (.int .i64)]⟩, ⟨false, true, [.i .i64, .ro (.int .i64), .ro (.int .i64), .ro (.int .i64)]⟩] [none, none] 35 [⟨false, false, [.b]⟩] [.tmp 4] x = f32_tree x.1.1 x.1.2.1 x.1.2.2.1 x.1.2.2.2.1 x.2.1.1 x.2.1.2.1 x.2.1.2.2.1 x.2.1.2.2.2.1 := by kernel_rfl
def k32 : Con := { f := 32, lend := true, its := [⟨false, true, [.i .i64, .ro (.int .i64), .ro (.int .i64), .ro (.int .i64)]⟩, ⟨false, true, [.i .i64, .ro (.int .i64), .ro (.int .i64), .ro (.int .i64)]⟩], lay := [none, none], rs := [⟨false, false, [.b]⟩], F := fun x => .ret ((((eqViewV x.1.1 x.1.2.1 x.1.2.2.1 x.1.2.2.2.1 x.2.1.1 x.2.1.2.1 x.2.1.2.2.1 x.2.1.2.2.2.1), ()), ()), ((), ((), ()))) }
theorem f32_okp (h0 : k119.Ok Try.prog) (hr : ∀ x : ((Int) × (List (Int)) × (List (Int)) × (List (Int)) × Unit) × ((Int) × (List (Int)) × (List (Int)) × (List (Int)) × Unit) × Unit, itemsWF k32.its x → ∀ y, (k32.F x).eval = some y → (f32_tree x.1.1 x.1.2.1 x.1.2.2.1 x.1.2.2.2.1 x.2.1.1 x.2.1.2.1 x.2.1.2.2.1 x.2.1.2.2.2.1).eval = some y) : k32.Ok Try.prog := by
  refine con_ok (A := f32_A) (code := codeOf Try.f32) (fn := Try.f32) (rtm := [.tmp 4]) [k119] ?_ ?_
  · intro K hK
    simp only [List.mem_cons, List.not_mem_nil, or_false] at hK
    rcases hK with rfl
    · exact h0
  · exact ⟨by kernel_rfl, codeOf_eq (by kernel_rfl), by kernel_rfl, by kernel_rfl, by decide, by decide, by decide, fun x y hw hy => (congrArg Out.eval (f32_eq x)).trans (hr x hw y hy)⟩
theorem f32_ok (h0 : k119.Ok Try.prog) (hr : ∀ x : ((Int) × (List (Int)) × (List (Int)) × (List (Int)) × Unit) × ((Int) × (List (Int)) × (List (Int)) × (List (Int)) × Unit) × Unit, itemsWF k32.its x → (f32_tree x.1.1 x.1.2.1 x.1.2.2.1 x.1.2.2.2.1 x.2.1.1 x.2.1.2.1 x.2.1.2.2.1 x.2.1.2.2.2.1).eval = (k32.F x).eval) : k32.Ok Try.prog := f32_okp h0 fun x hw _ hy => (hr x hw).trans hy
theorem k32_ok : k32.Ok Try.prog := by
  refine f32_ok k119_ok fun x _ => ?_
  obtain ⟨⟨p, a, b, c, _⟩, ⟨q, d, e, f, _⟩, _⟩ := x
  show (f32_tree p a b c q d e f).eval = some (((eqViewV p a b c q d e f, ()), ()), ((), ((), ())))
  unfold f32_tree eqViewV eqIntsV
  by_cases h1 : p = q <;> by_cases h2 : a = d <;> by_cases h3 : b = e <;> by_cases h4 : c = f <;> simp [Out.eval, h1, h2, h3, h4, cond_eq_ite]
def f34_tree (a0 : Int) (a1 : List (Int)) (a2 : List (Int)) (a3 : List (Int)) (a4 : Int) (a5 : List (Int)) (a6 : List (Int)) (a7 : List (Int)) : Out ((((Bool) × Unit) × Unit) × ((Unit) × (Unit) × Unit)) :=
 Out.ite (((a0 == a4)) == true)
 (Out.ite ((eqIntsV a1 a5) == true)
 (Out.ite ((eqIntsV a2 a6) == true)
 (Out.ret ((((eqIntsV a3 a7), ()), ()), ((), ((), ()))))
 (Out.ret (((false, ()), ()), ((), ((), ())))))
 (Out.ret (((false, ()), ()), ((), ((), ())))))
 (Out.ret (((false, ()), ()), ((), ((), ()))))
def f34_A : Nat → Option LoopAnn := fun _ => none
def f34_cx : Cx := cxOf [k122]
theorem f34_eq (x : ((Int) × (List (Int)) × (List (Int)) × (List (Int)) × Unit) × ((Int) × (List (Int)) × (List (Int)) × (List (Int)) × Unit) × Unit) : bodyOut f34_cx f34_A (codeOf Try.f34) [⟨false, true, [.i .i64, .ro (.int .i64), .ro (.int .i64), .ro (.int .i64)]⟩, ⟨false, true, [.i .i64, .ro (.int .i64), .ro (.int .i64), .ro (.int .i64)]⟩] [none, none] 35 [⟨false, false, [.b]⟩] [.tmp 4] x = f34_tree x.1.1 x.1.2.1 x.1.2.2.1 x.1.2.2.2.1 x.2.1.1 x.2.1.2.1 x.2.1.2.2.1 x.2.1.2.2.2.1 := by kernel_rfl
def k34 : Con := { f := 34, lend := true, its := [⟨false, true, [.i .i64, .ro (.int .i64), .ro (.int .i64), .ro (.int .i64)]⟩, ⟨false, true, [.i .i64, .ro (.int .i64), .ro (.int .i64), .ro (.int .i64)]⟩], lay := [none, none], rs := [⟨false, false, [.b]⟩], F := fun x => .ret ((((eqViewV x.1.1 x.1.2.1 x.1.2.2.1 x.1.2.2.2.1 x.2.1.1 x.2.1.2.1 x.2.1.2.2.1 x.2.1.2.2.2.1), ()), ()), ((), ((), ()))) }
theorem f34_okp (h0 : k122.Ok Try.prog) (hr : ∀ x : ((Int) × (List (Int)) × (List (Int)) × (List (Int)) × Unit) × ((Int) × (List (Int)) × (List (Int)) × (List (Int)) × Unit) × Unit, itemsWF k34.its x → ∀ y, (k34.F x).eval = some y → (f34_tree x.1.1 x.1.2.1 x.1.2.2.1 x.1.2.2.2.1 x.2.1.1 x.2.1.2.1 x.2.1.2.2.1 x.2.1.2.2.2.1).eval = some y) : k34.Ok Try.prog := by
  refine con_ok (A := f34_A) (code := codeOf Try.f34) (fn := Try.f34) (rtm := [.tmp 4]) [k122] ?_ ?_
  · intro K hK
    simp only [List.mem_cons, List.not_mem_nil, or_false] at hK
    rcases hK with rfl
    · exact h0
  · exact ⟨by kernel_rfl, codeOf_eq (by kernel_rfl), by kernel_rfl, by kernel_rfl, by decide, by decide, by decide, fun x y hw hy => (congrArg Out.eval (f34_eq x)).trans (hr x hw y hy)⟩
theorem f34_ok (h0 : k122.Ok Try.prog) (hr : ∀ x : ((Int) × (List (Int)) × (List (Int)) × (List (Int)) × Unit) × ((Int) × (List (Int)) × (List (Int)) × (List (Int)) × Unit) × Unit, itemsWF k34.its x → (f34_tree x.1.1 x.1.2.1 x.1.2.2.1 x.1.2.2.2.1 x.2.1.1 x.2.1.2.1 x.2.1.2.2.1 x.2.1.2.2.2.1).eval = (k34.F x).eval) : k34.Ok Try.prog := f34_okp h0 fun x hw _ hy => (hr x hw).trans hy
theorem k34_ok : k34.Ok Try.prog := by
  refine f34_ok k122_ok fun x _ => ?_
  obtain ⟨⟨p, a, b, c, _⟩, ⟨q, d, e, f, _⟩, _⟩ := x
  show (f34_tree p a b c q d e f).eval = some (((eqViewV p a b c q d e f, ()), ()), ((), ((), ())))
  unfold f34_tree eqViewV eqIntsV
  by_cases h1 : p = q <;> by_cases h2 : a = d <;> by_cases h3 : b = e <;> by_cases h4 : c = f <;> simp [Out.eval, h1, h2, h3, h4, cond_eq_ite]

theorem thenV_not {x y : Int} (h : ¬ thenV x y < 0) : ¬ x < 0 ∧ thenV x y = y := by
  unfold thenV at h ⊢
  split at h
  · omega
  · rename_i hx; exact ⟨hx, if_neg hx⟩
theorem szView_le {p : Int} {a b c : List Int} {left : Int} (ha : a.length ≤ BIG) (hb : b.length ≤ BIG) (hc : c.length ≤ BIG) (h0 : -1 ≤ left) (h1 : left ≤ 1048576) (h : ¬ szViewV p a b c left < 0) :
    a.length ≤ 1048576 ∧ b.length ≤ 1048576 ∧ c.length ≤ 1048576 ∧ -1 ≤ szViewV p a b c left ∧ szViewV p a b c left ≤ 1048576 := by
  unfold szViewV at h ⊢
  obtain ⟨g1, e1⟩ := thenV_not h
  rw [e1] at h ⊢
  obtain ⟨g2, e2⟩ := thenV_not h
  rw [e2] at h ⊢
  obtain ⟨g3, e3⟩ := thenV_not h
  rw [e3]
  unfold szCpuV at g1 g2 g3 ⊢
  obtain ⟨g4, e4⟩ := thenV_not g1
  rw [e4] at g2 g3 ⊢
  unfold szIntSV at *
  have q1 := lessV_le (m := 1048576) (by decide) h0 h1 ha g4
  have q2 := lessV_le (m := 1048576) (by decide) (by omega) (by omega) hb g2
  have q3 := lessV_le (m := 1048576) (by decide) (by omega) (by omega) hc g3
  omega

end Go.Proofs.Ytjcinikojcfebaa.Dm
