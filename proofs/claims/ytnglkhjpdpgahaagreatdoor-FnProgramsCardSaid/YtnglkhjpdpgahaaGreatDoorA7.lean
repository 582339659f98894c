/- Functions of the program, and what they compute. -/
import Derived.Test.YtnglkhjpdpgahaaGreatDoorA6
namespace Go.Proofs.YtnglkhjpdpgahaaGreatDoor.Dm
open Go Go.ChangeShapes Go.WideShapes Go.ChangeAt Go.RowKit
theorem eval_get_ret {ρ : Type} (o : Option ρ) : (Out.get o fun y => .ret y).eval = o := by cases o <;> rfl
def TotV {ρ : Type} (o : Option ρ) (Q : ρ → Prop) : Prop := ∃ y, o = some y ∧ Q y
theorem tot_ret {ρ : Type} {r : ρ} {Q : ρ → Prop} (h : Q r) : TotV (Out.ret r).eval Q := ⟨r, rfl, h⟩
theorem tot_ite {ρ : Type} {c : Bool} {a b : Out ρ} {Q : ρ → Prop} (ha : c = true → TotV a.eval Q) (hb : c = false → TotV b.eval Q) : TotV (Out.ite c a b).eval Q := by
  cases c
  · exact hb rfl
  · exact ha rfl
theorem tot_t {ρ : Type} {c : Bool} {a b : Out ρ} {Q : ρ → Prop} (hc : c = true) (ha : TotV a.eval Q) : TotV (Out.ite c a b).eval Q := by subst hc; exact ha
theorem tot_f {ρ : Type} {c : Bool} {a b : Out ρ} {Q : ρ → Prop} (hc : c = false) (hb : TotV b.eval Q) : TotV (Out.ite c a b).eval Q := by subst hc; exact hb
theorem tot_get {ρ α : Type} {o : Option α} {k : α → Out ρ} {P : α → Prop} {Q : ρ → Prop} (h : TotV o P) (hk : ∀ y, P y → TotV (k y).eval Q) : TotV (Out.get o k).eval Q := by
  obtain ⟨y, rfl, p⟩ := h; exact hk y p
def RoundP {α β γ : Type} (I : α → Prop) (O : β → Prop) (R : γ → Prop) : Round α β γ → Prop
  | .again x => I x
  | .out y => O y
  | .ret z => R z
theorem tot_iter1 {α β : Type} {f : α → Out (Round α β Empty)} (I : α → Prop) (m : α → Nat) (O : β → Prop) (h : ∀ x, I x → TotV (f x).eval (RoundP (fun x' => I x' ∧ m x' < m x) O fun _ => False)) :
    ∀ (n : Nat) (x : α), I x → m x < n → TotV (iter1 f n x) O
  | 0, x, _, hn => absurd hn (Nat.not_lt_zero _)
  | n + 1, x, hx, hn => by
    obtain ⟨r, e, hr⟩ := h x hx
    cases r with
    | again x' => rw [iter1_again e]; exact tot_iter1 I m O h n x' hr.1 (by have := hr.2; omega)
    | out y => exact ⟨y, iter1_out' e (by omega), hr⟩
    | ret z => exact z.elim
theorem and_bounds (z : Int) {b : Nat} (hb : b ≤ BIG) : 0 ≤ IntKind.i64.wrap (((BitVec.ofInt (IntKind.bits .i64) z &&& BitVec.ofInt (IntKind.bits .i64) ((b : Nat) : Int)).toNat : Nat) : Int) ∧ IntKind.i64.wrap (((BitVec.ofInt (IntKind.bits .i64) z &&& BitVec.ofInt (IntKind.bits .i64) ((b : Nat) : Int)).toNat : Nat) : Int) ≤ b := by
  have h : (BitVec.ofInt 64 z &&& BitVec.ofInt 64 ((b : Nat) : Int)).toNat ≤ b := by
    rw [BitVec.toNat_and, ofInt_nat, BitVec.toNat_ofNat, Nat.mod_eq_of_lt (Nat.lt_of_le_of_lt hb (by decide))]
    exact Nat.and_le_right
  have e : IntKind.i64.wrap (((BitVec.ofInt (IntKind.bits .i64) z &&& BitVec.ofInt (IntKind.bits .i64) ((b : Nat) : Int)).toNat : Nat) : Int) = _ := wrap_nat (Nat.le_trans h hb)
  rw [e]
  have h : (BitVec.ofInt (IntKind.bits .i64) z &&& BitVec.ofInt (IntKind.bits .i64) ((b : Nat) : Int)).toNat ≤ b := h
  omega
abbrev f25_S0 := (List (Int) × Int × Int × Unit) × (Unit)
def f25_L0 : f25_S0 → Out (Round f25_S0 ((List (Int) × Int × Unit) × (Unit)) Empty)
| ((p0, p1, p2, _), _) =>
 .ite ((decide (p2 < ((List.length p0 : Nat) : Int))) == true)
 (.ite (decide (p2 < (4000 : Int)))
 (.ite (decide (0 ≤ p2))
 (.get (nth p0 (Int.toNat p2)) fun y1 =>
 .ret (.again ((p0, (IntKind.i64.wrap (((BitVec.ofInt (IntKind.bits IntKind.i64) (IntKind.i64.wrap ((IntKind.i64.wrap ((IntKind.i64.wrap (p1 * (131 : Int))) + (IntKind.i64.wrap y1))) + (7 : Int))) &&& BitVec.ofInt (IntKind.bits IntKind.i64) (1073741823 : Int)).toNat : Int))), (IntKind.i64.wrap (p2 + (1 : Int))), ()), ())))
 .fail)
 (.ret (.out ((p0, p1, ()), ()))))
 (.ret (.out ((p0, p1, ()), ())))
def f25_tree (a0 : List Int) : Out (((List Int × Int × Int × Unit) × Unit) × (Unit × Unit)) :=
 .get (iter1 f25_L0 FUEL ((a0, (IntKind.i64.wrap ((10101 : Int) + ((List.length a0 : Nat) : Int))), (0 : Int), ()), ())) fun y1 =>
 .ret (((y1.1.1, (0 : Int), y1.1.2.1, ()), ()), ((), ()))
def f25_A : Nat → Option LoopAnn := fun n => annOf [(0, { head := { t := [.ro (.int .u8) (some 0), .dead, .dead, .i .i64, .i .i64] ++ dd 27, v := [] }, out := { t := [.ro (.int .u8) (some 0), .dead, .dead, .i .i64] ++ dd 28, v := [] }, ret := none })] n
def k25_V (a0 : List Int) : Option (((List Int × Int × Int × Unit) × Unit) × (Unit × Unit)) := (f25_tree a0).eval
def k25 : Con := { f := 25, lend := false, its := [⟨false, false, [.ro (.int .u8)]⟩], lay := [none], rs := [⟨true, false, [.ro (.int .u8), .i .i64, .i .i64]⟩], F := fun x => .get (k25_V x.1.1) fun y => .ret y }
theorem f25_eq (x : itemsD k25.its) : bo [] f25_A Tryz.f25 k25 [.tmp 2] x = f25_tree x.1.1 := by kernel_rfl
theorem f25_ok (hr : ∀ x : (List Int × Unit) × Unit, itemsWF k25.its x → (f25_tree x.1.1).eval = (k25.F x).eval) : k25.Ok Tryz.prog := con_fn [] trivial f25_eq fun x hw _ hy => (hr x hw).trans hy
theorem k25_ok : k25.Ok Tryz.prog := f25_ok fun x _ => (eval_get_ret _).symm
theorem newCur_tot {b : List Int} (hb : b.length ≤ BIG) : TotV (k25_V b) fun y => y.1.1.1 = b ∧ y.1.1.2.1 = 0 := by
  unfold k25_V f25_tree
  refine tot_get (P := fun y => y.1.1 = b) (tot_iter1 (fun x => x.1.1 = b ∧ 0 ≤ x.1.2.2.1 ∧ x.1.2.2.1 ≤ (b.length : Int)) (fun x => (b.length - x.1.2.2.1.toNat)) _ (fun x hx => ?_) _ _ ⟨rfl, by simp, by simp⟩ (by simp; exact lt_fuel hb)) fun y hy => tot_ret ⟨hy, rfl⟩
  obtain ⟨⟨l, h, i, _⟩, _⟩ := x
  obtain ⟨e1, h1, h2⟩ := hx
  simp only at e1 h1 h2
  subst e1
  unfold f25_L0
  refine tot_ite (fun h3 => ?_) (fun _ => tot_ret rfl)
  have h3 : i < (l.length : Int) := of_decide_eq_true (by simpa using h3)
  refine tot_ite (fun _ => ?_) (fun _ => tot_ret rfl)
  refine tot_t (decide_eq_true h1) (tot_get (P := fun _ => True) ⟨_, List.getElem?_eq_getElem (show i.toNat < l.length by omega), trivial⟩ fun y _ => tot_ret ?_)
  have w : IntKind.i64.wrap (i + 1) = i + 1 := wrap_id (by omega) (by unfold BIG at hb; omega)
  exact ⟨⟨rfl, by simp only [w]; omega, by simp only [w]; omega⟩, by simp only [w]; omega⟩
def f50_tree (a0 : List Int) (a1 : Int) (a2 : Int) : Out (((Int × Unit) × Unit) × ((Int × Int × Unit) × Unit)) :=
 .ite (decide ((33 : Int) < 0))
 .fail
 (.ite (decide ((45 : Int) < 0))
 .fail
 (.ite (decide (a1 < ((List.length a0 : Nat) : Int)))
 (.ite (decide (0 ≤ a1))
 (.get (nth a0 (Int.toNat a1)) fun y1 =>
 .ret ((((IntKind.i64.wrap (((BitVec.ofInt (IntKind.bits IntKind.i64) (IntKind.i64.wrap ((IntKind.i64.wrap (((BitVec.ofInt (IntKind.bits IntKind.i64) (IntKind.i64.wrap (((BitVec.ofInt (IntKind.bits IntKind.i64) (Int.fdiv (IntKind.i64.wrap ((IntKind.i64.wrap (a2 * (6364136223846793005 : Int))) + (1442695040888963407 : Int))) (2 ^ (min (Int.toNat (33 : Int)) (IntKind.bits IntKind.i64)))) ^^^ BitVec.ofInt (IntKind.bits IntKind.i64) (Int.fdiv (IntKind.i64.wrap ((IntKind.i64.wrap (a2 * (6364136223846793005 : Int))) + (1442695040888963407 : Int))) (2 ^ (min (Int.toNat (45 : Int)) (IntKind.bits IntKind.i64))))).toNat : Int))) &&& BitVec.ofInt (IntKind.bits IntKind.i64) (255 : Int)).toNat : Int))) + (IntKind.i64.wrap y1))) &&& BitVec.ofInt (IntKind.bits IntKind.i64) (255 : Int)).toNat : Int))), ()), ()), (((IntKind.i64.wrap (a1 + (1 : Int))), (IntKind.i64.wrap ((IntKind.i64.wrap (a2 * (6364136223846793005 : Int))) + (1442695040888963407 : Int))), ()), ())))
 .fail)
 (.ret ((((IntKind.i64.wrap (((BitVec.ofInt (IntKind.bits IntKind.i64) (IntKind.i64.wrap (((BitVec.ofInt (IntKind.bits IntKind.i64) (Int.fdiv (IntKind.i64.wrap ((IntKind.i64.wrap (a2 * (6364136223846793005 : Int))) + (1442695040888963407 : Int))) (2 ^ (min (Int.toNat (33 : Int)) (IntKind.bits IntKind.i64)))) ^^^ BitVec.ofInt (IntKind.bits IntKind.i64) (Int.fdiv (IntKind.i64.wrap ((IntKind.i64.wrap (a2 * (6364136223846793005 : Int))) + (1442695040888963407 : Int))) (2 ^ (min (Int.toNat (45 : Int)) (IntKind.bits IntKind.i64))))).toNat : Int))) &&& BitVec.ofInt (IntKind.bits IntKind.i64) (255 : Int)).toNat : Int))), ()), ()), ((a1, (IntKind.i64.wrap ((IntKind.i64.wrap (a2 * (6364136223846793005 : Int))) + (1442695040888963407 : Int))), ()), ())))))
def k50_V (a0 : List Int) (a1 : Int) (a2 : Int) : Option (((Int × Unit) × Unit) × ((Int × Int × Unit) × Unit)) := (f50_tree a0 a1 a2).eval
def k50 : Con := { f := 50, lend := true, its := [⟨true, false, [.ro (.int .u8), .i .i64, .i .i64]⟩], lay := [none], rs := [⟨false, false, [.i .i64]⟩], F := fun x => .get (k50_V x.1.1 x.1.2.1 x.1.2.2.1) fun y => .ret y }
theorem f50_eq (x : itemsD k50.its) : bo [] (fun _ => none) Tryz.f50 k50 [.tmp 2] x = f50_tree x.1.1 x.1.2.1 x.1.2.2.1 := by kernel_rfl
theorem f50_ok (hr : ∀ x : (List Int × Int × Int × Unit) × Unit, itemsWF k50.its x → (f50_tree x.1.1 x.1.2.1 x.1.2.2.1).eval = (k50.F x).eval) : k50.Ok Tryz.prog := con_fn [] trivial f50_eq fun x hw _ hy => (hr x hw).trans hy
theorem k50_ok : k50.Ok Tryz.prog := f50_ok fun x _ => (eval_get_ret _).symm
theorem byte_tot {b : List Int} {i h : Int} (hb : b.length ≤ BIG) (hi : 0 ≤ i) : TotV (k50_V b i h) fun y => (0 ≤ y.1.1.1 ∧ y.1.1.1 ≤ 255) ∧ 0 ≤ y.2.1.1 := by
  unfold k50_V f50_tree
  refine tot_f rfl (tot_f rfl (tot_ite (fun h1 => ?_) fun _ => tot_ret ?_))
  · have h1 : i < (b.length : Int) := of_decide_eq_true h1
    refine tot_t (decide_eq_true hi) (tot_get (P := fun _ => True) ⟨_, List.getElem?_eq_getElem (show i.toNat < b.length by omega), trivial⟩ fun y _ => tot_ret ?_)
    refine ⟨and_bounds _ (b := 255) (by decide), ?_⟩
    · show 0 ≤ IntKind.i64.wrap (i + 1)
      rw [wrap_id (by omega) (by unfold BIG at hb; omega)]; omega
  · exact ⟨and_bounds _ (b := 255) (by decide), hi⟩
def f26_tree (a0 : List Int) (a1 : Int) (a2 : Int) (a3 : Int) : Out (((Int × Unit) × Unit) × ((Int × Int × Unit) × Unit × Unit)) :=
 .ite (decide (a3 ≤ (0 : Int)))
 (.ret ((((0 : Int), ()), ()), ((a1, a2, ()), (), ())))
 (.ite (decide (a3 ≤ (256 : Int)))
 (.get (k50_V a0 a1 a2) fun y1 =>
 .ite (a3 == 0)
 .fail
 (.ret ((((Int.tmod y1.1.1.1 a3), ()), ()), ((y1.2.1.1, y1.2.1.2.1, ()), (), ()))))
 (.get (k50_V a0 a1 a2) fun y2 =>
 .get (k50_V a0 y2.2.1.1 y2.2.1.2.1) fun y3 =>
 .get (k50_V a0 y3.2.1.1 y3.2.1.2.1) fun y4 =>
 .get (k50_V a0 y4.2.1.1 y4.2.1.2.1) fun y5 =>
 .ite (a3 == 0)
 .fail
 (.ret ((((Int.tmod (IntKind.i64.wrap ((IntKind.i64.wrap ((IntKind.i64.wrap ((IntKind.i64.wrap (y2.1.1.1 * (16777216 : Int))) + (IntKind.i64.wrap (y3.1.1.1 * (65536 : Int))))) + (IntKind.i64.wrap (y4.1.1.1 * (256 : Int))))) + y5.1.1.1)) a3), ()), ()), ((y5.2.1.1, y5.2.1.2.1, ()), (), ())))))
def k26_V (a0 : List Int) (a1 : Int) (a2 : Int) (a3 : Int) : Option (((Int × Unit) × Unit) × ((Int × Int × Unit) × Unit × Unit)) := (f26_tree a0 a1 a2 a3).eval
def k26 : Con := { f := 26, lend := true, its := [⟨true, false, [.ro (.int .u8), .i .i64, .i .i64]⟩, ⟨false, false, [.i .i64]⟩], lay := [none, none], rs := [⟨false, false, [.i .i64]⟩], F := fun x => .get (k26_V x.1.1 x.1.2.1 x.1.2.2.1 x.2.1.1) fun y => .ret y }
theorem f26_eq (x : itemsD k26.its) : bo [k50] (fun _ => none) Tryz.f26 k26 [.tmp 4] x = f26_tree x.1.1 x.1.2.1 x.1.2.2.1 x.2.1.1 := by kernel_rfl
theorem f26_ok (hr : ∀ x : (List Int × Int × Int × Unit) × (Int × Unit) × Unit, itemsWF k26.its x → (f26_tree x.1.1 x.1.2.1 x.1.2.2.1 x.2.1.1).eval = (k26.F x).eval) : k26.Ok Tryz.prog := con_fn [k50] ⟨k50_ok, trivial⟩ f26_eq fun x hw _ hy => (hr x hw).trans hy
theorem k26_ok : k26.Ok Tryz.prog := f26_ok fun x _ => (eval_get_ret _).symm
theorem tmod_bounds {x n : Int} (hx : 0 ≤ x) (hn : 0 < n) : 0 ≤ Int.tmod x n ∧ Int.tmod x n < n := ⟨Int.tmod_nonneg _ hx, Int.tmod_lt_of_pos _ hn⟩
theorem below_tot {b : List Int} {i h n : Int} (hb : b.length ≤ BIG) (hi : 0 ≤ i) : TotV (k26_V b i h n) fun y => (0 ≤ y.1.1.1 ∧ (0 < n → y.1.1.1 < n) ∧ (n ≤ 0 → y.1.1.1 = 0)) ∧ 0 ≤ y.2.1.1 := by
  unfold k26_V f26_tree
  refine tot_ite (fun h1 => tot_ret ?_) fun h1 => ?_
  · have := of_decide_eq_true h1
    exact ⟨⟨Int.le_refl _, fun h => by omega, fun _ => rfl⟩, hi⟩
  have h1 := of_decide_eq_false h1
  have hz : (n == 0) = false := by simp; omega
  refine tot_ite (fun h2 => tot_get (byte_tot hb hi) fun y hy => tot_f hz (tot_ret ?_)) fun h2 => ?_
  · have := tmod_bounds hy.1.1 (show 0 < n by omega)
    exact ⟨⟨this.1, fun _ => this.2, fun h => by omega⟩, hy.2⟩
  · refine tot_get (byte_tot hb hi) fun y hy => tot_get (byte_tot hb hy.2) fun z hz' => tot_get (byte_tot hb hz'.2) fun u hu => tot_get (byte_tot hb hu.2) fun v hv => tot_f hz (tot_ret ?_)
    have e1 := hy.1; have e2 := hz'.1; have e3 := hu.1; have e4 := hv.1
    have w1 : IntKind.i64.wrap (y.1.1.1 * 16777216) = y.1.1.1 * 16777216 := wrap_id (by omega) (by omega)
    have w2 : IntKind.i64.wrap (z.1.1.1 * 65536) = z.1.1.1 * 65536 := wrap_id (by omega) (by omega)
    have w3 : IntKind.i64.wrap (u.1.1.1 * 256) = u.1.1.1 * 256 := wrap_id (by omega) (by omega)
    have w4 : IntKind.i64.wrap (y.1.1.1 * 16777216 + z.1.1.1 * 65536) = y.1.1.1 * 16777216 + z.1.1.1 * 65536 := wrap_id (by omega) (by omega)
    have w5 : IntKind.i64.wrap (y.1.1.1 * 16777216 + z.1.1.1 * 65536 + u.1.1.1 * 256) = y.1.1.1 * 16777216 + z.1.1.1 * 65536 + u.1.1.1 * 256 := wrap_id (by omega) (by omega)
    have w6 : IntKind.i64.wrap (y.1.1.1 * 16777216 + z.1.1.1 * 65536 + u.1.1.1 * 256 + v.1.1.1) = y.1.1.1 * 16777216 + z.1.1.1 * 65536 + u.1.1.1 * 256 + v.1.1.1 := wrap_id (by omega) (by omega)
    have := tmod_bounds (show 0 ≤ y.1.1.1 * 16777216 + z.1.1.1 * 65536 + u.1.1.1 * 256 + v.1.1.1 by omega) (show 0 < n by omega)
    simp only [w1, w2, w3, w4, w5, w6]
    exact ⟨⟨this.1, fun _ => this.2, fun h => by omega⟩, hv.2⟩
def f30_tree (a0 : List Int) (a1 : Int) (a2 : Int) (a3 : Int) : Out (((Bool × Unit) × Unit) × ((Int × Int × Unit) × Unit × Unit)) :=
 .get (k26_V a0 a1 a2 a3) fun y1 =>
 .ret (((((y1.1.1.1 == (0 : Int))), ()), ()), ((y1.2.1.1, y1.2.1.2.1, ()), (), ()))
def k30_V (a0 : List Int) (a1 : Int) (a2 : Int) (a3 : Int) : Option (((Bool × Unit) × Unit) × ((Int × Int × Unit) × Unit × Unit)) := (f30_tree a0 a1 a2 a3).eval
def k30 : Con := { f := 30, lend := true, its := [⟨true, false, [.ro (.int .u8), .i .i64, .i .i64]⟩, ⟨false, false, [.i .i64]⟩], lay := [none, none], rs := [⟨false, false, [.b]⟩], F := fun x => .get (k30_V x.1.1 x.1.2.1 x.1.2.2.1 x.2.1.1) fun y => .ret y }
theorem f30_eq (x : itemsD k30.its) : bo [k26] (fun _ => none) Tryz.f30 k30 [.tmp 4] x = f30_tree x.1.1 x.1.2.1 x.1.2.2.1 x.2.1.1 := by kernel_rfl
theorem f30_ok (hr : ∀ x : (List Int × Int × Int × Unit) × (Int × Unit) × Unit, itemsWF k30.its x → (f30_tree x.1.1 x.1.2.1 x.1.2.2.1 x.2.1.1).eval = (k30.F x).eval) : k30.Ok Tryz.prog := con_fn [k26] ⟨k26_ok, trivial⟩ f30_eq fun x hw _ hy => (hr x hw).trans hy
theorem k30_ok : k30.Ok Tryz.prog := f30_ok fun x _ => (eval_get_ret _).symm
theorem once_tot {b : List Int} {i h n : Int} (hb : b.length ≤ BIG) (hi : 0 ≤ i) : TotV (k30_V b i h n) fun y => 0 ≤ y.2.1.1 := by
  unfold k30_V f30_tree
  exact tot_get (below_tot hb hi) fun y hy => tot_ret hy.2
def f53_tree (a0 : List Int) (a1 : Int) (a2 : Int) (a3 : List Int) : Out (((Int × Unit) × Unit) × ((Int × Int × Unit) × Unit × Unit)) :=
 .get (k26_V a0 a1 a2 ((List.length a3 : Nat) : Int)) fun y1 =>
 .ite (decide (0 ≤ y1.1.1.1))
 (.get (nth a3 (Int.toNat y1.1.1.1)) fun y2 =>
 .ret (((y2, ()), ()), ((y1.2.1.1, y1.2.1.2.1, ()), (), ())))
 .fail
def k53_V (a0 : List Int) (a1 : Int) (a2 : Int) (a3 : List Int) : Option (((Int × Unit) × Unit) × ((Int × Int × Unit) × Unit × Unit)) := (f53_tree a0 a1 a2 a3).eval
def k53 : Con := { f := 53, lend := true, its := [⟨true, false, [.ro (.int .u8), .i .i64, .i .i64]⟩, ⟨false, false, [.ro (.int .i64)]⟩], lay := [none, none], rs := [⟨false, false, [.i .i64]⟩], F := fun x => .get (k53_V x.1.1 x.1.2.1 x.1.2.2.1 x.2.1.1) fun y => .ret y }
theorem f53_eq (x : itemsD k53.its) : bo [k26] (fun _ => none) Tryz.f53 k53 [.tmp 4] x = f53_tree x.1.1 x.1.2.1 x.1.2.2.1 x.2.1.1 := by kernel_rfl
theorem f53_ok (hr : ∀ x : (List Int × Int × Int × Unit) × (List Int × Unit) × Unit, itemsWF k53.its x → (f53_tree x.1.1 x.1.2.1 x.1.2.2.1 x.2.1.1).eval = (k53.F x).eval) : k53.Ok Tryz.prog := con_fn [k26] ⟨k26_ok, trivial⟩ f53_eq fun x hw _ hy => (hr x hw).trans hy
theorem k53_ok : k53.Ok Tryz.prog := f53_ok fun x _ => (eval_get_ret _).symm
theorem pick_tot {b : List Int} {i h : Int} {l : List Int} (hb : b.length ≤ BIG) (hi : 0 ≤ i) (hl : 0 < l.length) : TotV (k53_V b i h l) fun y => y.1.1.1 ∈ l ∧ 0 ≤ y.2.1.1 := by
  unfold k53_V f53_tree
  refine tot_get (below_tot hb hi) fun y hy => ?_
  have h1 := hy.1.1
  have h2 := hy.1.2.1 (by omega)
  refine tot_t (decide_eq_true h1) (tot_get (P := fun x => x ∈ l) ⟨_, List.getElem?_eq_getElem (show y.1.1.1.toNat < l.length by omega), List.getElem_mem _⟩ fun x hx => tot_ret ⟨hx, hy.2⟩)
abbrev f54_S0 := (Int × Int × Unit) × ((List (Int) × Int × Int × Unit) × List (Int) × Unit)
def f54_L0 : f54_S0 → Out (Round f54_S0 ((Unit) × (List (Int) × (List (Int) × Int × Int × Unit) × Unit)) Empty)
| ((p0, p1, _), (p2, p3, p4, _), p5, _) =>
 .ite (decide (p1 > (0 : Int)))
 (.get (k50_V p2 p3 p4) fun y1 =>
 .ite ((p0 == (1 : Int)))
 (.ite ((2 : Int) == 0)
 .fail
 (.ite ((p0 == (2 : Int)))
 (.ite ((4 : Int) == 0)
 .fail
 (.ite (decide (List.length p5 + List.length ([(IntKind.u8.wrap (IntKind.i64.wrap ((97 : Int) + (Int.tmod (Int.tmod y1.1.1.1 (2 : Int)) (4 : Int)))))] : List (Int)) ≤ LIM))
 (.ret (.again ((p0, (IntKind.i64.wrap (p1 - (1 : Int))), ()), ((p2, y1.2.1.1, y1.2.1.2.1, ()), (p5 ++ ([(IntKind.u8.wrap (IntKind.i64.wrap ((97 : Int) + (Int.tmod (Int.tmod y1.1.1.1 (2 : Int)) (4 : Int)))))] : List (Int))), ()))))
 .fail))
 (.ite (decide (List.length p5 + List.length ([(IntKind.u8.wrap (Int.tmod y1.1.1.1 (2 : Int)))] : List (Int)) ≤ LIM))
 (.ret (.again ((p0, (IntKind.i64.wrap (p1 - (1 : Int))), ()), ((p2, y1.2.1.1, y1.2.1.2.1, ()), (p5 ++ ([(IntKind.u8.wrap (Int.tmod y1.1.1.1 (2 : Int)))] : List (Int))), ()))))
 .fail)))
 (.ite ((p0 == (2 : Int)))
 (.ite ((4 : Int) == 0)
 .fail
 (.ite (decide (List.length p5 + List.length ([(IntKind.u8.wrap (IntKind.i64.wrap ((97 : Int) + (Int.tmod y1.1.1.1 (4 : Int)))))] : List (Int)) ≤ LIM))
 (.ret (.again ((p0, (IntKind.i64.wrap (p1 - (1 : Int))), ()), ((p2, y1.2.1.1, y1.2.1.2.1, ()), (p5 ++ ([(IntKind.u8.wrap (IntKind.i64.wrap ((97 : Int) + (Int.tmod y1.1.1.1 (4 : Int)))))] : List (Int))), ()))))
 .fail))
 (.ite (decide (List.length p5 + List.length ([(IntKind.u8.wrap y1.1.1.1)] : List (Int)) ≤ LIM))
 (.ret (.again ((p0, (IntKind.i64.wrap (p1 - (1 : Int))), ()), ((p2, y1.2.1.1, y1.2.1.2.1, ()), (p5 ++ ([(IntKind.u8.wrap y1.1.1.1)] : List (Int))), ()))))
 .fail)))
 (.ret (.out ((), (p5, (p2, p3, p4, ()), ()))))
def f54_tree (a0 : List Int) (a1 : Int) (a2 : Int) (a3 : Int) : Out (((List UInt8 × Unit) × Unit) × ((Int × Int × Unit) × Unit × Unit)) :=
 .get (k26_V a0 a1 a2 (4 : Int)) fun y1 =>
 .get (k26_V a0 y1.2.1.1 y1.2.1.2.1 (IntKind.i64.wrap (a3 + (1 : Int)))) fun y2 =>
 .get (iter1 f54_L0 FUEL ((y1.1.1.1, y2.1.1.1, ()), ((a0, y2.2.1.1, y2.2.1.2.1, ()), ([] : List (Int)), ()))) fun y3 =>
 .ret ((((List.map (fun n : Int => UInt8.ofNat n.toNat) y3.2.1), ()), ()), ((y3.2.2.1.2.1, y3.2.2.1.2.2.1, ()), (), ()))
def f54_A : Nat → Option LoopAnn := fun n => annOf [(0, { head := { t := [.vptr 0 0] ++ dd 4 ++ [.srf 64000000, .i .i64, .i .i64] ++ dd 30, v := [(0, .var [.ro (.int .u8) (some 1), .i .i64, .i .i64]), (64000000, .arr (.int .u8))] }, out := { t := [.vptr 0 0] ++ dd 4 ++ [.srf 64000256] ++ dd 32, v := [(64000256, .arr (.int .u8)), (0, .var [.ro (.int .u8) (some 1), .i .i64, .i .i64])] }, ret := none })] n
def k54_V (a0 : List Int) (a1 : Int) (a2 : Int) (a3 : Int) : Option (((List UInt8 × Unit) × Unit) × ((Int × Int × Unit) × Unit × Unit)) := (f54_tree a0 a1 a2 a3).eval
def k54 : Con := { f := 54, lend := true, its := [⟨true, false, [.ro (.int .u8), .i .i64, .i .i64]⟩, ⟨false, false, [.i .i64]⟩], lay := [none, none], rs := [⟨false, false, [.s]⟩], F := fun x => .get (k54_V x.1.1 x.1.2.1 x.1.2.2.1 x.2.1.1) fun y => .ret y }
theorem f54_eq (x : itemsD k54.its) : bo [k26, k50] f54_A Tryz.f54 k54 [.tmp 4] x = f54_tree x.1.1 x.1.2.1 x.1.2.2.1 x.2.1.1 := by kernel_rfl
theorem f54_ok (hr : ∀ x : (List Int × Int × Int × Unit) × (Int × Unit) × Unit, itemsWF k54.its x → (f54_tree x.1.1 x.1.2.1 x.1.2.2.1 x.2.1.1).eval = (k54.F x).eval) : k54.Ok Tryz.prog := con_fn [k26, k50] ⟨k26_ok, k50_ok, trivial⟩ f54_eq fun x hw _ hy => (hr x hw).trans hy
theorem k54_ok : k54.Ok Tryz.prog := f54_ok fun x _ => (eval_get_ret _).symm
theorem text_tot {b : List Int} {i h : Int} {n : Nat} (hb : b.length ≤ BIG) (hi : 0 ≤ i) (hn : n ≤ 1000000) : TotV (k54_V b i h ((n : Nat) : Int)) fun y => y.1.1.1.length ≤ n ∧ 0 ≤ y.2.1.1 := by
  unfold k54_V f54_tree
  have w : IntKind.i64.wrap (((n : Nat) : Int) + 1) = ((n : Nat) : Int) + 1 := wrap_id (by omega) (by omega)
  refine tot_get (below_tot hb hi) fun y hy => tot_get (below_tot hb hy.2) fun z hz => tot_get (P := fun x => x.2.1.length ≤ n ∧ 0 ≤ x.2.2.1.2.1)
    (tot_iter1 (fun x => x.2.1.1 = b ∧ 0 ≤ x.1.2.1 ∧ 0 ≤ x.2.1.2.1 ∧ (x.2.2.1.length : Int) + x.1.2.1 ≤ n) (fun x => x.1.2.1.toNat) _ (fun x hx => ?_) _ _ ?_ ?_) fun x hx => tot_ret (by simpa using hx)
  · obtain ⟨⟨st, k, _⟩, ⟨b', i, h, _⟩, out, _⟩ := x
    obtain ⟨e1, h1, h2, h3⟩ := hx
    simp only at e1 h1 h2 h3
    subst e1
    unfold f54_L0
    refine tot_ite (fun h4 => ?_) (fun h4 => tot_ret ?_)
    · have h4 := of_decide_eq_true h4
      (try simp only at h4)
      have w : IntKind.i64.wrap (k - 1) = k - 1 := wrap_id (by omega) (by omega)
      have hlim : ∀ v : Int, decide (out.length + [v].length ≤ LIM) = true := fun v => decide_eq_true (by rw [LIM_eq]; simp; omega)
      refine tot_get (byte_tot hb h2) fun u hu => ?_
      refine tot_ite (fun _ => tot_f rfl (tot_ite (fun _ => tot_f rfl (tot_t (hlim _) (tot_ret ?_))) fun _ => tot_t (hlim _) (tot_ret ?_))) fun _ => tot_ite (fun _ => tot_f rfl (tot_t (hlim _) (tot_ret ?_))) fun _ => tot_t (hlim _) (tot_ret ?_) <;>
        exact ⟨⟨rfl, by simp only [w]; omega, hu.2, by simp only [w]; simp; omega⟩, by simp only [w]; omega⟩
    · exact ⟨by simp only at *; omega, h2⟩
  · have := hz.1.2.1 (by rw [w]; omega)
    rw [w] at this
    exact ⟨rfl, hz.1.1, hz.2, by simp; omega⟩
  · have := hz.1.2.1 (by rw [w]; omega)
    rw [w] at this
    exact Nat.lt_of_le_of_lt (show z.1.1.1.toNat ≤ 1000000 by omega) (by decide)
def f4_tree (a0 : List Int) : Out (((Bool × Unit) × Unit) × (Unit × Unit)) :=
 .ret ((((decide (((List.length a0 : Nat) : Int) > (1048576 : Int))), ()), ()), ((), ()))
def bigV (c : List Int) : Bool := decide (((c.length : Nat) : Int) > 1048576)
def k4 : Con := { f := 4, lend := true, its := [⟨false, false, [.ro (.int .u8)]⟩], lay := [none], rs := [⟨false, false, [.b]⟩], F := fun x => .ret ((((bigV x.1.1), ()), ()), ((), ())) }
theorem f4_eq (x : itemsD k4.its) : bo [] (fun _ => none) Tryz.f4 k4 [.tmp 2] x = f4_tree x.1.1 := by kernel_rfl
theorem f4_ok (hr : ∀ x : (List Int × Unit) × Unit, itemsWF k4.its x → (f4_tree x.1.1).eval = (k4.F x).eval) : k4.Ok Tryz.prog := con_fn [] trivial f4_eq fun x hw _ hy => (hr x hw).trans hy
theorem k4_ok : k4.Ok Tryz.prog := f4_ok fun _ _ => rfl
end Go.Proofs.YtnglkhjpdpgahaaGreatDoor.Dm
