/- Functions of the program, and what they compute. -/
import Derived.Test.YtnnpnkegpkladaaGreatA6
namespace Go.Proofs.YtnnpnkegpkladaaGreat.Dm
open Go Go.ChangeShapes Go.WideShapes Go.ChangeAt Go.RowKit
theorem eval_get_ret {ρ : Type} (o : Option ρ) : (Out.get o fun y => .ret y).eval = o := by cases o <;> rfl
def TotV {ρ : Type} (o : Option ρ) (Q : ρ → Prop) : Prop := ∃ y, o = some y ∧ Q y
theorem tot_ret {ρ : Type} {r : ρ} {Q : ρ → Prop} (h : Q r) : TotV (Out.ret r).eval Q := ⟨r, rfl, h⟩
theorem tot_ite {ρ : Type} {c : Bool} {a b : Out ρ} {Q : ρ → Prop} (ha : c = true → TotV a.eval Q) (hb : c = false → TotV b.eval Q) : TotV (Out.ite c a b).eval Q := by
  cases c
  · exact hb rfl
  · exact ha rfl
theorem tot_t {ρ : Type} {c : Bool} {a b : Out ρ} {Q : ρ → Prop} (hc : c = true) (ha : TotV a.eval Q) : TotV (Out.ite c a b).eval Q := by subst hc; exact ha
theorem tot_f {ρ : Type} {c : Bool} {a b : Out ρ} {Q : ρ → Prop} (hc : c = false) (hb : TotV b.eval Q) : TotV (Out.ite c a b).eval Q := by subst hc; exact hb
theorem tot_get {ρ α : Type} {o : Option α} {k : α → Out ρ} {P : α → Prop} {Q : ρ → Prop} (h : TotV o P) (hk : ∀ y, P y → TotV (k y).eval Q) : TotV (Out.get o k).eval Q := by
  obtain ⟨y, rfl, p⟩ := h; exact hk y p
def RoundP {α β γ : Type} (I : α → Prop) (O : β → Prop) (R : γ → Prop) : Round α β γ → Prop
  | .again x => I x
  | .out y => O y
  | .ret z => R z
theorem tot_iter1 {α β : Type} {f : α → Out (Round α β Empty)} (I : α → Prop) (m : α → Nat) (O : β → Prop) (h : ∀ x, I x → TotV (f x).eval (RoundP (fun x' => I x' ∧ m x' < m x) O fun _ => False)) :
    ∀ (n : Nat) (x : α), I x → m x < n → TotV (iter1 f n x) O
  | 0, x, _, hn => absurd hn (Nat.not_lt_zero _)
  | n + 1, x, hx, hn => by
    obtain ⟨r, e, hr⟩ := h x hx
    cases r with
    | again x' => rw [iter1_again e]; exact tot_iter1 I m O h n x' hr.1 (by have := hr.2; omega)
    | out y => exact ⟨y, iter1_out' e (by omega), hr⟩
    | ret z => exact z.elim
theorem and_bounds (z : Int) {b : Nat} (hb : b ≤ BIG) : 0 ≤ IntKind.i64.wrap (((BitVec.ofInt (IntKind.bits .i64) z &&& BitVec.ofInt (IntKind.bits .i64) ((b : Nat) : Int)).toNat : Nat) : Int) ∧ IntKind.i64.wrap (((BitVec.ofInt (IntKind.bits .i64) z &&& BitVec.ofInt (IntKind.bits .i64) ((b : Nat) : Int)).toNat : Nat) : Int) ≤ b := by
  have h : (BitVec.ofInt 64 z &&& BitVec.ofInt 64 ((b : Nat) : Int)).toNat ≤ b := by
    rw [BitVec.toNat_and, ofInt_nat, BitVec.toNat_ofNat, Nat.mod_eq_of_lt (Nat.lt_of_le_of_lt hb (by decide))]
    exact Nat.and_le_right
  have e : IntKind.i64.wrap (((BitVec.ofInt (IntKind.bits .i64) z &&& BitVec.ofInt (IntKind.bits .i64) ((b : Nat) : Int)).toNat : Nat) : Int) = _ := wrap_nat (Nat.le_trans h hb)
  rw [e]
  have h : (BitVec.ofInt (IntKind.bits .i64) z &&& BitVec.ofInt (IntKind.bits .i64) ((b : Nat) : Int)).toNat ≤ b := h
  omega
abbrev f21_S0 := (List (Int) × Int × Int × Unit) × (Unit)
def f21_L0 : f21_S0 → Out (Round f21_S0 ((List (Int) × Int × Unit) × (Unit)) Empty)
| ((p0, p1, p2, _), _) =>
 .ite ((decide (p2 < ((List.length p0 : Nat) : Int))) == true)
 (.ite (decide (p2 < (4000 : Int)))
 (.ite (decide (0 ≤ p2))
 (.get (nth p0 (Int.toNat p2)) fun y1 =>
 .ret (.again ((p0, (IntKind.i64.wrap (((BitVec.ofInt (IntKind.bits IntKind.i64) (IntKind.i64.wrap ((IntKind.i64.wrap ((IntKind.i64.wrap (p1 * (131 : Int))) + (IntKind.i64.wrap y1))) + (7 : Int))) &&& BitVec.ofInt (IntKind.bits IntKind.i64) (1073741823 : Int)).toNat : Int))), (IntKind.i64.wrap (p2 + (1 : Int))), ()), ())))
 .fail)
 (.ret (.out ((p0, p1, ()), ()))))
 (.ret (.out ((p0, p1, ()), ())))
def f21_tree (a0 : List Int) : Out ((XE × Unit) × (Unit × Unit)) :=
 .get (iter1 f21_L0 FUEL ((a0, (IntKind.i64.wrap ((10101 : Int) + ((List.length a0 : Nat) : Int))), (0 : Int), ()), ())) fun y1 =>
 .ret (((y1.1.1, (0 : Int), y1.1.2.1, ()), ()), ((), ()))
def f21_A : Nat → Option LoopAnn := fun n => annOf [(0, ⟨⟨[.ro (.int .u8) (some 0), .dead, .dead, .i .i64, .i .i64] ++ dd 27, []⟩, ⟨[.ro (.int .u8) (some 0), .dead, .dead, .i .i64] ++ dd 28, []⟩, none, false⟩)] n
def k21_V := fun a0 => (f21_tree a0).eval
def k21 : Con := { f := 21, lend := false, its := [⟨false, false, [.ro (.int .u8)]⟩], lay := [none], rs := [⟨true, false, [.ro (.int .u8), .i .i64, .i .i64]⟩], F := fun x => .get (k21_V x.1.1) fun y => .ret y }
theorem f21_eq (x : itemsD k21.its) : bo [] f21_A Tryz.f21 k21 [.tmp 2] x = f21_tree x.1.1 := by kernel_rfl
theorem k21_ok : k21.Ok Tryz.prog := con_fn [] trivial f21_eq fun _ _ _ hy => (eval_get_ret _).symm.trans hy
theorem newCur_tot {b : List Int} (hb : b.length ≤ BIG) : TotV (k21_V b) fun y => y.1.1.1 = b ∧ y.1.1.2.1 = 0 := by
  unfold k21_V f21_tree
  refine tot_get (P := fun y => y.1.1 = b) (tot_iter1 (fun x => x.1.1 = b ∧ 0 ≤ x.1.2.2.1 ∧ x.1.2.2.1 ≤ (b.length : Int)) (fun x => (b.length - x.1.2.2.1.toNat)) _ (fun x hx => ?_) _ _ ⟨rfl, by simp, by simp⟩ (by simp; exact lt_fuel hb)) fun y hy => tot_ret ⟨hy, rfl⟩
  obtain ⟨⟨l, h, i, _⟩, _⟩ := x
  obtain ⟨e1, h1, h2⟩ := hx
  simp only at e1 h1 h2
  subst e1
  unfold f21_L0
  refine tot_ite (fun h3 => ?_) (fun _ => tot_ret rfl)
  have h3 : i < (l.length : Int) := of_decide_eq_true (by simpa using h3)
  refine tot_ite (fun _ => ?_) (fun _ => tot_ret rfl)
  refine tot_t (decide_eq_true h1) (tot_get (P := fun _ => True) ⟨_, List.getElem?_eq_getElem (show i.toNat < l.length by omega), trivial⟩ fun y _ => tot_ret ?_)
  have w : IntKind.i64.wrap (i + 1) = i + 1 := wrap_id (by omega) (by unfold BIG at hb; omega)
  exact ⟨⟨rfl, by simp only [w]; omega, by simp only [w]; omega⟩, by simp only [w]; omega⟩
def f55_tree (a0 : List Int) (a1 : Int) (a2 : Int) : Out (((Int × Unit) × Unit) × ((Int × Int × Unit) × Unit)) :=
 .ite (decide ((33 : Int) < 0))
 .fail
 (.ite (decide ((45 : Int) < 0))
 .fail
 (.ite (decide (a1 < ((List.length a0 : Nat) : Int)))
 (.ite (decide (0 ≤ a1))
 (.get (nth a0 (Int.toNat a1)) fun y1 =>
 .ret ((((IntKind.i64.wrap (((BitVec.ofInt (IntKind.bits IntKind.i64) (IntKind.i64.wrap ((IntKind.i64.wrap (((BitVec.ofInt (IntKind.bits IntKind.i64) (IntKind.i64.wrap (((BitVec.ofInt (IntKind.bits IntKind.i64) (Int.fdiv (IntKind.i64.wrap ((IntKind.i64.wrap (a2 * (6364136223846793005 : Int))) + (1442695040888963407 : Int))) (2 ^ (min (Int.toNat (33 : Int)) (IntKind.bits IntKind.i64)))) ^^^ BitVec.ofInt (IntKind.bits IntKind.i64) (Int.fdiv (IntKind.i64.wrap ((IntKind.i64.wrap (a2 * (6364136223846793005 : Int))) + (1442695040888963407 : Int))) (2 ^ (min (Int.toNat (45 : Int)) (IntKind.bits IntKind.i64))))).toNat : Int))) &&& BitVec.ofInt (IntKind.bits IntKind.i64) (255 : Int)).toNat : Int))) + (IntKind.i64.wrap y1))) &&& BitVec.ofInt (IntKind.bits IntKind.i64) (255 : Int)).toNat : Int))), ()), ()), (((IntKind.i64.wrap (a1 + (1 : Int))), (IntKind.i64.wrap ((IntKind.i64.wrap (a2 * (6364136223846793005 : Int))) + (1442695040888963407 : Int))), ()), ())))
 .fail)
 (.ret ((((IntKind.i64.wrap (((BitVec.ofInt (IntKind.bits IntKind.i64) (IntKind.i64.wrap (((BitVec.ofInt (IntKind.bits IntKind.i64) (Int.fdiv (IntKind.i64.wrap ((IntKind.i64.wrap (a2 * (6364136223846793005 : Int))) + (1442695040888963407 : Int))) (2 ^ (min (Int.toNat (33 : Int)) (IntKind.bits IntKind.i64)))) ^^^ BitVec.ofInt (IntKind.bits IntKind.i64) (Int.fdiv (IntKind.i64.wrap ((IntKind.i64.wrap (a2 * (6364136223846793005 : Int))) + (1442695040888963407 : Int))) (2 ^ (min (Int.toNat (45 : Int)) (IntKind.bits IntKind.i64))))).toNat : Int))) &&& BitVec.ofInt (IntKind.bits IntKind.i64) (255 : Int)).toNat : Int))), ()), ()), ((a1, (IntKind.i64.wrap ((IntKind.i64.wrap (a2 * (6364136223846793005 : Int))) + (1442695040888963407 : Int))), ()), ())))))
def k55_V := fun a0 a1 a2 => (f55_tree a0 a1 a2).eval
def k55 : Con := { f := 55, lend := true, its := [⟨true, false, [.ro (.int .u8), .i .i64, .i .i64]⟩], lay := [none], rs := [⟨false, false, [.i .i64]⟩], F := fun x => .get (k55_V x.1.1 x.1.2.1 x.1.2.2.1) fun y => .ret y }
theorem f55_eq (x : itemsD k55.its) : bo [] (fun _ => none) Tryz.f55 k55 [.tmp 2] x = f55_tree x.1.1 x.1.2.1 x.1.2.2.1 := by kernel_rfl
theorem k55_ok : k55.Ok Tryz.prog := con_fn [] trivial f55_eq fun _ _ _ hy => (eval_get_ret _).symm.trans hy
theorem byte_tot {b : List Int} {i h : Int} (hb : b.length ≤ BIG) (hi : 0 ≤ i) : TotV (k55_V b i h) fun y => (0 ≤ y.1.1.1 ∧ y.1.1.1 ≤ 255) ∧ 0 ≤ y.2.1.1 := by
  unfold k55_V f55_tree
  refine tot_f rfl (tot_f rfl (tot_ite (fun h1 => ?_) fun _ => tot_ret ?_))
  · have h1 : i < (b.length : Int) := of_decide_eq_true h1
    refine tot_t (decide_eq_true hi) (tot_get (P := fun _ => True) ⟨_, List.getElem?_eq_getElem (show i.toNat < b.length by omega), trivial⟩ fun y _ => tot_ret ?_)
    refine ⟨and_bounds _ (b := 255) (by decide), ?_⟩
    · show 0 ≤ IntKind.i64.wrap (i + 1)
      rw [wrap_id (by omega) (by unfold BIG at hb; omega)]; omega
  · exact ⟨and_bounds _ (b := 255) (by decide), hi⟩
def f23_tree (a0 : List Int) (a1 : Int) (a2 : Int) (a3 : Int) : Out (((Int × Unit) × Unit) × ((Int × Int × Unit) × Unit × Unit)) :=
 .ite (decide (a3 ≤ (0 : Int)))
 (.ret ((((0 : Int), ()), ()), ((a1, a2, ()), (), ())))
 (.ite (decide (a3 ≤ (256 : Int)))
 (.get (k55_V a0 a1 a2) fun y1 =>
 .ite (a3 == 0)
 .fail
 (.ret ((((Int.tmod y1.1.1.1 a3), ()), ()), ((y1.2.1.1, y1.2.1.2.1, ()), (), ()))))
 (.get (k55_V a0 a1 a2) fun y2 =>
 .get (k55_V a0 y2.2.1.1 y2.2.1.2.1) fun y3 =>
 .get (k55_V a0 y3.2.1.1 y3.2.1.2.1) fun y4 =>
 .get (k55_V a0 y4.2.1.1 y4.2.1.2.1) fun y5 =>
 .ite (a3 == 0)
 .fail
 (.ret ((((Int.tmod (IntKind.i64.wrap ((IntKind.i64.wrap ((IntKind.i64.wrap ((IntKind.i64.wrap (y2.1.1.1 * (16777216 : Int))) + (IntKind.i64.wrap (y3.1.1.1 * (65536 : Int))))) + (IntKind.i64.wrap (y4.1.1.1 * (256 : Int))))) + y5.1.1.1)) a3), ()), ()), ((y5.2.1.1, y5.2.1.2.1, ()), (), ())))))
def k23_V := fun a0 a1 a2 a3 => (f23_tree a0 a1 a2 a3).eval
def k23 : Con := { f := 23, lend := true, its := [⟨true, false, [.ro (.int .u8), .i .i64, .i .i64]⟩, ⟨false, false, [.i .i64]⟩], lay := [none, none], rs := [⟨false, false, [.i .i64]⟩], F := fun x => .get (k23_V x.1.1 x.1.2.1 x.1.2.2.1 x.2.1.1) fun y => .ret y }
theorem f23_eq (x : itemsD k23.its) : bo [k55] (fun _ => none) Tryz.f23 k23 [.tmp 4] x = f23_tree x.1.1 x.1.2.1 x.1.2.2.1 x.2.1.1 := by kernel_rfl
theorem k23_ok : k23.Ok Tryz.prog := con_fn [k55] ⟨k55_ok, trivial⟩ f23_eq fun _ _ _ hy => (eval_get_ret _).symm.trans hy
theorem tmod_bounds {x n : Int} (hx : 0 ≤ x) (hn : 0 < n) : 0 ≤ Int.tmod x n ∧ Int.tmod x n < n := ⟨Int.tmod_nonneg _ hx, Int.tmod_lt_of_pos _ hn⟩
theorem below_tot {b : List Int} {i h n : Int} (hb : b.length ≤ BIG) (hi : 0 ≤ i) : TotV (k23_V b i h n) fun y => (0 ≤ y.1.1.1 ∧ (0 < n → y.1.1.1 < n) ∧ (n ≤ 0 → y.1.1.1 = 0)) ∧ 0 ≤ y.2.1.1 := by
  unfold k23_V f23_tree
  refine tot_ite (fun h1 => tot_ret ?_) fun h1 => ?_
  · have := of_decide_eq_true h1
    exact ⟨⟨Int.le_refl _, fun h => by omega, fun _ => rfl⟩, hi⟩
  have h1 := of_decide_eq_false h1
  have hz : (n == 0) = false := by simp; omega
  refine tot_ite (fun h2 => tot_get (byte_tot hb hi) fun y hy => tot_f hz (tot_ret ?_)) fun h2 => ?_
  · have := tmod_bounds hy.1.1 (show 0 < n by omega)
    exact ⟨⟨this.1, fun _ => this.2, fun h => by omega⟩, hy.2⟩
  · refine tot_get (byte_tot hb hi) fun y hy => tot_get (byte_tot hb hy.2) fun z hz' => tot_get (byte_tot hb hz'.2) fun u hu => tot_get (byte_tot hb hu.2) fun v hv => tot_f hz (tot_ret ?_)
    have e1 := hy.1; have e2 := hz'.1; have e3 := hu.1; have e4 := hv.1
    have w1 : IntKind.i64.wrap (y.1.1.1 * 16777216) = y.1.1.1 * 16777216 := wrap_id (by omega) (by omega)
    have w2 : IntKind.i64.wrap (z.1.1.1 * 65536) = z.1.1.1 * 65536 := wrap_id (by omega) (by omega)
    have w3 : IntKind.i64.wrap (u.1.1.1 * 256) = u.1.1.1 * 256 := wrap_id (by omega) (by omega)
    have w4 : IntKind.i64.wrap (y.1.1.1 * 16777216 + z.1.1.1 * 65536) = y.1.1.1 * 16777216 + z.1.1.1 * 65536 := wrap_id (by omega) (by omega)
    have w5 : IntKind.i64.wrap (y.1.1.1 * 16777216 + z.1.1.1 * 65536 + u.1.1.1 * 256) = y.1.1.1 * 16777216 + z.1.1.1 * 65536 + u.1.1.1 * 256 := wrap_id (by omega) (by omega)
    have w6 : IntKind.i64.wrap (y.1.1.1 * 16777216 + z.1.1.1 * 65536 + u.1.1.1 * 256 + v.1.1.1) = y.1.1.1 * 16777216 + z.1.1.1 * 65536 + u.1.1.1 * 256 + v.1.1.1 := wrap_id (by omega) (by omega)
    have := tmod_bounds (show 0 ≤ y.1.1.1 * 16777216 + z.1.1.1 * 65536 + u.1.1.1 * 256 + v.1.1.1 by omega) (show 0 < n by omega)
    simp only [w1, w2, w3, w4, w5, w6]
    exact ⟨⟨this.1, fun _ => this.2, fun h => by omega⟩, hv.2⟩
def f57_tree (a0 : List Int) (a1 : Int) (a2 : Int) (a3 : Int) : Out (((Bool × Unit) × Unit) × ((Int × Int × Unit) × Unit × Unit)) :=
 .get (k23_V a0 a1 a2 a3) fun y1 =>
 .ret (((((y1.1.1.1 == (0 : Int))), ()), ()), ((y1.2.1.1, y1.2.1.2.1, ()), (), ()))
def k57_V := fun a0 a1 a2 a3 => (f57_tree a0 a1 a2 a3).eval
def k57 : Con := { f := 57, lend := true, its := [⟨true, false, [.ro (.int .u8), .i .i64, .i .i64]⟩, ⟨false, false, [.i .i64]⟩], lay := [none, none], rs := [⟨false, false, [.b]⟩], F := fun x => .get (k57_V x.1.1 x.1.2.1 x.1.2.2.1 x.2.1.1) fun y => .ret y }
theorem f57_eq (x : itemsD k57.its) : bo [k23] (fun _ => none) Tryz.f57 k57 [.tmp 4] x = f57_tree x.1.1 x.1.2.1 x.1.2.2.1 x.2.1.1 := by kernel_rfl
theorem k57_ok : k57.Ok Tryz.prog := con_fn [k23] ⟨k23_ok, trivial⟩ f57_eq fun _ _ _ hy => (eval_get_ret _).symm.trans hy
theorem once_tot {b : List Int} {i h n : Int} (hb : b.length ≤ BIG) (hi : 0 ≤ i) : TotV (k57_V b i h n) fun y => 0 ≤ y.2.1.1 := by
  unfold k57_V f57_tree
  exact tot_get (below_tot hb hi) fun y hy => tot_ret hy.2
def f58_tree (a0 : List Int) (a1 : Int) (a2 : Int) (a3 : List Int) : Out (((Int × Unit) × Unit) × ((Int × Int × Unit) × Unit × Unit)) :=
 .get (k23_V a0 a1 a2 ((List.length a3 : Nat) : Int)) fun y1 =>
 .ite (decide (0 ≤ y1.1.1.1))
 (.get (nth a3 (Int.toNat y1.1.1.1)) fun y2 =>
 .ret (((y2, ()), ()), ((y1.2.1.1, y1.2.1.2.1, ()), (), ())))
 .fail
def k58_V := fun a0 a1 a2 a3 => (f58_tree a0 a1 a2 a3).eval
def k58 : Con := { f := 58, lend := true, its := [⟨true, false, [.ro (.int .u8), .i .i64, .i .i64]⟩, ⟨false, false, [.ro (.int .i64)]⟩], lay := [none, none], rs := [⟨false, false, [.i .i64]⟩], F := fun x => .get (k58_V x.1.1 x.1.2.1 x.1.2.2.1 x.2.1.1) fun y => .ret y }
theorem f58_eq (x : itemsD k58.its) : bo [k23] (fun _ => none) Tryz.f58 k58 [.tmp 4] x = f58_tree x.1.1 x.1.2.1 x.1.2.2.1 x.2.1.1 := by kernel_rfl
theorem k58_ok : k58.Ok Tryz.prog := con_fn [k23] ⟨k23_ok, trivial⟩ f58_eq fun _ _ _ hy => (eval_get_ret _).symm.trans hy
theorem pick_tot {b : List Int} {i h : Int} {l : List Int} (hb : b.length ≤ BIG) (hi : 0 ≤ i) (hl : 0 < l.length) : TotV (k58_V b i h l) fun y => y.1.1.1 ∈ l ∧ 0 ≤ y.2.1.1 := by
  unfold k58_V f58_tree
  refine tot_get (below_tot hb hi) fun y hy => ?_
  have h1 := hy.1.1
  have h2 := hy.1.2.1 (by omega)
  refine tot_t (decide_eq_true h1) (tot_get (P := fun x => x ∈ l) ⟨_, List.getElem?_eq_getElem (show y.1.1.1.toNat < l.length by omega), List.getElem_mem _⟩ fun x hx => tot_ret ⟨hx, hy.2⟩)
def f5_tree (a0 : List Int) : Out (((Bool × Unit) × Unit) × (Unit × Unit)) :=
 .ret ((((decide (((List.length a0 : Nat) : Int) > (1048576 : Int))), ()), ()), ((), ()))
def bigV (c : List Int) : Bool := decide (((c.length : Nat) : Int) > 1048576)
def k5 : Con := { f := 5, lend := true, its := [⟨false, false, [.ro (.int .u8)]⟩], lay := [none], rs := [⟨false, false, [.b]⟩], F := fun x => .ret ((((bigV x.1.1), ()), ()), ((), ())) }
theorem f5_eq (x : itemsD k5.its) : bo [] (fun _ => none) Tryz.f5 k5 [.tmp 2] x = f5_tree x.1.1 := by kernel_rfl
theorem f5_ok (hr : ∀ x : (List Int × Unit) × Unit, itemsWF k5.its x → (f5_tree x.1.1).eval = (k5.F x).eval) : k5.Ok Tryz.prog := con_fn [] trivial f5_eq fun x hw _ hy => (hr x hw).trans hy
theorem k5_ok : k5.Ok Tryz.prog := f5_ok fun _ _ => rfl
end Go.Proofs.YtnnpnkegpkladaaGreat.Dm
