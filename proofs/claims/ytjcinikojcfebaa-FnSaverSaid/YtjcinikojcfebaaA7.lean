/- Functions of the program, and what they compute. -/
import Derived.Test.YtjcinikojcfebaaA6
namespace Go.Proofs.Ytjcinikojcfebaa.Dm
open Go Go.ChangeShapes Go.WideShapes Go.ChangeAt Go.RowKit

/-! ## What is drawn: that there is something -/
theorem eval_get_ret {ρ : Type} (o : Option ρ) : (Out.get o fun y => .ret y).eval = o := by cases o <;> rfl
def TotV {ρ : Type} (o : Option ρ) (Q : ρ → Prop) : Prop := ∃ y, o = some y ∧ Q y
theorem TotV.mono {ρ : Type} {o : Option ρ} {Q Q' : ρ → Prop} (h : TotV o Q) (hq : ∀ y, Q y → Q' y) : TotV o Q' := by
  obtain ⟨y, e, q⟩ := h; exact ⟨y, e, hq y q⟩
theorem tot_ret {ρ : Type} {r : ρ} {Q : ρ → Prop} (h : Q r) : TotV (Out.ret r).eval Q := ⟨r, rfl, h⟩
theorem tot_ite {ρ : Type} {c : Bool} {a b : Out ρ} {Q : ρ → Prop} (ha : c = true → TotV a.eval Q) (hb : c = false → TotV b.eval Q) : TotV (Out.ite c a b).eval Q := by
  cases c
  · exact hb rfl
  · exact ha rfl
theorem tot_t {ρ : Type} {c : Bool} {a b : Out ρ} {Q : ρ → Prop} (hc : c = true) (ha : TotV a.eval Q) : TotV (Out.ite c a b).eval Q := by subst hc; exact ha
theorem tot_f {ρ : Type} {c : Bool} {a b : Out ρ} {Q : ρ → Prop} (hc : c = false) (hb : TotV b.eval Q) : TotV (Out.ite c a b).eval Q := by subst hc; exact hb
theorem tot_get {ρ α : Type} {o : Option α} {k : α → Out ρ} {P : α → Prop} {Q : ρ → Prop} (h : TotV o P) (hk : ∀ y, P y → TotV (k y).eval Q) : TotV (Out.get o k).eval Q := by
  obtain ⟨y, rfl, p⟩ := h; exact hk y p
theorem tot_alt_l {ρ α β : Type} {k : α → Out ρ} {h : β → Out ρ} {x : α} {Q : ρ → Prop} (hk : TotV (k x).eval Q) : TotV (Out.alt (.inl x) k h).eval Q := hk
/-- A round of a loop that goes on, or out. -/
def RoundP {α β γ : Type} (I : α → Prop) (O : β → Prop) (R : γ → Prop) : Round α β γ → Prop
  | .again x => I x
  | .out y => O y
  | .ret z => R z
theorem tot_iter1 {α β : Type} {f : α → Out (Round α β Empty)} (I : α → Prop) (m : α → Nat) (O : β → Prop) (h : ∀ x, I x → TotV (f x).eval (RoundP (fun x' => I x' ∧ m x' < m x) O fun _ => False)) :
    ∀ (n : Nat) (x : α), I x → m x < n → TotV (iter1 f n x) O
  | 0, x, _, hn => absurd hn (Nat.not_lt_zero _)
  | n + 1, x, hx, hn => by
    obtain ⟨r, e, hr⟩ := h x hx
    cases r with
    | again x' => rw [iter1_again e]; exact tot_iter1 I m O h n x' hr.1 (by have := hr.2; omega)
    | out y => exact ⟨y, iter1_out' e (by omega), hr⟩
    | ret z => exact z.elim
theorem and_bounds (z : Int) {b : Nat} (hb : b ≤ BIG) : 0 ≤ IntKind.i64.wrap (((BitVec.ofInt (IntKind.bits .i64) z &&& BitVec.ofInt (IntKind.bits .i64) ((b : Nat) : Int)).toNat : Nat) : Int) ∧ IntKind.i64.wrap (((BitVec.ofInt (IntKind.bits .i64) z &&& BitVec.ofInt (IntKind.bits .i64) ((b : Nat) : Int)).toNat : Nat) : Int) ≤ b := by
  have h : (BitVec.ofInt 64 z &&& BitVec.ofInt 64 ((b : Nat) : Int)).toNat ≤ b := by
    rw [BitVec.toNat_and, ofInt_nat, BitVec.toNat_ofNat, Nat.mod_eq_of_lt (Nat.lt_of_le_of_lt hb (by decide))]
    exact Nat.and_le_right
  have e : IntKind.i64.wrap (((BitVec.ofInt (IntKind.bits .i64) z &&& BitVec.ofInt (IntKind.bits .i64) ((b : Nat) : Int)).toNat : Nat) : Int) = _ := wrap_nat (Nat.le_trans h hb)
  rw [e]
  have h : (BitVec.ofInt (IntKind.bits .i64) z &&& BitVec.ofInt (IntKind.bits .i64) ((b : Nat) : Int)).toNat ≤ b := h
  omega
/-! ### the cursor -/
abbrev f138_S0 := (List (Int) × Int × Int × Unit) × (Unit)
def f138_L0 (x : f138_S0) : Out (Round f138_S0 ((List (Int) × Int × Unit) × (Unit)) Empty) :=
 .ite ((decide (x.1.2.2.1 < ((List.length x.1.1 : Nat) : Int))) == true)
 (.ite (decide (x.1.2.2.1 < (4000 : Int)))
 (.ite (decide (0 ≤ x.1.2.2.1))
 (.get (nth x.1.1 (Int.toNat x.1.2.2.1)) fun y1 =>
 .ret (.again ((x.1.1, (IntKind.i64.wrap (((BitVec.ofInt (IntKind.bits IntKind.i64) (IntKind.i64.wrap ((IntKind.i64.wrap ((IntKind.i64.wrap (x.1.2.1 * (131 : Int))) + (IntKind.i64.wrap y1))) + (7 : Int))) &&& BitVec.ofInt (IntKind.bits IntKind.i64) (1073741823 : Int)).toNat : Int))), (IntKind.i64.wrap (x.1.2.2.1 + (1 : Int))), ()), ())))
 .fail)
 (.ret (.out ((x.1.1, x.1.2.1, ()), ()))))
 (.ret (.out ((x.1.1, x.1.2.1, ()), ())))
def f138_tree (a0 : List Int) : Out (((List Int × Int × Int × Unit) × Unit) × (Unit × Unit)) :=
 .get (iter1 f138_L0 FUEL ((a0, (IntKind.i64.wrap ((10101 : Int) + ((List.length a0 : Nat) : Int))), (0 : Int), ()), ())) fun y1 =>
 .ret (((y1.1.1, (0 : Int), y1.1.2.1, ()), ()), ((), ()))
def f138_A : Nat → Option LoopAnn := fun n => annOf [(0, { head := { t := [.ro (.int .u8) (some 0), .dead, .dead, .i .i64, .i .i64, .dead, .dead, .dead, .dead, .dead, .dead, .dead, .dead, .dead, .dead, .dead, .dead, .dead, .dead, .dead, .dead, .dead, .dead, .dead, .dead, .dead, .dead, .dead, .dead, .dead, .dead, .dead], v := [] }, out := { t := [.ro (.int .u8) (some 0), .dead, .dead, .i .i64, .dead, .dead, .dead, .dead, .dead, .dead, .dead, .dead, .dead, .dead, .dead, .dead, .dead, .dead, .dead, .dead, .dead, .dead, .dead, .dead, .dead, .dead, .dead, .dead, .dead, .dead, .dead, .dead], v := [] }, ret := none })] n
def k138_V (a0 : List Int) : Option (((List Int × Int × Int × Unit) × Unit) × (Unit × Unit)) := (f138_tree a0).eval
def k138 : Con := { f := 138, lend := false, its := [⟨false, false, [.ro (.int .u8)]⟩], lay := [none], rs := [⟨true, false, [.ro (.int .u8), .i .i64, .i .i64]⟩], F := fun x => .get (k138_V x.1.1) fun y => .ret y }
theorem f138_eq (x : itemsD k138.its) : bodyOut (cxOf []) (f138_A) (codeOf Try.f138) k138.its k138.lay Try.f138.ntmps k138.rs [.tmp 2] x = f138_tree x.1.1 := by kernel_rfl
theorem f138_ok (hr : ∀ x : (List Int × Unit) × Unit, itemsWF k138.its x → (f138_tree x.1.1).eval = (k138.F x).eval) : k138.Ok Try.prog :=
  con_fn [] trivial (by kernel_rfl) (codeOf_eq (by kernel_rfl)) (by kernel_rfl) (by kernel_rfl) (by kernel_rfl) f138_eq fun x hw _ hy => (hr x hw).trans hy
theorem k138_ok : k138.Ok Try.prog := f138_ok fun x _ => (eval_get_ret _).symm
theorem newCur_tot {b : List Int} (hb : b.length ≤ BIG) : TotV (k138_V b) fun y => y.1.1.1 = b ∧ y.1.1.2.1 = 0 := by
  unfold k138_V f138_tree
  refine tot_get (P := fun y => y.1.1 = b) (tot_iter1 (fun x => x.1.1 = b ∧ 0 ≤ x.1.2.2.1 ∧ x.1.2.2.1 ≤ (b.length : Int)) (fun x => (b.length - x.1.2.2.1.toNat)) _ (fun x hx => ?_) _ _ ⟨rfl, by simp, by simp⟩ (by simp; exact lt_fuel hb)) fun y hy => tot_ret ⟨hy, rfl⟩
  obtain ⟨⟨l, h, i, _⟩, _⟩ := x
  obtain ⟨e1, h1, h2⟩ := hx
  simp only at e1 h1 h2
  subst e1
  unfold f138_L0
  refine tot_ite (fun h3 => ?_) (fun _ => tot_ret rfl)
  have h3 : i < (l.length : Int) := of_decide_eq_true (by simpa using h3)
  refine tot_ite (fun _ => ?_) (fun _ => tot_ret rfl)
  refine tot_t (decide_eq_true h1) (tot_get (P := fun _ => True) ⟨_, List.getElem?_eq_getElem (show i.toNat < l.length by omega), trivial⟩ fun y _ => tot_ret ?_)
  have w : IntKind.i64.wrap (i + 1) = i + 1 := wrap_id (by omega) (by unfold BIG at hb; omega)
  exact ⟨⟨rfl, by simp only [w]; omega, by simp only [w]; omega⟩, by simp only [w]; omega⟩
def f201_tree (a0 : List Int) (a1 : Int) (a2 : Int) : Out (((Int × Unit) × Unit) × ((Int × Int × Unit) × Unit)) :=
 .ite (decide ((33 : Int) < 0))
 .fail
 (.ite (decide ((45 : Int) < 0))
 .fail
 (.ite (decide (a1 < ((List.length a0 : Nat) : Int)))
 (.ite (decide (0 ≤ a1))
 (.get (nth a0 (Int.toNat a1)) fun y1 =>
 .ret ((((IntKind.i64.wrap (((BitVec.ofInt (IntKind.bits IntKind.i64) (IntKind.i64.wrap ((IntKind.i64.wrap (((BitVec.ofInt (IntKind.bits IntKind.i64) (IntKind.i64.wrap (((BitVec.ofInt (IntKind.bits IntKind.i64) (Int.fdiv (IntKind.i64.wrap ((IntKind.i64.wrap (a2 * (6364136223846793005 : Int))) + (1442695040888963407 : Int))) (2 ^ (min (Int.toNat (33 : Int)) (IntKind.bits IntKind.i64)))) ^^^ BitVec.ofInt (IntKind.bits IntKind.i64) (Int.fdiv (IntKind.i64.wrap ((IntKind.i64.wrap (a2 * (6364136223846793005 : Int))) + (1442695040888963407 : Int))) (2 ^ (min (Int.toNat (45 : Int)) (IntKind.bits IntKind.i64))))).toNat : Int))) &&& BitVec.ofInt (IntKind.bits IntKind.i64) (255 : Int)).toNat : Int))) + (IntKind.i64.wrap y1))) &&& BitVec.ofInt (IntKind.bits IntKind.i64) (255 : Int)).toNat : Int))), ()), ()), (((IntKind.i64.wrap (a1 + (1 : Int))), (IntKind.i64.wrap ((IntKind.i64.wrap (a2 * (6364136223846793005 : Int))) + (1442695040888963407 : Int))), ()), ())))
 .fail)
 (.ret ((((IntKind.i64.wrap (((BitVec.ofInt (IntKind.bits IntKind.i64) (IntKind.i64.wrap (((BitVec.ofInt (IntKind.bits IntKind.i64) (Int.fdiv (IntKind.i64.wrap ((IntKind.i64.wrap (a2 * (6364136223846793005 : Int))) + (1442695040888963407 : Int))) (2 ^ (min (Int.toNat (33 : Int)) (IntKind.bits IntKind.i64)))) ^^^ BitVec.ofInt (IntKind.bits IntKind.i64) (Int.fdiv (IntKind.i64.wrap ((IntKind.i64.wrap (a2 * (6364136223846793005 : Int))) + (1442695040888963407 : Int))) (2 ^ (min (Int.toNat (45 : Int)) (IntKind.bits IntKind.i64))))).toNat : Int))) &&& BitVec.ofInt (IntKind.bits IntKind.i64) (255 : Int)).toNat : Int))), ()), ()), ((a1, (IntKind.i64.wrap ((IntKind.i64.wrap (a2 * (6364136223846793005 : Int))) + (1442695040888963407 : Int))), ()), ())))))
def k201_V (a0 : List Int) (a1 : Int) (a2 : Int) : Option (((Int × Unit) × Unit) × ((Int × Int × Unit) × Unit)) := (f201_tree a0 a1 a2).eval
def k201 : Con := { f := 201, lend := true, its := [⟨true, false, [.ro (.int .u8), .i .i64, .i .i64]⟩], lay := [none], rs := [⟨false, false, [.i .i64]⟩], F := fun x => .get (k201_V x.1.1 x.1.2.1 x.1.2.2.1) fun y => .ret y }
theorem f201_eq (x : itemsD k201.its) : bodyOut (cxOf []) (fun _ => none) (codeOf Try.f201) k201.its k201.lay Try.f201.ntmps k201.rs [.tmp 2] x = f201_tree x.1.1 x.1.2.1 x.1.2.2.1 := by kernel_rfl
theorem f201_ok (hr : ∀ x : (List Int × Int × Int × Unit) × Unit, itemsWF k201.its x → (f201_tree x.1.1 x.1.2.1 x.1.2.2.1).eval = (k201.F x).eval) : k201.Ok Try.prog :=
  con_fn [] trivial (by kernel_rfl) (codeOf_eq (by kernel_rfl)) (by kernel_rfl) (by kernel_rfl) (by kernel_rfl) f201_eq fun x hw _ hy => (hr x hw).trans hy
theorem k201_ok : k201.Ok Try.prog := f201_ok fun x _ => (eval_get_ret _).symm
theorem byte_tot {b : List Int} {i h : Int} (hb : b.length ≤ BIG) (hi : 0 ≤ i) : TotV (k201_V b i h) fun y => (0 ≤ y.1.1.1 ∧ y.1.1.1 ≤ 255) ∧ 0 ≤ y.2.1.1 := by
  unfold k201_V f201_tree
  refine tot_f rfl (tot_f rfl (tot_ite (fun h1 => ?_) fun _ => tot_ret ?_))
  · have h1 : i < (b.length : Int) := of_decide_eq_true h1
    refine tot_t (decide_eq_true hi) (tot_get (P := fun _ => True) ⟨_, List.getElem?_eq_getElem (show i.toNat < b.length by omega), trivial⟩ fun y _ => tot_ret ?_)
    refine ⟨and_bounds _ (b := 255) (by decide), ?_⟩
    · show 0 ≤ IntKind.i64.wrap (i + 1)
      rw [wrap_id (by omega) (by unfold BIG at hb; omega)]; omega
  · exact ⟨and_bounds _ (b := 255) (by decide), hi⟩
def f139_tree (a0 : List Int) (a1 : Int) (a2 : Int) (a3 : Int) : Out (((Int × Unit) × Unit) × ((Int × Int × Unit) × Unit × Unit)) :=
 .ite (decide (a3 ≤ (0 : Int)))
 (.ret ((((0 : Int), ()), ()), ((a1, a2, ()), (), ())))
 (.ite (decide (a3 ≤ (256 : Int)))
 (.get (k201_V a0 a1 a2) fun y1 =>
 .ite (a3 == 0)
 .fail
 (.ret ((((Int.tmod y1.1.1.1 a3), ()), ()), ((y1.2.1.1, y1.2.1.2.1, ()), (), ()))))
 (.get (k201_V a0 a1 a2) fun y2 =>
 .get (k201_V a0 y2.2.1.1 y2.2.1.2.1) fun y3 =>
 .get (k201_V a0 y3.2.1.1 y3.2.1.2.1) fun y4 =>
 .get (k201_V a0 y4.2.1.1 y4.2.1.2.1) fun y5 =>
 .ite (a3 == 0)
 .fail
 (.ret ((((Int.tmod (IntKind.i64.wrap ((IntKind.i64.wrap ((IntKind.i64.wrap ((IntKind.i64.wrap (y2.1.1.1 * (16777216 : Int))) + (IntKind.i64.wrap (y3.1.1.1 * (65536 : Int))))) + (IntKind.i64.wrap (y4.1.1.1 * (256 : Int))))) + y5.1.1.1)) a3), ()), ()), ((y5.2.1.1, y5.2.1.2.1, ()), (), ())))))
def k139_V (a0 : List Int) (a1 : Int) (a2 : Int) (a3 : Int) : Option (((Int × Unit) × Unit) × ((Int × Int × Unit) × Unit × Unit)) := (f139_tree a0 a1 a2 a3).eval
def k139 : Con := { f := 139, lend := true, its := [⟨true, false, [.ro (.int .u8), .i .i64, .i .i64]⟩, ⟨false, false, [.i .i64]⟩], lay := [none, none], rs := [⟨false, false, [.i .i64]⟩], F := fun x => .get (k139_V x.1.1 x.1.2.1 x.1.2.2.1 x.2.1.1) fun y => .ret y }
theorem f139_eq (x : itemsD k139.its) : bodyOut (cxOf [k201]) (fun _ => none) (codeOf Try.f139) k139.its k139.lay Try.f139.ntmps k139.rs [.tmp 4] x = f139_tree x.1.1 x.1.2.1 x.1.2.2.1 x.2.1.1 := by kernel_rfl
theorem f139_ok (hr : ∀ x : (List Int × Int × Int × Unit) × (Int × Unit) × Unit, itemsWF k139.its x → (f139_tree x.1.1 x.1.2.1 x.1.2.2.1 x.2.1.1).eval = (k139.F x).eval) : k139.Ok Try.prog :=
  con_fn [k201] ⟨k201_ok, trivial⟩ (by kernel_rfl) (codeOf_eq (by kernel_rfl)) (by kernel_rfl) (by kernel_rfl) (by kernel_rfl) f139_eq fun x hw _ hy => (hr x hw).trans hy
theorem k139_ok : k139.Ok Try.prog := f139_ok fun x _ => (eval_get_ret _).symm
theorem tmod_bounds {x n : Int} (hx : 0 ≤ x) (hn : 0 < n) : 0 ≤ Int.tmod x n ∧ Int.tmod x n < n := ⟨Int.tmod_nonneg _ hx, Int.tmod_lt_of_pos _ hn⟩
theorem below_tot {b : List Int} {i h n : Int} (hb : b.length ≤ BIG) (hi : 0 ≤ i) : TotV (k139_V b i h n) fun y => (0 ≤ y.1.1.1 ∧ (0 < n → y.1.1.1 < n) ∧ (n ≤ 0 → y.1.1.1 = 0)) ∧ 0 ≤ y.2.1.1 := by
  unfold k139_V f139_tree
  refine tot_ite (fun h1 => tot_ret ?_) fun h1 => ?_
  · have := of_decide_eq_true h1
    exact ⟨⟨Int.le_refl _, fun h => by omega, fun _ => rfl⟩, hi⟩
  have h1 := of_decide_eq_false h1
  have hz : (n == 0) = false := by simp; omega
  refine tot_ite (fun h2 => tot_get (byte_tot hb hi) fun y hy => tot_f hz (tot_ret ?_)) fun h2 => ?_
  · have := tmod_bounds hy.1.1 (show 0 < n by omega)
    exact ⟨⟨this.1, fun _ => this.2, fun h => by omega⟩, hy.2⟩
  · refine tot_get (byte_tot hb hi) fun y hy => tot_get (byte_tot hb hy.2) fun z hz' => tot_get (byte_tot hb hz'.2) fun u hu => tot_get (byte_tot hb hu.2) fun v hv => tot_f hz (tot_ret ?_)
    have e1 := hy.1; have e2 := hz'.1; have e3 := hu.1; have e4 := hv.1
    have w1 : IntKind.i64.wrap (y.1.1.1 * 16777216) = y.1.1.1 * 16777216 := wrap_id (by omega) (by omega)
    have w2 : IntKind.i64.wrap (z.1.1.1 * 65536) = z.1.1.1 * 65536 := wrap_id (by omega) (by omega)
    have w3 : IntKind.i64.wrap (u.1.1.1 * 256) = u.1.1.1 * 256 := wrap_id (by omega) (by omega)
    have w4 : IntKind.i64.wrap (y.1.1.1 * 16777216 + z.1.1.1 * 65536) = y.1.1.1 * 16777216 + z.1.1.1 * 65536 := wrap_id (by omega) (by omega)
    have w5 : IntKind.i64.wrap (y.1.1.1 * 16777216 + z.1.1.1 * 65536 + u.1.1.1 * 256) = y.1.1.1 * 16777216 + z.1.1.1 * 65536 + u.1.1.1 * 256 := wrap_id (by omega) (by omega)
    have w6 : IntKind.i64.wrap (y.1.1.1 * 16777216 + z.1.1.1 * 65536 + u.1.1.1 * 256 + v.1.1.1) = y.1.1.1 * 16777216 + z.1.1.1 * 65536 + u.1.1.1 * 256 + v.1.1.1 := wrap_id (by omega) (by omega)
    have := tmod_bounds (show 0 ≤ y.1.1.1 * 16777216 + z.1.1.1 * 65536 + u.1.1.1 * 256 + v.1.1.1 by omega) (show 0 < n by omega)
    simp only [w1, w2, w3, w4, w5, w6]
    exact ⟨⟨this.1, fun _ => this.2, fun h => by omega⟩, hv.2⟩
def f140_tree (a0 : List Int) (a1 : Int) (a2 : Int) (a3 : Int) : Out (((Bool × Unit) × Unit) × ((Int × Int × Unit) × Unit × Unit)) :=
 .get (k139_V a0 a1 a2 a3) fun y1 =>
 .ret (((((y1.1.1.1 == (0 : Int))), ()), ()), ((y1.2.1.1, y1.2.1.2.1, ()), (), ()))
def k140_V (a0 : List Int) (a1 : Int) (a2 : Int) (a3 : Int) : Option (((Bool × Unit) × Unit) × ((Int × Int × Unit) × Unit × Unit)) := (f140_tree a0 a1 a2 a3).eval
def k140 : Con := { f := 140, lend := true, its := [⟨true, false, [.ro (.int .u8), .i .i64, .i .i64]⟩, ⟨false, false, [.i .i64]⟩], lay := [none, none], rs := [⟨false, false, [.b]⟩], F := fun x => .get (k140_V x.1.1 x.1.2.1 x.1.2.2.1 x.2.1.1) fun y => .ret y }
theorem f140_eq (x : itemsD k140.its) : bodyOut (cxOf [k139]) (fun _ => none) (codeOf Try.f140) k140.its k140.lay Try.f140.ntmps k140.rs [.tmp 4] x = f140_tree x.1.1 x.1.2.1 x.1.2.2.1 x.2.1.1 := by kernel_rfl
theorem f140_ok (hr : ∀ x : (List Int × Int × Int × Unit) × (Int × Unit) × Unit, itemsWF k140.its x → (f140_tree x.1.1 x.1.2.1 x.1.2.2.1 x.2.1.1).eval = (k140.F x).eval) : k140.Ok Try.prog :=
  con_fn [k139] ⟨k139_ok, trivial⟩ (by kernel_rfl) (codeOf_eq (by kernel_rfl)) (by kernel_rfl) (by kernel_rfl) (by kernel_rfl) f140_eq fun x hw _ hy => (hr x hw).trans hy
theorem k140_ok : k140.Ok Try.prog := f140_ok fun x _ => (eval_get_ret _).symm
theorem once_tot {b : List Int} {i h n : Int} (hb : b.length ≤ BIG) (hi : 0 ≤ i) : TotV (k140_V b i h n) fun y => 0 ≤ y.2.1.1 := by
  unfold k140_V f140_tree
  exact tot_get (below_tot hb hi) fun y hy => tot_ret hy.2
def f141_tree (a0 : List Int) (a1 : Int) (a2 : Int) (a3 : List Int) : Out (((Int × Unit) × Unit) × ((Int × Int × Unit) × Unit × Unit)) :=
 .get (k139_V a0 a1 a2 ((List.length a3 : Nat) : Int)) fun y1 =>
 .ite (decide (0 ≤ y1.1.1.1))
 (.get (nth a3 (Int.toNat y1.1.1.1)) fun y2 =>
 .ret (((y2, ()), ()), ((y1.2.1.1, y1.2.1.2.1, ()), (), ())))
 .fail
def k141_V (a0 : List Int) (a1 : Int) (a2 : Int) (a3 : List Int) : Option (((Int × Unit) × Unit) × ((Int × Int × Unit) × Unit × Unit)) := (f141_tree a0 a1 a2 a3).eval
def k141 : Con := { f := 141, lend := true, its := [⟨true, false, [.ro (.int .u8), .i .i64, .i .i64]⟩, ⟨false, false, [.ro (.int .i64)]⟩], lay := [none, none], rs := [⟨false, false, [.i .i64]⟩], F := fun x => .get (k141_V x.1.1 x.1.2.1 x.1.2.2.1 x.2.1.1) fun y => .ret y }
theorem f141_eq (x : itemsD k141.its) : bodyOut (cxOf [k139]) (fun _ => none) (codeOf Try.f141) k141.its k141.lay Try.f141.ntmps k141.rs [.tmp 4] x = f141_tree x.1.1 x.1.2.1 x.1.2.2.1 x.2.1.1 := by kernel_rfl
theorem f141_ok (hr : ∀ x : (List Int × Int × Int × Unit) × (List Int × Unit) × Unit, itemsWF k141.its x → (f141_tree x.1.1 x.1.2.1 x.1.2.2.1 x.2.1.1).eval = (k141.F x).eval) : k141.Ok Try.prog :=
  con_fn [k139] ⟨k139_ok, trivial⟩ (by kernel_rfl) (codeOf_eq (by kernel_rfl)) (by kernel_rfl) (by kernel_rfl) (by kernel_rfl) f141_eq fun x hw _ hy => (hr x hw).trans hy
theorem k141_ok : k141.Ok Try.prog := f141_ok fun x _ => (eval_get_ret _).symm
theorem pick_tot {b : List Int} {i h : Int} {l : List Int} (hb : b.length ≤ BIG) (hi : 0 ≤ i) (hl : 0 < l.length) : TotV (k141_V b i h l) fun y => y.1.1.1 ∈ l ∧ 0 ≤ y.2.1.1 := by
  unfold k141_V f141_tree
  refine tot_get (below_tot hb hi) fun y hy => ?_
  have h1 := hy.1.1
  have h2 := hy.1.2.1 (by omega)
  refine tot_t (decide_eq_true h1) (tot_get (P := fun x => x ∈ l) ⟨_, List.getElem?_eq_getElem (show y.1.1.1.toNat < l.length by omega), List.getElem_mem _⟩ fun x hx => tot_ret ⟨hx, hy.2⟩)
def f143_tree (a0 : List Int) (a1 : Int) : Out (((Int × Unit) × Unit) × (Unit × Unit × Unit)) :=
 .ite ((20 : Int) == 0)
 .fail
 (.ite (decide ((IntKind.i64.wrap ((2 : Int) + (IntKind.i64.wrap (Int.tdiv ((List.length a0 : Nat) : Int) (20 : Int))))) > a1))
 (.ret (((a1, ()), ()), ((), (), ())))
 (.ret ((((IntKind.i64.wrap ((2 : Int) + (IntKind.i64.wrap (Int.tdiv ((List.length a0 : Nat) : Int) (20 : Int))))), ()), ()), ((), (), ()))))
def k143_V (a0 : List Int) (a1 : Int) : Option (((Int × Unit) × Unit) × (Unit × Unit × Unit)) := (f143_tree a0 a1).eval
def k143 : Con := { f := 143, lend := true, its := [⟨false, false, [.ro (.int .u8)]⟩, ⟨false, false, [.i .i64]⟩], lay := [none, none], rs := [⟨false, false, [.i .i64]⟩], F := fun x => .get (k143_V x.1.1 x.2.1.1) fun y => .ret y }
theorem f143_eq (x : itemsD k143.its) : bodyOut (cxOf []) (fun _ => none) (codeOf Try.f143) k143.its k143.lay Try.f143.ntmps k143.rs [.tmp 4] x = f143_tree x.1.1 x.2.1.1 := by kernel_rfl
theorem f143_ok (hr : ∀ x : (List Int × Unit) × (Int × Unit) × Unit, itemsWF k143.its x → (f143_tree x.1.1 x.2.1.1).eval = (k143.F x).eval) : k143.Ok Try.prog :=
  con_fn [] trivial (by kernel_rfl) (codeOf_eq (by kernel_rfl)) (by kernel_rfl) (by kernel_rfl) (by kernel_rfl) f143_eq fun x hw _ hy => (hr x hw).trans hy
theorem k143_ok : k143.Ok Try.prog := f143_ok fun x _ => (eval_get_ret _).symm
theorem size_tot {b : List Int} {n : Int} (hb : b.length ≤ BIG) : TotV (k143_V b n) fun y => y.1.1.1 ≤ n := by
  unfold k143_V f143_tree
  refine tot_f rfl (tot_ite (fun h => tot_ret (Int.le_refl _)) fun h => tot_ret ?_)
  have := of_decide_eq_false h
  show IntKind.i64.wrap _ ≤ n
  omega
abbrev f217_S0 := (Int × Int × Unit) × ((List (Int) × Int × Int × Unit) × List (Int) × Unit)
def f217_L0 (x : f217_S0) : Out (Round f217_S0 ((Unit) × (List (Int) × (List (Int) × Int × Int × Unit) × Unit)) Empty) :=
 .ite (decide (x.1.2.1 > (0 : Int)))
 (.get (k201_V x.2.1.1 x.2.1.2.1 x.2.1.2.2.1) fun y1 =>
 .ite ((x.1.1 == (1 : Int)))
 (.ite ((2 : Int) == 0)
 .fail
 (.ite ((x.1.1 == (2 : Int)))
 (.ite ((4 : Int) == 0)
 .fail
 (.ite (decide (List.length x.2.2.1 + List.length ([(IntKind.u8.wrap (IntKind.i64.wrap ((97 : Int) + (Int.tmod (Int.tmod y1.1.1.1 (2 : Int)) (4 : Int)))))] : List (Int)) ≤ LIM))
 (.ret (.again ((x.1.1, (IntKind.i64.wrap (x.1.2.1 - (1 : Int))), ()), ((x.2.1.1, y1.2.1.1, y1.2.1.2.1, ()), (x.2.2.1 ++ ([(IntKind.u8.wrap (IntKind.i64.wrap ((97 : Int) + (Int.tmod (Int.tmod y1.1.1.1 (2 : Int)) (4 : Int)))))] : List (Int))), ()))))
 .fail))
 (.ite (decide (List.length x.2.2.1 + List.length ([(IntKind.u8.wrap (Int.tmod y1.1.1.1 (2 : Int)))] : List (Int)) ≤ LIM))
 (.ret (.again ((x.1.1, (IntKind.i64.wrap (x.1.2.1 - (1 : Int))), ()), ((x.2.1.1, y1.2.1.1, y1.2.1.2.1, ()), (x.2.2.1 ++ ([(IntKind.u8.wrap (Int.tmod y1.1.1.1 (2 : Int)))] : List (Int))), ()))))
 .fail)))
 (.ite ((x.1.1 == (2 : Int)))
 (.ite ((4 : Int) == 0)
 .fail
 (.ite (decide (List.length x.2.2.1 + List.length ([(IntKind.u8.wrap (IntKind.i64.wrap ((97 : Int) + (Int.tmod y1.1.1.1 (4 : Int)))))] : List (Int)) ≤ LIM))
 (.ret (.again ((x.1.1, (IntKind.i64.wrap (x.1.2.1 - (1 : Int))), ()), ((x.2.1.1, y1.2.1.1, y1.2.1.2.1, ()), (x.2.2.1 ++ ([(IntKind.u8.wrap (IntKind.i64.wrap ((97 : Int) + (Int.tmod y1.1.1.1 (4 : Int)))))] : List (Int))), ()))))
 .fail))
 (.ite (decide (List.length x.2.2.1 + List.length ([(IntKind.u8.wrap y1.1.1.1)] : List (Int)) ≤ LIM))
 (.ret (.again ((x.1.1, (IntKind.i64.wrap (x.1.2.1 - (1 : Int))), ()), ((x.2.1.1, y1.2.1.1, y1.2.1.2.1, ()), (x.2.2.1 ++ ([(IntKind.u8.wrap y1.1.1.1)] : List (Int))), ()))))
 .fail)))
 (.ret (.out ((), (x.2.2.1, (x.2.1.1, x.2.1.2.1, x.2.1.2.2.1, ()), ()))))
def f217_tree (a0 : List Int) (a1 : Int) (a2 : Int) (a3 : Int) : Out (((List UInt8 × Unit) × Unit) × ((Int × Int × Unit) × Unit × Unit)) :=
 .get (k139_V a0 a1 a2 (4 : Int)) fun y1 =>
 .get (k139_V a0 y1.2.1.1 y1.2.1.2.1 (IntKind.i64.wrap (a3 + (1 : Int)))) fun y2 =>
 .get (iter1 f217_L0 FUEL ((y1.1.1.1, y2.1.1.1, ()), ((a0, y2.2.1.1, y2.2.1.2.1, ()), ([] : List (Int)), ()))) fun y3 =>
 .ret ((((List.map (fun n : Int => UInt8.ofNat n.toNat) y3.2.1), ()), ()), ((y3.2.2.1.2.1, y3.2.2.1.2.2.1, ()), (), ()))
def f217_A : Nat → Option LoopAnn := fun n => annOf [(0, { head := { t := [.vptr 0 0, .dead, .dead, .dead, .dead, .srf 64000000, .i .i64, .i .i64, .dead, .dead, .dead, .dead, .dead, .dead, .dead, .dead, .dead, .dead, .dead, .dead, .dead, .dead, .dead, .dead, .dead, .dead, .dead, .dead, .dead, .dead, .dead, .dead, .dead, .dead, .dead, .dead, .dead, .dead], v := [(0, .var [.ro (.int .u8) (some 1), .i .i64, .i .i64]), (64000000, .arr (.int .u8))] }, out := { t := [.vptr 0 0, .dead, .dead, .dead, .dead, .srf 64000256, .dead, .dead, .dead, .dead, .dead, .dead, .dead, .dead, .dead, .dead, .dead, .dead, .dead, .dead, .dead, .dead, .dead, .dead, .dead, .dead, .dead, .dead, .dead, .dead, .dead, .dead, .dead, .dead, .dead, .dead, .dead, .dead], v := [(64000256, .arr (.int .u8)), (0, .var [.ro (.int .u8) (some 1), .i .i64, .i .i64])] }, ret := none })] n
def k217_V (a0 : List Int) (a1 : Int) (a2 : Int) (a3 : Int) : Option (((List UInt8 × Unit) × Unit) × ((Int × Int × Unit) × Unit × Unit)) := (f217_tree a0 a1 a2 a3).eval
def k217 : Con := { f := 217, lend := true, its := [⟨true, false, [.ro (.int .u8), .i .i64, .i .i64]⟩, ⟨false, false, [.i .i64]⟩], lay := [none, none], rs := [⟨false, false, [.s]⟩], F := fun x => .get (k217_V x.1.1 x.1.2.1 x.1.2.2.1 x.2.1.1) fun y => .ret y }
theorem f217_eq (x : itemsD k217.its) : bodyOut (cxOf [k139, k201]) (f217_A) (codeOf Try.f217) k217.its k217.lay Try.f217.ntmps k217.rs [.tmp 4] x = f217_tree x.1.1 x.1.2.1 x.1.2.2.1 x.2.1.1 := by kernel_rfl
theorem f217_ok (hr : ∀ x : (List Int × Int × Int × Unit) × (Int × Unit) × Unit, itemsWF k217.its x → (f217_tree x.1.1 x.1.2.1 x.1.2.2.1 x.2.1.1).eval = (k217.F x).eval) : k217.Ok Try.prog :=
  con_fn [k139, k201] ⟨k139_ok, k201_ok, trivial⟩ (by kernel_rfl) (codeOf_eq (by kernel_rfl)) (by kernel_rfl) (by kernel_rfl) (by kernel_rfl) f217_eq fun x hw _ hy => (hr x hw).trans hy
theorem k217_ok : k217.Ok Try.prog := f217_ok fun x _ => (eval_get_ret _).symm
theorem text_tot {b : List Int} {i h : Int} {n : Nat} (hb : b.length ≤ BIG) (hi : 0 ≤ i) (hn : n ≤ 1000000) : TotV (k217_V b i h ((n : Nat) : Int)) fun y => y.1.1.1.length ≤ n ∧ 0 ≤ y.2.1.1 := by
  unfold k217_V f217_tree
  have w : IntKind.i64.wrap (((n : Nat) : Int) + 1) = ((n : Nat) : Int) + 1 := wrap_id (by omega) (by omega)
  refine tot_get (below_tot hb hi) fun y hy => tot_get (below_tot hb hy.2) fun z hz => tot_get (P := fun x => x.2.1.length ≤ n ∧ 0 ≤ x.2.2.1.2.1)
    (tot_iter1 (fun x => x.2.1.1 = b ∧ 0 ≤ x.1.2.1 ∧ 0 ≤ x.2.1.2.1 ∧ (x.2.2.1.length : Int) + x.1.2.1 ≤ n) (fun x => x.1.2.1.toNat) _ (fun x hx => ?_) _ _ ?_ ?_) fun x hx => tot_ret (by simpa using hx)
  · obtain ⟨⟨st, k, _⟩, ⟨b', i, h, _⟩, out, _⟩ := x
    obtain ⟨e1, h1, h2, h3⟩ := hx
    simp only at e1 h1 h2 h3
    subst e1
    unfold f217_L0
    refine tot_ite (fun h4 => ?_) (fun h4 => tot_ret ?_)
    · have h4 := of_decide_eq_true h4
      simp only at h4
      have w : IntKind.i64.wrap (k - 1) = k - 1 := wrap_id (by omega) (by omega)
      have hlim : ∀ v : Int, decide (out.length + [v].length ≤ LIM) = true := fun v => decide_eq_true (by rw [LIM_eq]; simp; omega)
      refine tot_get (byte_tot hb h2) fun u hu => ?_
      refine tot_ite (fun _ => tot_f rfl (tot_ite (fun _ => tot_f rfl (tot_t (hlim _) (tot_ret ?_))) fun _ => tot_t (hlim _) (tot_ret ?_))) fun _ => tot_ite (fun _ => tot_f rfl (tot_t (hlim _) (tot_ret ?_))) fun _ => tot_t (hlim _) (tot_ret ?_) <;>
        exact ⟨⟨rfl, by simp only [w]; omega, hu.2, by simp only [w]; simp; omega⟩, by simp only [w]; omega⟩
    · exact ⟨by simp only at *; omega, h2⟩
  · have := hz.1.2.1 (by rw [w]; omega)
    rw [w] at this
    exact ⟨rfl, hz.1.1, hz.2, by simp; omega⟩
  · have := hz.1.2.1 (by rw [w]; omega)
    rw [w] at this
    exact Nat.lt_of_le_of_lt (show z.1.1.1.toNat ≤ 1000000 by omega) (by decide)
/-! ### disks -/
abbrev f202_S0 := (Int × Unit) × ((Int × List UInt8 × Unit) × (Int × List UInt8 × Unit) × List (Int) × (List (Int) × Int × Int × Unit) × Unit)
def f202_L0 (x : f202_S0) : Out (Round f202_S0 ((Unit) × ((Int × List UInt8 × Unit) × (Int × List UInt8 × Unit) × List (Int) × (List (Int) × Int × Int × Unit) × Unit)) Empty) :=
 .ite (decide (((List.length x.2.2.2.1 : Nat) : Int) < x.1.1))
 (.ite (decide (List.length x.2.2.2.1 + List.length ([(65 : Int)] : List (Int)) ≤ LIM))
 (.ret (.again ((x.1.1, ()), ((x.2.1.1, x.2.1.2.1, ()), (x.2.2.1.1, x.2.2.1.2.1, ()), (x.2.2.2.1 ++ ([(65 : Int)] : List (Int))), (x.2.2.2.2.1.1, x.2.2.2.2.1.2.1, x.2.2.2.2.1.2.2.1, ()), ()))))
 .fail)
 (.ret (.out ((), ((x.2.1.1, x.2.1.2.1, ()), (x.2.2.1.1, x.2.2.1.2.1, ()), x.2.2.2.1, (x.2.2.2.2.1.1, x.2.2.2.2.1.2.1, x.2.2.2.2.1.2.2.1, ()), ()))))
def f202_tree (a0 : List Int) (a1 : Int) (a2 : Int) : Out (((Int × List UInt8 × Unit) × Unit) × ((Int × Int × Unit) × Unit)) :=
 .get (k139_V a0 a1 a2 (7 : Int)) fun y1 =>
 .get (k217_V a0 y1.2.1.1 y1.2.1.2.1 (5 : Int)) fun y2 =>
 .get (k140_V a0 y2.2.1.1 y2.2.1.2.1 (20 : Int)) fun y3 =>
 .ite y3.1.1.1
 (.get (k141_V a0 y3.2.1.1 y3.2.1.2.1 ([(-1 : Int), (7 : Int)] : List (Int))) fun y4 =>
 .get (k140_V a0 y4.2.1.1 y4.2.1.2.1 (40 : Int)) fun y5 =>
 .ite y5.1.1.1
 (.get (k139_V a0 y5.2.1.1 y5.2.1.2.1 (2 : Int)) fun y6 =>
 .get (iter1 f202_L0 FUEL (((IntKind.i64.wrap ((600 : Int) + y6.1.1.1)), ()), (((0 : Int), ([] : List UInt8), ()), (y4.1.1.1, y2.1.1.1, ()), ([] : List (Int)), (a0, y6.2.1.1, y6.2.1.2.1, ()), ()))) fun y7 =>
 .ret (((y7.2.2.1.1, (List.map (fun n : Int => UInt8.ofNat n.toNat) y7.2.2.2.1), ()), ()), ((y7.2.2.2.2.1.2.1, y7.2.2.2.2.1.2.2.1, ()), ())))
 (.ret (((y4.1.1.1, y2.1.1.1, ()), ()), ((y5.2.1.1, y5.2.1.2.1, ()), ()))))
 (.get (k140_V a0 y3.2.1.1 y3.2.1.2.1 (40 : Int)) fun y8 =>
 .ite y8.1.1.1
 (.get (k139_V a0 y8.2.1.1 y8.2.1.2.1 (2 : Int)) fun y9 =>
 .get (iter1 f202_L0 FUEL (((IntKind.i64.wrap ((600 : Int) + y9.1.1.1)), ()), (((0 : Int), ([] : List UInt8), ()), (y1.1.1.1, y2.1.1.1, ()), ([] : List (Int)), (a0, y9.2.1.1, y9.2.1.2.1, ()), ()))) fun y10 =>
 .ret (((y10.2.2.1.1, (List.map (fun n : Int => UInt8.ofNat n.toNat) y10.2.2.2.1), ()), ()), ((y10.2.2.2.2.1.2.1, y10.2.2.2.2.1.2.2.1, ()), ())))
 (.ret (((y1.1.1.1, y2.1.1.1, ()), ()), ((y8.2.1.1, y8.2.1.2.1, ()), ()))))
def f202_A : Nat → Option LoopAnn := fun n => annOf [(0, { head := { t := [.vptr 0 0, .dead, .vptr 64000000 0, .vptr 64000001 0, .srf 64000002, .i .i64, .dead, .dead, .dead, .dead, .dead, .dead, .dead, .dead, .dead, .dead, .dead, .dead, .dead, .dead, .dead, .dead, .dead, .dead, .dead, .dead, .dead, .dead, .dead, .dead, .dead, .dead, .dead, .dead], v := [(64000000, .var [.i .i64, .s]), (64000001, .var [.i .i64, .s]), (64000002, .arr (.int .u8)), (0, .var [.ro (.int .u8) (some 1), .i .i64, .i .i64])] }, out := { t := [.vptr 0 0, .dead, .vptr 64000256 0, .vptr 64000257 0, .srf 64000258, .dead, .dead, .dead, .dead, .dead, .dead, .dead, .dead, .dead, .dead, .dead, .dead, .dead, .dead, .dead, .dead, .dead, .dead, .dead, .dead, .dead, .dead, .dead, .dead, .dead, .dead, .dead, .dead, .dead], v := [(64000256, .var [.i .i64, .s]), (64000257, .var [.i .i64, .s]), (64000258, .arr (.int .u8)), (0, .var [.ro (.int .u8) (some 1), .i .i64, .i .i64])] }, ret := none })] n
def k202_V (a0 : List Int) (a1 : Int) (a2 : Int) : Option (((Int × List UInt8 × Unit) × Unit) × ((Int × Int × Unit) × Unit)) := (f202_tree a0 a1 a2).eval
def k202 : Con := { f := 202, lend := true, its := [⟨true, false, [.ro (.int .u8), .i .i64, .i .i64]⟩], lay := [none], rs := [⟨false, true, [.i .i64, .s]⟩], F := fun x => .get (k202_V x.1.1 x.1.2.1 x.1.2.2.1) fun y => .ret y }
theorem f202_eq (x : itemsD k202.its) : bodyOut (cxOf [k139, k217, k140, k141]) (f202_A) (codeOf Try.f202) k202.its k202.lay Try.f202.ntmps k202.rs [.cell 2 66] x = f202_tree x.1.1 x.1.2.1 x.1.2.2.1 := by kernel_rfl
theorem f202_ok (hr : ∀ x : (List Int × Int × Int × Unit) × Unit, itemsWF k202.its x → (f202_tree x.1.1 x.1.2.1 x.1.2.2.1).eval = (k202.F x).eval) : k202.Ok Try.prog :=
  con_fn [k139, k217, k140, k141] ⟨k139_ok, k217_ok, k140_ok, k141_ok, trivial⟩ (by kernel_rfl) (codeOf_eq (by kernel_rfl)) (by kernel_rfl) (by kernel_rfl) (by kernel_rfl) f202_eq fun x hw _ hy => (hr x hw).trans hy
theorem k202_ok : k202.Ok Try.prog := f202_ok fun x _ => (eval_get_ret _).symm
theorem write_tot {b : List Int} {i h : Int} (hb : b.length ≤ BIG) (hi : 0 ≤ i) : TotV (k202_V b i h) fun y => 0 ≤ y.2.1.1 := by
  unfold k202_V f202_tree
  have loop : ∀ (n : Int) (p q : Int × Str × Unit) (i h : Int), n ≤ 601 → 0 ≤ i → TotV (iter1 f202_L0 FUEL ((n, ()), p, q, [], (b, i, h, ()), ())) fun x => 0 ≤ x.2.2.2.2.1.2.1 := fun n p q i h hn hi =>
    tot_iter1 (fun x => x.1.1 ≤ 601 ∧ 0 ≤ x.2.2.2.2.1.2.1 ∧ x.2.2.2.1.length ≤ 601) (fun x => 601 - x.2.2.2.1.length) _ (fun x hx => by
      obtain ⟨⟨n, _⟩, p, q, out, ⟨b, i, h, _⟩, _⟩ := x
      obtain ⟨h1, h2, h3⟩ := hx
      simp only at h1 h2 h3
      unfold f202_L0
      refine tot_ite (fun h4 => ?_) fun _ => tot_ret h2
      have h4 : (out.length : Int) < n := of_decide_eq_true h4
      refine tot_t (decide_eq_true (by rw [LIM_eq]; simp; omega)) (tot_ret ⟨⟨h1, h2, by simp; omega⟩, by simp; omega⟩)) FUEL _ ⟨hn, hi, by simp⟩ (by simp; decide)
  have wn : ∀ x : Int, 0 ≤ x → x < 2 → IntKind.i64.wrap (600 + x) ≤ 601 := fun x h1 h2 => by rw [wrap_id (by omega) (by omega)]; omega
  refine tot_get (below_tot hb hi) fun y hy => tot_get (text_tot (n := 5) hb hy.2 (by omega)) fun z hz => tot_get (once_tot hb hz.2) fun u hu => tot_ite (fun _ => ?_) fun _ => ?_
  · refine tot_get (pick_tot hb hu (by simp)) fun v hv => tot_get (once_tot hb hv.2) fun w hw => tot_ite (fun _ => ?_) fun _ => tot_ret hw
    exact tot_get (below_tot hb hw) fun t ht => tot_get (loop _ _ _ _ _ (wn _ ht.1.1 (ht.1.2.1 (by omega))) ht.2) fun x hx => tot_ret hx
  · refine tot_get (once_tot hb hu) fun w hw => tot_ite (fun _ => ?_) fun _ => tot_ret hw
    exact tot_get (below_tot hb hw) fun t ht => tot_get (loop _ _ _ _ _ (wn _ ht.1.1 (ht.1.2.1 (by omega))) ht.2) fun x hx => tot_ret hx
theorem applyV_all {q : Str → Prop} {p : Nat → Bool} {a : List Str} {b : List WriteD} (ha : ∀ x ∈ a, q x) (hb : ∀ x ∈ b, q x.2.1) : ∀ x ∈ applyV p a b, q x := by
  unfold applyV
  have : ∀ (b : List WriteD) (s : List Str × Nat), (∀ x ∈ s.1, q x) → (∀ x ∈ b, q x.2.1) → ∀ x ∈ (b.foldl (stepD p) s).1, q x := by
    intro b
    induction b with
    | nil => exact fun _ h _ => h
    | cons y r ih =>
      intro s hs hr
      rw [List.foldl_cons]
      refine ih _ ?_ fun x hx => hr x (by simp [hx])
      intro x hx
      unfold stepD at hx
      split at hx
      · rcases List.mem_or_eq_of_mem_set hx with h | h
        · exact hs x h
        · rw [h]; exact hr y (by simp)
      · exact hs x hx
  exact this b (a, 0) ha hb
theorem diskOkV_of {a : List Str} {b : List WriteD} (h1 : a.length = 7) (h2 : b.length ≤ 20) (h3 : ∀ x ∈ a, x.length ≤ 600) (h4 : ∀ x ∈ b, writeOkV x.1 x.2.1 = true) : diskOkV a b = true := by
  unfold diskOkV
  rw [decide_eq_true h1, decide_eq_true h2, List.all_eq_true.2 fun x hx => decide_eq_true (h3 x hx), List.all_eq_true.2 h4]; rfl
theorem diskOkV_writes {a : List Str} {b : List WriteD} (h : diskOkV a b = true) : ∀ x ∈ b, writeOkV x.1 x.2.1 = true := List.all_eq_true.1 (Bool.and_eq_true_iff.1 h).2
theorem diskOkV_apply {a : List Str} {b : List WriteD} (p : Nat → Bool) (h : diskOkV a b = true) : diskOkV (applyV p a b) [] = true := by
  obtain ⟨h1, _, h3, h4⟩ := diskOkV_parts h
  exact diskOkV_of (by rw [applyV_len]; exact h1) (by simp) (applyV_all h3 fun x hx => (h4 x hx).2) (by simp)
theorem putV_ok {a : List Str} {b l : List WriteD} (hl : l.length ≤ LIM) (h : diskOkV a b = true) : ∃ r s t, putV a b l = some (r, s, t) ∧ diskOkV r s = true := by
  unfold putV
  rw [if_pos hl, if_pos h]
  split
  · rename_i q
    obtain ⟨h1, _, h3, _⟩ := diskOkV_parts h
    refine ⟨_, _, _, rfl, diskOkV_of h1 (by rw [List.length_append]; exact q.1) h3 fun x hx => ?_⟩
    rcases List.mem_append.1 hx with hx | hx
    · exact diskOkV_writes h x hx
    · exact List.all_eq_true.1 q.2 x hx
  · exact ⟨_, _, _, rfl, h⟩
theorem diskOkV_new : diskOkV newDiskV.1 newDiskV.2 = true := by decide
abbrev f142_S0 := (Int × Unit) × ((List (Int) × Int × Int × Unit) × Unit × Unit × List (List UInt8) × List ((Int × List UInt8 × Unit)) × List (List UInt8) × List ((Int × List UInt8 × Unit)) × Unit)
def f142_L0 (x : f142_S0) : Out (Round f142_S0 ((Unit) × ((List (Int) × Int × Int × Unit) × Unit × Unit × List (List UInt8) × List ((Int × List UInt8 × Unit)) × List (List UInt8) × List ((Int × List UInt8 × Unit)) × Unit)) Empty) :=
 .ite (decide (x.1.1 > (0 : Int)))
 (.get (k140_V x.2.1.1 x.2.1.2.1 x.2.1.2.2.1 (6 : Int)) fun y1 =>
 .ite y1.1.1.1
 (.get (k139_V x.2.1.1 y1.2.1.1 y1.2.1.2.1 (99 : Int)) fun y2 =>
 .get (k140_V x.2.1.1 y2.2.1.1 y2.2.1.2.1 (2 : Int)) fun y3 =>
 .get (doneV x.2.2.2.2.2.2.1 x.2.2.2.2.2.2.2.1 y2.1.1.1 y3.1.1.1) fun y4 =>
 .ret (.again (((IntKind.i64.wrap (x.1.1 - (1 : Int))), ()), ((x.2.1.1, y3.2.1.1, y3.2.1.2.1, ()), (), (), x.2.2.2.2.1, x.2.2.2.2.2.1, y4.1, y4.2, ()))))
 (.get (k202_V x.2.1.1 y1.2.1.1 y1.2.1.2.1) fun y5 =>
 .get (putV x.2.2.2.2.2.2.1 x.2.2.2.2.2.2.2.1 ([(y5.1.1.1, y5.1.1.2.1, ())] : List ((Int × List UInt8 × Unit)))) fun y6 =>
 .ret (.again (((IntKind.i64.wrap (x.1.1 - (1 : Int))), ()), ((x.2.1.1, y5.2.1.1, y5.2.1.2.1, ()), (), (), x.2.2.2.2.1, x.2.2.2.2.2.1, y6.1, y6.2.1, ())))))
 (.ret (.out ((), ((x.2.1.1, x.2.1.2.1, x.2.1.2.2.1, ()), (), (), x.2.2.2.2.1, x.2.2.2.2.2.1, x.2.2.2.2.2.2.1, x.2.2.2.2.2.2.2.1, ()))))
abbrev f142_S3 := (Int × Unit) × (Unit × Unit × List (List UInt8) × List ((Int × List UInt8 × Unit)) × List (List UInt8) × List ((Int × List UInt8 × Unit)) × (List (Int) × Int × Int × Unit) × Unit)
def f142_L3 (x : f142_S3) : Out (Round f142_S3 ((Unit) × (Unit × Unit × List (List UInt8) × List ((Int × List UInt8 × Unit)) × List (List UInt8) × List ((Int × List UInt8 × Unit)) × (List (Int) × Int × Int × Unit) × Unit)) Empty) :=
 .ite (decide (((List.length x.2.2.2.2.2.2.1 : Nat) : Int) < x.1.1))
 (.ite (decide (List.length x.2.2.2.2.2.2.1 + List.length ([((0 : Int), ([] : List UInt8), ())] : List ((Int × List UInt8 × Unit))) ≤ LIM))
 (.ret (.again ((x.1.1, ()), ((), (), x.2.2.2.1, x.2.2.2.2.1, x.2.2.2.2.2.1, (x.2.2.2.2.2.2.1 ++ ([((0 : Int), ([] : List UInt8), ())] : List ((Int × List UInt8 × Unit)))), (x.2.2.2.2.2.2.2.1.1, x.2.2.2.2.2.2.2.1.2.1, x.2.2.2.2.2.2.2.1.2.2.1, ()), ()))))
 .fail)
 (.ret (.out ((), ((), (), x.2.2.2.1, x.2.2.2.2.1, x.2.2.2.2.2.1, x.2.2.2.2.2.2.1, (x.2.2.2.2.2.2.2.1.1, x.2.2.2.2.2.2.2.1.2.1, x.2.2.2.2.2.2.2.1.2.2.1, ()), ()))))
def f142_tree (a0 : List Int) (a1 : Int) (a2 : Int) (a3 : Int) : Out (((List (List UInt8) × List (Int × List UInt8 × Unit) × Unit) × Unit) × ((Int × Int × Unit) × Unit × Unit)) :=
 .get (k139_V a0 a1 a2 a3) fun y1 =>
 .get (iter1 f142_L0 FUEL ((y1.1.1.1, ()), ((a0, y1.2.1.1, y1.2.1.2.1, ()), (), (), ([] : List (List UInt8)), ([] : List ((Int × List UInt8 × Unit))), newDiskV.1, newDiskV.2, ()))) fun y2 =>
 .get (k140_V y2.2.1.1 y2.2.1.2.1 y2.2.1.2.2.1 (12 : Int)) fun y3 =>
 .ite y3.1.1.1
 (.get (k139_V y2.2.1.1 y3.2.1.1 y3.2.1.2.1 (3 : Int)) fun y4 =>
 .ite ((y4.1.1.1 == (0 : Int)))
 (.ite (decide (0 ≤ (0 : Int) ∧ (0 : Int) ≤ (5 : Int) ∧ (5 : Int) ≤ ((List.length y2.2.2.2.2.2.2.1 : Nat) : Int)))
 (.ret ((((List.take (Int.toNat (5 : Int) - Int.toNat (0 : Int)) (List.drop (0 + Int.toNat (0 : Int)) y2.2.2.2.2.2.2.1)), y2.2.2.2.2.2.2.2.1, ()), ()), ((y4.2.1.1, y4.2.1.2.1, ()), (), ())))
 .fail)
 (.ite ((y4.1.1.1 == (1 : Int)))
 (.ite (decide (List.length y2.2.2.2.2.2.2.2.1 + List.length ([((-1 : Int), ([] : List UInt8), ())] : List ((Int × List UInt8 × Unit))) ≤ LIM))
 (.ret (((y2.2.2.2.2.2.2.1, (y2.2.2.2.2.2.2.2.1 ++ ([((-1 : Int), ([] : List UInt8), ())] : List ((Int × List UInt8 × Unit)))), ()), ()), ((y4.2.1.1, y4.2.1.2.1, ()), (), ())))
 .fail)
 (.get (k139_V y2.2.1.1 y4.2.1.1 y4.2.1.2.1 (2 : Int)) fun y5 =>
 .get (iter1 f142_L3 FUEL (((IntKind.i64.wrap ((20 : Int) + y5.1.1.1)), ()), ((), (), y2.2.2.2.2.1, y2.2.2.2.2.2.1, y2.2.2.2.2.2.2.1, y2.2.2.2.2.2.2.2.1, (y2.2.1.1, y5.2.1.1, y5.2.1.2.1, ()), ()))) fun y6 =>
 .ret (((y6.2.2.2.2.2.1, y6.2.2.2.2.2.2.1, ()), ()), ((y6.2.2.2.2.2.2.2.1.2.1, y6.2.2.2.2.2.2.2.1.2.2.1, ()), (), ())))))
 (.ret (((y2.2.2.2.2.2.2.1, y2.2.2.2.2.2.2.2.1, ()), ()), ((y3.2.1.1, y3.2.1.2.1, ()), (), ())))
def f142_A : Nat → Option LoopAnn := fun n => annOf [(0, { head := { t := [.vptr 0 0, .dead, .dead, .dead, .vptr 64000000 0, .vptr 64000001 0, .i .i64, .dead, .dead, .dead, .dead, .dead, .dead, .dead, .dead, .dead, .dead, .dead, .dead, .dead, .dead, .dead, .dead, .dead, .dead, .dead, .dead, .dead, .dead, .dead, .dead, .dead, .dead, .dead, .dead, .dead, .dead, .dead, .dead, .dead, .dead, .dead, .dead, .dead, .dead, .dead, .dead, .dead, .dead, .dead, .dead, .dead, .dead, .dead, .dead, .dead, .dead, .dead, .dead, .dead, .dead, .dead, .dead, .dead, .dead], v := [(0, .var [.ro (.int .u8) (some 1), .i .i64, .i .i64]), (64000000, .var [.srf 64000002, .srf 64000003]), (64000001, .var [.srf 64000004, .srf 64000005]), (64000002, .arr .str), (64000003, .arr (.st (.cons (.int .i64) (.cons .str .nil)))), (64000004, .arr .str), (64000005, .arr (.st (.cons (.int .i64) (.cons .str .nil))))] }, out := { t := [.vptr 0 0, .dead, .dead, .dead, .vptr 64000256 0, .vptr 64000257 0, .dead, .dead, .dead, .dead, .dead, .dead, .dead, .dead, .dead, .dead, .dead, .dead, .dead, .dead, .dead, .dead, .dead, .dead, .dead, .dead, .dead, .dead, .dead, .dead, .dead, .dead, .dead, .dead, .dead, .dead, .dead, .dead, .dead, .dead, .dead, .dead, .dead, .dead, .dead, .dead, .dead, .dead, .dead, .dead, .dead, .dead, .dead, .dead, .dead, .dead, .dead, .dead, .dead, .dead, .dead, .dead, .dead, .dead, .dead], v := [(0, .var [.ro (.int .u8) (some 1), .i .i64, .i .i64]), (64000256, .var [.srf 64000258, .srf 64000259]), (64000257, .var [.srf 64000260, .srf 64000261]), (64000258, .arr .str), (64000259, .arr (.st (.cons (.int .i64) (.cons .str .nil)))), (64000260, .arr .str), (64000261, .arr (.st (.cons (.int .i64) (.cons .str .nil))))] }, ret := none }), (3, { head := { t := [.vptr 0 0, .dead, .dead, .dead, .vptr 64003072 0, .vptr 64003073 0, .dead, .i .i64, .dead, .dead, .dead, .dead, .dead, .dead, .dead, .dead, .dead, .dead, .dead, .dead, .dead, .dead, .dead, .dead, .dead, .dead, .dead, .dead, .dead, .dead, .dead, .dead, .dead, .dead, .dead, .dead, .dead, .dead, .dead, .dead, .dead, .dead, .dead, .dead, .dead, .dead, .dead, .dead, .dead, .dead, .dead, .dead, .dead, .dead, .dead, .dead, .dead, .dead, .dead, .dead, .dead, .dead, .dead, .dead, .dead], v := [(64003072, .var [.srf 64003074, .srf 64003075]), (64003073, .var [.srf 64003076, .srf 64003077]), (64003074, .arr .str), (64003075, .arr (.st (.cons (.int .i64) (.cons .str .nil)))), (64003076, .arr .str), (64003077, .arr (.st (.cons (.int .i64) (.cons .str .nil)))), (0, .var [.ro (.int .u8) (some 1), .i .i64, .i .i64])] }, out := { t := [.vptr 0 0, .dead, .dead, .dead, .vptr 64003328 0, .vptr 64003329 0, .dead, .dead, .dead, .dead, .dead, .dead, .dead, .dead, .dead, .dead, .dead, .dead, .dead, .dead, .dead, .dead, .dead, .dead, .dead, .dead, .dead, .dead, .dead, .dead, .dead, .dead, .dead, .dead, .dead, .dead, .dead, .dead, .dead, .dead, .dead, .dead, .dead, .dead, .dead, .dead, .dead, .dead, .dead, .dead, .dead, .dead, .dead, .dead, .dead, .dead, .dead, .dead, .dead, .dead, .dead, .dead, .dead, .dead, .dead], v := [(64003328, .var [.srf 64003330, .srf 64003331]), (64003329, .var [.srf 64003332, .srf 64003333]), (64003330, .arr .str), (64003331, .arr (.st (.cons (.int .i64) (.cons .str .nil)))), (64003332, .arr .str), (64003333, .arr (.st (.cons (.int .i64) (.cons .str .nil)))), (0, .var [.ro (.int .u8) (some 1), .i .i64, .i .i64])] }, ret := none })] n
def k142_V (a0 : List Int) (a1 : Int) (a2 : Int) (a3 : Int) : Option (((List (List UInt8) × List (Int × List UInt8 × Unit) × Unit) × Unit) × ((Int × Int × Unit) × Unit × Unit)) := (f142_tree a0 a1 a2 a3).eval
def k142 : Con := { f := 142, lend := true, its := [⟨true, false, [.ro (.int .u8), .i .i64, .i .i64]⟩, ⟨false, false, [.i .i64]⟩], lay := [none, none], rs := [⟨false, true, [.own .str, .own (.st (.cons (.int .i64) (.cons .str .nil)))]⟩], F := fun x => .get (k142_V x.1.1 x.1.2.1 x.1.2.2.1 x.2.1.1) fun y => .ret y }
theorem f142_eq (x : itemsD k142.its) : bodyOut (cxOf [k26, k139, k140, k161, k202, k65]) (f142_A) (codeOf Try.f142) k142.its k142.lay Try.f142.ntmps k142.rs [.cell 4 25] x = f142_tree x.1.1 x.1.2.1 x.1.2.2.1 x.2.1.1 := by kernel_rfl
theorem f142_ok (hr : ∀ x : (List Int × Int × Int × Unit) × (Int × Unit) × Unit, itemsWF k142.its x → (f142_tree x.1.1 x.1.2.1 x.1.2.2.1 x.2.1.1).eval = (k142.F x).eval) : k142.Ok Try.prog :=
  con_fn [k26, k139, k140, k161, k202, k65] ⟨k26_ok, k139_ok, k140_ok, k161_ok, k202_ok, k65_ok, trivial⟩ (by kernel_rfl) (codeOf_eq (by kernel_rfl)) (by kernel_rfl) (by kernel_rfl) (by kernel_rfl) f142_eq fun x hw _ hy => (hr x hw).trans hy
theorem k142_ok : k142.Ok Try.prog := f142_ok fun x _ => (eval_get_ret _).symm
theorem disk_tot {b : List Int} {i h n : Int} (hb : b.length ≤ BIG) (hi : 0 ≤ i) (hn : n ≤ 1000) : TotV (k142_V b i h n) fun y => (y.1.1.1.length ≤ 7 ∧ y.1.1.2.1.length ≤ 21) ∧ 0 ≤ y.2.1.1 := by
  unfold k142_V f142_tree
  refine tot_get (below_tot hb hi) fun y hy => tot_get (P := fun x => x.2.1.1 = b ∧ 0 ≤ x.2.1.2.1 ∧ diskOkV x.2.2.2.2.2.2.1 x.2.2.2.2.2.2.2.1 = true)
    (tot_iter1 (fun x => x.2.1.1 = b ∧ 0 ≤ x.1.1 ∧ 0 ≤ x.2.1.2.1 ∧ diskOkV x.2.2.2.2.2.2.1 x.2.2.2.2.2.2.2.1 = true ∧ x.1.1 ≤ 1000) (fun x => x.1.1.toNat) _ (fun x hx => ?_) _ _ ⟨rfl, hy.1.1, hy.2, diskOkV_new, ?_⟩ ?_) fun x hx => ?_
  · obtain ⟨⟨k, _⟩, ⟨b', i, h, _⟩, _, _, r0, s0, r, s, _⟩ := x
    obtain ⟨e1, h1, h2, h3, h4⟩ := hx
    simp only at e1 h1 h2 h3 h4
    subst e1
    unfold f142_L0
    refine tot_ite (fun h5 => ?_) fun _ => tot_ret ⟨rfl, h2, h3⟩
    have h5 : k > 0 := of_decide_eq_true h5
    have w : IntKind.i64.wrap (k - 1) = k - 1 := wrap_id (by omega) (by omega)
    refine tot_get (once_tot hb h2) fun u hu => tot_ite (fun _ => ?_) fun _ => ?_
    · refine tot_get (below_tot hb hu) fun v hv => tot_get (once_tot hb hv.2) fun t ht => tot_get (P := fun z => diskOkV z.1 z.2 = true) ⟨_, doneV_ok h3 _ _, diskOkV_apply _ h3⟩ fun z hz => tot_ret ⟨⟨rfl, ?_, ht, hz, ?_⟩, ?_⟩ <;> (simp only [w]; omega)
    · obtain ⟨r', s', t', e, ok⟩ := putV_ok (a := r) (b := s) (l := [((0 : Int), (([] : Str), ()))]) (by simp; decide) h3
      refine tot_get (write_tot hb hu) fun v hv => tot_get (P := fun z => diskOkV z.1 z.2.1 = true) ?_ fun z hz => tot_ret ⟨⟨rfl, ?_, hv, hz, ?_⟩, ?_⟩
      · obtain ⟨r', s', t', e, ok⟩ := putV_ok (a := r) (b := s) (l := [(v.1.1.1, v.1.1.2.1, ())]) (by simp; decide) h3
        exact ⟨_, e, ok⟩
      all_goals (simp only [w]; omega)
  · show y.1.1.1 ≤ 1000
    by_cases q : 0 < n
    · have := hy.1.2.1 q; omega
    · have := hy.1.2.2 (by omega); omega
  · have : y.1.1.1 ≤ 1000 := by
      by_cases q : 0 < n
      · have := hy.1.2.1 q; omega
      · have := hy.1.2.2 (by omega); omega
    exact Nat.lt_of_le_of_lt (show y.1.1.1.toNat ≤ 1000 by omega) (by decide)
  · obtain ⟨e1, h2, h3⟩ := hx
    obtain ⟨h4, h5, _⟩ := diskOkV_parts h3
    rw [e1]
    refine tot_get (once_tot hb h2) fun u hu => tot_ite (fun _ => ?_) fun _ => tot_ret ⟨⟨by simp only; omega, by simp only; omega⟩, hu⟩
    refine tot_get (below_tot hb hu) fun v hv => tot_ite (fun _ => ?_) fun _ => tot_ite (fun _ => ?_) fun _ => ?_
    · refine tot_t (decide_eq_true (by omega)) (tot_ret ⟨⟨by simp; omega, by simp only; omega⟩, hv.2⟩)
    · refine tot_t (decide_eq_true (by rw [LIM_eq]; simp only [List.length_cons, List.length_nil]; omega)) (tot_ret ⟨⟨by simp only; omega, by simp; omega⟩, hv.2⟩)
    · refine tot_get (below_tot hb hv.2) fun t ht => tot_get (P := fun z => (z.2.2.2.2.2.1.length ≤ 7 ∧ z.2.2.2.2.2.2.1.length ≤ 21) ∧ 0 ≤ z.2.2.2.2.2.2.2.1.2.1)
        (tot_iter1 (fun z => z.1.1 ≤ 21 ∧ (z.2.2.2.2.2.1.length ≤ 7 ∧ z.2.2.2.2.2.2.1.length ≤ 21) ∧ 0 ≤ z.2.2.2.2.2.2.2.1.2.1) (fun z => 21 - z.2.2.2.2.2.2.1.length) _ (fun z hz => ?_) _ _ ⟨?_, ⟨by simp only; omega, by simp only; omega⟩, ht.2⟩ (by simp only; exact Nat.lt_of_le_of_lt (Nat.sub_le _ _) (by decide))) fun z hz => tot_ret hz
      · obtain ⟨⟨n, _⟩, _, _, r0, s0, r, s, ⟨b, i, h, _⟩, _⟩ := z
        obtain ⟨g1, ⟨g2, g3⟩, g4⟩ := hz
        simp only at g1 g2 g3 g4
        unfold f142_L3
        refine tot_ite (fun g5 => ?_) fun _ => tot_ret ⟨⟨g2, g3⟩, g4⟩
        have g5 : (s.length : Int) < n := of_decide_eq_true g5
        refine tot_t (decide_eq_true (by rw [LIM_eq]; simp; omega)) (tot_ret ⟨⟨g1, ⟨g2, by simp; omega⟩, g4⟩, by simp; omega⟩)
      · have := ht.1.1
        have := ht.1.2.1 (by omega)
        show IntKind.i64.wrap _ ≤ 21
        rw [wrap_id (by omega) (by omega)]; omega
def f46_tree (a0 : List Int) : Out (((List (List UInt8) × List (Int × List UInt8 × Unit) × Unit) × (Int × Unit) × Unit) × (Unit × Unit)) :=
 .get (k138_V a0) fun y1 =>
 .get (k139_V y1.1.1.1 y1.1.1.2.1 y1.1.1.2.2.1 (256 : Int)) fun y2 =>
 .get (k139_V y1.1.1.1 y2.2.1.1 y2.2.1.2.1 (256 : Int)) fun y3 =>
 .get (k140_V y1.1.1.1 y3.2.1.1 y3.2.1.2.1 (8 : Int)) fun y4 =>
 .ite y4.1.1.1
 (.get (k141_V y1.1.1.1 y4.2.1.1 y4.2.1.2.1 ([(-1 : Int), (0 : Int), (9223372036854775807 : Int)] : List (Int))) fun y5 =>
 .get (k143_V a0 (25 : Int)) fun y6 =>
 .get (k142_V y1.1.1.1 y5.2.1.1 y5.2.1.2.1 y6.1.1.1) fun y7 =>
 .ret (((y7.1.1.1, y7.1.1.2.1, ()), (y5.1.1.1, ()), ()), ((), ())))
 (.get (k143_V a0 (25 : Int)) fun y8 =>
 .get (k142_V y1.1.1.1 y4.2.1.1 y4.2.1.2.1 y8.1.1.1) fun y9 =>
 .ret (((y9.1.1.1, y9.1.1.2.1, ()), ((IntKind.i64.wrap ((IntKind.i64.wrap (y2.1.1.1 * (257 : Int))) + y3.1.1.1)), ()), ()), ((), ())))
def k46_V (a0 : List Int) : Option (((List (List UInt8) × List (Int × List UInt8 × Unit) × Unit) × (Int × Unit) × Unit) × (Unit × Unit)) := (f46_tree a0).eval
def k46 : Con := { f := 46, lend := true, its := [⟨false, false, [.ro (.int .u8)]⟩], lay := [none], rs := [⟨false, true, [.own .str, .own (.st (.cons (.int .i64) (.cons .str .nil)))]⟩, ⟨false, false, [.i .i64]⟩], F := fun x => .get (k46_V x.1.1) fun y => .ret y }
theorem f46_eq (x : itemsD k46.its) : bodyOut (cxOf [k138, k139, k140, k141, k143, k142]) (fun _ => none) (codeOf Try.f46) k46.its k46.lay Try.f46.ntmps k46.rs [.cell 2 25, .tmp 3] x = f46_tree x.1.1 := by kernel_rfl
theorem f46_ok (hr : ∀ x : (List Int × Unit) × Unit, itemsWF k46.its x → (f46_tree x.1.1).eval = (k46.F x).eval) : k46.Ok Try.prog :=
  con_fn [k138, k139, k140, k141, k143, k142] ⟨k138_ok, k139_ok, k140_ok, k141_ok, k143_ok, k142_ok, trivial⟩ (by kernel_rfl) (codeOf_eq (by kernel_rfl)) (by kernel_rfl) (by kernel_rfl) (by kernel_rfl) f46_eq fun x hw _ hy => (hr x hw).trans hy
theorem k46_ok : k46.Ok Try.prog := f46_ok fun x _ => (eval_get_ret _).symm
theorem drawFall_tot {b : List Int} (hb : b.length ≤ BIG) : TotV (k46_V b) fun y => y.1.1.1.length ≤ 7 ∧ y.1.1.2.1.length ≤ 21 := by
  unfold k46_V f46_tree
  refine tot_get (newCur_tot hb) fun c hc => ?_
  have hb' : c.1.1.1.length ≤ BIG := by rw [hc.1]; exact hb
  have h0 : 0 ≤ c.1.1.2.1 := Int.le_of_eq hc.2.symm
  refine tot_get (below_tot hb' h0) fun y hy => tot_get (below_tot hb' hy.2) fun z hz => tot_get (once_tot hb' hz.2) fun u hu => tot_ite (fun _ => ?_) fun _ => ?_
  · exact tot_get (pick_tot hb' hu (by simp)) fun v hv => tot_get (size_tot hb) fun w hw => tot_get (disk_tot hb' hv.2 (by omega)) fun x hx => tot_ret hx.1
  · exact tot_get (size_tot hb) fun w hw => tot_get (disk_tot hb' hu (by omega)) fun x hx => tot_ret hx.1
abbrev f49_S0 := (List (List UInt8) × List (List UInt8) × Int × Unit) × (Unit)
def f49_L0 (x : f49_S0) : Out (Round f49_S0 ((Unit) × (Unit)) ((Bool × Unit) × (Unit))) :=
 .ite (decide (x.1.2.2.1 < ((List.length x.1.1 : Nat) : Int)))
 (.ite (decide (0 ≤ x.1.2.2.1))
 (.get (nth x.1.1 (Int.toNat x.1.2.2.1)) fun y1 =>
 .ite (decide (0 ≤ x.1.2.2.1))
 (.get (nth x.1.2.1 (Int.toNat x.1.2.2.1)) fun y2 =>
 .ite (y1 != y2)
 (.ret (.ret ((false, ()), ())))
 (.ret (.again ((x.1.1, x.1.2.1, (IntKind.i64.wrap (x.1.2.2.1 + (1 : Int))), ()), ()))))
 .fail)
 .fail)
 (.ret (.out ((), ())))
def f49_tree (a0 : List (List UInt8)) (a1 : List (List UInt8)) : Out (((Bool × Unit) × Unit) × (Unit × Unit × Unit)) :=
 .ite ((((List.length a0 : Nat) : Int) != ((List.length a1 : Nat) : Int)))
 (.ret (((false, ()), ()), ((), (), ())))
 (.get (iter f49_L0 FUEL ((a0, a1, (0 : Int), ()), ())) fun y1 => .alt y1 (fun y2 =>
 .ret (((true, ()), ()), ((), (), ()))) (fun y3 =>
 .ret (((y3.1.1, ()), ()), ((), (), ()))))
def f49_A : Nat → Option LoopAnn := fun n => annOf [(0, { head := { t := [.ro .str (some 0), .ro .str (some 1), .dead, .dead, .dead, .i .i64, .dead, .dead, .dead, .dead, .dead, .dead, .dead, .dead, .dead, .dead, .dead, .dead, .dead, .dead, .dead, .dead, .dead, .dead, .dead, .dead], v := [] }, out := { t := [.dead, .dead, .dead, .dead, .dead, .dead, .dead, .dead, .dead, .dead, .dead, .dead, .dead, .dead, .dead, .dead, .dead, .dead, .dead, .dead, .dead, .dead, .dead, .dead, .dead, .dead], v := [] }, ret := some { t := [.dead, .dead, .dead, .dead, .b, .dead, .dead, .dead, .dead, .dead, .dead, .dead, .dead, .dead, .dead, .dead, .dead, .dead, .dead, .dead, .dead, .dead, .dead, .dead, .dead, .dead], v := [] } })] n
def k49 : Con := { f := 49, lend := true, its := [⟨false, false, [.ro .str]⟩, ⟨false, false, [.ro .str]⟩], lay := [none, none], rs := [⟨false, false, [.b]⟩], F := fun x => .ret ((((eqStrsV x.1.1 x.2.1.1), ()), ()), ((), (), ())) }
theorem f49_eq (x : itemsD k49.its) : bodyOut (cxOf []) (f49_A) (codeOf Try.f49) k49.its k49.lay Try.f49.ntmps k49.rs [.tmp 4] x = f49_tree x.1.1 x.2.1.1 := by kernel_rfl
theorem f49_ok (hr : ∀ x : (List (List UInt8) × Unit) × (List (List UInt8) × Unit) × Unit, itemsWF k49.its x → (f49_tree x.1.1 x.2.1.1).eval = (k49.F x).eval) : k49.Ok Try.prog :=
  con_fn [] trivial (by kernel_rfl) (codeOf_eq (by kernel_rfl)) (by kernel_rfl) (by kernel_rfl) (by kernel_rfl) f49_eq fun x hw _ hy => (hr x hw).trans hy
theorem k49_ok : k49.Ok Try.prog := by
  refine f49_ok fun x hw => ?_
  obtain ⟨⟨a, _⟩, ⟨b, _⟩, _⟩ := x
  have ha : a.length ≤ BIG := hw.1.1.1
  show (f49_tree a b).eval = some (((eqStrsV a b, ()), ()), ((), ((), ())))
  unfold f49_tree
  by_cases hl : a.length = b.length
  · rw [eval_ite_f (len_eq hl)]
    have := eq_loop (f := f49_L0) a b (fun i => ((a, (b, (((i : Nat) : Int), ()))), ())) (y := ((), ())) (z := ((false, ()), ())) hl ha
      (fun i hi hi' he => by
        have := wrap_succ (i := i) (by omega)
        simp [f49_L0, Out.eval, hi, hi', he, this])
      (fun i hi hi' he => by simp [f49_L0, Out.eval, hi, hi', he, cond_eq_ite])
      (by simp [f49_L0, Out.eval])
    refine (eval_get_some this).trans ?_
    unfold eqStrsV
    by_cases hab : a = b
    · simp only [if_pos hab, decide_eq_true hab]; rfl
    · simp only [if_neg hab, decide_eq_false hab]; rfl
  · rw [eval_ite_t (len_ne hl)]
    have : eqStrsV a b = false := decide_eq_false fun e => hl (by rw [e])
    rw [this]
    rfl
def f45_tree (a0 : List Int) : Out (((Bool × Unit) × Unit) × (Unit × Unit)) :=
 .ret ((((decide (((List.length a0 : Nat) : Int) > (1048576 : Int))), ()), ()), ((), ()))
def bigV (c : List Int) : Bool := decide (((c.length : Nat) : Int) > 1048576)
def k45 : Con := { f := 45, lend := true, its := [⟨false, false, [.ro (.int .u8)]⟩], lay := [none], rs := [⟨false, false, [.b]⟩], F := fun x => .ret ((((bigV x.1.1), ()), ()), ((), ())) }
theorem f45_eq (x : itemsD k45.its) : bodyOut (cxOf []) (fun _ => none) (codeOf Try.f45) k45.its k45.lay Try.f45.ntmps k45.rs [.tmp 2] x = f45_tree x.1.1 := by kernel_rfl
theorem f45_ok (hr : ∀ x : (List Int × Unit) × Unit, itemsWF k45.its x → (f45_tree x.1.1).eval = (k45.F x).eval) : k45.Ok Try.prog :=
  con_fn [] trivial (by kernel_rfl) (codeOf_eq (by kernel_rfl)) (by kernel_rfl) (by kernel_rfl) (by kernel_rfl) f45_eq fun x hw _ hy => (hr x hw).trans hy
theorem k45_ok : k45.Ok Try.prog := f45_ok fun _ _ => rfl
theorem bitE_zero (i : Nat) : bitE i 0 = false := by
  unfold bitE
  rw [Int.zero_fdiv]
  rfl
theorem applyV_none {p : Nat → Bool} (h : ∀ i, p i = false) (a : List Str) (b : List WriteD) : applyV p a b = a := by
  unfold applyV
  have : ∀ (b : List WriteD) (s : List Str × Nat), (b.foldl (stepD p) s).1 = s.1 := by
    intro b
    induction b with
    | nil => exact fun _ => rfl
    | cons x r ih =>
      intro s
      rw [List.foldl_cons, ih]
      unfold stepD
      rw [h, if_neg (by decide)]
  exact this b (a, 0)
theorem foldl_pair {α β γ : Type} (f : α → γ → α) (g : β → γ → β) : ∀ (l : List γ) (a : α) (b : β), l.foldl (fun (s : α × β) x => (f s.1 x, g s.2 x)) (a, b) = (l.foldl f a, l.foldl g b)
  | [], _, _ => rfl
  | x :: r, a, b => foldl_pair f g r (f a x) (g b x)
theorem eqStrsV_self (a : List Str) : eqStrsV a a = true := decide_eq_true rfl

end Go.Proofs.Ytjcinikojcfebaa.Dm
