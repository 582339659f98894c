/- Functions of the program, and what they compute. -/
import Derived.Test.YtcinpcncclhejaaGreatA3
namespace Go.Proofs.YtcinpcncclhejaaGreat.Dm
open Go Go.ChangeShapes Go.WideShapes Go.ChangeAt Go.RowKit

/-! ## Numbers, bit by bit -/
theorem ofInt_nat (a : Nat) : BitVec.ofInt 64 ((a : Nat) : Int) = BitVec.ofNat 64 a := by simp
theorem wrap_nat {a : Nat} (h : a ≤ BIG) : IntKind.i64.wrap ((a : Nat) : Int) = ((a : Nat) : Int) := by
  unfold BIG at h
  exact wrap_id (by omega) (by omega)
theorem bit_and {a b : Nat} (ha : a ≤ BIG) (hb : b ≤ BIG) : IntKind.i64.wrap (((BitVec.ofInt (IntKind.bits .i64) ((a : Nat) : Int) &&& BitVec.ofInt (IntKind.bits .i64) ((b : Nat) : Int)).toNat : Nat) : Int) = ((a &&& b : Nat) : Int) := by
  show IntKind.i64.wrap (((BitVec.ofInt 64 ((a : Nat) : Int) &&& BitVec.ofInt 64 ((b : Nat) : Int)).toNat : Nat) : Int) = ((a &&& b : Nat) : Int)
  rw [ofInt_nat, ofInt_nat, BitVec.toNat_and, BitVec.toNat_ofNat, BitVec.toNat_ofNat, Nat.mod_eq_of_lt (Nat.lt_of_le_of_lt ha (by decide)), Nat.mod_eq_of_lt (Nat.lt_of_le_of_lt hb (by decide))]
  exact wrap_nat (Nat.le_trans Nat.and_le_left ha)
theorem bit_or {a b : Nat} (ha : a ≤ BIG) (hb : b ≤ BIG) : IntKind.i64.wrap (((BitVec.ofInt (IntKind.bits .i64) ((a : Nat) : Int) ||| BitVec.ofInt (IntKind.bits .i64) ((b : Nat) : Int)).toNat : Nat) : Int) = ((a ||| b : Nat) : Int) := by
  show IntKind.i64.wrap (((BitVec.ofInt 64 ((a : Nat) : Int) ||| BitVec.ofInt 64 ((b : Nat) : Int)).toNat : Nat) : Int) = ((a ||| b : Nat) : Int)
  rw [ofInt_nat, ofInt_nat, BitVec.toNat_or, BitVec.toNat_ofNat, BitVec.toNat_ofNat, Nat.mod_eq_of_lt (Nat.lt_of_le_of_lt ha (by decide)), Nat.mod_eq_of_lt (Nat.lt_of_le_of_lt hb (by decide))]
  have : (a ||| b) < 2 ^ 63 := Nat.or_lt_two_pow (by unfold BIG at ha; omega) (by unfold BIG at hb; omega)
  exact wrap_nat (by unfold BIG; omega)
theorem bit_xor {a b : Nat} (ha : a ≤ BIG) (hb : b ≤ BIG) : IntKind.i64.wrap (((BitVec.ofInt (IntKind.bits .i64) ((a : Nat) : Int) ^^^ BitVec.ofInt (IntKind.bits .i64) ((b : Nat) : Int)).toNat : Nat) : Int) = ((a ^^^ b : Nat) : Int) := by
  show IntKind.i64.wrap (((BitVec.ofInt 64 ((a : Nat) : Int) ^^^ BitVec.ofInt 64 ((b : Nat) : Int)).toNat : Nat) : Int) = ((a ^^^ b : Nat) : Int)
  rw [ofInt_nat, ofInt_nat, BitVec.toNat_xor, BitVec.toNat_ofNat, BitVec.toNat_ofNat, Nat.mod_eq_of_lt (Nat.lt_of_le_of_lt ha (by decide)), Nat.mod_eq_of_lt (Nat.lt_of_le_of_lt hb (by decide))]
  have : (a ^^^ b) < 2 ^ 63 := Nat.xor_lt_two_pow (by unfold BIG at ha; omega) (by unfold BIG at hb; omega)
  exact wrap_nat (by unfold BIG; omega)
theorem tmod_n (a b : Nat) : Int.tmod ((a : Nat) : Int) ((b : Nat) : Int) = ((a % b : Nat) : Int) := (Int.ofNat_tmod a b).symm
theorem tdiv_n (a b : Nat) : Int.tdiv ((a : Nat) : Int) ((b : Nat) : Int) = ((a / b : Nat) : Int) := (Int.ofNat_tdiv a b).symm
theorem fdiv_n (a b : Nat) : Int.fdiv ((a : Nat) : Int) ((b : Nat) : Int) = ((a / b : Nat) : Int) := by rw [Int.fdiv_eq_ediv_of_nonneg _ (by omega)]; rfl
theorem u8_n (a : Nat) : IntKind.u8.wrap ((a : Nat) : Int) = (((UInt8.ofNat a).toNat : Nat) : Int) := by
  rw [IntKind.wrap_u8, UInt8.toNat_ofNat']; omega
theorem u8_back (b : UInt8) : UInt8.ofNat (Int.toNat ((b.toNat : Nat) : Int)) = b := by simp
theorem u8s_back (l : Str) : (l.map fun b => ((b.toNat : Nat) : Int)).map (fun n : Int => UInt8.ofNat n.toNat) = l := by
  rw [List.map_map]
  exact (List.map_congr_left fun b _ => u8_back b).trans (List.map_id' l)
theorem iter1_again {α β : Type} {f : α → Out (Round α β Empty)} {n : Nat} {x x' : α} (h : (f x).eval = some (.again x')) : iter1 f (n + 1) x = iter1 f n x' := by unfold iter1; rw [iter_again h]
theorem iter1_out' {α β : Type} {f : α → Out (Round α β Empty)} {n : Nat} {x : α} {y : β} (h : (f x).eval = some (.out y)) (hn : 0 < n) : iter1 f n x = some y := by unfold iter1; rw [iter_out' h hn]; rfl

/-- Something carried along a list. -/
theorem foldl_loop {α β σ δ : Type} {f : σ → Out (Round σ β Empty)} (P : δ → Nat → Prop) (g : δ → α → δ) (a : List α) (S : δ → Nat → σ) (y : δ → β)
    (hs : ∀ i (hi : i < a.length) l, P l i → (f (S l i)).eval = some (.again (S (g l a[i]) (i + 1)))) (hy : ∀ l, P l a.length → (f (S l a.length)).eval = some (.out (y l)))
    (hP : ∀ i (hi : i < a.length) l, P l i → P (g l a[i]) (i + 1)) (ha : a.length ≤ BIG) (l : δ) (hl : P l 0) : iter1 f FUEL (S l 0) = some (y (a.foldl g l)) := by
  have step : ∀ i (hi : i < a.length), (a.take (i + 1)).foldl g l = g ((a.take i).foldl g l) a[i] := fun i hi => by
    rw [List.take_succ_eq_append_getElem hi, List.foldl_append]; rfl
  have inv : ∀ i, i ≤ a.length → P ((a.take i).foldl g l) i := by
    intro i
    induction i with
    | zero => intro _; simpa using hl
    | succ i ih => intro hi; rw [step i (by omega)]; exact hP i (by omega) _ (ih (by omega))
  have h := iter1_out (f := f) (fun i => S ((a.take i).foldl g l) i) a.length (y := y (a.foldl g l)) (lt_fuel ha)
    (fun i hi => by rw [step i hi]; exact hs i hi _ (inv i (by omega)))
    (by
      have := hy _ (inv a.length (Nat.le_refl _))
      rw [List.take_length] at this ⊢
      exact this)
  simpa using h
/-- A text made piece by piece. -/
theorem flat_loop {α β σ γ : Type} {f : σ → Out (Round σ β Empty)} (h : α → List γ) (a : List α) (S : List γ → Nat → σ) (y : List γ → β) (m : Nat)
    (hs : ∀ i (hi : i < a.length) s, s.length + (h a[i]).length ≤ m → (f (S s i)).eval = some (.again (S (s ++ h a[i]) (i + 1)))) (hy : ∀ s, (f (S s a.length)).eval = some (.out (y s)))
    (ha : a.length ≤ BIG) (s : List γ) (hl : s.length + (a.flatMap h).length ≤ m) : iter1 f FUEL (S s 0) = some (y (s ++ a.flatMap h)) := by
  have hd : ∀ i (hi : i < a.length), (a.drop i).flatMap h = h a[i] ++ (a.drop (i + 1)).flatMap h := fun i hi => by rw [List.drop_eq_getElem_cons hi, List.flatMap_cons]
  have := foldl_loop (f := f) (fun s i => s.length + ((a.drop i).flatMap h).length ≤ m) (fun s x => s ++ h x) a S y
    (fun i hi s hp => hs i hi s (by rw [hd i hi, List.length_append] at hp; omega)) (fun s _ => hy s)
    (fun i hi s hp => by rw [hd i hi, List.length_append] at hp; rw [List.length_append]; omega) ha s (by simpa using hl)
  rw [this]
  congr 2
  clear this hl hd hs hy ha
  induction a generalizing s with
  | nil => simp
  | cons x r ih => rw [List.foldl_cons, ih, List.flatMap_cons, List.append_assoc]

/-! ## Numbers as texts -/
def varB (n : Nat) : Str := if n < 128 then [UInt8.ofNat n] else UInt8.ofNat (128 + n % 128) :: varB (n / 128)
termination_by n
decreasing_by omega
theorem varB_lt {n : Nat} (h : n < 128) : varB n = [UInt8.ofNat n] := by rw [varB, if_pos h]
theorem varB_ge {n : Nat} (h : ¬ n < 128) : varB n = UInt8.ofNat (128 + n % 128) :: varB (n / 128) := by rw [varB, if_neg h]
theorem varB_len : ∀ {k n : Nat}, n < 128 ^ (k + 1) → (varB n).length ≤ k + 1
  | 0, n, h => by rw [varB_lt (by omega)]; simp
  | k + 1, n, h => by
    by_cases hn : n < 128
    · rw [varB_lt hn]; simp
    · rw [varB_ge hn]
      have := varB_len (k := k) (n := n / 128) (by rw [Nat.pow_succ] at h; omega)
      simp only [List.length_cons]; omega
theorem varB_len7 {n : Nat} (h : n < 562949953421312) : (varB n).length ≤ 7 := varB_len (k := 6) h
def varV (n : Int) : Str := if inV n 0 562949953421311 = true then varB n.toNat else []
theorem varV_len (n : Int) : (varV n).length ≤ 7 := by
  unfold varV
  split
  · rename_i h
    have : 0 ≤ n ∧ n ≤ 562949953421311 := by simpa [inV] using h
    exact varB_len7 (by omega)
  · simp
/-- A loop that turns a number into its bytes, the last one outside. -/
theorem var_loop {f : ((Int) × Unit) × ((List Int) × Unit) → Out (Round (((Int) × Unit) × ((List Int) × Unit)) (((Int) × Unit) × ((List Int) × Unit)) Empty)}
    (h1 : ∀ (n : Nat) (l : List Int), 128 ≤ n → n < 562949953421312 → l.length ≤ 7 → (f ((((n : Nat) : Int), ()), (l, ()))).eval = some (.again ((((n / 128 : Nat) : Int), ()), (l ++ [(((UInt8.ofNat (128 + n % 128)).toNat : Nat) : Int)], ()))))
    (h2 : ∀ (n : Nat) (l : List Int), n < 128 → (f ((((n : Nat) : Int), ()), (l, ()))).eval = some (.out ((((n : Nat) : Int), ()), (l, ())))) :
    ∀ (k n : Nat) (l : List Int), n < k → n < 562949953421312 → l.length + (varB n).length ≤ 7 →
      ∃ (l' : List Int) (m : Nat), iter1 f k ((((n : Nat) : Int), ()), (l, ())) = some ((((m : Nat) : Int), ()), (l', ())) ∧ l' ++ [(((UInt8.ofNat m).toNat : Nat) : Int)] = l ++ (varB n).map fun b => ((b.toNat : Nat) : Int)
  | 0, n, l, hk, _, _ => absurd hk (Nat.not_lt_zero n)
  | k + 1, n, l, hk, hm, hl => by
    by_cases hn : n < 128
    · exact ⟨l, n, iter1_out' (h2 n l hn) (by omega), by rw [varB_lt hn]; rfl⟩
    · rw [varB_ge hn] at hl ⊢
      simp only [List.length_cons] at hl
      obtain ⟨l', m, e1, e2⟩ := var_loop h1 h2 k (n / 128) (l ++ [(((UInt8.ofNat (128 + n % 128)).toNat : Nat) : Int)]) (by omega) (by omega) (by simp; omega)
      exact ⟨l', m, by rw [iter1_again (h1 n l (by omega) hm (by omega)), e1], by rw [e2]; simp⟩
theorem var_end {n : Nat} {l' : List Int} {m : Nat} (e : l' ++ [(((UInt8.ofNat m).toNat : Nat) : Int)] = [] ++ (varB n).map fun b => ((b.toNat : Nat) : Int)) : (l' ++ [IntKind.u8.wrap ((m : Nat) : Int)]).map (fun n : Int => UInt8.ofNat n.toNat) = varB n := by
  rw [u8_n, e, List.nil_append, u8s_back]
theorem LIM_eq : LIM = 68719476736 := rfl
abbrev f115_S0 := (Int × Unit) × (List (Int) × Unit)
def f115_L0 (x : f115_S0) : Out (Round f115_S0 ((Int × Unit) × (List (Int) × Unit)) Empty) :=
 .ite (decide (x.1.1 ≥ (128 : Int)))
 (.ite ((128 : Int) == 0)
 .fail
 (.ite (decide (List.length x.2.1 + List.length ([(IntKind.u8.wrap (IntKind.i64.wrap ((128 : Int) + (Int.tmod x.1.1 (128 : Int)))))] : List (Int)) ≤ LIM))
 (.ite ((128 : Int) == 0)
 .fail
 (.ret (.again (((IntKind.i64.wrap (Int.tdiv x.1.1 (128 : Int))), ()), ((x.2.1 ++ ([(IntKind.u8.wrap (IntKind.i64.wrap ((128 : Int) + (Int.tmod x.1.1 (128 : Int)))))] : List (Int))), ())))))
 .fail))
 (.ret (.out ((x.1.1, ()), (x.2.1, ()))))
def f115_tree (a0 : Int) : Out (((List UInt8 × Unit) × Unit) × (Unit × Unit)) :=
 .ite (!(inV a0 (0 : Int) (562949953421311 : Int)))
 (.ret (((([] : List UInt8), ()), ()), ((), ())))
 (.get (iter1 f115_L0 FUEL ((a0, ()), (([] : List (Int)), ()))) fun y1 =>
 .ite (decide (List.length y1.2.1 + List.length ([(IntKind.u8.wrap y1.1.1)] : List (Int)) ≤ LIM))
 (.ret ((((List.map (fun n : Int => UInt8.ofNat n.toNat) (y1.2.1 ++ ([(IntKind.u8.wrap y1.1.1)] : List (Int)))), ()), ()), ((), ())))
 .fail)
def f115_A : Nat → Option LoopAnn := fun n => annOf [(0, { head := { t := [.i .i64, .dead, .dead, .srf 64000000] ++ dd 21, v := [(64000000, .arr (.int .u8))] }, out := { t := [.i .i64, .dead, .dead, .srf 64000256] ++ dd 21, v := [(64000256, .arr (.int .u8))] }, ret := none })] n
def k115 : Con := { f := 115, lend := true, its := [⟨false, false, [.i .i64]⟩], lay := [none], rs := [⟨false, false, [.s]⟩], F := fun x => .ret ((((varV x.1.1), ()), ()), ((), ())) }
theorem f115_eq (x : itemsD k115.its) : bodyOut (cxOf [k82]) (f115_A) (codeOf Tryz.f115) k115.its k115.lay Tryz.f115.ntmps k115.rs [.tmp 2] x = f115_tree x.1.1 := by kernel_rfl
theorem f115_ok (hr : ∀ x : (Int × Unit) × Unit, itemsWF k115.its x → (f115_tree x.1.1).eval = (k115.F x).eval) : k115.Ok Tryz.prog :=
  con_fn [k82] ⟨k82_ok, trivial⟩ (by kernel_rfl) (codeOf_eq (by kernel_rfl)) (by kernel_rfl) (by kernel_rfl) (by kernel_rfl) f115_eq fun x hw _ hy => (hr x hw).trans hy
theorem k115_ok : k115.Ok Tryz.prog := by
  refine f115_ok fun x _ => ?_
  obtain ⟨⟨n, _⟩, _⟩ := x
  show (f115_tree n).eval = some (((varV n, ()), ()), ((), ()))
  unfold f115_tree varV
  by_cases h : inV n 0 562949953421311 = true
  · rw [eval_ite_f (by simp [h]), if_pos h]
    have hb : 0 ≤ n ∧ n ≤ 562949953421311 := by simpa [inV] using h
    obtain ⟨n, rfl⟩ := Int.eq_ofNat_of_zero_le hb.1
    have hn : n < 562949953421312 := by omega
    obtain ⟨l', m, e1, e2⟩ := var_loop (f := f115_L0) (fun n l h1 h2 h3 => by
        have w1 : IntKind.i64.wrap (Int.tdiv ((n : Nat) : Int) (128 : Int)) = ((n / 128 : Nat) : Int) := (congrArg _ (tdiv_n n 128)).trans (wrap_nat (by unfold BIG; omega))
        have w2 : IntKind.u8.wrap (IntKind.i64.wrap ((128 : Int) + (Int.tmod ((n : Nat) : Int) (128 : Int)))) = (((UInt8.ofNat (128 + n % 128)).toNat : Nat) : Int) := by
          have : (128 : Int) + (Int.tmod ((n : Nat) : Int) (128 : Int)) = ((128 + n % 128 : Nat) : Int) := by rw [Int.natCast_add]; exact congrArg _ (tmod_n n 128)
          rw [this, wrap_nat (by unfold BIG; omega), u8_n]
        have w3 : decide (((n : Nat) : Int) ≥ (128 : Int)) = true := decide_eq_true (by omega)
        have w4 : decide (List.length l + 1 ≤ LIM) = true := decide_eq_true (by rw [LIM_eq]; omega)
        simp only [f115_L0, Out.eval, w1, w2, w3, List.length_cons, List.length_nil, Nat.zero_add, w4]
        rfl)
      (fun n l h1 => by
        have w3 : decide (((n : Nat) : Int) ≥ (128 : Int)) = false := decide_eq_false (by omega)
        simp only [f115_L0, Out.eval, w3]
        rfl) FUEL n [] (Nat.lt_of_lt_of_le hn (by decide)) hn (by simpa using varB_len7 hn)
    have hl : l'.length + 1 ≤ 7 := by
      have := congrArg List.length e2
      simp at this
      have := varB_len7 hn
      omega
    refine (eval_get_some e1).trans ?_
    rw [eval_ite_t (decide_eq_true (by rw [LIM_eq]; simp; omega))]
    simp only [Out.eval, var_end e2]
    rfl
  · rw [eval_ite_t (by simp [h]), if_neg h]; rfl
abbrev f121_S0 := (Int × Unit) × (List (Int) × Unit)
def f121_L0 (x : f121_S0) : Out (Round f121_S0 ((Int × Unit) × (List (Int) × Unit)) Empty) :=
 .ite (decide (x.1.1 > (127 : Int)))
 (.ite (decide (List.length x.2.1 + List.length ([(IntKind.u8.wrap (IntKind.i64.wrap (((BitVec.ofInt (IntKind.bits IntKind.i64) (IntKind.i64.wrap (((BitVec.ofInt (IntKind.bits IntKind.i64) x.1.1 &&& BitVec.ofInt (IntKind.bits IntKind.i64) (127 : Int)).toNat : Int))) ||| BitVec.ofInt (IntKind.bits IntKind.i64) (128 : Int)).toNat : Int))))] : List (Int)) ≤ LIM))
 (.ite (decide ((7 : Int) < 0))
 .fail
 (.ret (.again (((Int.fdiv x.1.1 (2 ^ (min (Int.toNat (7 : Int)) (IntKind.bits IntKind.i64)))), ()), ((x.2.1 ++ ([(IntKind.u8.wrap (IntKind.i64.wrap (((BitVec.ofInt (IntKind.bits IntKind.i64) (IntKind.i64.wrap (((BitVec.ofInt (IntKind.bits IntKind.i64) x.1.1 &&& BitVec.ofInt (IntKind.bits IntKind.i64) (127 : Int)).toNat : Int))) ||| BitVec.ofInt (IntKind.bits IntKind.i64) (128 : Int)).toNat : Int))))] : List (Int))), ())))))
 .fail)
 (.ret (.out ((x.1.1, ()), (x.2.1, ()))))
def f121_tree (a0 : Int) : Out (((List UInt8 × Unit) × Unit) × (Unit × Unit)) :=
 .ite (!(inV a0 (0 : Int) (562949953421311 : Int)))
 (.ret (((([] : List UInt8), ()), ()), ((), ())))
 (.get (iter1 f121_L0 FUEL ((a0, ()), (([] : List (Int)), ()))) fun y1 =>
 .ite (decide (List.length y1.2.1 + List.length ([(IntKind.u8.wrap y1.1.1)] : List (Int)) ≤ LIM))
 (.ret ((((List.map (fun n : Int => UInt8.ofNat n.toNat) (y1.2.1 ++ ([(IntKind.u8.wrap y1.1.1)] : List (Int)))), ()), ()), ((), ())))
 .fail)
def f121_A : Nat → Option LoopAnn := fun n => annOf [(0, { head := { t := [.i .i64, .dead, .dead, .srf 64000000] ++ dd 21, v := [(64000000, .arr (.int .u8))] }, out := { t := [.i .i64, .dead, .dead, .srf 64000256] ++ dd 21, v := [(64000256, .arr (.int .u8))] }, ret := none })] n
def k121 : Con := { f := 121, lend := true, its := [⟨false, false, [.i .i64]⟩], lay := [none], rs := [⟨false, false, [.s]⟩], F := fun x => .ret ((((varV x.1.1), ()), ()), ((), ())) }
theorem f121_eq (x : itemsD k121.its) : bodyOut (cxOf [k96]) (f121_A) (codeOf Tryz.f121) k121.its k121.lay Tryz.f121.ntmps k121.rs [.tmp 2] x = f121_tree x.1.1 := by kernel_rfl
theorem f121_ok (hr : ∀ x : (Int × Unit) × Unit, itemsWF k121.its x → (f121_tree x.1.1).eval = (k121.F x).eval) : k121.Ok Tryz.prog :=
  con_fn [k96] ⟨k96_ok, trivial⟩ (by kernel_rfl) (codeOf_eq (by kernel_rfl)) (by kernel_rfl) (by kernel_rfl) (by kernel_rfl) f121_eq fun x hw _ hy => (hr x hw).trans hy
theorem and127 (n : Nat) : n &&& 127 = n % 128 := Nat.and_two_pow_sub_one_eq_mod n 7
theorem or128 {n : Nat} (h : n < 128) : n ||| 128 = 128 + n := by
  rw [Nat.or_comm]; exact (Nat.two_pow_add_eq_or_of_lt (i := 7) h 1).symm
theorem shr_n (n k : Nat) (hk : k ≤ 64) : Int.fdiv ((n : Nat) : Int) (2 ^ (min (Int.toNat ((k : Nat) : Int)) (IntKind.bits IntKind.i64))) = ((n / 2 ^ k : Nat) : Int) := by
  have : min (Int.toNat ((k : Nat) : Int)) (IntKind.bits IntKind.i64) = k := by show min k 64 = k; omega
  rw [this]
  have e : ((2 : Int) ^ k) = ((2 ^ k : Nat) : Int) := by simp
  rw [e, fdiv_n]
theorem k121_ok : k121.Ok Tryz.prog := by
  refine f121_ok fun x _ => ?_
  obtain ⟨⟨n, _⟩, _⟩ := x
  show (f121_tree n).eval = some (((varV n, ()), ()), ((), ()))
  unfold f121_tree varV
  by_cases h : inV n 0 562949953421311 = true
  · rw [eval_ite_f (by simp [h]), if_pos h]
    have hb : 0 ≤ n ∧ n ≤ 562949953421311 := by simpa [inV] using h
    obtain ⟨n, rfl⟩ := Int.eq_ofNat_of_zero_le hb.1
    have hn : n < 562949953421312 := by omega
    obtain ⟨l', m, e1, e2⟩ := var_loop (f := f121_L0) (fun n l h1 h2 h3 => by
        have w1 : Int.fdiv ((n : Nat) : Int) (2 ^ (min (Int.toNat (7 : Int)) (IntKind.bits IntKind.i64))) = ((n / 128 : Nat) : Int) := shr_n n 7 (by decide)
        have w0 : IntKind.i64.wrap (((BitVec.ofInt (IntKind.bits IntKind.i64) ((n : Nat) : Int) &&& BitVec.ofInt (IntKind.bits IntKind.i64) (127 : Int)).toNat : Nat) : Int) = ((n % 128 : Nat) : Int) := (bit_and (a := n) (b := 127) (by unfold BIG; omega) (by decide)).trans (by rw [and127])
        have w2 : IntKind.u8.wrap (IntKind.i64.wrap (((BitVec.ofInt (IntKind.bits IntKind.i64) ((n % 128 : Nat) : Int) ||| BitVec.ofInt (IntKind.bits IntKind.i64) (128 : Int)).toNat : Nat) : Int)) = (((UInt8.ofNat (128 + n % 128)).toNat : Nat) : Int) := by
          rw [← u8_n, ← or128 (n := n % 128) (by omega)]
          exact congrArg _ (bit_or (a := n % 128) (b := 128) (by unfold BIG; omega) (by decide))
        have w3 : decide (((n : Nat) : Int) > (127 : Int)) = true := decide_eq_true (by omega)
        have w4 : decide (List.length l + 1 ≤ LIM) = true := decide_eq_true (by rw [LIM_eq]; omega)
        simp only [f121_L0, Out.eval, w0, w1, w2, w3, List.length_cons, List.length_nil, Nat.zero_add, w4]
        rfl)
      (fun n l h1 => by
        have w3 : decide (((n : Nat) : Int) > (127 : Int)) = false := decide_eq_false (by omega)
        simp only [f121_L0, Out.eval, w3]
        rfl) FUEL n [] (Nat.lt_of_lt_of_le hn (by decide)) hn (by simpa using varB_len7 hn)
    have hl : l'.length + 1 ≤ 7 := by
      have := congrArg List.length e2
      simp at this
      have := varB_len7 hn
      omega
    refine (eval_get_some e1).trans ?_
    rw [eval_ite_t (decide_eq_true (by rw [LIM_eq]; simp; omega))]
    simp only [Out.eval, var_end e2]
    rfl
  · rw [eval_ite_t (by simp [h]), if_neg h]; rfl

abbrev f76_S0 := (Int × Int × List UInt8 × Int × Unit) × (Unit)
abbrev f136_S0 := (Int × Int × Unit) × (List (Int) × Unit)
/-! ## A sum of texts -/
def crcBit (c : Nat) : Nat := if c % 2 = 1 then c / 2 ^^^ 2197175160 else c / 2
def crcBits (c : Nat) : Nat → Nat
  | 0 => c
  | k + 1 => crcBit (crcBits c k)
def crcByte (c : Nat) (b : UInt8) : Nat := crcBits (c ^^^ b.toNat) 8
def crcN (s : Str) : Nat := s.foldl crcByte 4294967295
def crcV (s : Str) : Int := ((4294967295 - crcN s : Nat) : Int)
theorem crcBit_lt {c : Nat} (h : c < 4294967296) : crcBit c < 4294967296 := by
  unfold crcBit
  split
  · exact Nat.xor_lt_two_pow (n := 32) (by omega) (by decide)
  · omega
theorem crcBits_lt {c : Nat} (h : c < 4294967296) : ∀ k, crcBits c k < 4294967296
  | 0 => h
  | k + 1 => crcBit_lt (crcBits_lt h k)
theorem crcXor_lt {c : Nat} {b : UInt8} (h : c < 4294967296) : c ^^^ b.toNat < 4294967296 := Nat.xor_lt_two_pow (n := 32) h (by have := b.toNat_lt; omega)
theorem crcByte_lt {c : Nat} {b : UInt8} (h : c < 4294967296) : crcByte c b < 4294967296 := crcBits_lt (crcXor_lt h) 8
theorem crcN_lt (s : Str) : crcN s < 4294967296 := by
  unfold crcN
  have : ∀ (s : Str) (c : Nat), c < 4294967296 → s.foldl crcByte c < 4294967296 := by
    intro s
    induction s with
    | nil => exact fun _ h => h
    | cons b r ih => exact fun c h => ih _ (crcByte_lt h)
  exact this s _ (by decide)
theorem byte_wrap (b : UInt8) : IntKind.i64.wrap ((b.toNat : Nat) : Int) = ((b.toNat : Nat) : Int) := wrap_nat (by have := b.toNat_lt; unfold BIG; omega)
abbrev f57_S2 := (List UInt8 × Int × Int × Int × Unit) × (Unit)
def f57_L2 (x : f57_S2) : Out (Round f57_S2 ((List UInt8 × Int × Int × Unit) × (Unit)) Empty) :=
 .ite (decide (x.1.2.2.2.1 < (8 : Int)))
 (.ite ((2 : Int) == 0)
 .fail
 (.ite ((2 : Int) == 0)
 .fail
 (.ite (((Int.tmod x.1.2.1 (2 : Int)) == (1 : Int)))
 (.ret (.again ((x.1.1, (IntKind.i64.wrap (((BitVec.ofInt (IntKind.bits IntKind.i64) (IntKind.i64.wrap (Int.tdiv x.1.2.1 (2 : Int))) ^^^ BitVec.ofInt (IntKind.bits IntKind.i64) (2197175160 : Int)).toNat : Int))), x.1.2.2.1, (IntKind.i64.wrap (x.1.2.2.2.1 + (1 : Int))), ()), ())))
 (.ret (.again ((x.1.1, (IntKind.i64.wrap (Int.tdiv x.1.2.1 (2 : Int))), x.1.2.2.1, (IntKind.i64.wrap (x.1.2.2.2.1 + (1 : Int))), ()), ()))))))
 (.ret (.out ((x.1.1, x.1.2.1, x.1.2.2.1, ()), ())))
abbrev f57_S0 := (List UInt8 × Int × Int × Unit) × (Unit)
def f57_L0 (x : f57_S0) : Out (Round f57_S0 ((Int × Unit) × (Unit)) Empty) :=
 .ite (decide (x.1.2.2.1 < ((List.length x.1.1 : Nat) : Int)))
 (.ite (decide (0 ≤ x.1.2.2.1))
 (.get (nth x.1.1 (Int.toNat x.1.2.2.1)) fun y1 =>
 .get (iter1 f57_L2 FUEL ((x.1.1, (IntKind.i64.wrap (((BitVec.ofInt (IntKind.bits IntKind.i64) x.1.2.1 ^^^ BitVec.ofInt (IntKind.bits IntKind.i64) (IntKind.i64.wrap ((UInt8.toNat y1 : Nat) : Int))).toNat : Int))), x.1.2.2.1, (0 : Int), ()), ())) fun y2 =>
 .ret (.again ((y2.1.1, y2.1.2.1, (IntKind.i64.wrap (y2.1.2.2.1 + (1 : Int))), ()), ())))
 .fail)
 (.ret (.out ((x.1.2.1, ()), ())))
def f57_tree (a0 : List UInt8) : Out (((Int × Unit) × Unit) × (Unit × Unit)) :=
 .get (iter1 f57_L0 FUEL ((a0, (4294967295 : Int), (0 : Int), ()), ())) fun y1 =>
 .ret ((((IntKind.i64.wrap ((4294967295 : Int) - y1.1.1)), ()), ()), ((), ()))
def f57_A : Nat → Option LoopAnn := fun n => annOf [(0, { head := { t := [.s, .dead, .dead, .i .i64, .i .i64] ++ dd 28, v := [] }, out := { t := [.dead, .dead, .dead, .i .i64] ++ dd 29, v := [] }, ret := none }), (2, { head := { t := [.s, .dead, .dead, .i .i64, .i .i64, .i .i64] ++ dd 27, v := [] }, out := { t := [.s, .dead, .dead, .i .i64, .i .i64] ++ dd 28, v := [] }, ret := none })] n
def k57 : Con := { f := 57, lend := true, its := [⟨false, false, [.s]⟩], lay := [none], rs := [⟨false, false, [.i .i64]⟩], F := fun x => .ret ((((crcV x.1.1), ()), ()), ((), ())) }
theorem f57_eq (x : itemsD k57.its) : bodyOut (cxOf []) (f57_A) (codeOf Tryz.f57) k57.its k57.lay Tryz.f57.ntmps k57.rs [.tmp 2] x = f57_tree x.1.1 := by kernel_rfl
theorem f57_ok (hr : ∀ x : (List UInt8 × Unit) × Unit, itemsWF k57.its x → (f57_tree x.1.1).eval = (k57.F x).eval) : k57.Ok Tryz.prog :=
  con_fn [] trivial (by kernel_rfl) (codeOf_eq (by kernel_rfl)) (by kernel_rfl) (by kernel_rfl) (by kernel_rfl) f57_eq fun x hw _ hy => (hr x hw).trans hy
theorem k57_ok : k57.Ok Tryz.prog := by
  refine f57_ok fun x hw => ?_
  obtain ⟨⟨s, _⟩, _⟩ := x
  have hs : s.length ≤ BIG := hw.1.1
  show (f57_tree s).eval = some (((crcV s, ()), ()), ((), ()))
  unfold f57_tree
  have bits : ∀ (c : Nat) (i : Int), c < 4294967296 → iter1 f57_L2 FUEL ((s, (((c : Nat) : Int), (i, ((0 : Int), ())))), ()) = some ((s, (((crcBits c 8 : Nat) : Int), (i, ()))), ()) := fun c i hc =>
    iter1_out (f := f57_L2) (fun k => ((s, (((crcBits c k : Nat) : Int), (i, (((k : Nat) : Int), ())))), ())) 8 (by decide)
      (fun k hk => by
        have hl := crcBits_lt hc k
        have w1 : Int.tmod ((crcBits c k : Nat) : Int) (2 : Int) = ((crcBits c k % 2 : Nat) : Int) := tmod_n _ 2
        have w2 : IntKind.i64.wrap (Int.tdiv ((crcBits c k : Nat) : Int) (2 : Int)) = ((crcBits c k / 2 : Nat) : Int) := (congrArg _ (tdiv_n _ 2)).trans (wrap_nat (by unfold BIG; omega))
        have w3 : IntKind.i64.wrap (((BitVec.ofInt (IntKind.bits IntKind.i64) ((crcBits c k / 2 : Nat) : Int) ^^^ BitVec.ofInt (IntKind.bits IntKind.i64) (2197175160 : Int)).toNat : Nat) : Int) = ((crcBits c k / 2 ^^^ 2197175160 : Nat) : Int) := bit_xor (b := 2197175160) (by unfold BIG; omega) (by decide)
        have w4 := wrap_succ (i := k) (by unfold BIG; omega)
        have w5 : decide (((k : Nat) : Int) < 8) = true := decide_eq_true (by omega)
        simp only [f57_L2, Out.eval, w1, w2, w3, w4, w5, crcBits, crcBit]
        by_cases h1 : crcBits c k % 2 = 1
        · rw [h1]; rfl
        · have : (((crcBits c k % 2 : Nat) : Int) == 1) = false := by simp; omega
          rw [this, if_neg h1]; rfl)
      (by simp [f57_L2, Out.eval])
  have := foldl_loop (f := f57_L0) (fun c _ => c < 4294967296) crcByte s (fun c i => ((s, (((c : Nat) : Int), (((i : Nat) : Int), ()))), ())) (fun c => ((((c : Nat) : Int), ()), ()))
    (fun i hi c hc => by
      have w1 : IntKind.i64.wrap (((BitVec.ofInt (IntKind.bits IntKind.i64) ((c : Nat) : Int) ^^^ BitVec.ofInt (IntKind.bits IntKind.i64) (IntKind.i64.wrap ((UInt8.toNat s[i] : Nat) : Int))).toNat : Nat) : Int) = ((c ^^^ s[i].toNat : Nat) : Int) := by
        rw [byte_wrap]; exact bit_xor (by unfold BIG; omega) (by have := s[i].toNat_lt; unfold BIG; omega)
      have w2 := wrap_succ (i := i) (by omega)
      have w3 := bits (c ^^^ s[i].toNat) ((i : Nat) : Int) (crcXor_lt hc)
      simp only [f57_L0, Out.eval, lt_t hi, ge0, nth_get hi, Option.bind_some, cond_true, w1, w2, w3, crcByte])
    (fun c _ => by simp [f57_L0, Out.eval]) (fun i hi c hc => crcByte_lt hc) hs 4294967295 (by decide)
  refine (eval_get_some this).trans ?_
  have hl := crcN_lt s
  have : IntKind.i64.wrap ((4294967295 : Int) - ((crcN s : Nat) : Int)) = crcV s := by
    rw [wrap_id (by omega) (by omega)]; unfold crcV; omega
  simp only [Out.eval]
  exact congrArg (fun x => some (((x, ()), ()), ((), ()))) this
abbrev f59_S2 := (List UInt8 × Int × Int × Int × Int × Unit) × (Unit)
def f59_L2 (x : f59_S2) : Out (Round f59_S2 ((List UInt8 × Int × Int × Int × Unit) × (Unit)) Empty) :=
 .ite (decide (x.1.2.2.2.2.1 < (8 : Int)))
 (.ite (decide ((1 : Int) < 0))
 .fail
 (.ite (((IntKind.i64.wrap (((BitVec.ofInt (IntKind.bits IntKind.i64) x.1.2.1 &&& BitVec.ofInt (IntKind.bits IntKind.i64) (1 : Int)).toNat : Int))) == (1 : Int)))
 (.ret (.again ((x.1.1, (IntKind.i64.wrap (((BitVec.ofInt (IntKind.bits IntKind.i64) (Int.fdiv x.1.2.1 (2 ^ (min (Int.toNat (1 : Int)) (IntKind.bits IntKind.i64)))) ^^^ BitVec.ofInt (IntKind.bits IntKind.i64) (2197175160 : Int)).toNat : Int))), x.1.2.2.1, x.1.2.2.2.1, (IntKind.i64.wrap (x.1.2.2.2.2.1 + (1 : Int))), ()), ())))
 (.ret (.again ((x.1.1, (Int.fdiv x.1.2.1 (2 ^ (min (Int.toNat (1 : Int)) (IntKind.bits IntKind.i64)))), x.1.2.2.1, x.1.2.2.2.1, (IntKind.i64.wrap (x.1.2.2.2.2.1 + (1 : Int))), ()), ())))))
 (.ret (.out ((x.1.1, x.1.2.1, x.1.2.2.1, x.1.2.2.2.1, ()), ())))
abbrev f59_S0 := (List UInt8 × Int × Int × Int × Unit) × (Unit)
def f59_L0 (x : f59_S0) : Out (Round f59_S0 ((Int × Unit) × (Unit)) Empty) :=
 .ite (decide (x.1.2.2.2.1 < x.1.2.2.1))
 (.ite (decide (0 ≤ x.1.2.2.2.1))
 (.get (nth x.1.1 (Int.toNat x.1.2.2.2.1)) fun y1 =>
 .get (iter1 f59_L2 FUEL ((x.1.1, (IntKind.i64.wrap (((BitVec.ofInt (IntKind.bits IntKind.i64) x.1.2.1 ^^^ BitVec.ofInt (IntKind.bits IntKind.i64) (IntKind.i64.wrap ((UInt8.toNat y1 : Nat) : Int))).toNat : Int))), x.1.2.2.1, x.1.2.2.2.1, (0 : Int), ()), ())) fun y2 =>
 .ret (.again ((y2.1.1, y2.1.2.1, y2.1.2.2.1, (IntKind.i64.wrap (y2.1.2.2.2.1 + (1 : Int))), ()), ())))
 .fail)
 (.ret (.out ((x.1.2.1, ()), ())))
def f59_tree (a0 : List UInt8) : Out (((Int × Unit) × Unit) × (Unit × Unit)) :=
 .get (iter1 f59_L0 FUEL ((a0, (4294967295 : Int), ((List.length a0 : Nat) : Int), (0 : Int), ()), ())) fun y1 =>
 .ret ((((IntKind.i64.wrap ((4294967295 : Int) - y1.1.1)), ()), ()), ((), ()))
def f59_A : Nat → Option LoopAnn := fun n => annOf [(0, { head := { t := [.s, .dead, .dead, .i .i64, .dead, .dead, .dead, .i .i64, .i .i64] ++ dd 22, v := [] }, out := { t := [.dead, .dead, .dead, .i .i64] ++ dd 27, v := [] }, ret := none }), (2, { head := { t := [.s, .dead, .dead, .i .i64, .dead, .dead, .dead, .i .i64, .i .i64] ++ dd 8 ++ [.i .i64] ++ dd 13, v := [] }, out := { t := [.s, .dead, .dead, .i .i64, .dead, .dead, .dead, .i .i64, .i .i64] ++ dd 22, v := [] }, ret := none })] n
def k59 : Con := { f := 59, lend := true, its := [⟨false, false, [.s]⟩], lay := [none], rs := [⟨false, false, [.i .i64]⟩], F := fun x => .ret ((((crcV x.1.1), ()), ()), ((), ())) }
theorem f59_eq (x : itemsD k59.its) : bodyOut (cxOf []) (f59_A) (codeOf Tryz.f59) k59.its k59.lay Tryz.f59.ntmps k59.rs [.tmp 2] x = f59_tree x.1.1 := by kernel_rfl
theorem f59_ok (hr : ∀ x : (List UInt8 × Unit) × Unit, itemsWF k59.its x → (f59_tree x.1.1).eval = (k59.F x).eval) : k59.Ok Tryz.prog :=
  con_fn [] trivial (by kernel_rfl) (codeOf_eq (by kernel_rfl)) (by kernel_rfl) (by kernel_rfl) (by kernel_rfl) f59_eq fun x hw _ hy => (hr x hw).trans hy
theorem and1 (n : Nat) : n &&& 1 = n % 2 := Nat.and_two_pow_sub_one_eq_mod n 1
theorem k59_ok : k59.Ok Tryz.prog := by
  refine f59_ok fun x hw => ?_
  obtain ⟨⟨s, _⟩, _⟩ := x
  have hs : s.length ≤ BIG := hw.1.1
  show (f59_tree s).eval = some (((crcV s, ()), ()), ((), ()))
  unfold f59_tree
  have bits : ∀ (c : Nat) (i : Int), c < 4294967296 → iter1 f59_L2 FUEL ((s, (((c : Nat) : Int), (((s.length : Nat) : Int), (i, ((0 : Int), ()))))), ()) = some ((s, (((crcBits c 8 : Nat) : Int), (((s.length : Nat) : Int), (i, ())))), ()) := fun c i hc =>
    iter1_out (f := f59_L2) (fun k => ((s, (((crcBits c k : Nat) : Int), (((s.length : Nat) : Int), (i, (((k : Nat) : Int), ()))))), ())) 8 (by decide)
      (fun k hk => by
        have hl := crcBits_lt hc k
        have w1 : IntKind.i64.wrap (((BitVec.ofInt (IntKind.bits IntKind.i64) ((crcBits c k : Nat) : Int) &&& BitVec.ofInt (IntKind.bits IntKind.i64) (1 : Int)).toNat : Nat) : Int) = ((crcBits c k % 2 : Nat) : Int) := (bit_and (b := 1) (by unfold BIG; omega) (by decide)).trans (by rw [and1])
        have w2 : Int.fdiv ((crcBits c k : Nat) : Int) (2 ^ (min (Int.toNat (1 : Int)) (IntKind.bits IntKind.i64))) = ((crcBits c k / 2 : Nat) : Int) := shr_n _ 1 (by decide)
        have w3 : IntKind.i64.wrap (((BitVec.ofInt (IntKind.bits IntKind.i64) ((crcBits c k / 2 : Nat) : Int) ^^^ BitVec.ofInt (IntKind.bits IntKind.i64) (2197175160 : Int)).toNat : Nat) : Int) = ((crcBits c k / 2 ^^^ 2197175160 : Nat) : Int) := bit_xor (b := 2197175160) (by unfold BIG; omega) (by decide)
        have w4 := wrap_succ (i := k) (by unfold BIG; omega)
        have w5 : decide (((k : Nat) : Int) < 8) = true := decide_eq_true (by omega)
        simp only [f59_L2, Out.eval, w1, w2, w3, w4, w5, crcBits, crcBit]
        by_cases h1 : crcBits c k % 2 = 1
        · rw [h1]; rfl
        · have : (((crcBits c k % 2 : Nat) : Int) == 1) = false := by simp; omega
          rw [this, if_neg h1]; rfl)
      (by simp [f59_L2, Out.eval])
  have := foldl_loop (f := f59_L0) (fun c _ => c < 4294967296) crcByte s (fun c i => ((s, (((c : Nat) : Int), (((s.length : Nat) : Int), (((i : Nat) : Int), ())))), ())) (fun c => ((((c : Nat) : Int), ()), ()))
    (fun i hi c hc => by
      have w1 : IntKind.i64.wrap (((BitVec.ofInt (IntKind.bits IntKind.i64) ((c : Nat) : Int) ^^^ BitVec.ofInt (IntKind.bits IntKind.i64) (IntKind.i64.wrap ((UInt8.toNat s[i] : Nat) : Int))).toNat : Nat) : Int) = ((c ^^^ s[i].toNat : Nat) : Int) := by
        rw [byte_wrap]; exact bit_xor (by unfold BIG; omega) (by have := s[i].toNat_lt; unfold BIG; omega)
      have w2 := wrap_succ (i := i) (by omega)
      have w3 := bits (c ^^^ s[i].toNat) ((i : Nat) : Int) (crcXor_lt hc)
      simp only [f59_L0, Out.eval, lt_t hi, ge0, nth_get hi, Option.bind_some, cond_true, w1, w2, w3, crcByte])
    (fun c _ => by simp [f59_L0, Out.eval]) (fun i hi c hc => crcByte_lt hc) hs 4294967295 (by decide)
  refine (eval_get_some this).trans ?_
  have hl := crcN_lt s
  have : IntKind.i64.wrap ((4294967295 : Int) - ((crcN s : Nat) : Int)) = crcV s := by
    rw [wrap_id (by omega) (by omega)]; unfold crcV; omega
  simp only [Out.eval]
  exact congrArg (fun x => some (((x, ()), ()), ((), ()))) this
end Go.Proofs.YtcinpcncclhejaaGreat.Dm
