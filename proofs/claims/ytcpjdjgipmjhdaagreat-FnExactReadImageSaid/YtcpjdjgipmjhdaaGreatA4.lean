/- Functions of the program, and what they compute. -/
import Derived.Test.YtcpjdjgipmjhdaaGreatA3
namespace Go.Proofs.YtcpjdjgipmjhdaaGreat.Dm
open Go Go.ChangeShapes Go.WideShapes Go.ChangeAt Go.RowKit
theorem ofInt_nat (a : Nat) : BitVec.ofInt 64 ((a : Nat) : Int) = BitVec.ofNat 64 a := by simp
theorem wrap_nat {a : Nat} (h : a ≤ BIG) : IntKind.i64.wrap ((a : Nat) : Int) = ((a : Nat) : Int) := by
  unfold BIG at h
  exact wrap_id (by omega) (by omega)
theorem bit_and {a b : Nat} (ha : a ≤ BIG) (hb : b ≤ BIG) : IntKind.i64.wrap (((BitVec.ofInt (IntKind.bits .i64) ((a : Nat) : Int) &&& BitVec.ofInt (IntKind.bits .i64) ((b : Nat) : Int)).toNat : Nat) : Int) = ((a &&& b : Nat) : Int) := by
  show IntKind.i64.wrap (((BitVec.ofInt 64 ((a : Nat) : Int) &&& BitVec.ofInt 64 ((b : Nat) : Int)).toNat : Nat) : Int) = ((a &&& b : Nat) : Int)
  rw [ofInt_nat, ofInt_nat, BitVec.toNat_and, BitVec.toNat_ofNat, BitVec.toNat_ofNat, Nat.mod_eq_of_lt (Nat.lt_of_le_of_lt ha (by decide)), Nat.mod_eq_of_lt (Nat.lt_of_le_of_lt hb (by decide))]
  exact wrap_nat (Nat.le_trans Nat.and_le_left ha)
theorem bit_or {a b : Nat} (ha : a ≤ BIG) (hb : b ≤ BIG) : IntKind.i64.wrap (((BitVec.ofInt (IntKind.bits .i64) ((a : Nat) : Int) ||| BitVec.ofInt (IntKind.bits .i64) ((b : Nat) : Int)).toNat : Nat) : Int) = ((a ||| b : Nat) : Int) := by
  show IntKind.i64.wrap (((BitVec.ofInt 64 ((a : Nat) : Int) ||| BitVec.ofInt 64 ((b : Nat) : Int)).toNat : Nat) : Int) = ((a ||| b : Nat) : Int)
  rw [ofInt_nat, ofInt_nat, BitVec.toNat_or, BitVec.toNat_ofNat, BitVec.toNat_ofNat, Nat.mod_eq_of_lt (Nat.lt_of_le_of_lt ha (by decide)), Nat.mod_eq_of_lt (Nat.lt_of_le_of_lt hb (by decide))]
  have : (a ||| b) < 2 ^ 63 := Nat.or_lt_two_pow (by unfold BIG at ha; omega) (by unfold BIG at hb; omega)
  exact wrap_nat (by unfold BIG; omega)
theorem bit_xor {a b : Nat} (ha : a ≤ BIG) (hb : b ≤ BIG) : IntKind.i64.wrap (((BitVec.ofInt (IntKind.bits .i64) ((a : Nat) : Int) ^^^ BitVec.ofInt (IntKind.bits .i64) ((b : Nat) : Int)).toNat : Nat) : Int) = ((a ^^^ b : Nat) : Int) := by
  show IntKind.i64.wrap (((BitVec.ofInt 64 ((a : Nat) : Int) ^^^ BitVec.ofInt 64 ((b : Nat) : Int)).toNat : Nat) : Int) = ((a ^^^ b : Nat) : Int)
  rw [ofInt_nat, ofInt_nat, BitVec.toNat_xor, BitVec.toNat_ofNat, BitVec.toNat_ofNat, Nat.mod_eq_of_lt (Nat.lt_of_le_of_lt ha (by decide)), Nat.mod_eq_of_lt (Nat.lt_of_le_of_lt hb (by decide))]
  have : (a ^^^ b) < 2 ^ 63 := Nat.xor_lt_two_pow (by unfold BIG at ha; omega) (by unfold BIG at hb; omega)
  exact wrap_nat (by unfold BIG; omega)
theorem tmod_n (a b : Nat) : Int.tmod ((a : Nat) : Int) ((b : Nat) : Int) = ((a % b : Nat) : Int) := (Int.ofNat_tmod a b).symm
theorem tdiv_n (a b : Nat) : Int.tdiv ((a : Nat) : Int) ((b : Nat) : Int) = ((a / b : Nat) : Int) := (Int.ofNat_tdiv a b).symm
theorem fdiv_n (a b : Nat) : Int.fdiv ((a : Nat) : Int) ((b : Nat) : Int) = ((a / b : Nat) : Int) := by rw [Int.fdiv_eq_ediv_of_nonneg _ (by omega)]; rfl
theorem u8_n (a : Nat) : IntKind.u8.wrap ((a : Nat) : Int) = (((UInt8.ofNat a).toNat : Nat) : Int) := by
  rw [IntKind.wrap_u8, UInt8.toNat_ofNat']; omega
theorem u8_back (b : UInt8) : UInt8.ofNat (Int.toNat ((b.toNat : Nat) : Int)) = b := by simp
theorem u8s_back (l : Str) : (l.map fun b => ((b.toNat : Nat) : Int)).map (fun n : Int => UInt8.ofNat n.toNat) = l := by
  rw [List.map_map]
  exact (List.map_congr_left fun b _ => u8_back b).trans (List.map_id' l)
theorem iter1_again {α β : Type} {f : α → Out (Round α β Empty)} {n : Nat} {x x' : α} (h : (f x).eval = some (.again x')) : iter1 f (n + 1) x = iter1 f n x' := by unfold iter1; rw [iter_again h]
theorem iter1_out' {α β : Type} {f : α → Out (Round α β Empty)} {n : Nat} {x : α} {y : β} (h : (f x).eval = some (.out y)) (hn : 0 < n) : iter1 f n x = some y := by unfold iter1; rw [iter_out' h hn]; rfl
theorem foldl_loop {α β σ δ : Type} {f : σ → Out (Round σ β Empty)} (P : δ → Nat → Prop) (g : δ → α → δ) (a : List α) (S : δ → Nat → σ) (y : δ → β)
    (hs : ∀ i (hi : i < a.length) l, P l i → (f (S l i)).eval = some (.again (S (g l a[i]) (i + 1)))) (hy : ∀ l, P l a.length → (f (S l a.length)).eval = some (.out (y l)))
    (hP : ∀ i (hi : i < a.length) l, P l i → P (g l a[i]) (i + 1)) (ha : a.length ≤ BIG) (l : δ) (hl : P l 0) : iter1 f FUEL (S l 0) = some (y (a.foldl g l)) := by
  have step : ∀ i (hi : i < a.length), (a.take (i + 1)).foldl g l = g ((a.take i).foldl g l) a[i] := fun i hi => by
    rw [List.take_succ_eq_append_getElem hi, List.foldl_append]; rfl
  have inv : ∀ i, i ≤ a.length → P ((a.take i).foldl g l) i := by
    intro i
    induction i with
    | zero => intro _; simpa using hl
    | succ i ih => intro hi; rw [step i (by omega)]; exact hP i (by omega) _ (ih (by omega))
  have h := iter1_out (f := f) (fun i => S ((a.take i).foldl g l) i) a.length (y := y (a.foldl g l)) (lt_fuel ha)
    (fun i hi => by rw [step i hi]; exact hs i hi _ (inv i (by omega)))
    (by
      have := hy _ (inv a.length (Nat.le_refl _))
      rw [List.take_length] at this ⊢
      exact this)
  simpa using h
theorem flat_loop {α β σ γ : Type} {f : σ → Out (Round σ β Empty)} (h : α → List γ) (a : List α) (S : List γ → Nat → σ) (y : List γ → β) (m : Nat)
    (hs : ∀ i (hi : i < a.length) s, s.length + (h a[i]).length ≤ m → (f (S s i)).eval = some (.again (S (s ++ h a[i]) (i + 1)))) (hy : ∀ s, (f (S s a.length)).eval = some (.out (y s)))
    (ha : a.length ≤ BIG) (s : List γ) (hl : s.length + (a.flatMap h).length ≤ m) : iter1 f FUEL (S s 0) = some (y (s ++ a.flatMap h)) := by
  have hd : ∀ i (hi : i < a.length), (a.drop i).flatMap h = h a[i] ++ (a.drop (i + 1)).flatMap h := fun i hi => by rw [List.drop_eq_getElem_cons hi, List.flatMap_cons]
  have := foldl_loop (f := f) (fun s i => s.length + ((a.drop i).flatMap h).length ≤ m) (fun s x => s ++ h x) a S y
    (fun i hi s hp => hs i hi s (by rw [hd i hi, List.length_append] at hp; omega)) (fun s _ => hy s)
    (fun i hi s hp => by rw [hd i hi, List.length_append] at hp; rw [List.length_append]; omega) ha s (by simpa using hl)
  rw [this]
  congr 2
  clear this hl hd hs hy ha
  induction a generalizing s with
  | nil => simp
  | cons x r ih => rw [List.foldl_cons, ih, List.flatMap_cons, List.append_assoc]
def varB (n : Nat) : Str := if n < 128 then [UInt8.ofNat n] else UInt8.ofNat (128 + n % 128) :: varB (n / 128)
termination_by n
decreasing_by omega
theorem varB_lt {n : Nat} (h : n < 128) : varB n = [UInt8.ofNat n] := by rw [varB, if_pos h]
theorem varB_ge {n : Nat} (h : ¬ n < 128) : varB n = UInt8.ofNat (128 + n % 128) :: varB (n / 128) := by rw [varB, if_neg h]
theorem varB_len : ∀ {k n : Nat}, n < 128 ^ (k + 1) → (varB n).length ≤ k + 1
  | 0, n, h => by rw [varB_lt (by omega)]; simp
  | k + 1, n, h => by
    by_cases hn : n < 128
    · rw [varB_lt hn]; simp
    · rw [varB_ge hn]
      have := varB_len (k := k) (n := n / 128) (by rw [Nat.pow_succ] at h; omega)
      simp only [List.length_cons]; omega
theorem varB_len7 {n : Nat} (h : n < 562949953421312) : (varB n).length ≤ 7 := varB_len (k := 6) h
def varV (n : Int) : Str := if inV n 0 562949953421311 = true then varB n.toNat else []
theorem varV_len (n : Int) : (varV n).length ≤ 7 := by
  unfold varV
  split
  · rename_i h
    have : 0 ≤ n ∧ n ≤ 562949953421311 := by simpa [inV] using h
    exact varB_len7 (by omega)
  · simp
theorem var_loop {f : ((Int) × Unit) × ((List Int) × Unit) → Out (Round (((Int) × Unit) × ((List Int) × Unit)) (((Int) × Unit) × ((List Int) × Unit)) Empty)}
    (h1 : ∀ (n : Nat) (l : List Int), 128 ≤ n → n < 562949953421312 → l.length ≤ 7 → (f ((((n : Nat) : Int), ()), (l, ()))).eval = some (.again ((((n / 128 : Nat) : Int), ()), (l ++ [(((UInt8.ofNat (128 + n % 128)).toNat : Nat) : Int)], ()))))
    (h2 : ∀ (n : Nat) (l : List Int), n < 128 → (f ((((n : Nat) : Int), ()), (l, ()))).eval = some (.out ((((n : Nat) : Int), ()), (l, ())))) :
    ∀ (k n : Nat) (l : List Int), n < k → n < 562949953421312 → l.length + (varB n).length ≤ 7 →
      ∃ (l' : List Int) (m : Nat), iter1 f k ((((n : Nat) : Int), ()), (l, ())) = some ((((m : Nat) : Int), ()), (l', ())) ∧ l' ++ [(((UInt8.ofNat m).toNat : Nat) : Int)] = l ++ (varB n).map fun b => ((b.toNat : Nat) : Int)
  | 0, n, l, hk, _, _ => absurd hk (Nat.not_lt_zero n)
  | k + 1, n, l, hk, hm, hl => by
    by_cases hn : n < 128
    · exact ⟨l, n, iter1_out' (h2 n l hn) (by omega), by rw [varB_lt hn]; rfl⟩
    · rw [varB_ge hn] at hl ⊢
      simp only [List.length_cons] at hl
      obtain ⟨l', m, e1, e2⟩ := var_loop h1 h2 k (n / 128) (l ++ [(((UInt8.ofNat (128 + n % 128)).toNat : Nat) : Int)]) (by omega) (by omega) (by simp; omega)
      exact ⟨l', m, by rw [iter1_again (h1 n l (by omega) hm (by omega)), e1], by rw [e2]; simp⟩
theorem var_end {n : Nat} {l' : List Int} {m : Nat} (e : l' ++ [(((UInt8.ofNat m).toNat : Nat) : Int)] = [] ++ (varB n).map fun b => ((b.toNat : Nat) : Int)) : (l' ++ [IntKind.u8.wrap ((m : Nat) : Int)]).map (fun n : Int => UInt8.ofNat n.toNat) = varB n := by
  rw [u8_n, e, List.nil_append, u8s_back]
theorem LIM_eq : LIM = 68719476736 := rfl
abbrev f73_S0 := (Int × Unit) × (List (Int) × Unit)
def f73_L0 : f73_S0 → Out (Round f73_S0 ((Int × Unit) × (List (Int) × Unit)) Empty)
| ((p0, _), p1, _) =>
 .ite (decide (p0 ≥ (128 : Int)))
 (.ite ((128 : Int) == 0)
 .fail
 (.ite (decide (List.length p1 + List.length ([(IntKind.u8.wrap (IntKind.i64.wrap ((128 : Int) + (Int.tmod p0 (128 : Int)))))] : List (Int)) ≤ LIM))
 (.ite ((128 : Int) == 0)
 .fail
 (.ret (.again (((IntKind.i64.wrap (Int.tdiv p0 (128 : Int))), ()), ((p1 ++ ([(IntKind.u8.wrap (IntKind.i64.wrap ((128 : Int) + (Int.tmod p0 (128 : Int)))))] : List (Int))), ())))))
 .fail))
 (.ret (.out ((p0, ()), (p1, ()))))
def f73_tree (a0 : Int) : Out (((List UInt8 × Unit) × Unit) × (Unit × Unit)) :=
 .ite (!(inV a0 (0 : Int) (562949953421311 : Int)))
 (.ret (((([] : List UInt8), ()), ()), ((), ())))
 (.get (iter1 f73_L0 FUEL ((a0, ()), (([] : List (Int)), ()))) fun y1 =>
 .ite (decide (List.length y1.2.1 + List.length ([(IntKind.u8.wrap y1.1.1)] : List (Int)) ≤ LIM))
 (.ret ((((List.map (fun n : Int => UInt8.ofNat n.toNat) (y1.2.1 ++ ([(IntKind.u8.wrap y1.1.1)] : List (Int)))), ()), ()), ((), ())))
 .fail)
def f73_A : Nat → Option LoopAnn := fun n => annOf [(0, { head := { t := [.i .i64, .dead, .dead, .srf 64000000] ++ dd 21, v := [(64000000, .arr (.int .u8))] }, out := { t := [.i .i64, .dead, .dead, .srf 64000256] ++ dd 21, v := [(64000256, .arr (.int .u8))] }, ret := none })] n
def k73 : Con := { f := 73, lend := true, its := [⟨false, false, [.i .i64]⟩], lay := [none], rs := [⟨false, false, [.s]⟩], F := fun x => .ret ((((varV x.1.1), ()), ()), ((), ())) }
theorem f73_eq (x : itemsD k73.its) : bo [k70] f73_A Tryz.f73 k73 [.tmp 2] x = f73_tree x.1.1 := by kernel_rfl
theorem f73_ok (hr : ∀ x : (Int × Unit) × Unit, itemsWF k73.its x → (f73_tree x.1.1).eval = (k73.F x).eval) : k73.Ok Tryz.prog := con_fn [k70] ⟨k70_ok, trivial⟩ f73_eq fun x hw _ hy => (hr x hw).trans hy
theorem k73_ok : k73.Ok Tryz.prog := by
  refine f73_ok fun x _ => ?_
  obtain ⟨⟨n, _⟩, _⟩ := x
  show (f73_tree n).eval = some (((varV n, ()), ()), ((), ()))
  unfold f73_tree varV
  by_cases h : inV n 0 562949953421311 = true
  · rw [eval_ite_f (by simp [h]), if_pos h]
    have hb : 0 ≤ n ∧ n ≤ 562949953421311 := by simpa [inV] using h
    obtain ⟨n, rfl⟩ := Int.eq_ofNat_of_zero_le hb.1
    have hn : n < 562949953421312 := by omega
    obtain ⟨l', m, e1, e2⟩ := var_loop (f := f73_L0) (fun n l h1 h2 h3 => by
        have w1 : IntKind.i64.wrap (Int.tdiv ((n : Nat) : Int) (128 : Int)) = ((n / 128 : Nat) : Int) := (congrArg _ (tdiv_n n 128)).trans (wrap_nat (by unfold BIG; omega))
        have w2 : IntKind.u8.wrap (IntKind.i64.wrap ((128 : Int) + (Int.tmod ((n : Nat) : Int) (128 : Int)))) = (((UInt8.ofNat (128 + n % 128)).toNat : Nat) : Int) := by
          have : (128 : Int) + (Int.tmod ((n : Nat) : Int) (128 : Int)) = ((128 + n % 128 : Nat) : Int) := by rw [Int.natCast_add]; exact congrArg _ (tmod_n n 128)
          rw [this, wrap_nat (by unfold BIG; omega), u8_n]
        have w3 : decide (((n : Nat) : Int) ≥ (128 : Int)) = true := decide_eq_true (by omega)
        have w4 : decide (List.length l + 1 ≤ LIM) = true := decide_eq_true (by rw [LIM_eq]; omega)
        simp only [f73_L0, Out.eval, w1, w2, w3, List.length_cons, List.length_nil, Nat.zero_add, w4]
        rfl)
      (fun n l h1 => by
        have w3 : decide (((n : Nat) : Int) ≥ (128 : Int)) = false := decide_eq_false (by omega)
        simp only [f73_L0, Out.eval, w3]
        rfl) FUEL n [] (Nat.lt_of_lt_of_le hn (by decide)) hn (by simpa using varB_len7 hn)
    have hl : l'.length + 1 ≤ 7 := by
      have := congrArg List.length e2
      simp at this
      have := varB_len7 hn
      omega
    refine (eval_get_some e1).trans ?_
    rw [eval_ite_t (decide_eq_true (by rw [LIM_eq]; simp; omega))]
    simp only [Out.eval, var_end e2]
    rfl
  · rw [eval_ite_t (by simp [h]), if_neg h]; rfl
abbrev f59_S0 := (Int × Unit) × (List (Int) × Unit)
def f59_L0 : f59_S0 → Out (Round f59_S0 ((Int × Unit) × (List (Int) × Unit)) Empty)
| ((p0, _), p1, _) =>
 .ite (decide (p0 > (127 : Int)))
 (.ite (decide (List.length p1 + List.length ([(IntKind.u8.wrap (IntKind.i64.wrap (((BitVec.ofInt (IntKind.bits IntKind.i64) (IntKind.i64.wrap (((BitVec.ofInt (IntKind.bits IntKind.i64) p0 &&& BitVec.ofInt (IntKind.bits IntKind.i64) (127 : Int)).toNat : Int))) ||| BitVec.ofInt (IntKind.bits IntKind.i64) (128 : Int)).toNat : Int))))] : List (Int)) ≤ LIM))
 (.ite (decide ((7 : Int) < 0))
 .fail
 (.ret (.again (((Int.fdiv p0 (2 ^ (min (Int.toNat (7 : Int)) (IntKind.bits IntKind.i64)))), ()), ((p1 ++ ([(IntKind.u8.wrap (IntKind.i64.wrap (((BitVec.ofInt (IntKind.bits IntKind.i64) (IntKind.i64.wrap (((BitVec.ofInt (IntKind.bits IntKind.i64) p0 &&& BitVec.ofInt (IntKind.bits IntKind.i64) (127 : Int)).toNat : Int))) ||| BitVec.ofInt (IntKind.bits IntKind.i64) (128 : Int)).toNat : Int))))] : List (Int))), ())))))
 .fail)
 (.ret (.out ((p0, ()), (p1, ()))))
def f59_tree (a0 : Int) : Out (((List UInt8 × Unit) × Unit) × (Unit × Unit)) :=
 .ite (!(inV a0 (0 : Int) (562949953421311 : Int)))
 (.ret (((([] : List UInt8), ()), ()), ((), ())))
 (.get (iter1 f59_L0 FUEL ((a0, ()), (([] : List (Int)), ()))) fun y1 =>
 .ite (decide (List.length y1.2.1 + List.length ([(IntKind.u8.wrap y1.1.1)] : List (Int)) ≤ LIM))
 (.ret ((((List.map (fun n : Int => UInt8.ofNat n.toNat) (y1.2.1 ++ ([(IntKind.u8.wrap y1.1.1)] : List (Int)))), ()), ()), ((), ())))
 .fail)
def f59_A : Nat → Option LoopAnn := fun n => annOf [(0, { head := { t := [.i .i64, .dead, .dead, .srf 64000000] ++ dd 21, v := [(64000000, .arr (.int .u8))] }, out := { t := [.i .i64, .dead, .dead, .srf 64000256] ++ dd 21, v := [(64000256, .arr (.int .u8))] }, ret := none })] n
def k59 : Con := { f := 59, lend := true, its := [⟨false, false, [.i .i64]⟩], lay := [none], rs := [⟨false, false, [.s]⟩], F := fun x => .ret ((((varV x.1.1), ()), ()), ((), ())) }
theorem f59_eq (x : itemsD k59.its) : bo [k88] f59_A Tryz.f59 k59 [.tmp 2] x = f59_tree x.1.1 := by kernel_rfl
theorem f59_ok (hr : ∀ x : (Int × Unit) × Unit, itemsWF k59.its x → (f59_tree x.1.1).eval = (k59.F x).eval) : k59.Ok Tryz.prog := con_fn [k88] ⟨k88_ok, trivial⟩ f59_eq fun x hw _ hy => (hr x hw).trans hy
theorem and127 (n : Nat) : n &&& 127 = n % 128 := Nat.and_two_pow_sub_one_eq_mod n 7
theorem or128 {n : Nat} (h : n < 128) : n ||| 128 = 128 + n := by
  rw [Nat.or_comm]; exact (Nat.two_pow_add_eq_or_of_lt (i := 7) h 1).symm
theorem shr_n (n k : Nat) (hk : k ≤ 64) : Int.fdiv ((n : Nat) : Int) (2 ^ (min (Int.toNat ((k : Nat) : Int)) (IntKind.bits IntKind.i64))) = ((n / 2 ^ k : Nat) : Int) := by
  have : min (Int.toNat ((k : Nat) : Int)) (IntKind.bits IntKind.i64) = k := by show min k 64 = k; omega
  rw [this]
  have e : ((2 : Int) ^ k) = ((2 ^ k : Nat) : Int) := by simp
  rw [e, fdiv_n]
theorem k59_ok : k59.Ok Tryz.prog := by
  refine f59_ok fun x _ => ?_
  obtain ⟨⟨n, _⟩, _⟩ := x
  show (f59_tree n).eval = some (((varV n, ()), ()), ((), ()))
  unfold f59_tree varV
  by_cases h : inV n 0 562949953421311 = true
  · rw [eval_ite_f (by simp [h]), if_pos h]
    have hb : 0 ≤ n ∧ n ≤ 562949953421311 := by simpa [inV] using h
    obtain ⟨n, rfl⟩ := Int.eq_ofNat_of_zero_le hb.1
    have hn : n < 562949953421312 := by omega
    obtain ⟨l', m, e1, e2⟩ := var_loop (f := f59_L0) (fun n l h1 h2 h3 => by
        have w1 : Int.fdiv ((n : Nat) : Int) (2 ^ (min (Int.toNat (7 : Int)) (IntKind.bits IntKind.i64))) = ((n / 128 : Nat) : Int) := shr_n n 7 (by decide)
        have w0 : IntKind.i64.wrap (((BitVec.ofInt (IntKind.bits IntKind.i64) ((n : Nat) : Int) &&& BitVec.ofInt (IntKind.bits IntKind.i64) (127 : Int)).toNat : Nat) : Int) = ((n % 128 : Nat) : Int) := (bit_and (a := n) (b := 127) (by unfold BIG; omega) (by decide)).trans (by rw [and127])
        have w2 : IntKind.u8.wrap (IntKind.i64.wrap (((BitVec.ofInt (IntKind.bits IntKind.i64) ((n % 128 : Nat) : Int) ||| BitVec.ofInt (IntKind.bits IntKind.i64) (128 : Int)).toNat : Nat) : Int)) = (((UInt8.ofNat (128 + n % 128)).toNat : Nat) : Int) := by
          rw [← u8_n, ← or128 (n := n % 128) (by omega)]
          exact congrArg _ (bit_or (a := n % 128) (b := 128) (by unfold BIG; omega) (by decide))
        have w3 : decide (((n : Nat) : Int) > (127 : Int)) = true := decide_eq_true (by omega)
        have w4 : decide (List.length l + 1 ≤ LIM) = true := decide_eq_true (by rw [LIM_eq]; omega)
        simp only [f59_L0, Out.eval, w0, w1, w2, w3, List.length_cons, List.length_nil, Nat.zero_add, w4]
        rfl)
      (fun n l h1 => by
        have w3 : decide (((n : Nat) : Int) > (127 : Int)) = false := decide_eq_false (by omega)
        simp only [f59_L0, Out.eval, w3]
        rfl) FUEL n [] (Nat.lt_of_lt_of_le hn (by decide)) hn (by simpa using varB_len7 hn)
    have hl : l'.length + 1 ≤ 7 := by
      have := congrArg List.length e2
      simp at this
      have := varB_len7 hn
      omega
    refine (eval_get_some e1).trans ?_
    rw [eval_ite_t (decide_eq_true (by rw [LIM_eq]; simp; omega))]
    simp only [Out.eval, var_end e2]
    rfl
  · rw [eval_ite_t (by simp [h]), if_neg h]; rfl
def fixB : Nat → Nat → Str
  | 0, _ => []
  | k + 1, n => UInt8.ofNat (n / 256 ^ k) :: fixB k n
theorem fixB_len : ∀ k n, (fixB k n).length = k
  | 0, _ => rfl
  | k + 1, n => by rw [fixB, List.length_cons, fixB_len k n]
def fixedV (n w : Int) : Option Str := if n ≤ (BIG : Int) then some (if inV w 1 7 = true ∧ 0 ≤ n ∧ n.toNat < 256 ^ w.toNat then fixB w.toNat n.toNat else []) else none
abbrev f41_S0 := (Int × Int × List UInt8 × Int × Unit) × (Unit)
def f41_L0 : f41_S0 → Out (Round f41_S0 ((Int × List UInt8 × Unit) × (Unit)) Empty)
| ((p0, p1, p2, p3, _), _) =>
 .ite (decide (p3 < p1))
 (.ite ((256 : Int) == 0)
 .fail
 (.ite (decide (List.length (List.map (fun n : Int => UInt8.ofNat n.toNat) ([(IntKind.u8.wrap (Int.tmod p0 (256 : Int)))] : List (Int))) + List.length p2 ≤ LIM))
 (.ite ((256 : Int) == 0)
 .fail
 (.ret (.again (((IntKind.i64.wrap (Int.tdiv p0 (256 : Int))), p1, ((List.map (fun n : Int => UInt8.ofNat n.toNat) ([(IntKind.u8.wrap (Int.tmod p0 (256 : Int)))] : List (Int))) ++ p2), (IntKind.i64.wrap (p3 + (1 : Int))), ()), ()))))
 .fail))
 (.ret (.out ((p0, p2, ()), ())))
def f41_tree (a0 : Int) (a1 : Int) : Out (((List UInt8 × Unit) × Unit) × (Unit × Unit × Unit)) :=
 .ite ((!(inV a1 (1 : Int) (7 : Int))) == false)
 (.ite (decide (a0 < (0 : Int)))
 (.ret (((([] : List UInt8), ()), ()), ((), (), ())))
 (.get (iter1 f41_L0 FUEL ((a0, a1, ([] : List UInt8), (0 : Int), ()), ())) fun y1 =>
 .ite (decide (y1.1.1 > (0 : Int)))
 (.ret (((([] : List UInt8), ()), ()), ((), (), ())))
 (.ret (((y1.1.2.1, ()), ()), ((), (), ())))))
 (.ret (((([] : List UInt8), ()), ()), ((), (), ())))
def f41_A : Nat → Option LoopAnn := fun n => annOf [(0, { head := { t := [.i .i64, .i .i64, .dead, .dead, .dead, .s, .i .i64] ++ dd 24, v := [] }, out := { t := [.i .i64] ++ dd 4 ++ [.s] ++ dd 25, v := [] }, ret := none })] n
def k41 : Con := { f := 41, lend := true, its := [⟨false, false, [.i .i64]⟩, ⟨false, false, [.i .i64]⟩], lay := [none, none], rs := [⟨false, false, [.s]⟩], F := fun x => .get (fixedV x.1.1 x.2.1.1) fun y => .ret (((y, ()), ()), ((), (), ())) }
theorem f41_eq (x : itemsD k41.its) : bo [k70] f41_A Tryz.f41 k41 [.tmp 4] x = f41_tree x.1.1 x.2.1.1 := by kernel_rfl
theorem f41_okp (hr : ∀ x : (Int × Unit) × (Int × Unit) × Unit, itemsWF k41.its x → ∀ y, (k41.F x).eval = some y → (f41_tree x.1.1 x.2.1.1).eval = some y) : k41.Ok Tryz.prog := con_fn [k70] ⟨k70_ok, trivial⟩ f41_eq hr
theorem mod256 (n : Nat) : UInt8.ofNat (n % 256) = UInt8.ofNat n := by
  apply UInt8.toNat_inj.1
  rw [UInt8.toNat_ofNat', UInt8.toNat_ofNat']; omega
theorem k41_ok : k41.Ok Tryz.prog := by
  refine f41_okp fun x _ y hy => ?_
  obtain ⟨⟨n, _⟩, ⟨w, _⟩, _⟩ := x
  change (Out.get (fixedV n w) fun y => Out.ret (((y, ()), ()), ((), ((), ())))).eval = some y at hy
  show (f41_tree n w).eval = some y
  unfold f41_tree
  unfold fixedV at hy
  split at hy
  case isFalse => exact nomatch hy
  rename_i hn
  refine Eq.trans ?_ hy
  by_cases h : inV w 1 7 = true
  · rw [eval_ite_t (by simp [h])]
    have hb : 1 ≤ w ∧ w ≤ 7 := by simpa [inV] using h
    by_cases h0 : n < 0
    · rw [eval_ite_t (decide_eq_true h0), if_neg (by omega)]; rfl
    · rw [eval_ite_f (decide_eq_false h0)]
      obtain ⟨n, rfl⟩ := Int.eq_ofNat_of_zero_le (a := n) (by omega)
      obtain ⟨w, rfl⟩ := Int.eq_ofNat_of_zero_le (a := w) (by omega)
      have hn : n ≤ BIG := by omega
      have e := iter1_out (f := f41_L0) (fun i => ((((n / 256 ^ i : Nat) : Int), (((w : Nat) : Int), (fixB i n, (((i : Nat) : Int), ())))), ())) w (y := ((((n / 256 ^ w : Nat) : Int), (fixB w n, ())), ())) (Nat.lt_of_le_of_lt (show w ≤ 7 by omega) (show 7 < FUEL by decide))
        (fun i hi => by
          have w1 : IntKind.i64.wrap (Int.tdiv ((n / 256 ^ i : Nat) : Int) (256 : Int)) = ((n / 256 ^ (i + 1) : Nat) : Int) := by
            have : Int.tdiv ((n / 256 ^ i : Nat) : Int) (256 : Int) = ((n / 256 ^ (i + 1) : Nat) : Int) := (tdiv_n (n / 256 ^ i) 256).trans (by rw [Nat.div_div_eq_div_mul, Nat.pow_succ])
            rw [this]
            exact wrap_nat (Nat.le_trans (Nat.div_le_self _ _) hn)
          have w2 : UInt8.ofNat (Int.toNat (IntKind.u8.wrap (Int.tmod ((n / 256 ^ i : Nat) : Int) (256 : Int)))) = UInt8.ofNat (n / 256 ^ i) := by
            have : Int.tmod ((n / 256 ^ i : Nat) : Int) (256 : Int) = ((n / 256 ^ i % 256 : Nat) : Int) := tmod_n _ 256
            rw [this, u8_n, u8_back, mod256]
          have w3 : decide (((i : Nat) : Int) < ((w : Nat) : Int)) = true := decide_eq_true (by omega)
          have w4 : decide (1 + (fixB i n).length ≤ LIM) = true := decide_eq_true (by rw [LIM_eq, fixB_len]; omega)
          have w5 : IntKind.i64.wrap (((i : Nat) : Int) + 1) = ((i + 1 : Nat) : Int) := wrap_succ (by unfold BIG; omega)
          simp only [f41_L0, Out.eval, w1, w2, w3, w4, w5, List.map_cons, List.map_nil, List.length_cons, List.length_nil, Nat.zero_add]
          rfl)
        (by simp [f41_L0, Out.eval])
      refine (eval_get_some (x := ((((n / 256 ^ w : Nat) : Int), (fixB w n, ())), ())) (by simpa [fixB] using e)).trans ?_
      by_cases hz : n < 256 ^ w
      · rw [if_pos ⟨h, by omega, hz⟩, eval_ite_f (by simp [Nat.div_eq_of_lt hz])]; rfl
      · rw [if_neg (fun q => hz q.2.2), eval_ite_t (decide_eq_true (show ((n / 256 ^ w : Nat) : Int) > 0 from by have : 0 < n / 256 ^ w := Nat.div_pos (by omega) (Nat.pow_pos (by decide)); omega))]; rfl
  · rw [eval_ite_f (by simp [h]), if_neg (by simp [h])]; rfl
abbrev f71_S0 := (Int × Int × Unit) × (List (Int) × Unit)
def f71_L0 : f71_S0 → Out (Round f71_S0 ((Unit) × (List (Int) × Unit)) Empty)
| ((p0, p1, _), p2, _) =>
 .ite (decide (p1 ≥ (0 : Int)))
 (.ite (decide (0 ≤ p1 ∧ p1 < ((List.length p2 : Nat) : Int)))
 (.get (nth p2 (Int.toNat p1)) fun y1 =>
 .ite (decide ((8 : Int) < 0))
 .fail
 (.ret (.again (((Int.fdiv p0 (2 ^ (min (Int.toNat (8 : Int)) (IntKind.bits IntKind.i64)))), (IntKind.i64.wrap (p1 - (1 : Int))), ()), ((List.set p2 (Int.toNat p1) (IntKind.u8.wrap p0)), ())))))
 .fail)
 (.ret (.out ((), (p2, ()))))
def f71_tree (a0 : Int) (a1 : Int) : Out (((List UInt8 × Unit) × Unit) × (Unit × Unit × Unit)) :=
 .ite ((!(inV a1 (1 : Int) (7 : Int))) == false)
 (.ite (decide ((IntKind.i64.wrap ((8 : Int) * a1)) < 0))
 .fail
 (.ite (!(inV a0 (0 : Int) (IntKind.i64.wrap ((IntKind.i64.wrap ((1 : Int) * 2 ^ (min (Int.toNat (IntKind.i64.wrap ((8 : Int) * a1))) (IntKind.bits IntKind.i64)))) - (1 : Int)))))
 (.ret (((([] : List UInt8), ()), ()), ((), (), ())))
 (.ite (decide (0 ≤ a1 ∧ a1 ≤ a1 ∧ a1 ≤ (LIM : Int)))
 (.get (iter1 f71_L0 FUEL ((a0, (IntKind.i64.wrap (a1 - (1 : Int))), ()), ((List.replicate (Int.toNat a1) (0 : Int)), ()))) fun y1 =>
 .ret ((((List.map (fun n : Int => UInt8.ofNat n.toNat) y1.2.1), ()), ()), ((), (), ())))
 .fail)))
 (.ret (((([] : List UInt8), ()), ()), ((), (), ())))
def f71_A : Nat → Option LoopAnn := fun n => annOf [(0, { head := { t := [.i .i64] ++ dd 4 ++ [.srf 64000000, .i .i64] ++ dd 29, v := [(64000000, .arr (.int .u8))] }, out := { t := dd 5 ++ [.srf 64000256] ++ dd 30, v := [(64000256, .arr (.int .u8))] }, ret := none })] n
def k71 : Con := { f := 71, lend := true, its := [⟨false, false, [.i .i64]⟩, ⟨false, false, [.i .i64]⟩], lay := [none, none], rs := [⟨false, false, [.s]⟩], F := fun x => .get (fixedV x.1.1 x.2.1.1) fun y => .ret (((y, ()), ()), ((), (), ())) }
theorem f71_eq (x : itemsD k71.its) : bo [k88] f71_A Tryz.f71 k71 [.tmp 4] x = f71_tree x.1.1 x.2.1.1 := by kernel_rfl
theorem f71_okp (hr : ∀ x : (Int × Unit) × (Int × Unit) × Unit, itemsWF k71.its x → ∀ y, (k71.F x).eval = some y → (f71_tree x.1.1 x.2.1.1).eval = some y) : k71.Ok Tryz.prog := con_fn [k88] ⟨k88_ok, trivial⟩ f71_eq hr
theorem most_fixed {w : Nat} (h1 : 1 ≤ w) (h2 : w ≤ 7) : 0 ≤ IntKind.i64.wrap ((8 : Int) * ((w : Nat) : Int)) ∧
    IntKind.i64.wrap ((IntKind.i64.wrap ((1 : Int) * 2 ^ (min (Int.toNat (IntKind.i64.wrap ((8 : Int) * ((w : Nat) : Int)))) (IntKind.bits IntKind.i64)))) - (1 : Int)) = ((256 ^ w - 1 : Nat) : Int) := by
  rcases (by omega : w = 1 ∨ w = 2 ∨ w = 3 ∨ w = 4 ∨ w = 5 ∨ w = 6 ∨ w = 7) with rfl | rfl | rfl | rfl | rfl | rfl | rfl <;> decide
theorem set_next {α : Type} (x y : α) (r : List α) (k : Nat) : (List.replicate (k + 1) x ++ r).set k y = List.replicate k x ++ y :: r := by
  rw [List.replicate_succ', List.append_assoc, List.set_append_right _ _ (by simp)]
  simp
theorem k71_ok : k71.Ok Tryz.prog := by
  refine f71_okp fun x _ y hy => ?_
  obtain ⟨⟨n, _⟩, ⟨w, _⟩, _⟩ := x
  change (Out.get (fixedV n w) fun y => Out.ret (((y, ()), ()), ((), ((), ())))).eval = some y at hy
  show (f71_tree n w).eval = some y
  unfold f71_tree
  unfold fixedV at hy
  split at hy
  case isFalse => exact nomatch hy
  rename_i hn
  refine Eq.trans ?_ hy
  by_cases h : inV w 1 7 = true
  · rw [eval_ite_t (by simp [h])]
    have hb : 1 ≤ w ∧ w ≤ 7 := by simpa [inV] using h
    obtain ⟨w, rfl⟩ := Int.eq_ofNat_of_zero_le (a := w) (by omega)
    have q := most_fixed (w := w) (by omega) (by omega)
    rw [eval_ite_f (decide_eq_false (by omega)), q.2]
    by_cases hin : inV n 0 ((256 ^ w - 1 : Nat) : Int) = true
    · have hb2 : 0 ≤ n ∧ n ≤ ((256 ^ w - 1 : Nat) : Int) := by simpa [inV] using hin
      obtain ⟨n, rfl⟩ := Int.eq_ofNat_of_zero_le (a := n) (by omega)
      have hp : 0 < 256 ^ w := Nat.pow_pos (by decide)
      have hz : n < 256 ^ w := by omega
      have hn : n ≤ BIG := by omega
      have w8 : IntKind.i64.wrap (((w : Nat) : Int) - 1) = ((w : Nat) : Int) - 1 - ((0 : Nat) : Int) := (wrap_id (n := ((w : Nat) : Int) - 1) (by omega) (by omega)).trans (by omega)
      rw [eval_ite_f (by simp [hin]), if_pos ⟨h, by omega, hz⟩, eval_ite_t (decide_eq_true (by rw [LIM_eq]; omega)), w8]
      have e := iter1_out (f := f71_L0) (fun j => ((((n / 256 ^ j : Nat) : Int), (((w : Nat) : Int) - 1 - ((j : Nat) : Int), ())), (List.replicate (w - j) (0 : Int) ++ (fixB j n).map (fun b => ((b.toNat : Nat) : Int)), ()))) w
        (y := ((), ((fixB w n).map (fun b => ((b.toNat : Nat) : Int)), ()))) (Nat.lt_of_le_of_lt (show w ≤ 7 by omega) (show 7 < FUEL by decide))
        (fun j hj => by
          obtain ⟨k, hk⟩ : ∃ k, w = j + 1 + k := ⟨w - (j + 1), by omega⟩
          have w1 : Int.fdiv ((n / 256 ^ j : Nat) : Int) (2 ^ (min (Int.toNat (8 : Int)) (IntKind.bits IntKind.i64))) = ((n / 256 ^ (j + 1) : Nat) : Int) := (shr_n _ 8 (by decide)).trans (by show ((n / 256 ^ j / 256 : Nat) : Int) = _; rw [Nat.div_div_eq_div_mul, Nat.pow_succ])
          have w2 : ((w : Nat) : Int) - 1 - ((j : Nat) : Int) = ((k : Nat) : Int) := by omega
          have w2' : ((w : Nat) : Int) - 1 - ((j + 1 : Nat) : Int) = ((k : Nat) : Int) - 1 := by omega
          have w3 : decide (((k : Nat) : Int) ≥ 0) = true := decide_eq_true (by omega)
          have w4 : IntKind.i64.wrap (((k : Nat) : Int) - 1) = ((k : Nat) : Int) - 1 := wrap_id (by omega) (by omega)
          have w5 : w - j = k + 1 := by omega
          have w6 : w - (j + 1) = k := by omega
          have w7 : decide (0 ≤ ((k : Nat) : Int) ∧ ((k : Nat) : Int) < (((List.replicate (k + 1) (0 : Int) ++ (fixB j n).map (fun b => ((b.toNat : Nat) : Int))).length : Nat) : Int)) = true := decide_eq_true (by simp; omega)
          have w9 : nth (List.replicate (k + 1) (0 : Int) ++ (fixB j n).map (fun b => ((b.toNat : Nat) : Int))) k = some 0 := by
            refine (nth_get (i := k) (by simp; omega)).trans ?_
            rw [List.getElem_append_left (by simp)]; simp
          simp only [w2, w2', w5, w6, f71_L0, Out.eval, w1, w3, w4, w7, w9, u8_n, Int.toNat_natCast, set_next, fixB, List.map_cons, Option.bind_some, cond_true]
          rfl)
        (by
          have w2 : ((w : Nat) : Int) - 1 - ((w : Nat) : Int) = -1 := by omega
          simp [f71_L0, Out.eval, w2])
      refine (eval_get_some (x := ((), ((fixB w n).map (fun b => ((b.toNat : Nat) : Int)), ()))) (by simpa [fixB] using e)).trans ?_
      simp only [Out.eval, u8s_back]
      rfl
    · rw [eval_ite_t (by simp [hin]), if_neg (fun q => hin (by
        have hp : 0 < 256 ^ w := Nat.pow_pos (by decide)
        have := q.2.2
        have e : ((w : Nat) : Int).toNat = w := rfl
        rw [e] at this
        have hle : n ≤ ((256 ^ w - 1 : Nat) : Int) := by omega
        simp only [inV, decide_eq_true q.2.1, decide_eq_true hle]; rfl))]; rfl
  · rw [eval_ite_f (by simp [h]), if_neg (by simp [h])]; rfl
def crcBit (c : Nat) : Nat := if c % 2 = 1 then c / 2 ^^^ 2197175160 else c / 2
def crcBits (c : Nat) : Nat → Nat
  | 0 => c
  | k + 1 => crcBit (crcBits c k)
def crcByte (c : Nat) (b : UInt8) : Nat := crcBits (c ^^^ b.toNat) 8
def crcN (s : Str) : Nat := s.foldl crcByte 4294967295
def crcV (s : Str) : Int := ((4294967295 - crcN s : Nat) : Int)
theorem crcBit_lt {c : Nat} (h : c < 4294967296) : crcBit c < 4294967296 := by
  unfold crcBit
  split
  · exact Nat.xor_lt_two_pow (n := 32) (by omega) (by decide)
  · omega
theorem crcBits_lt {c : Nat} (h : c < 4294967296) : ∀ k, crcBits c k < 4294967296
  | 0 => h
  | k + 1 => crcBit_lt (crcBits_lt h k)
theorem crcXor_lt {c : Nat} {b : UInt8} (h : c < 4294967296) : c ^^^ b.toNat < 4294967296 := Nat.xor_lt_two_pow (n := 32) h (by have := b.toNat_lt; omega)
theorem crcByte_lt {c : Nat} {b : UInt8} (h : c < 4294967296) : crcByte c b < 4294967296 := crcBits_lt (crcXor_lt h) 8
theorem crcN_lt (s : Str) : crcN s < 4294967296 := by
  unfold crcN
  have : ∀ (s : Str) (c : Nat), c < 4294967296 → s.foldl crcByte c < 4294967296 := by
    intro s
    induction s with
    | nil => exact fun _ h => h
    | cons b r ih => exact fun c h => ih _ (crcByte_lt h)
  exact this s _ (by decide)
theorem crcV_le (s : Str) : crcV s ≤ (BIG : Int) := by unfold crcV BIG; omega
theorem byte_wrap (b : UInt8) : IntKind.i64.wrap ((b.toNat : Nat) : Int) = ((b.toNat : Nat) : Int) := wrap_nat (by have := b.toNat_lt; unfold BIG; omega)
abbrev f42_S2 := (List UInt8 × Int × Int × Int × Unit) × (Unit)
def f42_L2 : f42_S2 → Out (Round f42_S2 ((List UInt8 × Int × Int × Unit) × (Unit)) Empty)
| ((p0, p1, p2, p3, _), _) =>
 .ite (decide (p3 < (8 : Int)))
 (.ite ((2 : Int) == 0)
 .fail
 (.ite ((2 : Int) == 0)
 .fail
 (.ite (((Int.tmod p1 (2 : Int)) == (1 : Int)))
 (.ret (.again ((p0, (IntKind.i64.wrap (((BitVec.ofInt (IntKind.bits IntKind.i64) (IntKind.i64.wrap (Int.tdiv p1 (2 : Int))) ^^^ BitVec.ofInt (IntKind.bits IntKind.i64) (2197175160 : Int)).toNat : Int))), p2, (IntKind.i64.wrap (p3 + (1 : Int))), ()), ())))
 (.ret (.again ((p0, (IntKind.i64.wrap (Int.tdiv p1 (2 : Int))), p2, (IntKind.i64.wrap (p3 + (1 : Int))), ()), ()))))))
 (.ret (.out ((p0, p1, p2, ()), ())))
abbrev f42_S0 := (List UInt8 × Int × Int × Unit) × (Unit)
def f42_L0 : f42_S0 → Out (Round f42_S0 ((Int × Unit) × (Unit)) Empty)
| ((p0, p1, p2, _), _) =>
 .ite (decide (p2 < ((List.length p0 : Nat) : Int)))
 (.ite (decide (0 ≤ p2))
 (.get (nth p0 (Int.toNat p2)) fun y1 =>
 .get (iter1 f42_L2 FUEL ((p0, (IntKind.i64.wrap (((BitVec.ofInt (IntKind.bits IntKind.i64) p1 ^^^ BitVec.ofInt (IntKind.bits IntKind.i64) (IntKind.i64.wrap ((UInt8.toNat y1 : Nat) : Int))).toNat : Int))), p2, (0 : Int), ()), ())) fun y2 =>
 .ret (.again ((y2.1.1, y2.1.2.1, (IntKind.i64.wrap (y2.1.2.2.1 + (1 : Int))), ()), ())))
 .fail)
 (.ret (.out ((p1, ()), ())))
def f42_tree (a0 : List UInt8) : Out (((Int × Unit) × Unit) × (Unit × Unit)) :=
 .get (iter1 f42_L0 FUEL ((a0, (4294967295 : Int), (0 : Int), ()), ())) fun y1 =>
 .ret ((((IntKind.i64.wrap ((4294967295 : Int) - y1.1.1)), ()), ()), ((), ()))
def f42_A : Nat → Option LoopAnn := fun n => annOf [(0, { head := { t := [.s, .dead, .dead, .i .i64, .i .i64] ++ dd 28, v := [] }, out := { t := [.dead, .dead, .dead, .i .i64] ++ dd 29, v := [] }, ret := none }), (2, { head := { t := [.s, .dead, .dead, .i .i64, .i .i64, .i .i64] ++ dd 27, v := [] }, out := { t := [.s, .dead, .dead, .i .i64, .i .i64] ++ dd 28, v := [] }, ret := none })] n
def k42 : Con := { f := 42, lend := true, its := [⟨false, false, [.s]⟩], lay := [none], rs := [⟨false, false, [.i .i64]⟩], F := fun x => .ret ((((crcV x.1.1), ()), ()), ((), ())) }
theorem f42_eq (x : itemsD k42.its) : bo [] f42_A Tryz.f42 k42 [.tmp 2] x = f42_tree x.1.1 := by kernel_rfl
theorem f42_ok (hr : ∀ x : (List UInt8 × Unit) × Unit, itemsWF k42.its x → (f42_tree x.1.1).eval = (k42.F x).eval) : k42.Ok Tryz.prog := con_fn [] trivial f42_eq fun x hw _ hy => (hr x hw).trans hy
theorem k42_ok : k42.Ok Tryz.prog := by
  refine f42_ok fun x hw => ?_
  obtain ⟨⟨s, _⟩, _⟩ := x
  have hs : s.length ≤ BIG := hw.1.1
  show (f42_tree s).eval = some (((crcV s, ()), ()), ((), ()))
  unfold f42_tree
  have bits : ∀ (c : Nat) (i : Int), c < 4294967296 → iter1 f42_L2 FUEL ((s, (((c : Nat) : Int), (i, ((0 : Int), ())))), ()) = some ((s, (((crcBits c 8 : Nat) : Int), (i, ()))), ()) := fun c i hc =>
    iter1_out (f := f42_L2) (fun k => ((s, (((crcBits c k : Nat) : Int), (i, (((k : Nat) : Int), ())))), ())) 8 (by decide)
      (fun k hk => by
        have hl := crcBits_lt hc k
        have w1 : Int.tmod ((crcBits c k : Nat) : Int) (2 : Int) = ((crcBits c k % 2 : Nat) : Int) := tmod_n _ 2
        have w2 : IntKind.i64.wrap (Int.tdiv ((crcBits c k : Nat) : Int) (2 : Int)) = ((crcBits c k / 2 : Nat) : Int) := (congrArg _ (tdiv_n _ 2)).trans (wrap_nat (by unfold BIG; omega))
        have w3 : IntKind.i64.wrap (((BitVec.ofInt (IntKind.bits IntKind.i64) ((crcBits c k / 2 : Nat) : Int) ^^^ BitVec.ofInt (IntKind.bits IntKind.i64) (2197175160 : Int)).toNat : Nat) : Int) = ((crcBits c k / 2 ^^^ 2197175160 : Nat) : Int) := bit_xor (b := 2197175160) (by unfold BIG; omega) (by decide)
        have w4 := wrap_succ (i := k) (by unfold BIG; omega)
        have w5 : decide (((k : Nat) : Int) < 8) = true := decide_eq_true (by omega)
        simp only [f42_L2, Out.eval, w1, w2, w3, w4, w5, crcBits, crcBit]
        by_cases h1 : crcBits c k % 2 = 1
        · rw [h1]; rfl
        · have : (((crcBits c k % 2 : Nat) : Int) == 1) = false := by simp; omega
          rw [this, if_neg h1]; rfl)
      (by simp [f42_L2, Out.eval])
  have := foldl_loop (f := f42_L0) (fun c _ => c < 4294967296) crcByte s (fun c i => ((s, (((c : Nat) : Int), (((i : Nat) : Int), ()))), ())) (fun c => ((((c : Nat) : Int), ()), ()))
    (fun i hi c hc => by
      have w1 : IntKind.i64.wrap (((BitVec.ofInt (IntKind.bits IntKind.i64) ((c : Nat) : Int) ^^^ BitVec.ofInt (IntKind.bits IntKind.i64) (IntKind.i64.wrap ((UInt8.toNat s[i] : Nat) : Int))).toNat : Nat) : Int) = ((c ^^^ s[i].toNat : Nat) : Int) := by
        rw [byte_wrap]; exact bit_xor (by unfold BIG; omega) (by have := s[i].toNat_lt; unfold BIG; omega)
      have w2 := wrap_succ (i := i) (by omega)
      have w3 := bits (c ^^^ s[i].toNat) ((i : Nat) : Int) (crcXor_lt hc)
      simp only [f42_L0, Out.eval, lt_t hi, ge0, nth_get hi, Option.bind_some, cond_true, w1, w2, w3, crcByte])
    (fun c _ => by simp [f42_L0, Out.eval]) (fun i hi c hc => crcByte_lt hc) hs 4294967295 (by decide)
  refine (eval_get_some this).trans ?_
  have hl := crcN_lt s
  have : IntKind.i64.wrap ((4294967295 : Int) - ((crcN s : Nat) : Int)) = crcV s := by
    rw [wrap_id (by omega) (by omega)]; unfold crcV; omega
  simp only [Out.eval]
  exact congrArg (fun x => some (((x, ()), ()), ((), ()))) this
abbrev f72_S2 := (List UInt8 × Int × Int × Int × Int × Unit) × (Unit)
def f72_L2 : f72_S2 → Out (Round f72_S2 ((List UInt8 × Int × Int × Int × Unit) × (Unit)) Empty)
| ((p0, p1, p2, p3, p4, _), _) =>
 .ite (decide (p4 < (8 : Int)))
 (.ite (decide ((1 : Int) < 0))
 .fail
 (.ite (((IntKind.i64.wrap (((BitVec.ofInt (IntKind.bits IntKind.i64) p1 &&& BitVec.ofInt (IntKind.bits IntKind.i64) (1 : Int)).toNat : Int))) == (1 : Int)))
 (.ret (.again ((p0, (IntKind.i64.wrap (((BitVec.ofInt (IntKind.bits IntKind.i64) (Int.fdiv p1 (2 ^ (min (Int.toNat (1 : Int)) (IntKind.bits IntKind.i64)))) ^^^ BitVec.ofInt (IntKind.bits IntKind.i64) (2197175160 : Int)).toNat : Int))), p2, p3, (IntKind.i64.wrap (p4 + (1 : Int))), ()), ())))
 (.ret (.again ((p0, (Int.fdiv p1 (2 ^ (min (Int.toNat (1 : Int)) (IntKind.bits IntKind.i64)))), p2, p3, (IntKind.i64.wrap (p4 + (1 : Int))), ()), ())))))
 (.ret (.out ((p0, p1, p2, p3, ()), ())))
abbrev f72_S0 := (List UInt8 × Int × Int × Int × Unit) × (Unit)
def f72_L0 : f72_S0 → Out (Round f72_S0 ((Int × Unit) × (Unit)) Empty)
| ((p0, p1, p2, p3, _), _) =>
 .ite (decide (p3 < p2))
 (.ite (decide (0 ≤ p3))
 (.get (nth p0 (Int.toNat p3)) fun y1 =>
 .get (iter1 f72_L2 FUEL ((p0, (IntKind.i64.wrap (((BitVec.ofInt (IntKind.bits IntKind.i64) p1 ^^^ BitVec.ofInt (IntKind.bits IntKind.i64) (IntKind.i64.wrap ((UInt8.toNat y1 : Nat) : Int))).toNat : Int))), p2, p3, (0 : Int), ()), ())) fun y2 =>
 .ret (.again ((y2.1.1, y2.1.2.1, y2.1.2.2.1, (IntKind.i64.wrap (y2.1.2.2.2.1 + (1 : Int))), ()), ())))
 .fail)
 (.ret (.out ((p1, ()), ())))
def f72_tree (a0 : List UInt8) : Out (((Int × Unit) × Unit) × (Unit × Unit)) :=
 .get (iter1 f72_L0 FUEL ((a0, (4294967295 : Int), ((List.length a0 : Nat) : Int), (0 : Int), ()), ())) fun y1 =>
 .ret ((((IntKind.i64.wrap ((4294967295 : Int) - y1.1.1)), ()), ()), ((), ()))
def f72_A : Nat → Option LoopAnn := fun n => annOf [(0, { head := { t := [.s, .dead, .dead, .i .i64, .dead, .dead, .dead, .i .i64, .i .i64] ++ dd 22, v := [] }, out := { t := [.dead, .dead, .dead, .i .i64] ++ dd 27, v := [] }, ret := none }), (2, { head := { t := [.s, .dead, .dead, .i .i64, .dead, .dead, .dead, .i .i64, .i .i64] ++ dd 8 ++ [.i .i64] ++ dd 13, v := [] }, out := { t := [.s, .dead, .dead, .i .i64, .dead, .dead, .dead, .i .i64, .i .i64] ++ dd 22, v := [] }, ret := none })] n
def k72 : Con := { f := 72, lend := true, its := [⟨false, false, [.s]⟩], lay := [none], rs := [⟨false, false, [.i .i64]⟩], F := fun x => .ret ((((crcV x.1.1), ()), ()), ((), ())) }
theorem f72_eq (x : itemsD k72.its) : bo [] f72_A Tryz.f72 k72 [.tmp 2] x = f72_tree x.1.1 := by kernel_rfl
theorem f72_ok (hr : ∀ x : (List UInt8 × Unit) × Unit, itemsWF k72.its x → (f72_tree x.1.1).eval = (k72.F x).eval) : k72.Ok Tryz.prog := con_fn [] trivial f72_eq fun x hw _ hy => (hr x hw).trans hy
theorem and1 (n : Nat) : n &&& 1 = n % 2 := Nat.and_two_pow_sub_one_eq_mod n 1
theorem k72_ok : k72.Ok Tryz.prog := by
  refine f72_ok fun x hw => ?_
  obtain ⟨⟨s, _⟩, _⟩ := x
  have hs : s.length ≤ BIG := hw.1.1
  show (f72_tree s).eval = some (((crcV s, ()), ()), ((), ()))
  unfold f72_tree
  have bits : ∀ (c : Nat) (i : Int), c < 4294967296 → iter1 f72_L2 FUEL ((s, (((c : Nat) : Int), (((s.length : Nat) : Int), (i, ((0 : Int), ()))))), ()) = some ((s, (((crcBits c 8 : Nat) : Int), (((s.length : Nat) : Int), (i, ())))), ()) := fun c i hc =>
    iter1_out (f := f72_L2) (fun k => ((s, (((crcBits c k : Nat) : Int), (((s.length : Nat) : Int), (i, (((k : Nat) : Int), ()))))), ())) 8 (by decide)
      (fun k hk => by
        have hl := crcBits_lt hc k
        have w1 : IntKind.i64.wrap (((BitVec.ofInt (IntKind.bits IntKind.i64) ((crcBits c k : Nat) : Int) &&& BitVec.ofInt (IntKind.bits IntKind.i64) (1 : Int)).toNat : Nat) : Int) = ((crcBits c k % 2 : Nat) : Int) := (bit_and (b := 1) (by unfold BIG; omega) (by decide)).trans (by rw [and1])
        have w2 : Int.fdiv ((crcBits c k : Nat) : Int) (2 ^ (min (Int.toNat (1 : Int)) (IntKind.bits IntKind.i64))) = ((crcBits c k / 2 : Nat) : Int) := shr_n _ 1 (by decide)
        have w3 : IntKind.i64.wrap (((BitVec.ofInt (IntKind.bits IntKind.i64) ((crcBits c k / 2 : Nat) : Int) ^^^ BitVec.ofInt (IntKind.bits IntKind.i64) (2197175160 : Int)).toNat : Nat) : Int) = ((crcBits c k / 2 ^^^ 2197175160 : Nat) : Int) := bit_xor (b := 2197175160) (by unfold BIG; omega) (by decide)
        have w4 := wrap_succ (i := k) (by unfold BIG; omega)
        have w5 : decide (((k : Nat) : Int) < 8) = true := decide_eq_true (by omega)
        simp only [f72_L2, Out.eval, w1, w2, w3, w4, w5, crcBits, crcBit]
        by_cases h1 : crcBits c k % 2 = 1
        · rw [h1]; rfl
        · have : (((crcBits c k % 2 : Nat) : Int) == 1) = false := by simp; omega
          rw [this, if_neg h1]; rfl)
      (by simp [f72_L2, Out.eval])
  have := foldl_loop (f := f72_L0) (fun c _ => c < 4294967296) crcByte s (fun c i => ((s, (((c : Nat) : Int), (((s.length : Nat) : Int), (((i : Nat) : Int), ())))), ())) (fun c => ((((c : Nat) : Int), ()), ()))
    (fun i hi c hc => by
      have w1 : IntKind.i64.wrap (((BitVec.ofInt (IntKind.bits IntKind.i64) ((c : Nat) : Int) ^^^ BitVec.ofInt (IntKind.bits IntKind.i64) (IntKind.i64.wrap ((UInt8.toNat s[i] : Nat) : Int))).toNat : Nat) : Int) = ((c ^^^ s[i].toNat : Nat) : Int) := by
        rw [byte_wrap]; exact bit_xor (by unfold BIG; omega) (by have := s[i].toNat_lt; unfold BIG; omega)
      have w2 := wrap_succ (i := i) (by omega)
      have w3 := bits (c ^^^ s[i].toNat) ((i : Nat) : Int) (crcXor_lt hc)
      simp only [f72_L0, Out.eval, lt_t hi, ge0, nth_get hi, Option.bind_some, cond_true, w1, w2, w3, crcByte])
    (fun c _ => by simp [f72_L0, Out.eval]) (fun i hi c hc => crcByte_lt hc) hs 4294967295 (by decide)
  refine (eval_get_some this).trans ?_
  have hl := crcN_lt s
  have : IntKind.i64.wrap ((4294967295 : Int) - ((crcN s : Nat) : Int)) = crcV s := by
    rw [wrap_id (by omega) (by omega)]; unfold crcV; omega
  simp only [Out.eval]
  exact congrArg (fun x => some (((x, ()), ()), ((), ()))) this
end Go.Proofs.YtcpjdjgipmjhdaaGreat.Dm
