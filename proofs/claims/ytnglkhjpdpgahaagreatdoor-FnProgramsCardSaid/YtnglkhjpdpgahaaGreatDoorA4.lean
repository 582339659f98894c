/- Functions of the program, and what they compute. -/
import Derived.Test.YtnglkhjpdpgahaaGreatDoorA3
namespace Go.Proofs.YtnglkhjpdpgahaaGreatDoor.Dm
open Go Go.ChangeShapes Go.WideShapes Go.ChangeAt Go.RowKit
theorem ofInt_nat (a : Nat) : BitVec.ofInt 64 ((a : Nat) : Int) = BitVec.ofNat 64 a := by simp
theorem wrap_nat {a : Nat} (h : a ≤ BIG) : IntKind.i64.wrap ((a : Nat) : Int) = ((a : Nat) : Int) := by
  unfold BIG at h
  exact wrap_id (by omega) (by omega)
theorem bit_and {a b : Nat} (ha : a ≤ BIG) (hb : b ≤ BIG) : IntKind.i64.wrap (((BitVec.ofInt (IntKind.bits .i64) ((a : Nat) : Int) &&& BitVec.ofInt (IntKind.bits .i64) ((b : Nat) : Int)).toNat : Nat) : Int) = ((a &&& b : Nat) : Int) := by
  show IntKind.i64.wrap (((BitVec.ofInt 64 ((a : Nat) : Int) &&& BitVec.ofInt 64 ((b : Nat) : Int)).toNat : Nat) : Int) = ((a &&& b : Nat) : Int)
  rw [ofInt_nat, ofInt_nat, BitVec.toNat_and, BitVec.toNat_ofNat, BitVec.toNat_ofNat, Nat.mod_eq_of_lt (Nat.lt_of_le_of_lt ha (by decide)), Nat.mod_eq_of_lt (Nat.lt_of_le_of_lt hb (by decide))]
  exact wrap_nat (Nat.le_trans Nat.and_le_left ha)
theorem bit_or {a b : Nat} (ha : a ≤ BIG) (hb : b ≤ BIG) : IntKind.i64.wrap (((BitVec.ofInt (IntKind.bits .i64) ((a : Nat) : Int) ||| BitVec.ofInt (IntKind.bits .i64) ((b : Nat) : Int)).toNat : Nat) : Int) = ((a ||| b : Nat) : Int) := by
  show IntKind.i64.wrap (((BitVec.ofInt 64 ((a : Nat) : Int) ||| BitVec.ofInt 64 ((b : Nat) : Int)).toNat : Nat) : Int) = ((a ||| b : Nat) : Int)
  rw [ofInt_nat, ofInt_nat, BitVec.toNat_or, BitVec.toNat_ofNat, BitVec.toNat_ofNat, Nat.mod_eq_of_lt (Nat.lt_of_le_of_lt ha (by decide)), Nat.mod_eq_of_lt (Nat.lt_of_le_of_lt hb (by decide))]
  have : (a ||| b) < 2 ^ 63 := Nat.or_lt_two_pow (by unfold BIG at ha; omega) (by unfold BIG at hb; omega)
  exact wrap_nat (by unfold BIG; omega)
theorem fdiv_n (a b : Nat) : Int.fdiv ((a : Nat) : Int) ((b : Nat) : Int) = ((a / b : Nat) : Int) := by rw [Int.fdiv_eq_ediv_of_nonneg _ (by omega)]; rfl
theorem u8_n (a : Nat) : IntKind.u8.wrap ((a : Nat) : Int) = (((UInt8.ofNat a).toNat : Nat) : Int) := by
  rw [IntKind.wrap_u8, UInt8.toNat_ofNat']; omega
theorem u8_back (b : UInt8) : UInt8.ofNat (Int.toNat ((b.toNat : Nat) : Int)) = b := by simp
theorem u8s_back (l : Str) : (l.map fun b => ((b.toNat : Nat) : Int)).map (fun n : Int => UInt8.ofNat n.toNat) = l := by
  rw [List.map_map]
  exact (List.map_congr_left fun b _ => u8_back b).trans (List.map_id' l)
theorem iter1_again {α β : Type} {f : α → Out (Round α β Empty)} {n : Nat} {x x' : α} (h : (f x).eval = some (.again x')) : iter1 f (n + 1) x = iter1 f n x' := by unfold iter1; rw [iter_again h]
theorem iter1_out' {α β : Type} {f : α → Out (Round α β Empty)} {n : Nat} {x : α} {y : β} (h : (f x).eval = some (.out y)) (hn : 0 < n) : iter1 f n x = some y := by unfold iter1; rw [iter_out' h hn]; rfl
theorem foldl_loop {α β σ δ : Type} {f : σ → Out (Round σ β Empty)} (P : δ → Nat → Prop) (g : δ → α → δ) (a : List α) (S : δ → Nat → σ) (y : δ → β)
    (hs : ∀ i (hi : i < a.length) l, P l i → (f (S l i)).eval = some (.again (S (g l a[i]) (i + 1)))) (hy : ∀ l, P l a.length → (f (S l a.length)).eval = some (.out (y l)))
    (hP : ∀ i (hi : i < a.length) l, P l i → P (g l a[i]) (i + 1)) (ha : a.length ≤ BIG) (l : δ) (hl : P l 0) : iter1 f FUEL (S l 0) = some (y (a.foldl g l)) := by
  have step : ∀ i (hi : i < a.length), (a.take (i + 1)).foldl g l = g ((a.take i).foldl g l) a[i] := fun i hi => by
    rw [List.take_succ_eq_append_getElem hi, List.foldl_append]; rfl
  have inv : ∀ i, i ≤ a.length → P ((a.take i).foldl g l) i := by
    intro i
    induction i with
    | zero => intro _; simpa using hl
    | succ i ih => intro hi; rw [step i (by omega)]; exact hP i (by omega) _ (ih (by omega))
  have h := iter1_out (f := f) (fun i => S ((a.take i).foldl g l) i) a.length (y := y (a.foldl g l)) (lt_fuel ha)
    (fun i hi => by rw [step i hi]; exact hs i hi _ (inv i (by omega)))
    (by
      have := hy _ (inv a.length (Nat.le_refl _))
      rw [List.take_length] at this ⊢
      exact this)
  simpa using h
theorem flat_loop {α β σ γ : Type} {f : σ → Out (Round σ β Empty)} (h : α → List γ) (a : List α) (S : List γ → Nat → σ) (y : List γ → β) (m : Nat)
    (hs : ∀ i (hi : i < a.length) s, s.length + (h a[i]).length ≤ m → (f (S s i)).eval = some (.again (S (s ++ h a[i]) (i + 1)))) (hy : ∀ s, (f (S s a.length)).eval = some (.out (y s)))
    (ha : a.length ≤ BIG) (s : List γ) (hl : s.length + (a.flatMap h).length ≤ m) : iter1 f FUEL (S s 0) = some (y (s ++ a.flatMap h)) := by
  have hd : ∀ i (hi : i < a.length), (a.drop i).flatMap h = h a[i] ++ (a.drop (i + 1)).flatMap h := fun i hi => by rw [List.drop_eq_getElem_cons hi, List.flatMap_cons]
  have := foldl_loop (f := f) (fun s i => s.length + ((a.drop i).flatMap h).length ≤ m) (fun s x => s ++ h x) a S y
    (fun i hi s hp => hs i hi s (by rw [hd i hi, List.length_append] at hp; omega)) (fun s _ => hy s)
    (fun i hi s hp => by rw [hd i hi, List.length_append] at hp; rw [List.length_append]; omega) ha s (by simpa using hl)
  rw [this]
  congr 2
  clear this hl hd hs hy ha
  induction a generalizing s with
  | nil => simp
  | cons x r ih => rw [List.foldl_cons, ih, List.flatMap_cons, List.append_assoc]
def varB (n : Nat) : Str := if n < 128 then [UInt8.ofNat n] else UInt8.ofNat (128 + n % 128) :: varB (n / 128)
termination_by n
decreasing_by omega
theorem varB_lt {n : Nat} (h : n < 128) : varB n = [UInt8.ofNat n] := by rw [varB, if_pos h]
theorem varB_ge {n : Nat} (h : ¬ n < 128) : varB n = UInt8.ofNat (128 + n % 128) :: varB (n / 128) := by rw [varB, if_neg h]
theorem varB_len : ∀ {k n : Nat}, n < 128 ^ (k + 1) → (varB n).length ≤ k + 1
  | 0, n, h => by rw [varB_lt (by omega)]; simp
  | k + 1, n, h => by
    by_cases hn : n < 128
    · rw [varB_lt hn]; simp
    · rw [varB_ge hn]
      have := varB_len (k := k) (n := n / 128) (by rw [Nat.pow_succ] at h; omega)
      simp only [List.length_cons]; omega
theorem varB_len7 {n : Nat} (h : n < 562949953421312) : (varB n).length ≤ 7 := varB_len (k := 6) h
def varV (n : Int) : Str := if inV n 0 562949953421311 = true then varB n.toNat else []
theorem varV_len (n : Int) : (varV n).length ≤ 7 := by
  unfold varV
  split
  · rename_i h
    have : 0 ≤ n ∧ n ≤ 562949953421311 := by simpa [inV] using h
    exact varB_len7 (by omega)
  · simp
theorem var_loop {f : ((Int) × Unit) × ((List Int) × Unit) → Out (Round (((Int) × Unit) × ((List Int) × Unit)) (((Int) × Unit) × ((List Int) × Unit)) Empty)}
    (h1 : ∀ (n : Nat) (l : List Int), 128 ≤ n → n < 562949953421312 → l.length ≤ 7 → (f ((((n : Nat) : Int), ()), (l, ()))).eval = some (.again ((((n / 128 : Nat) : Int), ()), (l ++ [(((UInt8.ofNat (128 + n % 128)).toNat : Nat) : Int)], ()))))
    (h2 : ∀ (n : Nat) (l : List Int), n < 128 → (f ((((n : Nat) : Int), ()), (l, ()))).eval = some (.out ((((n : Nat) : Int), ()), (l, ())))) :
    ∀ (k n : Nat) (l : List Int), n < k → n < 562949953421312 → l.length + (varB n).length ≤ 7 →
      ∃ (l' : List Int) (m : Nat), iter1 f k ((((n : Nat) : Int), ()), (l, ())) = some ((((m : Nat) : Int), ()), (l', ())) ∧ l' ++ [(((UInt8.ofNat m).toNat : Nat) : Int)] = l ++ (varB n).map fun b => ((b.toNat : Nat) : Int)
  | 0, n, l, hk, _, _ => absurd hk (Nat.not_lt_zero n)
  | k + 1, n, l, hk, hm, hl => by
    by_cases hn : n < 128
    · exact ⟨l, n, iter1_out' (h2 n l hn) (by omega), by rw [varB_lt hn]; rfl⟩
    · rw [varB_ge hn] at hl ⊢
      simp only [List.length_cons] at hl
      obtain ⟨l', m, e1, e2⟩ := var_loop h1 h2 k (n / 128) (l ++ [(((UInt8.ofNat (128 + n % 128)).toNat : Nat) : Int)]) (by omega) (by omega) (by simp; omega)
      exact ⟨l', m, by rw [iter1_again (h1 n l (by omega) hm (by omega)), e1], by rw [e2]; simp⟩
theorem var_end {n : Nat} {l' : List Int} {m : Nat} (e : l' ++ [(((UInt8.ofNat m).toNat : Nat) : Int)] = [] ++ (varB n).map fun b => ((b.toNat : Nat) : Int)) : (l' ++ [IntKind.u8.wrap ((m : Nat) : Int)]).map (fun n : Int => UInt8.ofNat n.toNat) = varB n := by
  rw [u8_n, e, List.nil_append, u8s_back]
theorem LIM_eq : LIM = 68719476736 := rfl
abbrev f17_S0 := (Int × Unit) × (List (Int) × Unit)
def f17_L0 : f17_S0 → Out (Round f17_S0 ((Int × Unit) × (List (Int) × Unit)) Empty)
| ((p0, _), p1, _) =>
 .ite (decide (p0 > (127 : Int)))
 (.ite (decide (List.length p1 + List.length ([(IntKind.u8.wrap (IntKind.i64.wrap (((BitVec.ofInt (IntKind.bits IntKind.i64) (IntKind.i64.wrap (((BitVec.ofInt (IntKind.bits IntKind.i64) p0 &&& BitVec.ofInt (IntKind.bits IntKind.i64) (127 : Int)).toNat : Int))) ||| BitVec.ofInt (IntKind.bits IntKind.i64) (128 : Int)).toNat : Int))))] : List (Int)) ≤ LIM))
 (.ite (decide ((7 : Int) < 0))
 .fail
 (.ret (.again (((Int.fdiv p0 (2 ^ (min (Int.toNat (7 : Int)) (IntKind.bits IntKind.i64)))), ()), ((p1 ++ ([(IntKind.u8.wrap (IntKind.i64.wrap (((BitVec.ofInt (IntKind.bits IntKind.i64) (IntKind.i64.wrap (((BitVec.ofInt (IntKind.bits IntKind.i64) p0 &&& BitVec.ofInt (IntKind.bits IntKind.i64) (127 : Int)).toNat : Int))) ||| BitVec.ofInt (IntKind.bits IntKind.i64) (128 : Int)).toNat : Int))))] : List (Int))), ())))))
 .fail)
 (.ret (.out ((p0, ()), (p1, ()))))
def f17_tree (a0 : Int) : Out (((List UInt8 × Unit) × Unit) × (Unit × Unit)) :=
 .ite (!(inV a0 (0 : Int) (562949953421311 : Int)))
 (.ret (((([] : List UInt8), ()), ()), ((), ())))
 (.get (iter1 f17_L0 FUEL ((a0, ()), (([] : List (Int)), ()))) fun y1 =>
 .ite (decide (List.length y1.2.1 + List.length ([(IntKind.u8.wrap y1.1.1)] : List (Int)) ≤ LIM))
 (.ret ((((List.map (fun n : Int => UInt8.ofNat n.toNat) (y1.2.1 ++ ([(IntKind.u8.wrap y1.1.1)] : List (Int)))), ()), ()), ((), ())))
 .fail)
def f17_A : Nat → Option LoopAnn := fun n => annOf [(0, { head := { t := [.i .i64, .dead, .dead, .srf 64000000] ++ dd 21, v := [(64000000, .arr (.int .u8))] }, out := { t := [.i .i64, .dead, .dead, .srf 64000256] ++ dd 21, v := [(64000256, .arr (.int .u8))] }, ret := none })] n
def k17 : Con := { f := 17, lend := true, its := [⟨false, false, [.i .i64]⟩], lay := [none], rs := [⟨false, false, [.s]⟩], F := fun x => .ret ((((varV x.1.1), ()), ()), ((), ())) }
theorem f17_eq (x : itemsD k17.its) : bo [k42] f17_A Tryz.f17 k17 [.tmp 2] x = f17_tree x.1.1 := by kernel_rfl
theorem f17_ok (hr : ∀ x : (Int × Unit) × Unit, itemsWF k17.its x → (f17_tree x.1.1).eval = (k17.F x).eval) : k17.Ok Tryz.prog := con_fn [k42] ⟨k42_ok, trivial⟩ f17_eq fun x hw _ hy => (hr x hw).trans hy
theorem and127 (n : Nat) : n &&& 127 = n % 128 := Nat.and_two_pow_sub_one_eq_mod n 7
theorem or128 {n : Nat} (h : n < 128) : n ||| 128 = 128 + n := by
  rw [Nat.or_comm]; exact (Nat.two_pow_add_eq_or_of_lt (i := 7) h 1).symm
theorem shr_n (n k : Nat) (hk : k ≤ 64) : Int.fdiv ((n : Nat) : Int) (2 ^ (min (Int.toNat ((k : Nat) : Int)) (IntKind.bits IntKind.i64))) = ((n / 2 ^ k : Nat) : Int) := by
  have : min (Int.toNat ((k : Nat) : Int)) (IntKind.bits IntKind.i64) = k := by show min k 64 = k; omega
  rw [this]
  have e : ((2 : Int) ^ k) = ((2 ^ k : Nat) : Int) := by simp
  rw [e, fdiv_n]
theorem k17_ok : k17.Ok Tryz.prog := by
  refine f17_ok fun x _ => ?_
  obtain ⟨⟨n, _⟩, _⟩ := x
  show (f17_tree n).eval = some (((varV n, ()), ()), ((), ()))
  unfold f17_tree varV
  by_cases h : inV n 0 562949953421311 = true
  · rw [eval_ite_f (by simp [h]), if_pos h]
    have hb : 0 ≤ n ∧ n ≤ 562949953421311 := by simpa [inV] using h
    obtain ⟨n, rfl⟩ := Int.eq_ofNat_of_zero_le hb.1
    have hn : n < 562949953421312 := by omega
    obtain ⟨l', m, e1, e2⟩ := var_loop (f := f17_L0) (fun n l h1 h2 h3 => by
        have w1 : Int.fdiv ((n : Nat) : Int) (2 ^ (min (Int.toNat (7 : Int)) (IntKind.bits IntKind.i64))) = ((n / 128 : Nat) : Int) := shr_n n 7 (by decide)
        have w0 : IntKind.i64.wrap (((BitVec.ofInt (IntKind.bits IntKind.i64) ((n : Nat) : Int) &&& BitVec.ofInt (IntKind.bits IntKind.i64) (127 : Int)).toNat : Nat) : Int) = ((n % 128 : Nat) : Int) := (bit_and (a := n) (b := 127) (by unfold BIG; omega) (by decide)).trans (by rw [and127])
        have w2 : IntKind.u8.wrap (IntKind.i64.wrap (((BitVec.ofInt (IntKind.bits IntKind.i64) ((n % 128 : Nat) : Int) ||| BitVec.ofInt (IntKind.bits IntKind.i64) (128 : Int)).toNat : Nat) : Int)) = (((UInt8.ofNat (128 + n % 128)).toNat : Nat) : Int) := by
          rw [← u8_n, ← or128 (n := n % 128) (by omega)]
          exact congrArg _ (bit_or (a := n % 128) (b := 128) (by unfold BIG; omega) (by decide))
        have w3 : decide (((n : Nat) : Int) > (127 : Int)) = true := decide_eq_true (by omega)
        have w4 : decide (List.length l + 1 ≤ LIM) = true := decide_eq_true (by rw [LIM_eq]; omega)
        simp only [f17_L0, Out.eval, w0, w1, w2, w3, List.length_cons, List.length_nil, Nat.zero_add, w4]
        rfl)
      (fun n l h1 => by
        have w3 : decide (((n : Nat) : Int) > (127 : Int)) = false := decide_eq_false (by omega)
        simp only [f17_L0, Out.eval, w3]
        rfl) FUEL n [] (Nat.lt_of_lt_of_le hn (by decide)) hn (by simpa using varB_len7 hn)
    have hl : l'.length + 1 ≤ 7 := by
      have := congrArg List.length e2
      simp at this
      have := varB_len7 hn
      omega
    refine (eval_get_some e1).trans ?_
    rw [eval_ite_t (decide_eq_true (by rw [LIM_eq]; simp; omega))]
    simp only [Out.eval, var_end e2]
    rfl
  · rw [eval_ite_t (by simp [h]), if_neg h]; rfl
theorem byte_wrap (b : UInt8) : IntKind.i64.wrap ((b.toNat : Nat) : Int) = ((b.toNat : Nat) : Int) := wrap_nat (by have := b.toNat_lt; unfold BIG; omega)
end Go.Proofs.YtnglkhjpdpgahaaGreatDoor.Dm
