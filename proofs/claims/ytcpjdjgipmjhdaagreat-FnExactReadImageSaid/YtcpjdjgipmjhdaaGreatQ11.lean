/- Functions of the program, and what they compute. -/
import Derived.Test.YtcpjdjgipmjhdaaGreatQ10
namespace Go.Proofs.YtcpjdjgipmjhdaaGreat.Dm
open Go Go.ChangeShapes Go.WideShapes Go.ChangeAt Go.RowKit
theorem eval_get_ret {ρ : Type} (o : Option ρ) : (Out.get o fun y => .ret y).eval = o := by cases o <;> rfl
def f13_tree (a0 : List UInt8) (a1 : Int) (a2 : Int) : Out (((Int × Unit) × (Int × Unit) × Unit) × (Unit × Unit × Unit × Unit)) :=
 .get (l3VarsV a0 a1 (1 : Int)) fun y1 =>
 .ite ((decide (y1.2 < (0 : Int))) == false)
 (.ite (decide (0 ≤ (0 : Int) ∧ (0 : Int) < ((List.length y1.1 : Nat) : Int)))
 (.get (nth y1.1 (Int.toNat (0 : Int))) fun y2 =>
 .ite (decide (y2 > a2))
 (.ret ((((0 : Int), ()), ((-1 : Int), ()), ()), ((), (), (), ())))
 (.ite (decide (0 ≤ (0 : Int) ∧ (0 : Int) < ((List.length y1.1 : Nat) : Int)))
 (.get (nth y1.1 (Int.toNat (0 : Int))) fun y3 =>
 .ret (((y3, ()), (y1.2, ()), ()), ((), (), (), ())))
 .fail))
 .fail)
 (.ret ((((0 : Int), ()), ((-1 : Int), ()), ()), ((), (), (), ())))
def k13_V (a0 : List UInt8) (a1 : Int) (a2 : Int) : Option (((Int × Unit) × (Int × Unit) × Unit) × (Unit × Unit × Unit × Unit)) := (f13_tree a0 a1 a2).eval
def k13 : Con := { f := 13, lend := true, its := [⟨false, false, [.s]⟩, ⟨false, false, [.i .i64]⟩, ⟨false, false, [.i .i64]⟩], lay := [none, none, none], rs := [⟨false, false, [.i .i64]⟩, ⟨false, false, [.i .i64]⟩], F := fun x => .get (k13_V x.1.1 x.2.1.1 x.2.2.1.1) fun y => .ret y }
theorem f13_eq (x : itemsD k13.its) : bo [k12] (fun _ => none) Tryz.f13 k13 [.tmp 6, .tmp 7] x = f13_tree x.1.1 x.2.1.1 x.2.2.1.1 := by kernel_rfl
theorem f13_ok (hr : ∀ x : (List UInt8 × Unit) × (Int × Unit) × (Int × Unit) × Unit, itemsWF k13.its x → (f13_tree x.1.1 x.2.1.1 x.2.2.1.1).eval = (k13.F x).eval) : k13.Ok Tryz.prog := con_fn [k12] ⟨k12_ok, trivial⟩ f13_eq fun x hw _ hy => (hr x hw).trans hy
theorem k13_ok : k13.Ok Tryz.prog := f13_ok fun x _ => (eval_get_ret _).symm
abbrev cntR (n e : Int) : ((Int × Unit) × (Int × Unit) × Unit) × (Unit × Unit × Unit × Unit) := (((n, ()), (e, ()), ()), ((), (), (), ()))
theorem count_good {s : Str} {p m n k : Nat} (hp : p ≤ s.length) (h : cntP m (s.drop p) = some (n, k)) : k13_V s ((p : Nat) : Int) ((m : Nat) : Int) = some (cntR ((n : Nat) : Int) ((p + k : Nat) : Int)) ∧ n ≤ m ∧ p + k ≤ s.length := by
  have hle := cntP_le h
  rw [List.length_drop] at hle
  refine ⟨?_, hle.1, by omega⟩
  unfold cntP at h
  split at h
  · exact nomatch h
  · rename_i i hi
    split at h
    · exact nomatch h
    · rename_i hm
      simp only [Option.some.injEq, Prod.mk.injEq] at h
      obtain ⟨rfl, rfl⟩ := h
      have hv := ((vars_ats s (n := 1) (by decide) (by decide)).1 p hp _ _ (by rw [nums_one, hi])).1
      unfold k13_V f13_tree
      refine (eval_get_some hv).trans ?_
      refine (eval_ite_t (by rw [decide_eq_false (by omega)]; rfl)).trans ((eval_ite_t rfl).trans ((eval_get_some (x := ((decB ((s.drop p).take (i + 1)) : Nat) : Int)) rfl).trans ?_))
      exact (eval_ite_f (decide_eq_false (by omega))).trans ((eval_ite_t rfl).trans ((eval_get_some (x := ((decB ((s.drop p).take (i + 1)) : Nat) : Int)) rfl).trans rfl))
theorem count_neg {s : Str} {p m : Int} {z : List Int} (hv : l3VarsV s p 1 = some (z, -1)) : k13_V s p m = some (cntR 0 (-1)) := by
  unfold k13_V f13_tree
  exact (eval_get_some hv).trans ((eval_ite_f rfl).trans rfl)
theorem count_fail {s : Str} {p m : Nat} (hp : p ≤ s.length) (h : cntP m (s.drop p) = none) : k13_V s ((p : Nat) : Int) ((m : Nat) : Int) = some (cntR 0 (-1)) := by
  have hA := vars_ats s (n := 1) (by decide) (by decide)
  unfold cntP at h
  split at h
  · rename_i hi
    obtain ⟨z, hv⟩ := hA.2.1 p hp (by rw [nums_one, hi])
    exact count_neg hv
  · rename_i i hi
    split at h
    · rename_i hm
      have hv := (hA.1 p hp _ _ (by rw [nums_one, hi])).1
      unfold k13_V f13_tree
      refine (eval_get_some hv).trans ?_
      refine (eval_ite_t (by rw [decide_eq_false (by omega)]; rfl)).trans ((eval_ite_t rfl).trans ((eval_get_some (x := ((decB ((s.drop p).take (i + 1)) : Nat) : Int)) rfl).trans ?_))
      exact (eval_ite_t (decide_eq_true (by omega))).trans rfl
    · exact nomatch h
theorem count_out (s : Str) (m : Int) : k13_V s (-1) m = some (cntR 0 (-1)) := by
  obtain ⟨z, hz⟩ := (vars_ats s (n := 1) (by decide) (by decide)).2.2
  exact count_neg hz
theorem many_at {α τ σ β : Type} {f : σ → Out (Round σ β Empty)} {C : Int → Option (α × Int)} {P : Str → Option (α × Nat)} {s : Str} (hC : Ats C P s) (g : α → τ) (S : Nat → Nat → Int → List τ → σ) (y : Int → List τ → β) {m : Nat} (hm : m ≤ 1000)
    (hs : ∀ n i p l a e, n ≤ m → i < n → l.length = i → 0 ≤ p → C p = some (a, e) → ∃ t, (f (S n i p l)).eval = some (.again (S n (i + 1) e (l ++ [t]))) ∧ (0 ≤ e → t = g a)) (hy : ∀ n p l, (f (S n n p l)).eval = some (.out (y p l)))
    (hb : ∀ n i p l, i < n → p < 0 → (f (S n i p l)).eval = some (.out (y p l))) :
    (∀ p : Nat, p ≤ s.length → (∀ l k, manyP m P (s.drop p) = some (l, k) → ∃ (n : Nat) (e : Int), k13_V s ((p : Nat) : Int) ((m : Nat) : Int) = some (cntR ((n : Nat) : Int) e) ∧ 0 ≤ e ∧ iter1 f FUEL (S n 0 e []) = some (y ((p + k : Nat) : Int) (l.map g)) ∧ p + k ≤ s.length) ∧
      (manyP m P (s.drop p) = none → ∃ (n : Nat) (e : Int) (l : List τ), k13_V s ((p : Nat) : Int) ((m : Nat) : Int) = some (cntR ((n : Nat) : Int) e) ∧ iter1 f FUEL (S n 0 e []) = some (y (-1) l))) ∧
      iter1 f FUEL (S 0 0 (-1) []) = some (y (-1) []) := by
  have out : iter1 f FUEL (S 0 0 (-1) []) = some (y (-1) []) := iter1_out' (hy 0 (-1) []) (by decide)
  refine ⟨fun p hp => ⟨fun l k h => ?_, fun h => ?_⟩, out⟩
  · unfold manyP at h
    split at h
    · exact nomatch h
    · rename_i n i hn
      split at h
      · exact nomatch h
      · rename_i l' j hr
        simp only [Option.some.injEq, Prod.mk.injEq] at h
        obtain ⟨rfl, rfl⟩ := h
        have h1 := count_good hp hn
        rw [List.drop_drop] at hr
        have h2 := (at_loop hC g (S n) y (n := n) (by omega) (fun i p l a e => hs n i p l a e h1.2.1) (hy n) (hb n) h1.2.2).1 _ _ hr
        rw [← Nat.add_assoc]
        exact ⟨n, _, h1.1, by omega, h2.1, h2.2⟩
  · unfold manyP at h
    split at h
    · rename_i hn
      exact ⟨0, -1, [], count_fail hp hn, out⟩
    · rename_i n i hn
      split at h
      · rename_i hr
        have h1 := count_good hp hn
        rw [List.drop_drop] at hr
        obtain ⟨l, h2⟩ := (at_loop hC g (S n) y (n := n) (by omega) (fun i p l a e => hs n i p l a e h1.2.1) (hy n) (hb n) h1.2.2).2 hr
        exact ⟨n, _, l, h1.1, h2⟩
      · exact nomatch h
theorem many_atR {α τ σ β γ : Type} {f : σ → Out (Round σ β γ)} {C : Int → Option (α × Int)} {P : Str → Option (α × Nat)} {s : Str} (hC : Ats C P s) (g : α → τ) (S : Nat → Nat → Int → List τ → σ) (y : Int → List τ → β) (z : List τ → γ) {m : Nat} (hm : m ≤ 1000)
    (hs : ∀ n i p l a e, n ≤ m → i < n → l.length = i → 0 ≤ p → C p = some (a, e) → 0 ≤ e → (∃ k, P (s.drop p.toNat) = some (a, k)) → (f (S n i p l)).eval = some (.again (S n (i + 1) e (l ++ [g a]))))
    (hr : ∀ n i p l a, i < n → l.length = i → 0 ≤ p → C p = some (a, -1) → (f (S n i p l)).eval = some (.ret (z l))) (hy : ∀ n p l, (f (S n n p l)).eval = some (.out (y p l))) :
    (∀ p : Nat, p ≤ s.length → (∀ l k, manyP m P (s.drop p) = some (l, k) → ∃ (n : Nat) (e : Int), k13_V s ((p : Nat) : Int) ((m : Nat) : Int) = some (cntR ((n : Nat) : Int) e) ∧ iter f FUEL (S n 0 e []) = some (.inl (y ((p + k : Nat) : Int) (l.map g))) ∧ p + k ≤ s.length) ∧
      (manyP m P (s.drop p) = none → ∃ (n : Nat) (e : Int), k13_V s ((p : Nat) : Int) ((m : Nat) : Int) = some (cntR ((n : Nat) : Int) e) ∧ (iter f FUEL (S n 0 e []) = some (.inl (y (-1) [])) ∨ ∃ l, iter f FUEL (S n 0 e []) = some (.inr (z l))))) ∧
      iter f FUEL (S 0 0 (-1) []) = some (.inl (y (-1) [])) := by
  have out : iter f FUEL (S 0 0 (-1) []) = some (.inl (y (-1) [])) := iter_out' (hy 0 (-1) []) (by decide)
  refine ⟨fun p hp => ⟨fun l k h => ?_, fun h => ?_⟩, out⟩
  · unfold manyP at h
    split at h
    · exact nomatch h
    · rename_i n i hn
      split at h
      · exact nomatch h
      · rename_i l' j hr2
        simp only [Option.some.injEq, Prod.mk.injEq] at h
        obtain ⟨rfl, rfl⟩ := h
        have h1 := count_good hp hn
        rw [List.drop_drop] at hr2
        have h2 := (at_loopR hC g (S n) y z (n := n) (by omega) (fun i p l a e => hs n i p l a e h1.2.1) (hr n) (hy n) h1.2.2).1 _ _ hr2
        rw [← Nat.add_assoc]
        exact ⟨n, _, h1.1, h2.1, h2.2⟩
  · unfold manyP at h
    split at h
    · rename_i hn
      exact ⟨0, -1, count_fail hp hn, .inl out⟩
    · rename_i n i hn
      split at h
      · rename_i hr2
        have h1 := count_good hp hn
        rw [List.drop_drop] at hr2
        obtain ⟨l, h2⟩ := (at_loopR hC g (S n) y z (n := n) (by omega) (fun i p l a e => hs n i p l a e h1.2.1) (hr n) (hy n) h1.2.2).2 hr2
        exact ⟨n, _, h1.1, .inr ⟨l, h2⟩⟩
      · exact nomatch h
theorem map_some {α β : Type} {o : Option α} {f : α → β} {b : β} (h : o.map f = some b) : ∃ a, o = some a ∧ f a = b := by
  cases o with
  | none => exact nomatch h
  | some a => exact ⟨a, rfl, Option.some.inj h⟩
section
variable {α β γ : Type}
theorem seqP_mapO {P : Str → Option (α × Nat)} {Q : Str → Option (β × Nat)} {f : α → Option γ} : seqP (mapP f P) Q = mapP (fun x => (f x.1).map fun a => (a, x.2)) (seqP P Q) := by
  funext s
  simp only [seqP, mapP]
  cases P s with
  | none => rfl
  | some x =>
    obtain ⟨a, k⟩ := x
    simp only
    cases hQ : Q (s.drop k) <;> cases hf : f a <;> simp [hQ, hf]
theorem seqP_some {P : Str → Option (α × Nat)} {Q : Str → Option (β × Nat)} {s : Str} {x : α × β} {k : Nat} (h : seqP P Q s = some (x, k)) : ∃ i j, P s = some (x.1, i) ∧ Q (s.drop i) = some (x.2, j) ∧ k = i + j := by
  unfold seqP at h
  split at h
  · exact nomatch h
  · rename_i a i ha
    split at h
    · exact nomatch h
    · rename_i b j hb
      simp only [Option.some.injEq, Prod.mk.injEq] at h
      obtain ⟨rfl, rfl⟩ := h
      exact ⟨i, j, ha, hb, rfl⟩
theorem seqA_some {f : Int → Option (α × Int)} {g : Int → Option (β × Int)} {p : Int} {x : α × β} {e : Int} (h : seqA f g p = some (x, e)) : ∃ q, f p = some (x.1, q) ∧ g q = some (x.2, e) := by
  unfold seqA at h
  cases hf : f p with
  | none => rw [hf] at h; exact nomatch h
  | some a =>
    rw [hf] at h
    obtain ⟨a, q⟩ := a
    cases hg : g q with
    | none => rw [show ((some (a, q)).bind fun a => (g a.2).bind fun b => some ((a.1, b.1), b.2)) = (g q).bind fun b => some ((a, b.1), b.2) from rfl, hg] at h; exact nomatch h
    | some b =>
      rw [show ((some (a, q)).bind fun a => (g a.2).bind fun b => some ((a.1, b.1), b.2)) = (g q).bind fun b => some ((a, b.1), b.2) from rfl, hg] at h
      obtain ⟨b, e'⟩ := b
      have h := Option.some.inj h
      simp only [Prod.mk.injEq] at h
      obtain ⟨rfl, rfl⟩ := h
      exact ⟨q, rfl, hg⟩
theorem mapP_some {P : Str → Option (α × Nat)} {f : α → Option β} {s : Str} {b : β} {k : Nat} (h : mapP f P s = some (b, k)) : ∃ a, P s = some (a, k) ∧ f a = some b := by
  unfold mapP at h
  split at h
  · exact nomatch h
  · rename_i a i ha
    split at h
    · exact nomatch h
    · rename_i b' hb
      simp only [Option.some.injEq, Prod.mk.injEq] at h
      obtain ⟨rfl, rfl⟩ := h
      exact ⟨a, ha, hb⟩
theorem mapP_none {P : Str → Option (α × Nat)} {f : α → Option β} {s : Str} (h : mapP f P s = none) : P s = none ∨ ∃ a k, P s = some (a, k) ∧ f a = none := by
  unfold mapP at h
  split at h
  · exact .inl ‹_›
  · rename_i a i ha
    split at h
    · exact .inr ⟨a, i, ha, ‹_›⟩
    · exact nomatch h
end
theorem progQ_eq : progQ = mapP (fun v => progO (v.map insL)) (manyP 40 (numsP 4)) := by
  unfold progQ
  rw [insO_same, manyP_map, mapP_mapP]
  rfl
theorem vars_one {s : Str} {p : Nat} (hp : p ≤ s.length) : match rvI (s.drop p) with
    | none => ∃ z, l3VarsV s ((p : Nat) : Int) 1 = some (z, -1)
    | some i => l3VarsV s ((p : Nat) : Int) 1 = some ([((decB ((s.drop p).take (i + 1)) : Nat) : Int)], ((p + (i + 1) : Nat) : Int)) ∧ p + (i + 1) ≤ s.length := by
  have hA := vars_ats s (n := 1) (by decide) (by decide)
  cases hi : rvI (s.drop p) with
  | none => exact hA.2.1 p hp (by rw [nums_one, hi])
  | some i => exact hA.1 p hp _ _ (by rw [nums_one, hi])
abbrev f14_S0 := (List UInt8 × Int × Int × Unit) × (List InsD × List Int × Unit)
def f14_L0 : f14_S0 → Out (Round f14_S0 ((Int × Unit) × (List InsD × Unit)) ((Int × Unit) × (List InsD × Unit)))
| ((p0, p1, p2, _), p3, p4, _) =>
 .ite (decide (0 ≤ (0 : Int) ∧ (0 : Int) < ((List.length p4 : Nat) : Int)))
 (.get (nth p4 (Int.toNat (0 : Int))) fun y1 =>
 .ite (decide (p2 < y1))
 (.get (l3VarsV p0 p1 (4 : Int)) fun y2 =>
 .ite (decide (y2.2 < (0 : Int)))
 (.ret (.ret (((-1 : Int), ()), (([] : List InsD), ()))))
 (.ite (decide (0 ≤ (0 : Int) ∧ (0 : Int) < ((List.length y2.1 : Nat) : Int)))
 (.get (nth y2.1 (Int.toNat (0 : Int))) fun y3 =>
 .ite (decide (0 ≤ (1 : Int) ∧ (1 : Int) < ((List.length y2.1 : Nat) : Int)))
 (.get (nth y2.1 (Int.toNat (1 : Int))) fun y4 =>
 .ite (decide (0 ≤ (2 : Int) ∧ (2 : Int) < ((List.length y2.1 : Nat) : Int)))
 (.get (nth y2.1 (Int.toNat (2 : Int))) fun y5 =>
 .ite (decide (0 ≤ (3 : Int) ∧ (3 : Int) < ((List.length y2.1 : Nat) : Int)))
 (.get (nth y2.1 (Int.toNat (3 : Int))) fun y6 =>
 .ite ((y3 == (1 : Int)))
 (.ite (decide (List.length p3 + List.length ([(y3, y4, (zagV y5), y6, ())] : List InsD) ≤ LIM))
 (.ret (.again ((p0, y2.2, (IntKind.i64.wrap (p2 + (1 : Int))), ()), ((p3 ++ ([(y3, y4, (zagV y5), y6, ())] : List InsD)), p4, ()))))
 .fail)
 (.ite (decide (List.length p3 + List.length ([(y3, y4, y5, y6, ())] : List InsD) ≤ LIM))
 (.ret (.again ((p0, y2.2, (IntKind.i64.wrap (p2 + (1 : Int))), ()), ((p3 ++ ([(y3, y4, y5, y6, ())] : List InsD)), p4, ()))))
 .fail))
 .fail)
 .fail)
 .fail)
 .fail))
 (.ret (.out ((p1, ()), (p3, ())))))
 .fail
def f14_tree (a0 : List UInt8) (a1 : Int) : Out (((List InsD × Unit) × (Int × Unit) × Unit) × (Unit × Unit × Unit)) :=
 .get (l3VarsV a0 a1 (1 : Int)) fun y1 =>
 .ite ((decide (y1.2 < (0 : Int))) == false)
 (.ite (decide (0 ≤ (0 : Int) ∧ (0 : Int) < ((List.length y1.1 : Nat) : Int)))
 (.get (nth y1.1 (Int.toNat (0 : Int))) fun y2 =>
 .ite (decide (y2 > (40 : Int)))
 (.ret (((([] : List InsD), ()), ((-1 : Int), ()), ()), ((), (), ())))
 (.get (iter f14_L0 FUEL ((a0, y1.2, (0 : Int), ()), (([] : List InsD), y1.1, ()))) fun y3 => .alt y3 (fun y4 =>
 .ite (!(progOkV y4.2.1))
 (.ret (((([] : List InsD), ()), ((-1 : Int), ()), ()), ((), (), ())))
 (.ret (((y4.2.1, ()), (y4.1.1, ()), ()), ((), (), ())))) (fun y5 =>
 .ret (((y5.2.1, ()), (y5.1.1, ()), ()), ((), (), ())))))
 .fail)
 (.ret (((([] : List InsD), ()), ((-1 : Int), ()), ()), ((), (), ())))
def f14_A : Nat → Option LoopAnn := fun n => annOf [(0, { head := { t := [.s, .i .i64] ++ dd 4 ++ [.srf 64000000, .srf 64000001, .i .i64] ++ dd 66, v := [(64000000, .arr tyN), (64000001, .arr (.int .i64))] }, out := { t := [.dead, .i .i64] ++ dd 4 ++ [.srf 64000256] ++ dd 68, v := [(64000256, .arr tyN)] }, ret := some { t := dd 4 ++ [.srf 64000512, .i .i64] ++ dd 69, v := [(64000512, .arr tyN)] } })] n
def k14_V (a0 : List UInt8) (a1 : Int) : Option (((List InsD × Unit) × (Int × Unit) × Unit) × (Unit × Unit × Unit)) := (f14_tree a0 a1).eval
def k14 : Con := { f := 14, lend := true, its := [⟨false, false, [.s]⟩, ⟨false, false, [.i .i64]⟩], lay := [none, none], rs := [⟨false, false, [.own tyN]⟩, ⟨false, false, [.i .i64]⟩], F := fun x => .get (k14_V x.1.1 x.2.1.1) fun y => .ret y }
theorem f14_eq (x : itemsD k14.its) : bo [k12, k45, k46] f14_A Tryz.f14 k14 [.tmp 4, .tmp 5] x = f14_tree x.1.1 x.2.1.1 := by kernel_rfl
theorem f14_ok (hr : ∀ x : (List UInt8 × Unit) × (Int × Unit) × Unit, itemsWF k14.its x → (f14_tree x.1.1 x.2.1.1).eval = (k14.F x).eval) : k14.Ok Tryz.prog := con_fn [k12, k45, k46] ⟨k12_ok, k45_ok, k46_ok, trivial⟩ f14_eq fun x hw _ hy => (hr x hw).trans hy
theorem k14_ok : k14.Ok Tryz.prog := f14_ok fun x _ => (eval_get_ret _).symm
def readA (s : Str) (p : Int) : Option (List InsD × Int) := (k14_V s p).map fun y => (y.1.1.1, y.1.2.1.1)
theorem l3read_bad {s : Str} {p : Int} {z : List Int} (h : l3VarsV s p 1 = some (z, -1)) : readA s p = some ([], -1) := by
  unfold readA k14_V f14_tree
  rw [eval_get_some h, eval_ite_f (by rfl)]; rfl
theorem l3read_core {s : Str} {p : Nat} (hp : p ≤ s.length) : (∀ v k, manyP 40 (numsP 4) (s.drop p) = some (v, k) → readA s ((p : Nat) : Int) = some (if progOkV (v.map insL) = true then (v.map insL, ((p + k : Nat) : Int)) else ([], -1)) ∧ p + k ≤ s.length) ∧
    (manyP 40 (numsP 4) (s.drop p) = none → ∃ z, readA s ((p : Nat) : Int) = some (z, -1)) := by
  have hv := vars_one hp
  unfold manyP cntP
  cases hi : rvI (s.drop p) with
  | none =>
    rw [hi] at hv
    obtain ⟨z, hz⟩ := hv
    exact ⟨fun v k h => (nomatch h), fun _ => ⟨_, l3read_bad hz⟩⟩
  | some i =>
    rw [hi] at hv
    obtain ⟨hv, hle⟩ := hv
    dsimp only
    generalize decB ((s.drop p).take (i + 1)) = n at hv ⊢
    unfold readA k14_V f14_tree
    rw [eval_get_some hv, eval_ite_t (by rw [decide_eq_false (by omega)]; rfl), eval_ite_t (by rfl), eval_get_some (x := ((n : Nat) : Int)) (by rfl)]
    by_cases h40 : 40 < n
    · rw [if_pos h40, eval_ite_t (decide_eq_true (by omega))]
      exact ⟨fun v k h => (nomatch h), fun _ => ⟨_, rfl⟩⟩
    · rw [if_neg h40, eval_ite_f (decide_eq_false (by omega))]
      dsimp only
      have hk := at_loopR (f := f14_L0) (vars_ats s (n := 4) (by decide) (by decide)) insL (fun i p l => ((s, p, ((i : Nat) : Int), ()), (l, [((n : Nat) : Int)], ()))) (fun p l => ((p, ()), (l, ()))) (fun _ => ((-1, ()), ([], ()))) (n := n) (by omega)
        (fun i p l a e hi hl hp ha he hP => by
          have h1 := wrap_succ (i := i) (by unfold BIG; omega)
          obtain ⟨k, hk⟩ := hP
          obtain ⟨x1, x2, x3, x4, rfl⟩ := four_of (numsP_le hk).2.1
          have g8 : ∀ z : InsD, decide (List.length l + List.length ([z] : List InsD) ≤ LIM) = true := fun z => lim_t (by simp; omega)
          refine (eval_ite_t rfl).trans ((eval_get_some (x := ((n : Nat) : Int)) rfl).trans ((eval_ite_t (decide_eq_true (show ((i : Nat) : Int) < ((n : Nat) : Int) by omega))).trans ((eval_get_some ha).trans ((eval_ite_f (decide_eq_false (show ¬ e < 0 by omega))).trans ?_))))
          refine (eval_ite_t rfl).trans ((eval_get_some (x := x1) rfl).trans ((eval_ite_t rfl).trans ((eval_get_some (x := x2) rfl).trans ((eval_ite_t rfl).trans ((eval_get_some (x := x3) rfl).trans ((eval_ite_t rfl).trans ((eval_get_some (x := x4) rfl).trans ?_)))))))
          have e2 : insL [x1, x2, x3, x4] = (x1, (x2, ((bif x1 == (1 : Int) then zagV x3 else x3), (x4, ())))) := rfl
          rw [e2]
          cases q : (x1 == (1 : Int))
          · exact (eval_ite_f rfl).trans ((eval_ite_t (g8 _)).trans (by rw [← h1]; rfl))
          · exact (eval_ite_t rfl).trans ((eval_ite_t (g8 _)).trans (by rw [← h1]; rfl)))
        (fun i p l a hi hl hp ha => by
          exact (eval_ite_t rfl).trans ((eval_get_some (x := ((n : Nat) : Int)) rfl).trans ((eval_ite_t (decide_eq_true (show ((i : Nat) : Int) < ((n : Nat) : Int) by omega))).trans ((eval_get_some ha).trans ((eval_ite_t rfl).trans rfl)))))
        (fun p l => (eval_ite_t rfl).trans ((eval_get_some (x := ((n : Nat) : Int)) rfl).trans ((eval_ite_f (decide_eq_false (show ¬ ((n : Nat) : Int) < ((n : Nat) : Int) by omega))).trans rfl))) (p := p + (i + 1)) hle
      rw [List.drop_drop]
      cases hr : repP (numsP 4) n (s.drop (p + (i + 1))) with
      | none =>
        obtain ⟨l, hl⟩ := hk.2 hr
        refine ⟨fun v k h => (nomatch h), fun _ => ⟨[], ?_⟩⟩
        refine (congrArg (Option.map _) (eval_get_some hl)).trans ?_
        rfl
      | some x =>
        obtain ⟨v, j⟩ := x
        obtain ⟨hl, hle2⟩ := hk.1 v j hr
        refine ⟨fun v' k h => ?_, fun h => nomatch h⟩
        simp only [Option.some.injEq, Prod.mk.injEq] at h
        obtain ⟨rfl, rfl⟩ := h
        refine ⟨?_, by omega⟩
        refine (congrArg (Option.map _) (eval_get_some hl)).trans ?_
        refine (congrArg (Option.map _) (eval_alt_l _)).trans ?_
        dsimp only
        by_cases hok : progOkV (v.map insL) = true
        · rw [if_pos hok, eval_ite_f (by simp [hok]), show p + (i + 1 + j) = p + (i + 1) + j by omega]; rfl
        · rw [if_neg hok, eval_ite_t (by simp [hok])]; rfl
theorem read_ats (s : Str) : Ats (readA s) progQ s := by
  rw [progQ_eq]
  refine ⟨fun p hp l k h => ?_, fun p hp h => ?_, ?_⟩
  · obtain ⟨v, hv, hl⟩ := mapP_some h
    have h1 := (l3read_core hp).1 v k hv
    unfold progO at hl
    split at hl
    · rename_i hok
      obtain rfl := Option.some.inj hl
      rw [if_pos hok] at h1
      exact h1
    · exact nomatch hl
  · rcases mapP_none h with h | ⟨v, k, hv, hl⟩
    · exact (l3read_core hp).2 h
    · have h1 := (l3read_core hp).1 v k hv
      unfold progO at hl
      split at hl
      · exact nomatch hl
      · rename_i hok
        rw [if_neg hok] at h1
        exact ⟨_, h1.1⟩
  · obtain ⟨z, hz⟩ := (vars_ats s (n := 1) (by decide) (by decide)).2.2
    exact ⟨_, l3read_bad hz⟩
end Go.Proofs.YtcpjdjgipmjhdaaGreat.Dm
