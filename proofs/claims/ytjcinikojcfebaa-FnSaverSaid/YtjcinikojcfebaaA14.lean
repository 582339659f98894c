/- Functions of the program, and what they compute. -/
import Derived.Test.YtjcinikojcfebaaA13
namespace Go.Proofs.Ytjcinikojcfebaa.Dm
open Go Go.ChangeShapes Go.WideShapes Go.ChangeAt Go.RowKit

/-! ## Files, read from blocks -/
def readFilesV (l : List Str) : List FileD × Bool := match readBlocksV l with
  | some f => (f, true)
  | none => ([], false)
theorem readFilesV_none {l : List Str} (h : readBlocksV l = none) : readFilesV l = ([], false) := by unfold readFilesV; rw [h]
theorem readFilesV_some {l : List Str} {f : List FileD} (h : readBlocksV l = some f) : readFilesV l = (f, true) := by unfold readFilesV; rw [h]
def f172_tree (a0 : List UInt8) (a1 : Int) (a2 : Int) : Out (((List Int × Unit) × (Int × Unit) × Unit) × (Unit × Unit × Unit × Unit)) :=
 .get (l3VarsV a0 a1 (1 : Int)) fun y1 =>
 .ite ((decide (y1.2 < (0 : Int))) == false)
 (.ite (decide (0 ≤ (0 : Int) ∧ (0 : Int) < ((List.length y1.1 : Nat) : Int)))
 (.get (nth y1.1 (Int.toNat (0 : Int))) fun y2 =>
 .ite (decide (y2 > a2))
 (.ret (((([] : List (Int)), ()), ((-1 : Int), ()), ()), ((), (), (), ())))
 (.ite (decide (0 ≤ (0 : Int) ∧ (0 : Int) < ((List.length y1.1 : Nat) : Int)))
 (.get (nth y1.1 (Int.toNat (0 : Int))) fun y3 =>
 .get (l3VarsV a0 y1.2 y3) fun y4 =>
 .ret (((y4.1, ()), (y4.2, ()), ()), ((), (), (), ())))
 .fail))
 .fail)
 (.ret (((([] : List (Int)), ()), ((-1 : Int), ()), ()), ((), (), (), ())))
def l20ListV (s : Str) (p m : Int) : Option (List Int × Int) := if m ≤ 1000 then (if (varsAtV s 1 p []).2 < 0 then some ([], -1) else match (varsAtV s 1 p []).1 with
    | [] => none
    | n :: _ => if n > m then some ([], -1) else some (varsAtV s n.toNat (varsAtV s 1 p []).2 []))
  else none
def k172 : Con := { f := 172, lend := true, its := [⟨false, false, [.s]⟩, ⟨false, false, [.i .i64]⟩, ⟨false, false, [.i .i64]⟩], lay := [none, none, none], rs := [⟨false, false, [.own (.int .i64)]⟩, ⟨false, false, [.i .i64]⟩], F := fun x => .get (l20ListV x.1.1 x.2.1.1 x.2.2.1.1) fun y => .ret (((y.1, ()), (y.2, ()), ()), ((), (), (), ())) }
theorem f172_eq (x : itemsD k172.its) : bodyOut (cxOf [k167]) (fun _ => none) (codeOf Try.f172) k172.its k172.lay Try.f172.ntmps k172.rs [.tmp 6, .tmp 7] x = f172_tree x.1.1 x.2.1.1 x.2.2.1.1 := by kernel_rfl
theorem f172_okp (hr : ∀ x : (List UInt8 × Unit) × (Int × Unit) × (Int × Unit) × Unit, itemsWF k172.its x → ∀ y, (k172.F x).eval = some y → (f172_tree x.1.1 x.2.1.1 x.2.2.1.1).eval = some y) : k172.Ok Try.prog :=
  con_fn [k167] ⟨k167_ok, trivial⟩ (by kernel_rfl) (codeOf_eq (by kernel_rfl)) (by kernel_rfl) (by kernel_rfl) (by kernel_rfl) f172_eq hr
theorem k172_ok : k172.Ok Try.prog := by
  refine f172_okp fun x _ y hy => ?_
  obtain ⟨⟨s, _⟩, ⟨p, _⟩, ⟨m, _⟩, _⟩ := x
  change (Out.get (l20ListV s p m) fun y => Out.ret (((y.1, ()), ((y.2, ()), ())), ((), ((), ((), ()))))).eval = some y at hy
  show (f172_tree s p m).eval = some y
  unfold l20ListV at hy
  split at hy
  case isFalse => exact nomatch hy
  rename_i hm
  have v1 : l3VarsV s p 1 = some (varsAtV s 1 p []) := l3VarsV_some s p (n := 1) (by decide)
  unfold f172_tree
  refine (eval_get_some v1).trans ?_
  split at hy
  · rename_i h
    refine Eq.trans ?_ hy
    exact (eval_ite_f (by rw [decide_eq_true h]; rfl)).trans rfl
  · rename_i h
    split at hy
    · exact nomatch hy
    · rename_i n r hn
      rw [hn]
      refine (eval_ite_t (by rw [decide_eq_false h]; rfl)).trans ((eval_ite_t (decide_eq_true (by simp only [List.length_cons]; omega))).trans ((eval_get_some (x := n) rfl).trans ?_))
      split at hy
      · rename_i h2
        refine Eq.trans ?_ hy
        exact (eval_ite_t (decide_eq_true h2)).trans rfl
      · rename_i h2
        refine Eq.trans ?_ hy
        have v2 : l3VarsV s (varsAtV s 1 p []).2 n = some (varsAtV s n.toNat (varsAtV s 1 p []).2 []) := if_pos (by omega)
        exact (eval_ite_f (decide_eq_false h2)).trans ((eval_ite_t (decide_eq_true (by simp only [List.length_cons]; omega))).trans ((eval_get_some (x := n) rfl).trans ((eval_get_some v2).trans rfl)))
theorem l20_eq {s : Str} (hs : s ≠ []) : match listP 8 (s.drop 1) with
    | some (l, k) => l20ListV s 1 8 = some (l, ((1 + k : Nat) : Int))
    | none => ∃ l, l20ListV s 1 8 = some (l, -1) := by
  have hlen : 0 < s.length := List.length_pos_iff.2 hs
  have h1 := varsAtV_eq s 1 1 [] (by omega)
  have hn1 : numsP 1 (s.drop 1) = match rvI (s.drop 1) with | none => none | some i => some ([((decB ((s.drop 1).take (i + 1)) : Nat) : Int)], i + 1) := by
    simp only [numsP]
    cases rvI (s.drop 1) <;> rfl
  rw [hn1] at h1
  unfold listP l20ListV
  rw [if_pos (by decide)]
  cases hi : rvI (s.drop 1) with
  | none =>
    rw [hi] at h1
    obtain ⟨l, e, _⟩ := h1
    have e : varsAtV s 1 1 [] = (l, -1) := e
    simp only
    rw [e]
    exact ⟨[], if_pos (show (-1 : Int) < 0 by decide)⟩
  | some i =>
    rw [hi] at h1
    have hil := rvI_lt hi
    rw [List.length_drop] at hil
    have e : varsAtV s 1 1 [] = ([((decB ((s.drop 1).take (i + 1)) : Nat) : Int)], ((1 + (i + 1) : Nat) : Int)) := h1
    simp only
    rw [e]
    generalize decB ((s.drop 1).take (i + 1)) = n
    have hq : ¬ (((1 + (i + 1) : Nat) : Int) < 0) := by omega
    simp only [if_neg hq]
    by_cases h8 : 8 < n
    · have h8' : ((n : Nat) : Int) > 8 := by omega
      simp only [if_pos h8, if_pos h8']
      exact ⟨_, rfl⟩
    · have h8' : ¬ ((n : Nat) : Int) > 8 := by omega
      simp only [if_neg h8, if_neg h8', Int.toNat_natCast]
      have h2 := varsAtV_eq s n (1 + (i + 1)) [] (by omega)
      rw [List.drop_drop]
      cases hr : numsP n (s.drop (1 + (i + 1))) with
      | none =>
        rw [hr] at h2
        obtain ⟨l, e2, _⟩ := h2
        exact ⟨l, by rw [e2]⟩
      | some x =>
        obtain ⟨l, k⟩ := x
        rw [hr] at h2
        simp only at h2 ⊢
        rw [h2]
        simp only [List.nil_append, Nat.add_assoc]
abbrev f173_S0 := (List (Int) × Int × Unit) × (List (Int) × Unit)
def f173_L0 (x : f173_S0) : Out (Round f173_S0 ((Unit) × (List (Int) × Unit)) Empty) :=
 .ite (decide (x.1.2.1 < ((List.length x.1.1 : Nat) : Int)))
 (.ite (decide (0 ≤ x.1.2.1))
 (.get (nth x.1.1 (Int.toNat x.1.2.1)) fun y1 =>
 .ite (decide (List.length x.2.1 + List.length ([(zagV y1)] : List (Int)) ≤ LIM))
 (.ret (.again ((x.1.1, (IntKind.i64.wrap (x.1.2.1 + (1 : Int))), ()), ((x.2.1 ++ ([(zagV y1)] : List (Int))), ()))))
 .fail)
 .fail)
 (.ret (.out ((), (x.2.1, ()))))
def f173_tree (a0 : List Int) : Out (((List Int × Unit) × Unit) × (Unit × Unit)) :=
 .get (iter1 f173_L0 FUEL ((a0, (0 : Int), ()), (([] : List (Int)), ()))) fun y1 =>
 .ret (((y1.2.1, ()), ()), ((), ()))
def f173_A : Nat → Option LoopAnn := fun n => annOf [(0, { head := { t := [.ro (.int .i64) (some 0), .dead, .dead, .srf 64000000, .i .i64, .dead, .dead, .dead, .dead, .dead, .dead, .dead, .dead, .dead, .dead, .dead, .dead, .dead, .dead, .dead, .dead], v := [(64000000, .arr (.int .i64))] }, out := { t := [.dead, .dead, .dead, .srf 64000256, .dead, .dead, .dead, .dead, .dead, .dead, .dead, .dead, .dead, .dead, .dead, .dead, .dead, .dead, .dead, .dead, .dead], v := [(64000256, .arr (.int .i64))] }, ret := none })] n
def zagsV (l : List Int) : Option (List Int) := lim l (l.map zagV)
def k173 : Con := { f := 173, lend := true, its := [⟨false, false, [.ro (.int .i64)]⟩], lay := [none], rs := [⟨false, false, [.own (.int .i64)]⟩], F := fun x => .get (zagsV x.1.1) fun y => .ret (((y, ()), ()), ((), ())) }
theorem f173_eq (x : itemsD k173.its) : bodyOut (cxOf [k207]) (f173_A) (codeOf Try.f173) k173.its k173.lay Try.f173.ntmps k173.rs [.tmp 2] x = f173_tree x.1.1 := by kernel_rfl
theorem f173_okp (hr : ∀ x : (List Int × Unit) × Unit, itemsWF k173.its x → ∀ y, (k173.F x).eval = some y → (f173_tree x.1.1).eval = some y) : k173.Ok Try.prog :=
  con_fn [k207] ⟨k207_ok, trivial⟩ (by kernel_rfl) (codeOf_eq (by kernel_rfl)) (by kernel_rfl) (by kernel_rfl) (by kernel_rfl) f173_eq hr
theorem flat_one {α β : Type} (f : α → β) : ∀ (l : List α), l.flatMap (fun x => [f x]) = l.map f
  | [] => rfl
  | x :: r => by rw [List.flatMap_cons, flat_one f r]; rfl
theorem k173_ok : k173.Ok Try.prog := by
  refine f173_okp fun x hw y hy => ?_
  obtain ⟨⟨a, _⟩, _⟩ := x
  have ha : a.length ≤ BIG := hw.1.1.1
  change (Out.get (zagsV a) fun y => Out.ret (((y, ()), ()), ((), ()))).eval = some y at hy
  show (f173_tree a).eval = some y
  unfold f173_tree
  unfold zagsV at hy
  by_cases hl : a.length ≤ LIM
  · rw [lim_some hl] at hy
    refine Eq.trans ?_ hy
    have := flat_loop (f := f173_L0) (fun n => [zagV n]) a (fun s i => ((a, (((i : Nat) : Int), ())), (s, ()))) (fun s => ((), (s, ()))) LIM
      (fun i hi s hs => by
        have w1 := wrap_succ (i := i) (by omega)
        simp only [f173_L0, Out.eval, lt_t hi, ge0, nth_get hi, Option.bind_some, cond_true, decide_eq_true hs, w1])
      (fun s => by simp [f173_L0, Out.eval]) ha [] (by rw [flat_one]; simpa using hl)
    refine (eval_get_some this).trans ?_
    rw [flat_one, List.nil_append]; rfl
  · rw [lim_not hl] at hy; exact nomatch hy
abbrev f174_S0 := (List (List UInt8) × List (List UInt8) × Int × Unit) × (Unit)
def f174_L0 (x : f174_S0) : Out (Round f174_S0 ((Unit) × (Unit)) ((Bool × Unit) × (Unit))) :=
 .ite (decide (x.1.2.2.1 < ((List.length x.1.1 : Nat) : Int)))
 (.ite (decide (0 ≤ x.1.2.2.1))
 (.get (nth x.1.1 (Int.toNat x.1.2.2.1)) fun y1 =>
 .ite (decide (0 ≤ x.1.2.2.1))
 (.get (nth x.1.2.1 (Int.toNat x.1.2.2.1)) fun y2 =>
 .ite (y1 != y2)
 (.ret (.ret ((false, ()), ())))
 (.ret (.again ((x.1.1, x.1.2.1, (IntKind.i64.wrap (x.1.2.2.1 + (1 : Int))), ()), ()))))
 .fail)
 .fail)
 (.ret (.out ((), ())))
def f174_tree (a0 : List (List UInt8)) (a1 : List (List UInt8)) : Out (((Bool × Unit) × Unit) × (Unit × Unit × Unit)) :=
 .ite ((((List.length a0 : Nat) : Int) != ((List.length a1 : Nat) : Int)))
 (.ret (((false, ()), ()), ((), (), ())))
 (.get (iter f174_L0 FUEL ((a0, a1, (0 : Int), ()), ())) fun y1 => .alt y1 (fun y2 =>
 .ret (((true, ()), ()), ((), (), ()))) (fun y3 =>
 .ret (((y3.1.1, ()), ()), ((), (), ()))))
def f174_A : Nat → Option LoopAnn := fun n => annOf [(0, { head := { t := [.ro .str (some 0), .ro .str (some 1), .dead, .dead, .dead, .i .i64, .dead, .dead, .dead, .dead, .dead, .dead, .dead, .dead, .dead, .dead, .dead, .dead, .dead, .dead, .dead, .dead, .dead, .dead, .dead, .dead], v := [] }, out := { t := [.dead, .dead, .dead, .dead, .dead, .dead, .dead, .dead, .dead, .dead, .dead, .dead, .dead, .dead, .dead, .dead, .dead, .dead, .dead, .dead, .dead, .dead, .dead, .dead, .dead, .dead], v := [] }, ret := some { t := [.dead, .dead, .dead, .dead, .b, .dead, .dead, .dead, .dead, .dead, .dead, .dead, .dead, .dead, .dead, .dead, .dead, .dead, .dead, .dead, .dead, .dead, .dead, .dead, .dead, .dead], v := [] } })] n
def k174 : Con := { f := 174, lend := true, its := [⟨false, false, [.ro .str]⟩, ⟨false, false, [.ro .str]⟩], lay := [none, none], rs := [⟨false, false, [.b]⟩], F := fun x => .ret ((((eqStrsV x.1.1 x.2.1.1), ()), ()), ((), (), ())) }
theorem f174_eq (x : itemsD k174.its) : bodyOut (cxOf []) (f174_A) (codeOf Try.f174) k174.its k174.lay Try.f174.ntmps k174.rs [.tmp 4] x = f174_tree x.1.1 x.2.1.1 := by kernel_rfl
theorem f174_ok (hr : ∀ x : (List (List UInt8) × Unit) × (List (List UInt8) × Unit) × Unit, itemsWF k174.its x → (f174_tree x.1.1 x.2.1.1).eval = (k174.F x).eval) : k174.Ok Try.prog :=
  con_fn [] trivial (by kernel_rfl) (codeOf_eq (by kernel_rfl)) (by kernel_rfl) (by kernel_rfl) (by kernel_rfl) f174_eq fun x hw _ hy => (hr x hw).trans hy
theorem k174_ok : k174.Ok Try.prog := by
  refine f174_ok fun x hw => ?_
  obtain ⟨⟨a, _⟩, ⟨b, _⟩, _⟩ := x
  have ha : a.length ≤ BIG := hw.1.1.1
  show (f174_tree a b).eval = some (((eqStrsV a b, ()), ()), ((), ((), ())))
  unfold f174_tree
  by_cases hl : a.length = b.length
  · rw [eval_ite_f (len_eq hl)]
    have := eq_loop (f := f174_L0) a b (fun i => ((a, (b, (((i : Nat) : Int), ()))), ())) (y := ((), ())) (z := ((false, ()), ())) hl ha
      (fun i hi hi' he => by
        have := wrap_succ (i := i) (by omega)
        simp [f174_L0, Out.eval, hi, hi', he, this])
      (fun i hi hi' he => by simp [f174_L0, Out.eval, hi, hi', he, cond_eq_ite])
      (by simp [f174_L0, Out.eval])
    refine (eval_get_some this).trans ?_
    unfold eqStrsV
    by_cases hab : a = b
    · simp only [if_pos hab, decide_eq_true hab]; rfl
    · simp only [if_neg hab, decide_eq_false hab]; rfl
  · rw [eval_ite_t (len_ne hl)]
    have : eqStrsV a b = false := decide_eq_false fun e => hl (by rw [e])
    rw [this]
    rfl
/-- Files read one behind the other. -/
theorem all_files {β γ ρ : Type} {f : β → Out (Round β γ ρ)} (g : Str → Option (List Int)) (l : List Str) (hl : l.length ≤ 6) (S : Nat → List FileD → β) (y : List FileD → γ) (z : ρ)
    (hskip : ∀ i (hi : i < l.length) out, l[i] = [] → (f (S i out)).eval = some (.again (S (i + 1) out)))
    (hbad : ∀ i (hi : i < l.length) out, l[i] ≠ [] → g l[i] = none → (f (S i out)).eval = some (.ret z))
    (hgood : ∀ i (hi : i < l.length) (out : List FileD) d, out.length ≤ 6 → l[i] ≠ [] → g l[i] = some d → (f (S i out)).eval = some (.again (S (i + 1) (out ++ [(((i : Nat) : Int), (d, ()))]))))
    (hend : ∀ out, (f (S l.length out)).eval = some (.out (y out))) :
    ∀ (m i N : Nat) (out : List FileD), i + m = l.length → m < N → out.length ≤ i → iter f N (S i out) = some (match allO (oneV g) (l.drop i) with | none => .inr z | some ds => .inl (y (out ++ filesOf i ds)))
  | 0, i, N, out, hi, hN, _ => by
    have : i = l.length := by omega
    subst this
    rw [iter_out' (hend out) hN, List.drop_length]
    simp [allO, filesOf]
  | m + 1, i, N, out, hi, hN, ho => by
    have hlt : i < l.length := by omega
    obtain ⟨N, rfl⟩ : ∃ N', N = N' + 1 := ⟨N - 1, by omega⟩
    rw [List.drop_eq_getElem_cons hlt]
    simp only [allO]
    by_cases h : l[i] = []
    · have e : oneV g l[i] = some none := by unfold oneV; rw [if_pos h]
      rw [e, iter_again (hskip i hlt out h), all_files g l hl S y z hskip hbad hgood hend m (i + 1) N out (by omega) (by omega) (by omega)]
      cases allO (oneV g) (l.drop (i + 1)) <;> rfl
    · cases hg : g l[i] with
      | none =>
        have e : oneV g l[i] = none := by unfold oneV; rw [if_neg h, hg]
        rw [e, iter_ret' (hbad i hlt out h hg) (by omega)]
      | some d =>
        have e : oneV g l[i] = some (some d) := by unfold oneV; rw [if_neg h, hg]
        rw [e, iter_again (hgood i hlt out d (by omega) h hg), all_files g l hl S y z hskip hbad hgood hend m (i + 1) N _ (by omega) (by omega) (by simp; omega)]
        cases allO (oneV g) (l.drop (i + 1)) with
        | none => rfl
        | some ds => simp [filesOf]
theorem fileAt_none {s : Str} (h : fileAt s = none) : listP 8 (s.drop 1) = none := by
  unfold fileAt at h
  split at h
  · rename_i e; exact e
  · exact nomatch h
theorem fileAt_some {s : Str} {d : List Int} (h : fileAt s = some d) : ∃ l k, listP 8 (s.drop 1) = some (l, k) ∧ d = l.map zagV := by
  unfold fileAt at h
  split at h
  · exact nomatch h
  · rename_i l k e; exact ⟨l, k, e, (Option.some.inj h).symm⟩
abbrev f86_S0 := (List (List UInt8) × Int × Unit) × (List ((Int × List Int × Unit)) × Unit)
def f86_L0 (x : f86_S0) : Out (Round f86_S0 ((List (List UInt8) × Unit) × (List ((Int × List Int × Unit)) × Unit)) ((Bool × Unit) × (List ((Int × List Int × Unit)) × Unit))) :=
 .ite (decide (x.1.2.1 < ((List.length x.1.1 : Nat) : Int)))
 (.ite (decide (0 ≤ x.1.2.1))
 (.get (nth x.1.1 (Int.toNat x.1.2.1)) fun y1 =>
 .ite (y1 == ([] : List UInt8))
 (.ret (.again ((x.1.1, (IntKind.i64.wrap (x.1.2.1 + (1 : Int))), ()), (x.2.1, ()))))
 (.ite (decide (0 ≤ x.1.2.1))
 (.get (nth x.1.1 (Int.toNat x.1.2.1)) fun y2 =>
 .get (l20ListV y2 (1 : Int) (8 : Int)) fun y3 =>
 .ite (decide (y3.2 < (0 : Int)))
 (.ret (.ret ((false, ()), (([] : List ((Int × List Int × Unit))), ()))))
 (.get (zagsV y3.1) fun y4 =>
 .ite (decide (List.length x.2.1 + List.length ([(x.1.2.1, y4, ())] : List ((Int × List Int × Unit))) ≤ LIM))
 (.ret (.again ((x.1.1, (IntKind.i64.wrap (x.1.2.1 + (1 : Int))), ()), ((x.2.1 ++ ([(x.1.2.1, y4, ())] : List ((Int × List Int × Unit)))), ()))))
 .fail))
 .fail))
 .fail)
 (.ret (.out ((x.1.1, ()), (x.2.1, ()))))
def f86_tree (a0 : List (List UInt8)) : Out (((List (Int × List Int × Unit) × Unit) × (Bool × Unit) × Unit) × (Unit × Unit)) :=
 .ite ((((List.length a0 : Nat) : Int) != (6 : Int)))
 (.ret (((([] : List ((Int × List Int × Unit))), ()), (false, ()), ()), ((), ())))
 (.get (iter f86_L0 FUEL ((a0, (0 : Int), ()), (([] : List ((Int × List Int × Unit))), ()))) fun y1 => .alt y1 (fun y2 =>
 .ite (!(eqStrsV (fileBlocksV y2.2.1) y2.1.1))
 (.ret (((([] : List ((Int × List Int × Unit))), ()), (false, ()), ()), ((), ())))
 (.ret (((y2.2.1, ()), (true, ()), ()), ((), ())))) (fun y3 =>
 .ret (((y3.2.1, ()), (y3.1.1, ()), ()), ((), ()))))
def f86_A : Nat → Option LoopAnn := fun n => annOf [(0, { head := { t := [.ro .str (some 0), .dead, .dead, .dead, .srf 64000000, .i .i64, .dead, .dead, .dead, .dead, .dead, .dead, .dead, .dead, .dead, .dead, .dead, .dead, .dead, .dead, .dead, .dead, .dead, .dead, .dead, .dead, .dead, .dead, .dead, .dead, .dead, .dead, .dead, .dead, .dead, .dead, .dead, .dead, .dead, .dead, .dead, .dead, .dead, .dead, .dead, .dead, .dead, .dead, .dead], v := [(64000000, .arr (.st (.cons (.int .i64) (.cons (.sl (.int .i64)) .nil))))] }, out := { t := [.ro .str (some 0), .dead, .dead, .dead, .srf 64000256, .dead, .dead, .dead, .dead, .dead, .dead, .dead, .dead, .dead, .dead, .dead, .dead, .dead, .dead, .dead, .dead, .dead, .dead, .dead, .dead, .dead, .dead, .dead, .dead, .dead, .dead, .dead, .dead, .dead, .dead, .dead, .dead, .dead, .dead, .dead, .dead, .dead, .dead, .dead, .dead, .dead, .dead, .dead, .dead], v := [(64000256, .arr (.st (.cons (.int .i64) (.cons (.sl (.int .i64)) .nil))))] }, ret := some { t := [.dead, .dead, .srf 64000512, .b, .dead, .dead, .dead, .dead, .dead, .dead, .dead, .dead, .dead, .dead, .dead, .dead, .dead, .dead, .dead, .dead, .dead, .dead, .dead, .dead, .dead, .dead, .dead, .dead, .dead, .dead, .dead, .dead, .dead, .dead, .dead, .dead, .dead, .dead, .dead, .dead, .dead, .dead, .dead, .dead, .dead, .dead, .dead, .dead, .dead], v := [(64000512, .arr (.st (.cons (.int .i64) (.cons (.sl (.int .i64)) .nil))))] } })] n
def k86 : Con := { f := 86, lend := true, its := [⟨false, false, [.ro .str]⟩], lay := [none], rs := [⟨false, false, [.own (.st (.cons (.int .i64) (.cons (.sl (.int .i64)) .nil)))]⟩, ⟨false, false, [.b]⟩], F := fun x => .ret ((((readFilesV x.1.1).1, ()), ((readFilesV x.1.1).2, ()), ()), ((), ())) }
theorem f86_eq (x : itemsD k86.its) : bodyOut (cxOf [k172, k173, k56, k174]) (f86_A) (codeOf Try.f86) k86.its k86.lay Try.f86.ntmps k86.rs [.tmp 2, .tmp 3] x = f86_tree x.1.1 := by kernel_rfl
theorem f86_ok (hr : ∀ x : (List (List UInt8) × Unit) × Unit, itemsWF k86.its x → (f86_tree x.1.1).eval = (k86.F x).eval) : k86.Ok Try.prog :=
  con_fn [k172, k173, k56, k174] ⟨k172_ok, k173_ok, k56_ok, k174_ok, trivial⟩ (by kernel_rfl) (codeOf_eq (by kernel_rfl)) (by kernel_rfl) (by kernel_rfl) (by kernel_rfl) f86_eq fun x hw _ hy => (hr x hw).trans hy
theorem k86_ok : k86.Ok Try.prog := by
  refine f86_ok fun x hw => ?_
  obtain ⟨⟨l, _⟩, _⟩ := x
  show (f86_tree l).eval = some ((((readFilesV l).1, ()), (((readFilesV l).2, ()), ())), ((), ()))
  unfold f86_tree
  by_cases h6 : l.length = 6
  case neg =>
    rw [eval_ite_t (show (((l.length : Nat) : Int) != (6 : Int)) = true from len_ne (b := 6) h6), readFilesV_none (if_neg h6)]; rfl
  rw [eval_ite_f (show (((l.length : Nat) : Int) != (6 : Int)) = false from len_eq (b := 6) h6)]
  have g8 : ∀ (out : List FileD) (w : FileD), out.length ≤ 6 → decide (out.length + ([w] : List FileD).length ≤ LIM) = true := fun out w h => decide_eq_true (by rw [LIM_eq]; simp; omega)
  have hk := all_files (f := f86_L0) fileAt l (by omega) (fun i out => ((l, (((i : Nat) : Int), ())), (out, ()))) (fun out => ((l, ()), (out, ()))) ((false, ()), ([], ()))
    (fun i hi out h => by
      have w1 := wrap_succ (i := i) (by unfold BIG; omega)
      have e : (l[i] == ([] : Str)) = true := by rw [h]; rfl
      simp only [f86_L0, Out.eval, lt_t hi, ge0, nth_get hi, Option.bind_some, cond_true, w1, e])
    (fun i hi out h hg => by
      have e : (l[i] == ([] : Str)) = false := by simpa using h
      have h20 := l20_eq h
      rw [fileAt_none hg] at h20
      obtain ⟨l', h20⟩ := h20
      simp only [f86_L0, Out.eval, lt_t hi, ge0, nth_get hi, Option.bind_some, cond_true, e, h20]
      rfl)
    (fun i hi out d ho h hg => by
      have w1 := wrap_succ (i := i) (by unfold BIG; omega)
      have e : (l[i] == ([] : Str)) = false := by simpa using h
      have h20 := l20_eq h
      obtain ⟨v, k, hp, rfl⟩ := fileAt_some hg
      rw [hp] at h20
      have hv := (listP_le hp).2.1
      have hz : zagsV v = some (v.map zagV) := lim_some (by rw [LIM_eq]; omega)
      have hq : decide (((1 + k : Nat) : Int) < 0) = false := decide_eq_false (by omega)
      simp only at h20
      simp only [f86_L0, Out.eval, lt_t hi, ge0, nth_get hi, Option.bind_some, cond_true, e, h20, hq, hz, g8 _ _ ho, w1]
      rfl)
    (fun out => by simp [f86_L0, Out.eval]) 6 0 FUEL [] (by omega) (by decide) (by simp)
  rw [List.drop_zero] at hk
  refine (eval_get_some hk).trans ?_
  have ht := readBlocks_try h6
  cases ha : allO (oneV fileAt) l with
  | none =>
    rw [ha] at ht
    rw [readFilesV_none ht]; rfl
  | some ds =>
    rw [ha] at ht
    simp only [List.nil_append] at ht ⊢
    by_cases hb : fileBlocksV (filesOf 0 ds) = l
    · rw [if_pos hb] at ht
      rw [readFilesV_some ht]
      have e : eqStrsV (fileBlocksV (filesOf 0 ds)) l = true := decide_eq_true hb
      exact (eval_ite_f (by simp only [e]; rfl)).trans rfl
    · rw [if_neg hb] at ht
      rw [readFilesV_none ht]
      have e : eqStrsV (fileBlocksV (filesOf 0 ds)) l = false := decide_eq_false hb
      exact (eval_ite_t (by simp only [e]; rfl)).trans rfl
abbrev f175_S0 := (Int × Int × Unit) × ((List UInt8 × Bool × Unit) × List (Int) × Unit)
def f175_L0 (x : f175_S0) : Out (Round f175_S0 ((Unit) × (List (Int) × (List UInt8 × Bool × Unit) × Unit)) Empty) :=
 .ite (decide (x.1.2.1 < x.1.1))
 (.ite (decide (List.length x.2.2.1 + List.length ([(zagV (numV x.2.1.1 x.2.1.2.1).1)] : List (Int)) ≤ LIM))
 (.ret (.again ((x.1.1, (IntKind.i64.wrap (x.1.2.1 + (1 : Int))), ()), (((numV x.2.1.1 x.2.1.2.1).2.1, (numV x.2.1.1 x.2.1.2.1).2.2, ()), (x.2.2.1 ++ ([(zagV (numV x.2.1.1 x.2.1.2.1).1)] : List (Int))), ()))))
 .fail)
 (.ret (.out ((), (x.2.2.1, (x.2.1.1, x.2.1.2.1, ()), ()))))
def f175_tree (a0 : List UInt8) (a1 : Bool) (a2 : Int) : Out (((List Int × Unit) × Unit) × ((List UInt8 × Bool × Unit) × Unit × Unit)) :=
 .get (iter1 f175_L0 FUEL (((manyV a0 a1 a2).1, (0 : Int), ()), (((manyV a0 a1 a2).2.1, (manyV a0 a1 a2).2.2, ()), ([] : List (Int)), ()))) fun y1 =>
 .ret (((y1.2.1, ()), ()), ((y1.2.2.1.1, y1.2.2.1.2.1, ()), (), ()))
def f175_A : Nat → Option LoopAnn := fun n => annOf [(0, { head := { t := [.vptr 0 0, .dead, .dead, .dead, .dead, .srf 64000000, .dead, .dead, .i .i64, .i .i64, .dead, .dead, .dead, .dead, .dead, .dead, .dead, .dead, .dead], v := [(0, .var [.s, .b]), (64000000, .arr (.int .i64))] }, out := { t := [.vptr 0 0, .dead, .dead, .dead, .dead, .srf 64000256, .dead, .dead, .dead, .dead, .dead, .dead, .dead, .dead, .dead, .dead, .dead, .dead, .dead], v := [(64000256, .arr (.int .i64)), (0, .var [.s, .b])] }, ret := none })] n
def wordsL : Nat → Str → Bool → List Int → List Int × Str × Bool
  | 0, s, b, p => (p, s, b)
  | n + 1, s, b, p => wordsL n (numV s b).2.1 (numV s b).2.2 (p ++ [zagV (numV s b).1])
def wordsRV (s : Str) (bad : Bool) (m : Int) : Option (List Int × Str × Bool) := if 0 ≤ m ∧ m ≤ 1000 then some (wordsL (manyV s bad m).1.toNat (manyV s bad m).2.1 (manyV s bad m).2.2 []) else none
def k175 : Con := { f := 175, lend := true, its := [⟨true, false, [.s, .b]⟩, ⟨false, false, [.i .i64]⟩], lay := [none, none], rs := [⟨false, false, [.own (.int .i64)]⟩], F := fun x => .get (wordsRV x.1.1 x.1.2.1 x.2.1.1) fun y => .ret (((y.1, ()), ()), ((y.2.1, y.2.2, ()), (), ())) }
theorem f175_eq (x : itemsD k175.its) : bodyOut (cxOf [k170, k169, k209]) (f175_A) (codeOf Try.f175) k175.its k175.lay Try.f175.ntmps k175.rs [.tmp 4] x = f175_tree x.1.1 x.1.2.1 x.2.1.1 := by kernel_rfl
theorem f175_okp (hr : ∀ x : (List UInt8 × Bool × Unit) × (Int × Unit) × Unit, itemsWF k175.its x → ∀ y, (k175.F x).eval = some y → (f175_tree x.1.1 x.1.2.1 x.2.1.1).eval = some y) : k175.Ok Try.prog :=
  con_fn [k170, k169, k209] ⟨k170_ok, k169_ok, k209_ok, trivial⟩ (by kernel_rfl) (codeOf_eq (by kernel_rfl)) (by kernel_rfl) (by kernel_rfl) (by kernel_rfl) f175_eq hr
theorem wordsL_bad : ∀ (n : Nat) (s : Str) (p : List Int), (wordsL n s true p).2.2 = true
  | 0, _, _ => rfl
  | n + 1, s, p => wordsL_bad n s _
theorem wordsL_eq : ∀ (n : Nat) (s : Str) (p : List Int), match numsP n s with
    | some (l, k) => wordsL n s false p = (p ++ l.map zagV, s.drop k, false)
    | none => (wordsL n s false p).2.2 = true
  | 0, s, p => by simp [numsP, wordsL]
  | n + 1, s, p => by
    simp only [numsP, wordsL]
    cases hi : rvI s with
    | none => simp only [numV_none hi]; exact wordsL_bad n _ _
    | some i =>
      simp only [numV_some hi]
      have ih := wordsL_eq n (s.drop (i + 1)) (p ++ [zagV ((decB (s.take (i + 1)) : Nat) : Int)])
      cases hr : numsP n (s.drop (i + 1)) with
      | none => rw [hr] at ih; exact ih
      | some x =>
        obtain ⟨l, k⟩ := x
        rw [hr] at ih
        simp only at ih ⊢
        rw [ih, List.drop_drop]
        simp
theorem wordsR_eq (s : Str) : match listP 8 s with
    | some (l, k) => wordsRV s false 8 = some (l.map zagV, s.drop k, false)
    | none => ∃ r, wordsRV s false 8 = some r ∧ r.2.2 = true := by
  unfold listP wordsRV
  rw [if_pos (by decide)]
  cases hi : rvI s with
  | none =>
    simp only [manyV, numV_none hi]
    exact ⟨_, rfl, rfl⟩
  | some i =>
    simp only [manyV, numV_some hi]
    by_cases h8 : 8 < decB (s.take (i + 1))
    · rw [if_pos h8, if_pos (show ((decB (s.take (i + 1)) : Nat) : Int) > 8 by omega)]
      exact ⟨_, rfl, rfl⟩
    · rw [if_neg h8, if_neg (show ¬ ((decB (s.take (i + 1)) : Nat) : Int) > 8 by omega)]
      simp only [Int.toNat_natCast]
      have h := wordsL_eq (decB (s.take (i + 1))) (s.drop (i + 1)) []
      cases hr : numsP (decB (s.take (i + 1))) (s.drop (i + 1)) with
      | none => rw [hr] at h; exact ⟨_, rfl, h⟩
      | some x =>
        obtain ⟨l, k⟩ := x
        rw [hr] at h
        simp only at h ⊢
        rw [h, List.drop_drop]; rfl
theorem k175_ok : k175.Ok Try.prog := by
  refine f175_okp fun x _ y hy => ?_
  obtain ⟨⟨s, b, _⟩, ⟨m, _⟩, _⟩ := x
  change (Out.get (wordsRV s b m) fun y => Out.ret (((y.1, ()), ()), ((y.2.1, (y.2.2, ())), ((), ())))).eval = some y at hy
  show (f175_tree s b m).eval = some y
  unfold wordsRV at hy
  split at hy
  case isFalse => exact nomatch hy
  rename_i hm
  refine Eq.trans ?_ hy
  unfold f175_tree
  have hb := manyV_le s b m hm.1
  obtain ⟨n, hn⟩ := Int.eq_ofNat_of_zero_le hb.1
  rw [hn] at hb ⊢
  rw [Int.toNat_natCast]
  have key : ∀ (m j N : Nat) (s : Str) (b : Bool) (p : List Int), j + m = n → m < N → p.length = j → iter1 f175_L0 N ((((n : Nat) : Int), (((j : Nat) : Int), ())), ((s, (b, ())), (p, ()))) =
      some ((), ((wordsL m s b p).1, (((wordsL m s b p).2.1, ((wordsL m s b p).2.2, ())), ()))) := by
    intro m
    induction m with
    | zero =>
      intro j N s b p hj hN hp
      have w3 : decide (((j : Nat) : Int) < ((n : Nat) : Int)) = false := decide_eq_false (by omega)
      refine iter1_out' ?_ hN
      exact (eval_ite_f w3).trans rfl
    | succ m ih =>
      intro j N s b p hj hN hp
      have w3 : decide (((j : Nat) : Int) < ((n : Nat) : Int)) = true := decide_eq_true (by omega)
      have g6 := wrap_succ (i := j) (by unfold BIG; omega)
      have g8 : ∀ z : Int, decide (p.length + ([z] : List Int).length ≤ LIM) = true := fun z => decide_eq_true (by rw [LIM_eq]; simp; omega)
      obtain ⟨N, rfl⟩ : ∃ N', N = N' + 1 := ⟨N - 1, by omega⟩
      rw [iter1_again (x' := ((((n : Nat) : Int), (((j + 1 : Nat) : Int), ())), (((numV s b).2.1, ((numV s b).2.2, ())), (p ++ [zagV (numV s b).1], ()))))]
      · exact ih (j + 1) N _ _ _ (by omega) (by omega) (by simp; omega)
      · rw [← g6]
        exact (eval_ite_t w3).trans ((eval_ite_t (g8 _)).trans rfl)
  have hk := key n 0 FUEL (manyV s b m).2.1 (manyV s b m).2.2 [] (by omega) (Nat.lt_of_le_of_lt (show n ≤ 1000 by omega) (by decide)) rfl
  exact (eval_get_some hk).trans rfl
/-- A file's text, as it is read. -/
theorem readFile_cut (t : UInt8) (r : Str) : ∃ w, wordsRV (cutPrefixV (t :: r) [102]).1 (!(cutPrefixV (t :: r) [102]).2) 8 = some w ∧ w.1.length ≤ 8 ∧
    readFile (t :: r) = if w.2.2 = false ∧ w.2.1 = [] ∧ wordsOkV w.1 = true then some w.1 else none := by
  have len : ∀ (n : Nat) (s : Str) (b : Bool) (p : List Int), (wordsL n s b p).1.length = p.length + n := by
    intro n
    induction n with
    | zero => intro s b p; rfl
    | succ n ih => intro s b p; unfold wordsL; rw [ih]; simp; omega
  have hlen : ∀ s b w, wordsRV s b 8 = some w → w.1.length ≤ 8 := fun s b w h => by
    unfold wordsRV at h
    rw [if_pos (by decide)] at h
    obtain rfl := Option.some.inj h
    rw [len]
    have := manyV_le s b 8 (by omega)
    simp; omega
  rw [cutPrefix_one]
  by_cases h : t = 102
  · rw [if_pos h]
    have hr := wordsR_eq r
    unfold readFile
    simp only [if_pos h]
    cases hp : listP 8 r with
    | none =>
      rw [hp] at hr
      obtain ⟨w, h1, h2⟩ := hr
      refine ⟨w, h1, hlen _ _ _ h1, ?_⟩
      rw [if_neg (fun q => by rw [h2] at q; exact nomatch q.1)]
    | some x =>
      obtain ⟨l, k⟩ := x
      rw [hp] at hr
      simp only at hr ⊢
      have hk := (listP_le hp).1
      refine ⟨_, hr, hlen _ _ _ hr, ?_⟩
      by_cases q : k = r.length ∧ wordsOkV (l.map zagV) = true
      · rw [if_pos q, if_pos ⟨rfl, by rw [List.drop_eq_nil_iff]; omega, q.2⟩]
      · rw [if_neg q, if_neg (fun w => q ⟨by have := w.2.1; rw [List.drop_eq_nil_iff] at this; omega, w.2.2⟩)]
  · rw [if_neg h]
    refine ⟨([], t :: r, true), rfl, by simp, ?_⟩
    unfold readFile
    simp only [if_neg h]
    rw [if_neg (fun q => nomatch q.1)]
abbrev f88_S0 := (List (List UInt8) × Int × Int × Unit) × (List ((Int × List Int × Unit)) × Unit)
def f88_L0 (x : f88_S0) : Out (Round f88_S0 ((Unit) × (List ((Int × List Int × Unit)) × Unit)) ((Bool × Unit) × (List ((Int × List Int × Unit)) × Unit))) :=
 .ite (decide (x.1.2.2.1 < x.1.2.1))
 (.ite (decide (0 ≤ x.1.2.2.1))
 (.get (nth x.1.1 (Int.toNat x.1.2.2.1)) fun y1 =>
 .ite (y1 == ([] : List UInt8))
 (.ret (.again ((x.1.1, x.1.2.1, (IntKind.i64.wrap (x.1.2.2.1 + (1 : Int))), ()), (x.2.1, ()))))
 (.get (wordsRV (cutPrefixV y1 ([102] : List UInt8)).1 (!(cutPrefixV y1 ([102] : List UInt8)).2) (8 : Int)) fun y2 =>
 .ite (y2.2.2 == false)
 (.ite ((y2.2.1 != ([] : List UInt8)) == false)
 (.ite (!(wordsOkV y2.1))
 (.ret (.ret ((false, ()), (([] : List ((Int × List Int × Unit))), ()))))
 (.ite (decide (List.length x.2.1 + List.length ([(x.1.2.2.1, y2.1, ())] : List ((Int × List Int × Unit))) ≤ LIM))
 (.ret (.again ((x.1.1, x.1.2.1, (IntKind.i64.wrap (x.1.2.2.1 + (1 : Int))), ()), ((x.2.1 ++ ([(x.1.2.2.1, y2.1, ())] : List ((Int × List Int × Unit)))), ()))))
 .fail))
 (.ret (.ret ((false, ()), (([] : List ((Int × List Int × Unit))), ())))))
 (.ret (.ret ((false, ()), (([] : List ((Int × List Int × Unit))), ()))))))
 .fail)
 (.ret (.out ((), (x.2.1, ()))))
def f88_tree (a0 : List (List UInt8)) : Out (((List (Int × List Int × Unit) × Unit) × (Bool × Unit) × Unit) × (Unit × Unit)) :=
 .ite ((((List.length a0 : Nat) : Int) != (6 : Int)))
 (.ret (((([] : List ((Int × List Int × Unit))), ()), (false, ()), ()), ((), ())))
 (.get (iter f88_L0 FUEL ((a0, ((List.length a0 : Nat) : Int), (0 : Int), ()), (([] : List ((Int × List Int × Unit))), ()))) fun y1 => .alt y1 (fun y2 =>
 .ret (((y2.2.1, ()), (true, ()), ()), ((), ()))) (fun y3 =>
 .ret (((y3.2.1, ()), (y3.1.1, ()), ()), ((), ()))))
def f88_A : Nat → Option LoopAnn := fun n => annOf [(0, { head := { t := [.dead, .dead, .dead, .dead, .srf 64000000, .dead, .dead, .dead, .dead, .dead, .dead, .dead, .dead, .dead, .dead, .ro .str (some 0), .i .i64, .i .i64, .dead, .dead, .dead, .dead, .dead, .dead, .dead, .dead, .dead, .dead, .dead, .dead, .dead, .dead, .dead, .dead, .dead, .dead, .dead, .dead, .dead, .dead, .dead, .dead, .dead, .dead, .dead, .dead, .dead, .dead, .dead, .dead, .dead, .dead, .dead, .dead, .dead, .dead, .dead, .dead, .dead, .dead, .dead], v := [(64000000, .arr (.st (.cons (.int .i64) (.cons (.sl (.int .i64)) .nil))))] }, out := { t := [.dead, .dead, .dead, .dead, .srf 64000256, .dead, .dead, .dead, .dead, .dead, .dead, .dead, .dead, .dead, .dead, .dead, .dead, .dead, .dead, .dead, .dead, .dead, .dead, .dead, .dead, .dead, .dead, .dead, .dead, .dead, .dead, .dead, .dead, .dead, .dead, .dead, .dead, .dead, .dead, .dead, .dead, .dead, .dead, .dead, .dead, .dead, .dead, .dead, .dead, .dead, .dead, .dead, .dead, .dead, .dead, .dead, .dead, .dead, .dead, .dead, .dead], v := [(64000256, .arr (.st (.cons (.int .i64) (.cons (.sl (.int .i64)) .nil))))] }, ret := some { t := [.dead, .dead, .srf 64000512, .b, .dead, .dead, .dead, .dead, .dead, .dead, .dead, .dead, .dead, .dead, .dead, .dead, .dead, .dead, .dead, .dead, .dead, .dead, .dead, .dead, .dead, .dead, .dead, .dead, .dead, .dead, .dead, .dead, .dead, .dead, .dead, .dead, .dead, .dead, .dead, .dead, .dead, .dead, .dead, .dead, .dead, .dead, .dead, .dead, .dead, .dead, .dead, .dead, .dead, .dead, .dead, .dead, .dead, .dead, .dead, .dead, .dead], v := [(64000512, .arr (.st (.cons (.int .i64) (.cons (.sl (.int .i64)) .nil))))] } })] n
def k88 : Con := { f := 88, lend := true, its := [⟨false, false, [.ro .str]⟩], lay := [none], rs := [⟨false, false, [.own (.st (.cons (.int .i64) (.cons (.sl (.int .i64)) .nil)))]⟩, ⟨false, false, [.b]⟩], F := fun x => .ret ((((readFilesV x.1.1).1, ()), ((readFilesV x.1.1).2, ()), ()), ((), ())) }
theorem f88_eq (x : itemsD k88.its) : bodyOut (cxOf [k168, k175, k176]) (f88_A) (codeOf Try.f88) k88.its k88.lay Try.f88.ntmps k88.rs [.tmp 2, .tmp 3] x = f88_tree x.1.1 := by kernel_rfl
theorem f88_ok (hr : ∀ x : (List (List UInt8) × Unit) × Unit, itemsWF k88.its x → (f88_tree x.1.1).eval = (k88.F x).eval) : k88.Ok Try.prog :=
  con_fn [k168, k175, k176] ⟨k168_ok, k175_ok, k176_ok, trivial⟩ (by kernel_rfl) (codeOf_eq (by kernel_rfl)) (by kernel_rfl) (by kernel_rfl) (by kernel_rfl) f88_eq fun x hw _ hy => (hr x hw).trans hy
theorem k88_ok : k88.Ok Try.prog := by
  refine f88_ok fun x hw => ?_
  obtain ⟨⟨l, _⟩, _⟩ := x
  show (f88_tree l).eval = some ((((readFilesV l).1, ()), (((readFilesV l).2, ()), ())), ((), ()))
  unfold f88_tree
  by_cases h6 : l.length = 6
  case neg =>
    rw [eval_ite_t (show (((l.length : Nat) : Int) != (6 : Int)) = true from len_ne (b := 6) h6), readFilesV_none (if_neg h6)]; rfl
  rw [eval_ite_f (show (((l.length : Nat) : Int) != (6 : Int)) = false from len_eq (b := 6) h6)]
  have g8 : ∀ (out : List FileD) (w : FileD), out.length ≤ 6 → decide (out.length + ([w] : List FileD).length ≤ LIM) = true := fun out w h => decide_eq_true (by rw [LIM_eq]; simp; omega)
  have hk := all_files (f := f88_L0) readFile l (by omega) (fun i out => ((l, (((l.length : Nat) : Int), (((i : Nat) : Int), ()))), (out, ()))) (fun out => ((), (out, ()))) ((false, ()), ([], ()))
    (fun i hi out h => by
      have w1 := wrap_succ (i := i) (by unfold BIG; omega)
      have e : (l[i] == ([] : Str)) = true := by rw [h]; rfl
      simp only [f88_L0, Out.eval, lt_t hi, ge0, nth_get hi, Option.bind_some, cond_true, w1, e])
    (fun i hi out h hg => by
      have e : (l[i] == ([] : Str)) = false := by simpa using h
      obtain ⟨t, r, hx⟩ := List.exists_cons_of_ne_nil h
      obtain ⟨⟨v, z, c⟩, h1, _, h3⟩ := readFile_cut t r
      rw [← hx] at h1 h3
      rw [hg] at h3
      simp only [f88_L0, Out.eval, lt_t hi, ge0, nth_get hi, Option.bind_some, cond_true, e, h1]
      simp only at h3
      cases c
      · by_cases hz : z = []
        · have hok : wordsOkV v = false := by
            cases q : wordsOkV v with
            | false => rfl
            | true => rw [if_pos ⟨rfl, hz, q⟩] at h3; exact nomatch h3
          rw [hz, hok]; rfl
        · have : (z != []) = true := by simpa using hz
          rw [this]; rfl
      · rfl)
    (fun i hi out d ho h hg => by
      have w1 := wrap_succ (i := i) (by unfold BIG; omega)
      have e : (l[i] == ([] : Str)) = false := by simpa using h
      obtain ⟨t, r, hx⟩ := List.exists_cons_of_ne_nil h
      obtain ⟨⟨v, z, c⟩, h1, _, h3⟩ := readFile_cut t r
      rw [← hx] at h1 h3
      rw [hg] at h3
      simp only at h3
      split at h3
      case isFalse => exact nomatch h3
      rename_i hq
      obtain ⟨rfl, rfl, hok⟩ := hq
      obtain rfl := Option.some.inj h3
      simp only [f88_L0, Out.eval, lt_t hi, ge0, nth_get hi, Option.bind_some, cond_true, e, h1, hok, g8 _ _ ho, w1]
      rfl)
    (fun out => by simp [f88_L0, Out.eval]) 6 0 FUEL [] (by omega) (by decide) (by simp)
  rw [List.drop_zero] at hk
  refine (eval_get_some hk).trans ?_
  have ht : readBlocksV l = match allO (oneV readFile) l with | none => none | some ds => some (filesOf 0 ds) := if_pos h6
  cases ha : allO (oneV readFile) l with
  | none =>
    rw [ha] at ht
    rw [readFilesV_none ht]; rfl
  | some ds =>
    rw [ha] at ht
    rw [readFilesV_some ht]
    simp only [List.nil_append]
    rfl
theorem readBlocks_ok {l : List Str} {f : List FileD} (h : readBlocksV l = some f) : filesOkV f = true ∧ fileBlocksV f = l := by
  unfold readBlocksV at h
  split at h
  · rename_i h6
    split at h
    · exact nomatch h
    · rename_i ds hd
      obtain rfl := Option.some.inj h
      obtain ⟨_, g2, g3⟩ := allO_iff.1 hd
      have hl := allO_len hd
      exact ⟨by rw [filesOf_ok (by omega)]; exact g2, by rw [fileBlocksV_of (by omega) g2, g3]⟩
  · exact nomatch h
theorem cntF_le : ∀ (a : List FileD) (m : Nat), (∀ x ∈ a, x.2.1.length ≤ m) → cntF a ≤ (m + 1) * a.length
  | [], _, _ => Nat.zero_le _
  | x :: r, m, h => by
    have h1 := h x (by simp)
    have h2 := cntF_le r m fun y hy => h y (by simp [hy])
    simp only [cntF, List.length_cons, Nat.mul_succ]; omega
theorem cntF_ok {a : List FileD} (h : filesOkV a = true) : cntF a ≤ 54 := by
  obtain ⟨h1, h2⟩ := filesOkV_parts h
  have := cntF_le a 8 fun x hx => (h2 x hx).2.1
  omega
theorem readFilesV_cnt (l : List Str) : cntF (readFilesV l).1 ≤ 54 := by
  unfold readFilesV
  split
  · rename_i f h; exact cntF_ok (readBlocks_ok h).1
  · exact Nat.zero_le _
end Go.Proofs.Ytjcinikojcfebaa.Dm
