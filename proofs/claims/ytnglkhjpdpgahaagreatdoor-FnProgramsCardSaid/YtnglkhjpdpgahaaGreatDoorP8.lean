/- Functions of the program, and what they compute. -/
import Derived.Test.YtnglkhjpdpgahaaGreatDoorP7
namespace Go.Proofs.YtnglkhjpdpgahaaGreatDoor.Dm
open Go Go.ChangeShapes Go.WideShapes Go.ChangeAt Go.RowKit
def readDecV2 (s : Str) : Int × Bool := match readDecV s with
  | some n => (n, true)
  | none => (0, false)
theorem dig_sub {b : UInt8} (h : isDig b = true) : IntKind.i64.wrap (IntKind.u8.wrap (((UInt8.toNat b : Nat) : Int) - (48 : Int))) = ((b.toNat - 48 : Nat) : Int) := by
  have := isDig_nat.1 h
  rw [IntKind.wrap_u8, IntKind.wrap_i64]; omega
theorem digs_succ {s : Str} {i : Nat} (hi : i < s.length) : (s.take (i + 1)).filter isDig = (s.take i).filter isDig ++ (if isDig s[i] = true then [s[i]] else []) := by
  rw [List.take_succ_eq_append_getElem hi, List.filter_append]
  congr 1
  cases h : isDig s[i] <;> simp [h]
theorem digs_small {s : Str} {i : Nat} (hi : i ≤ 11) : numOf ((s.take i).filter isDig) < 100000000000 ∧ ((s.take i).filter isDig).length ≤ i := by
  have h1 : ((s.take i).filter isDig).length ≤ i := Nat.le_trans (List.length_filter_le _ _) (by simp; omega)
  have h2 := numOf_lt _ ((s.take i).filter isDig) rfl fun b hb => (List.mem_filter.1 hb).2
  have h3 : 10 ^ ((s.take i).filter isDig).length ≤ 10 ^ 11 := Nat.pow_le_pow_right (by decide) (by omega)
  exact ⟨by omega, h1⟩
abbrev f57_S0 := (List UInt8 × Int × Int × Int × Unit) × (Unit)
def f57_L0 : f57_S0 → Out (Round f57_S0 ((List UInt8 × Int × Int × Unit) × (Unit)) Empty)
| ((p0, p1, p2, p3, _), _) =>
 .ite ((decide (p3 < ((List.length p0 : Nat) : Int))) == true)
 (.ite (decide (p3 < (11 : Int)))
 (.ite (decide (0 ≤ p3))
 (.get (nth p0 (Int.toNat p3)) fun y1 =>
 .ite ((decide (((UInt8.toNat y1 : Nat) : Int) ≥ (48 : Int))) == true)
 (.ite (decide (0 ≤ p3))
 (.get (nth p0 (Int.toNat p3)) fun y2 =>
 .ite (decide (((UInt8.toNat y2 : Nat) : Int) ≤ (57 : Int)))
 (.ite (decide (0 ≤ p3))
 (.get (nth p0 (Int.toNat p3)) fun y3 =>
 .ret (.again ((p0, (IntKind.i64.wrap ((IntKind.i64.wrap (p1 * (10 : Int))) + (IntKind.i64.wrap (IntKind.u8.wrap (((UInt8.toNat y3 : Nat) : Int) - (48 : Int)))))), (IntKind.i64.wrap (p2 + (1 : Int))), (IntKind.i64.wrap (p3 + (1 : Int))), ()), ())))
 .fail)
 (.ret (.again ((p0, p1, p2, (IntKind.i64.wrap (p3 + (1 : Int))), ()), ()))))
 .fail)
 (.ret (.again ((p0, p1, p2, (IntKind.i64.wrap (p3 + (1 : Int))), ()), ()))))
 .fail)
 (.ret (.out ((p0, p1, p2, ()), ()))))
 (.ret (.out ((p0, p1, p2, ()), ())))
def f57_tree (a0 : List UInt8) : Out (((Int × Unit) × (Bool × Unit) × Unit) × (Unit × Unit)) :=
 .get (iter1 f57_L0 FUEL ((a0, (0 : Int), (0 : Int), (0 : Int), ()), ())) fun y1 =>
 .ite ((decide (((List.length y1.1.1 : Nat) : Int) > (0 : Int))) == true)
 (.ite (decide (0 ≤ (0 : Int)))
 (.get (nth y1.1.1 (Int.toNat (0 : Int))) fun y2 =>
 .ite ((((UInt8.toNat y2 : Nat) : Int) == (45 : Int)))
 (.ite ((decide (y1.1.2.2.1 > (9 : Int))) == false)
 (.ite ((decide (((List.length y1.1.1 : Nat) : Int) > (10 : Int))) == false)
 (.get (itoaP (IntKind.i64.wrap (0 - y1.1.2.1))) fun y3 =>
 .ite (y3 != y1.1.1)
 (.ret ((((0 : Int), ()), (false, ()), ()), ((), ())))
 (.ret ((((IntKind.i64.wrap (0 - y1.1.2.1)), ()), (true, ()), ()), ((), ()))))
 (.ret ((((0 : Int), ()), (false, ()), ()), ((), ()))))
 (.ret ((((0 : Int), ()), (false, ()), ()), ((), ()))))
 (.ite ((decide (y1.1.2.2.1 > (9 : Int))) == false)
 (.ite ((decide (((List.length y1.1.1 : Nat) : Int) > (10 : Int))) == false)
 (.get (itoaP y1.1.2.1) fun y4 =>
 .ite (y4 != y1.1.1)
 (.ret ((((0 : Int), ()), (false, ()), ()), ((), ())))
 (.ret (((y1.1.2.1, ()), (true, ()), ()), ((), ()))))
 (.ret ((((0 : Int), ()), (false, ()), ()), ((), ()))))
 (.ret ((((0 : Int), ()), (false, ()), ()), ((), ())))))
 .fail)
 (.ite ((decide (y1.1.2.2.1 > (9 : Int))) == false)
 (.ite ((decide (((List.length y1.1.1 : Nat) : Int) > (10 : Int))) == false)
 (.get (itoaP y1.1.2.1) fun y5 =>
 .ite (y5 != y1.1.1)
 (.ret ((((0 : Int), ()), (false, ()), ()), ((), ())))
 (.ret (((y1.1.2.1, ()), (true, ()), ()), ((), ()))))
 (.ret ((((0 : Int), ()), (false, ()), ()), ((), ()))))
 (.ret ((((0 : Int), ()), (false, ()), ()), ((), ()))))
def f57_A : Nat → Option LoopAnn := fun n => annOf [(0, { head := { t := [.s, .dead, .dead, .dead, .i .i64, .i .i64, .i .i64] ++ dd 54, v := [] }, out := { t := [.s, .dead, .dead, .dead, .i .i64, .i .i64] ++ dd 55, v := [] }, ret := none })] n
def k57 : Con := { f := 57, lend := true, its := [⟨false, false, [.s]⟩], lay := [none], rs := [⟨false, false, [.i .i64]⟩, ⟨false, false, [.b]⟩], F := fun x => .ret ((((readDecV2 x.1.1).1, ()), ((readDecV2 x.1.1).2, ()), ()), ((), ())) }
theorem f57_eq (x : itemsD k57.its) : bo [k52] f57_A Tryz.f57 k57 [.tmp 2, .tmp 3] x = f57_tree x.1.1 := by kernel_rfl
theorem f57_ok (hr : ∀ x : (List UInt8 × Unit) × Unit, itemsWF k57.its x → (f57_tree x.1.1).eval = (k57.F x).eval) : k57.Ok Tryz.prog := con_fn [k52] ⟨k52_ok, trivial⟩ f57_eq fun x hw _ hy => (hr x hw).trans hy
theorem readDec_loop (s : Str) (hs : s.length ≤ BIG) : ∀ (m i N : Nat), i + m = min 11 s.length → m < N →
    iter1 f57_L0 N ((s, ((numOf ((s.take i).filter isDig) : Nat) : Int), ((((s.take i).filter isDig).length : Nat) : Int), ((i : Nat) : Int), ()), ()) = some ((s, ((numOf (digsOf s) : Nat) : Int), (((digsOf s).length : Nat) : Int), ()), ()) := by
  intro m
  induction m with
  | zero =>
    intro i N hi hN
    have e : s.take i = s.take 11 := by
      by_cases h : 11 ≤ s.length
      · congr 1; omega
      · rw [List.take_of_length_le (by omega), List.take_of_length_le (by omega)]
    refine iter1_out' ?_ hN
    unfold f57_L0 digsOf
    rw [e]
    by_cases h : i < s.length
    · rw [eval_ite_t (by rw [decide_eq_true (by omega)]; rfl), eval_ite_f (decide_eq_false (by omega))]; rfl
    · rw [eval_ite_f (by rw [decide_eq_false (by omega)]; rfl)]; rfl
  | succ m ih =>
    intro i N hi hN
    have hlt : i < s.length := by omega
    obtain ⟨N, rfl⟩ : ∃ N', N = N' + 1 := ⟨N - 1, by omega⟩
    have w1 := wrap_succ (i := i) (by unfold BIG; omega)
    obtain ⟨q1, q2⟩ := digs_small (s := s) (i := i) (by omega)
    rw [← ih (i + 1) N (by omega) (by omega), digs_succ hlt]
    refine iter1_again ?_
    unfold f57_L0
    rw [eval_ite_t (by rw [decide_eq_true (by omega)]; rfl), eval_ite_t (decide_eq_true (by omega)), eval_ite_t (ge0 i)]
    refine (eval_get_some (nth_get hlt)).trans ?_
    by_cases hd : isDig s[i] = true
    · have hn := isDig_nat.1 hd
      rw [eval_ite_t (by rw [decide_eq_true (by omega)]; rfl), eval_ite_t (ge0 i)]
      refine (eval_get_some (nth_get hlt)).trans ?_
      rw [eval_ite_t (decide_eq_true (by omega)), eval_ite_t (ge0 i)]
      refine (eval_get_some (nth_get hlt)).trans ?_
      rw [dig_sub hd, if_pos hd, numOf_snoc, List.length_append, w1]
      have e1 : IntKind.i64.wrap (((numOf ((s.take i).filter isDig) : Nat) : Int) * 10) = ((numOf ((s.take i).filter isDig) * 10 : Nat) : Int) := by rw [wrap_id (by omega) (by omega)]; omega
      have e2 : IntKind.i64.wrap (((numOf ((s.take i).filter isDig) * 10 : Nat) : Int) + ((s[i].toNat - 48 : Nat) : Int)) = ((numOf ((s.take i).filter isDig) * 10 + (s[i].toNat - 48) : Nat) : Int) := by rw [wrap_id (by omega) (by omega)]; omega
      have e3 : IntKind.i64.wrap (((((s.take i).filter isDig).length : Nat) : Int) + 1) = ((((s.take i).filter isDig).length + 1 : Nat) : Int) := wrap_succ (by unfold BIG; omega)
      rw [e1, e2, e3]
      rfl
    · rw [if_neg hd, List.append_nil]
      have hn : ¬ (48 ≤ s[i].toNat ∧ s[i].toNat ≤ 57) := fun h => hd (isDig_nat.2 h)
      by_cases h1 : 48 ≤ s[i].toNat
      · rw [eval_ite_t (by rw [decide_eq_true (by omega)]; rfl), eval_ite_t (ge0 i)]
        refine (eval_get_some (nth_get hlt)).trans ?_
        rw [eval_ite_f (decide_eq_false (by omega))]
        rw [w1]; rfl
      · rw [eval_ite_f (by rw [decide_eq_false (by omega)]; rfl)]
        rw [w1]; rfl
theorem readDec_fin {s : Str} {v : Int} (hv : v = signedOf s) (k : (Int × Bool) → (((Int × Unit) × (Bool × Unit) × Unit) × (Unit × Unit))) (hin : In64 v) :
    (Out.ite ((decide ((((digsOf s).length : Nat) : Int) > (9 : Int))) == false) (.ite ((decide (((List.length s : Nat) : Int) > (10 : Int))) == false) (.get (itoaP v) fun y3 => .ite (y3 != s) (.ret (k (0, false))) (.ret (k (v, true)))) (.ret (k (0, false)))) (.ret (k (0, false)))).eval = some (k (readDecV2 s)) := by
  have hr := readDec_ref s
  unfold readDecV2
  rw [hr]
  by_cases h1 : (digsOf s).length ≤ 9
  case neg =>
    rw [eval_ite_f (by rw [decide_eq_true (by omega)]; rfl), if_neg fun q => h1 q.1]; rfl
  rw [eval_ite_t (by rw [decide_eq_false (by omega)]; rfl)]
  by_cases h2 : s.length ≤ 10
  case neg =>
    rw [eval_ite_f (by rw [decide_eq_true (by omega)]; rfl), if_neg fun q => h2 q.2.1]; rfl
  rw [eval_ite_t (by rw [decide_eq_false (by omega)]; rfl)]
  refine (eval_get_some (if_pos hin : itoaP v = some (Lib.itoa v))).trans ?_
  by_cases h3 : Lib.itoa v = s
  · rw [eval_ite_f (by simpa using h3), if_pos ⟨h1, h2, by rw [← hv]; exact h3⟩, ← hv]; rfl
  · rw [eval_ite_t (by simpa using h3), if_neg fun q => h3 (by rw [hv]; exact q.2.2)]; rfl
theorem k57_ok : k57.Ok Tryz.prog := by
  refine f57_ok fun x hw => ?_
  obtain ⟨⟨a0, _⟩, _⟩ := x
  show (f57_tree a0).eval = some ((((readDecV2 a0).1, ()), ((readDecV2 a0).2, ()), ()), ((), ()))
  unfold f57_tree
  have l0 : a0.length ≤ BIG := hw.1.1
  have key := readDec_loop a0 l0 (min 11 a0.length) 0 FUEL (by omega) (by have := lt_fuel l0; omega)
  refine (eval_get_some key).trans ?_
  dsimp only
  obtain ⟨q1, _⟩ := digs_small (s := a0) (i := 11) (Nat.le_refl _)
  have q1 : numOf (digsOf a0) < 100000000000 := q1
  have fin := fun (v : Int) (hv : v = signedOf a0) (hin : In64 v) => readDec_fin hv (fun p => (((p.1, ()), (p.2, ()), ()), ((), ()))) hin
  by_cases h0 : a0 = []
  · subst h0
    refine (eval_ite_f (show (decide (((List.length ([] : List UInt8) : Nat) : Int) > (0 : Int)) == true) = false from rfl)).trans ?_
    exact fin _ rfl (by omega)
  · have hpos := List.length_pos_iff.2 h0
    rw [eval_ite_t (by rw [decide_eq_true (by omega)]; rfl), eval_ite_t (by decide)]
    refine (eval_get_some (show nth a0 (Int.toNat 0) = some a0[0] from List.getElem?_eq_getElem hpos)).trans ?_
    have hh : a0.head? = some a0[0] := by rw [List.head?_eq_getElem?]; exact List.getElem?_eq_getElem hpos
    by_cases hm : a0[0] = 45
    · rw [eval_ite_t (by rw [show (45 : Int) = ((UInt8.toNat 45 : Nat) : Int) from rfl, byte_eq]; exact decide_eq_true hm), wrap_id (by omega) (by omega)]
      refine fin _ ?_ (by omega)
      unfold signedOf
      rw [hh, hm, if_pos rfl]; omega
    · rw [eval_ite_f (by rw [show (45 : Int) = ((UInt8.toNat 45 : Nat) : Int) from rfl, byte_eq]; exact decide_eq_false hm)]
      refine fin _ ?_ (by omega)
      unfold signedOf
      rw [hh, if_neg (by simpa using hm)]
def insRV (l : Str) : Int × Int × Int × Int × Bool :=
  if opOfV ((splitOn 32 l).headD []) = 0 ∨ (splitOn 32 l).length ≠ (formV (opOfV ((splitOn 32 l).headD []))).length + 1 then (0, 0, 0, 0, false) else
  match argsV (formV (opOfV ((splitOn 32 l).headD []))) (splitOn 32 l).tail with
  | none => (0, 0, 0, 0, false)
  | some n => (((opOfV ((splitOn 32 l).headD []) : Nat) : Int), n.getD 0 0, n.getD 1 0, n.getD 2 0, insOkV ((opOfV ((splitOn 32 l).headD []) : Nat) : Int) (n.getD 0 0) (n.getD 1 0) (n.getD 2 0))
theorem insRV_of (l : Str) : insOfV l = if (insRV l).2.2.2.2 = true then some ((insRV l).1, (insRV l).2.1, (insRV l).2.2.1, (insRV l).2.2.2.1, ()) else none := by
  unfold insOfV insRV
  by_cases h : opOfV ((splitOn 32 l).headD []) = 0 ∨ (splitOn 32 l).length ≠ (formV (opOfV ((splitOn 32 l).headD []))).length + 1
  · rw [if_pos h, if_pos h]; rfl
  · rw [if_neg h, if_neg h]
    cases argsV (formV (opOfV ((splitOn 32 l).headD []))) (splitOn 32 l).tail <;> rfl
def readInsP (s : Str) : Option (Int × Int × Int × Int × Bool) := if s.length ≤ 1000000 then some (insRV s) else none
def argsGo : Str → List Str → Nat → List Int → Option (List Int)
  | [], _, _, n => some n
  | _ :: _, [], _, n => some n
  | k :: f, w :: ws, i, n => match argV k w with
    | none => none
    | some x => argsGo f ws (i + 1) (n.set i x)
theorem args_len : ∀ {f : Str} {ws : List Str} {l : List Int}, argsV f ws = some l → l.length = f.length
  | [], [], l, h => by obtain rfl := Option.some.inj (show some [] = some l from h); rfl
  | [], _ :: _, l, h => nomatch h
  | _ :: _, [], l, h => nomatch h
  | k :: f, w :: ws, l, h => by
    unfold argsV at h
    cases h1 : argV k w with
    | none => rw [h1] at h; exact nomatch h
    | some x =>
      rw [h1] at h
      obtain ⟨l', h2, rfl⟩ := Option.map_eq_some_iff.1 (show (argsV f ws).map (fun l => x :: l) = some l from h)
      simp [args_len h2]
theorem argsGo_eq : ∀ (f : Str) (ws : List Str) (i : Nat) (n : List Int), f.length = ws.length → i + f.length ≤ n.length → argsGo f ws i n = (argsV f ws).map fun l => n.take i ++ l ++ n.drop (i + l.length)
  | [], [], i, n, _, h => by simp [argsGo, argsV]
  | [], _ :: _, _, _, h, _ => by simp at h
  | _ :: _, [], _, _, h, _ => by simp at h
  | k :: f, w :: ws, i, n, h, h2 => by
    simp only [List.length_cons] at h h2
    unfold argsGo argsV
    cases h1 : argV k w with
    | none => rfl
    | some x =>
      show argsGo f ws (i + 1) (n.set i x) = ((argsV f ws).map fun l => x :: l).map _
      rw [argsGo_eq f ws (i + 1) (n.set i x) (by omega) (by rw [List.length_set]; omega), Option.map_map]
      congr 1
      funext l
      have hi : i < n.length := by omega
      show List.take (i + 1) (n.set i x) ++ l ++ List.drop (i + 1 + l.length) (n.set i x) = List.take i n ++ (x :: l) ++ List.drop (i + (x :: l).length) n
      rw [List.take_succ_eq_append_getElem (by rw [List.length_set]; omega), List.getElem_set_self, List.take_set_of_le (Nat.le_refl _), List.drop_set_of_lt (by omega), List.length_cons]
      rw [show i + 1 + l.length = i + (l.length + 1) by omega]
      simp only [List.append_assoc, List.cons_append, List.nil_append]
theorem args_tail {f : Str} {ws : List Str} (h : f.length = ws.length) (h3 : f.length ≤ 3) : argsGo f ws 0 [0, 0, 0] = (argsV f ws).map fun l => l ++ ([0, 0, 0] : List Int).drop l.length := by
  rw [argsGo_eq f ws 0 [0, 0, 0] h (by simpa using h3)]
  congr 1
  funext l
  simp
theorem pad_get {l : List Int} (h : l.length ≤ 3) : ∃ a b c, l ++ ([0, 0, 0] : List Int).drop l.length = [a, b, c] ∧ l.getD 0 0 = a ∧ l.getD 1 0 = b ∧ l.getD 2 0 = c := by
  rcases l with _ | ⟨a, _ | ⟨b, _ | ⟨c, _ | ⟨d, r⟩⟩⟩⟩
  · exact ⟨0, 0, 0, rfl, rfl, rfl, rfl⟩
  · exact ⟨a, 0, 0, rfl, rfl, rfl, rfl⟩
  · exact ⟨a, b, 0, rfl, rfl, rfl, rfl⟩
  · exact ⟨a, b, c, rfl, rfl, rfl, rfl⟩
  · simp at h
theorem split_mem {c : UInt8} {s : Str} {x : Str} (h : x ∈ splitOn c s) : x.length ≤ s.length := splitOn_le s x h
end Go.Proofs.YtnglkhjpdpgahaaGreatDoor.Dm
