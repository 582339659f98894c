/- Functions of the program, and what they compute. -/
import Derived.Test.YtnglkhjpdpgahaaGreatDoorP1
namespace Go.Proofs.YtnglkhjpdpgahaaGreatDoor.Dm
open Go Go.ChangeShapes Go.WideShapes Go.ChangeAt Go.RowKit
abbrev opNamesV : List Str := [([] : List UInt8), ([115, 101, 116] : List UInt8), ([97, 100, 100] : List UInt8), ([115, 117, 98] : List UInt8), ([108, 111, 97, 100] : List UInt8), ([115, 116, 111, 114, 101] : List UInt8), ([106, 117, 109, 112] : List UInt8), ([122, 101, 114, 111] : List UInt8), ([115, 121, 115] : List UInt8)]
abbrev opFormsV : List Str := [([] : List UInt8), ([114, 110] : List UInt8), ([114, 114, 114] : List UInt8), ([114, 114, 114] : List UInt8), ([114, 114] : List UInt8), ([114, 114] : List UInt8), ([110] : List UInt8), ([114, 110] : List UInt8), ([110] : List UInt8)]
def opOfV (w : Str) : Nat :=
  if w = [115, 101, 116] then 1 else if w = [97, 100, 100] then 2 else if w = [115, 117, 98] then 3 else if w = [108, 111, 97, 100] then 4 else
  if w = [115, 116, 111, 114, 101] then 5 else if w = [106, 117, 109, 112] then 6 else if w = [122, 101, 114, 111] then 7 else if w = [115, 121, 115] then 8 else 0
def formV (k : Nat) : Str := opFormsV.getD k []
def regOfV : Str → Option Int
  | [a, b] => if a = 114 ∧ 48 ≤ b.toNat ∧ b.toNat ≤ 51 then some (((b.toNat - 48 : Nat) : Int)) else none
  | _ => none
def argV (k : UInt8) (w : Str) : Option Int := if k = 114 then regOfV w else readDecV w
def argsV : Str → List Str → Option (List Int)
  | [], [] => some []
  | k :: f, w :: ws => (argV k w).bind fun x => (argsV f ws).map fun l => x :: l
  | _, _ => none
def insOfV (l : Str) : Option InsD :=
  if opOfV ((splitOn 32 l).headD []) = 0 ∨ (splitOn 32 l).length ≠ (formV (opOfV ((splitOn 32 l).headD []))).length + 1 then none else
  match argsV (formV (opOfV ((splitOn 32 l).headD []))) (splitOn 32 l).tail with
  | none => none
  | some n => if insOkV ((opOfV ((splitOn 32 l).headD []) : Nat) : Int) (n.getD 0 0) (n.getD 1 0) (n.getD 2 0) = true then some (((opOfV ((splitOn 32 l).headD []) : Nat) : Int), n.getD 0 0, n.getD 1 0, n.getD 2 0, ()) else none
def asmGo : Nat → List InsD → List Str → List InsD × Int
  | _, out, [] => (out, 0)
  | k, out, l :: r => if l = [] then asmGo (k + 1) out r else match insOfV l with
    | none => ([], ((k + 1 : Nat) : Int))
    | some x => if 40 ≤ out.length then ([], ((k + 1 : Nat) : Int)) else asmGo (k + 1) (out ++ [x]) r
def asmV (t : Str) : List InsD × Int := asmGo 0 [] (linesV t)
def argT (k : UInt8) (n : Int) : Str := (if k = 114 then [114] else []) ++ Lib.itoa n
def lineT (x : InsD) : Str := opNamesV.getD x.1.toNat [] ++ (List.zipWith argT (formV x.1.toNat) [x.2.1, x.2.2.1, x.2.2.2.1]).flatMap fun w => 32 :: w
def listT (p : List InsD) : Str := p.flatMap fun x => lineT x ++ [10]
def listingV (p : List InsD) : Str := if progOkV p = true then listT p else []
theorem split_words {c : UInt8} : ∀ {ws : List Str} {w : Str}, c ∉ w → (∀ x ∈ ws, c ∉ x) → splitOn c (w ++ ws.flatMap fun x => c :: x) = w :: ws
  | [], w, h, _ => by rw [List.flatMap_nil, List.append_nil, splitOn_miss h]
  | x :: ws, w, h, hx => by
    rw [List.flatMap_cons, List.cons_append, splitOn_hit h, split_words (hx x (by simp)) fun y hy => hx y (by simp [hy])]
theorem itoa_no {c : UInt8} (h : c ≠ 45 ∧ (c.toNat < 48 ∨ 57 < c.toNat)) (n : Int) : c ∉ Lib.itoa n := fun hm => by
  rcases itoa_bytes n c hm with e | ⟨e1, e2⟩
  · exact h.1 e
  · omega
theorem argT_no {c : UInt8} (h : c ≠ 45 ∧ (c.toNat < 48 ∨ 57 < c.toNat)) (h2 : c ≠ 114) (k : UInt8) (n : Int) : c ∉ argT k n := fun hm => by
  rcases List.mem_append.1 hm with hm | hm
  · split at hm
    · exact h2 (by simpa using hm)
    · cases hm
  · exact itoa_no h n hm
theorem args_no {c : UInt8} (h : c ≠ 45 ∧ (c.toNat < 48 ∨ 57 < c.toNat)) (h2 : c ≠ 114) : ∀ (f : Str) (l : List Int), ∀ x ∈ List.zipWith argT f l, c ∉ x
  | [], _, _, hx => by simp at hx
  | _ :: _, [], _, hx => by simp at hx
  | k :: f, n :: l, x, hx => by
    rw [List.zipWith_cons_cons] at hx
    rcases List.mem_cons.1 hx with rfl | hx
    · exact argT_no h h2 k n
    · exact args_no h h2 f l x hx
theorem names_no : ∀ x ∈ opNamesV, (32 : UInt8) ∉ x ∧ (10 : UInt8) ∉ x := by decide
theorem name_no (k : Nat) : (32 : UInt8) ∉ opNamesV.getD k [] ∧ (10 : UInt8) ∉ opNamesV.getD k [] := by
  rw [List.getD_eq_getElem?_getD]
  cases e : opNamesV[k]? with
  | none => simp
  | some x => exact names_no x (List.mem_of_getElem? e)
theorem line_words (x : InsD) : splitOn 32 (lineT x) = opNamesV.getD x.1.toNat [] :: List.zipWith argT (formV x.1.toNat) [x.2.1, x.2.2.1, x.2.2.2.1] :=
  split_words (name_no _).1 (args_no (by decide) (by decide) _ _)
theorem line_no (x : InsD) : (10 : UInt8) ∉ lineT x := fun hm => by
  rcases List.mem_append.1 hm with hm | hm
  · exact (name_no _).2 hm
  · obtain ⟨w, hw, hm⟩ := List.mem_flatMap.1 hm
    rcases List.mem_cons.1 hm with hm | hm
    · exact absurd hm (by decide)
    · exact args_no (by decide) (by decide) _ _ w hw hm
theorem reg_text {n : Int} (h : regV n = true) : argV 114 (argT 114 n) = some n := by
  have h : 0 ≤ n ∧ n ≤ 3 := by
    unfold regV at h
    simp only [Bool.and_eq_true, decide_eq_true_eq] at h
    omega
  have e : Lib.itoa n = [UInt8.ofNat (48 + n.toNat)] := by
    unfold Lib.itoa
    rw [if_neg (by omega), Lib.decDigits_one (by omega)]
  unfold argV argT
  rw [if_pos rfl, if_pos rfl, e]
  show (if (114 : UInt8) = 114 ∧ 48 ≤ (UInt8.ofNat (48 + n.toNat)).toNat ∧ (UInt8.ofNat (48 + n.toNat)).toNat ≤ 51 then some ((((UInt8.ofNat (48 + n.toNat)).toNat - 48 : Nat) : Int)) else none) = some n
  rw [dig_val (by omega), if_pos ⟨rfl, by omega, by omega⟩]
  congr 1
  omega
theorem num_text {n : Int} (h : In9 n) : argV 110 (argT 110 n) = some n := by
  unfold argV argT
  rw [if_neg (by decide), if_neg (by decide), List.nil_append, readDec_itoa h]
theorem ins_line {x : InsD} (h : insOk1 x = true) : insOfV (lineT x) = some x ∧ 1 ≤ x.1 ∧ x.1 ≤ 8 := by
  obtain ⟨o, a, b, c, u⟩ := x
  have h : insOkV o a b c = true := h
  have ho : 1 ≤ o ∧ o ≤ 8 := by
    unfold insOkV at h
    by_cases q1 : o = 1; · omega
    by_cases q2 : o = 2; · omega
    by_cases q3 : o = 3; · omega
    by_cases q4 : o = 4; · omega
    by_cases q5 : o = 5; · omega
    by_cases q6 : o = 6; · omega
    by_cases q7 : o = 7; · omega
    by_cases q8 : o = 8; · omega
    simp [q1, q2, q3, q4, q5, q6, q7, q8] at h
  refine ⟨?_, ho⟩
  have hin : ∀ {n lo hi : Int}, inV n lo hi = true → lo ≤ n ∧ n ≤ hi := fun q => by
    unfold inV at q
    simpa using q
  unfold insOfV
  rw [line_words]
  have cases8 : o = 1 ∨ o = 2 ∨ o = 3 ∨ o = 4 ∨ o = 5 ∨ o = 6 ∨ o = 7 ∨ o = 8 := by omega
  have z : ∀ {n : Int}, (n == 0) = true → n = 0 := fun q => by simpa using q
  have h0 := h
  rcases cases8 with rfl | rfl | rfl | rfl | rfl | rfl | rfl | rfl
  · simp only [insOkV, beq_self_eq_true, cond_true, Bool.and_eq_true] at h
    obtain ⟨h1, h2, h3⟩ := h
    obtain rfl := z h3
    have := hin h2
    have e := num_text (n := b) (by omega)
    simp [formV, opOfV, argsV, reg_text h1, e, h0]
  · simp only [insOkV, Int.reduceBEq, cond_true, cond_false, Bool.and_eq_true] at h
    obtain ⟨h1, h2, h3⟩ := h
    simp [formV, opOfV, argsV, reg_text h1, reg_text h2, reg_text h3, h0]
  · simp only [insOkV, Int.reduceBEq, cond_true, cond_false, Bool.and_eq_true] at h
    obtain ⟨h1, h2, h3⟩ := h
    simp [formV, opOfV, argsV, reg_text h1, reg_text h2, reg_text h3, h0]
  · simp only [insOkV, Int.reduceBEq, cond_true, cond_false, Bool.and_eq_true] at h
    obtain ⟨h1, h2, h3⟩ := h
    obtain rfl := z h3
    simp [formV, opOfV, argsV, reg_text h1, reg_text h2, h0]
  · simp only [insOkV, Int.reduceBEq, cond_true, cond_false, Bool.and_eq_true] at h
    obtain ⟨h1, h2, h3⟩ := h
    obtain rfl := z h3
    simp [formV, opOfV, argsV, reg_text h1, reg_text h2, h0]
  · simp only [insOkV, Int.reduceBEq, cond_true, cond_false, Bool.and_eq_true] at h
    obtain ⟨h1, h2, h3⟩ := h
    obtain rfl := z h2
    obtain rfl := z h3
    have := hin h1
    have e := num_text (n := a) (by omega)
    simp [formV, opOfV, argsV, e, h0]
  · simp only [insOkV, Int.reduceBEq, cond_true, cond_false, Bool.and_eq_true] at h
    obtain ⟨h1, h2, h3⟩ := h
    obtain rfl := z h3
    have := hin h2
    have e := num_text (n := b) (by omega)
    simp [formV, opOfV, argsV, reg_text h1, e, h0]
  · simp only [insOkV, Int.reduceBEq, cond_true, cond_false, Bool.and_eq_true] at h
    obtain ⟨h1, h2, h3⟩ := h
    obtain rfl := z h2
    obtain rfl := z h3
    have := hin h1
    have e := num_text (n := a) (by omega)
    simp [formV, opOfV, argsV, e, h0]
theorem names_ne : ∀ k, k < 9 → 1 ≤ k → opNamesV.getD k [] ≠ [] := by decide
theorem line_ne {x : InsD} (h : insOk1 x = true) : lineT x ≠ [] := fun e => by
  obtain ⟨_, h1, h2⟩ := ins_line h
  have := List.append_eq_nil_iff.1 e
  exact names_ne x.1.toNat (by omega) (by omega) this.1
theorem list_lines : ∀ (p : List InsD), splitOn 10 (listT p) = p.map lineT ++ [[]]
  | [] => rfl
  | x :: p => by
    have e : listT (x :: p) = lineT x ++ 10 :: listT p := by
      unfold listT
      rw [List.flatMap_cons, List.append_assoc]
      rfl
    rw [e, splitOn_hit (line_no x), list_lines p]
    rfl
theorem lines_list (p : List InsD) : linesV (listT p) = p.map lineT := by
  unfold linesV
  rw [list_lines, List.getLast?_append, if_pos (by simp), List.dropLast_concat]
theorem asm_go : ∀ (p : List InsD) (k : Nat) (out : List InsD), (∀ x ∈ p, insOk1 x = true) → out.length + p.length ≤ 40 → asmGo k out (p.map lineT) = (out ++ p, 0)
  | [], k, out, _, _ => by simp [asmGo]
  | x :: p, k, out, h, hl => by
    have hx := h x (by simp)
    rw [List.map_cons, asmGo, if_neg (line_ne hx), (ins_line hx).1]
    simp only [List.length_cons] at hl ⊢
    rw [if_neg (by omega), asm_go p _ _ (fun y hy => h y (by simp [hy])) (by rw [List.length_append]; simp only [List.length_cons, List.length_nil]; omega), List.append_assoc]
    rfl
theorem prog_parts {p : List InsD} (h : progOkV p = true) : p.length ≤ 40 ∧ ∀ x ∈ p, insOk1 x = true := by
  unfold progOkV at h
  simp only [Bool.and_eq_true, decide_eq_true_eq] at h
  exact ⟨h.1, List.all_eq_true.1 h.2⟩
theorem asm_listing {p : List InsD} (h : progOkV p = true) : asmV (listingV p) = (p, 0) := by
  obtain ⟨h1, h2⟩ := prog_parts h
  unfold asmV listingV
  rw [if_pos h, lines_list, asm_go p 0 [] h2 (by simpa using h1)]
  rfl
theorem ins_ok {l : Str} {x : InsD} (h : insOfV l = some x) : insOk1 x = true := by
  unfold insOfV at h
  split at h
  · cases h
  · split at h
    · cases h
    · split at h
      · rename_i q
        obtain rfl := Option.some.inj h
        exact q
      · cases h
theorem asm_go_ok : ∀ (ls : List Str) (k : Nat) (out : List InsD) (z : List InsD) (n : Int), (∀ x ∈ out, insOk1 x = true) → out.length ≤ 40 → asmGo k out ls = (z, n) → (n ≠ 0 → z = []) ∧ (∀ x ∈ z, insOk1 x = true) ∧ z.length ≤ 40
  | [], k, out, z, n, ho, hl, h => by
    obtain ⟨rfl, rfl⟩ := Prod.mk.inj (show (out, (0 : Int)) = (z, n) from h)
    exact ⟨fun e => absurd rfl e, ho, hl⟩
  | l :: ls, k, out, z, n, ho, hl, h => by
    rw [asmGo] at h
    split at h
    · exact asm_go_ok ls _ _ z n ho hl h
    · split at h
      · obtain ⟨rfl, rfl⟩ := Prod.mk.inj h
        exact ⟨fun _ => rfl, by simp, by simp⟩
      · rename_i x hx
        split at h
        · obtain ⟨rfl, rfl⟩ := Prod.mk.inj h
          exact ⟨fun _ => rfl, by simp, by simp⟩
        · refine asm_go_ok ls _ _ z n (fun y hy => ?_) (by rw [List.length_append]; simp only [List.length_cons, List.length_nil]; omega) h
          rcases List.mem_append.1 hy with hy | hy
          · exact ho y hy
          · obtain rfl := List.mem_singleton.1 hy
            exact ins_ok hx
theorem asm_ok {t : Str} : ((asmV t).2 ≠ 0 → (asmV t).1 = []) ∧ progOkV (asmV t).1 = true := by
  obtain ⟨h1, h2, h3⟩ := asm_go_ok (linesV t) 0 [] (asmV t).1 (asmV t).2 (by simp) (by simp) rfl
  refine ⟨h1, ?_⟩
  unfold progOkV
  rw [decide_eq_true h3, Bool.true_and]
  exact List.all_eq_true.2 h2
end Go.Proofs.YtnglkhjpdpgahaaGreatDoor.Dm
