/- Functions of the program, and what they compute. -/
import Derived.Test.YtcpjdjgipmjhdaaGreatDoorQ80
namespace Go.Proofs.YtcpjdjgipmjhdaaGreatDoor.Dm
open Go Go.ChangeShapes Go.WideShapes Go.ChangeAt Go.RowKit
theorem idx_key {α : Type} {key : α → Int} {a : List α} {v : Int} {i : Nat} (h : idxBy key a v = some i) : ∃ x ∈ a, key x = v := by
  unfold idxBy at h
  obtain ⟨hi, h1, _⟩ := List.findIdx?_eq_some_iff_getElem.1 h
  exact ⟨_, List.getElem_mem hi, by simpa using h1⟩
theorem wrap_in64 (x : Int) : In64 (IntKind.i64.wrap x) := by rw [IntKind.wrap_i64]; omega
theorem refs_in64 (ps : List ProcD) (id : Int) : In64 (refsV ps id) := by
  have h1 : ∀ (l : List Int) (n : Int), In64 n → In64 (l.foldl (fun n f => cntV f id n) n) := by
    intro l
    induction l with
    | nil => intro n h; exact h
    | cons f r ih =>
      intro n h
      refine ih _ ?_
      show In64 (if f = id then IntKind.i64.wrap (n + 1) else n)
      split
      · exact wrap_in64 _
      · exact h
  have h2 : ∀ (l : List ProcD) (n : Int), In64 n → In64 (l.foldl (fun n p => p.2.2.2.2.2.2.1.foldl (fun n f => cntV f id n) n) n) := by
    intro l
    induction l with
    | nil => intro n h; exact h
    | cons p r ih => intro n h; exact ih _ (h1 _ n h)
  exact h2 ps 0 (by decide)
theorem opens_in {next tick : Int} {progs : List (List InsD)} {ps : List ProcD} {os : List OpenD} {pipes : List PipeD} {files : List FileD} {rd out : List Int} (h : unixOkV next tick progs ps os pipes files rd out = true) :
    ∀ o ∈ os, In64 o.1 ∧ (1 ≤ o.2.1 ∧ o.2.1 ≤ 4) ∧ In64 o.2.2.1 ∧ In64 o.2.2.2.2.1 := by
  unfold unixOkV thingsV at h
  simp only [Bool.and_eq_true] at h
  obtain ⟨⟨_, ⟨⟨_, k4⟩, k5⟩, k6⟩, _⟩ := h
  have hf := List.all_eq_true.1 (rows_all k6)
  have hpi := List.all_eq_true.1 (rows_all k5)
  intro o ho
  have := List.all_eq_true.1 (rows_all k4) o ho
  unfold open1V openOkV at this
  simp only [Bool.and_eq_true] at this
  obtain ⟨⟨⟨_, hr⟩, hi⟩, hk⟩ := this
  have hr : o.2.2.2.2.1 = refsV ps o.1 := by simpa using hr
  unfold inV at hi
  simp only [Bool.and_eq_true, decide_eq_true_eq] at hi
  have hr2 := refs_in64 ps o.1
  rw [← hr] at hr2
  unfold kindOkV at hk
  have fin : ∀ q : (1 ≤ o.2.1 ∧ o.2.1 ≤ 4) ∧ In64 o.2.2.1, In64 o.1 ∧ (1 ≤ o.2.1 ∧ o.2.1 ≤ 4) ∧ In64 o.2.2.1 ∧ In64 o.2.2.2.2.1 := fun q => ⟨by omega, q.1, q.2, hr2⟩
  refine fin ?_
  split at hk
  · rename_i e
    simp only [Bool.and_eq_true, beq_iff_eq] at hk
    omega
  · split at hk
    · rename_i e
      cases hx : idxBy fileKey files o.2.2.1 with
      | none => rw [hx] at hk; cases hk
      | some i =>
        obtain ⟨x, hx, e2⟩ := idx_key hx
        have := hf x hx
        unfold file1V inV at this
        simp only [Bool.and_eq_true, decide_eq_true_eq] at this
        have e2 : x.1 = o.2.2.1 := e2
        omega
    · split at hk
      · rename_i e
        simp only [Bool.and_eq_true, decide_eq_true_eq] at hk
        have h1 := hk.1
        unfold pipeAtV placeBy at h1
        cases hx : idxBy pipeKey pipes o.2.2.1 with
        | none => rw [hx] at h1; exact absurd h1 (by decide)
        | some i =>
          obtain ⟨x, hx, e2⟩ := idx_key hx
          have := hpi x hx
          unfold pipe1V inV at this
          simp only [Bool.and_eq_true, decide_eq_true_eq] at this
          have e2 : x.1 = o.2.2.1 := e2
          omega
      · cases hk
abbrev lsNames : List Str := [([] : List UInt8), ([99, 111, 110] : List UInt8), ([102, 105, 108, 101] : List UInt8), ([105, 110] : List UInt8), ([111, 117, 116] : List UInt8)]
def lsLine (o : OpenD) : Str := Lib.itoa o.1 ++ ([32] ++ (lsNames.getD o.2.1.toNat [] ++ ([32] ++ (Lib.itoa o.2.2.1 ++ ([32] ++ (Lib.itoa o.2.2.2.2.1 ++ [10]))))))
theorem name_len {l : List Str} {m : Nat} (h : ∀ x ∈ l, x.length ≤ m) (i : Nat) : (l.getD i []).length ≤ m := by
  rw [List.getD_eq_getElem?_getD]
  cases e : l[i]? with
  | none => exact Nat.zero_le _
  | some x => exact h x (List.mem_of_getElem? e)
theorem nth_name {l : List Str} {x : Int} (h : 0 ≤ x ∧ x < ((l.length : Nat) : Int)) : nth l (Int.toNat x) = some (l.getD x.toNat []) := by
  have hi : x.toNat < l.length := by omega
  show l[x.toNat]? = _
  rw [List.getD_eq_getElem?_getD, List.getElem?_eq_getElem hi]
  rfl
theorem lsLine_len {o : OpenD} (h : In64 o.1 ∧ (1 ≤ o.2.1 ∧ o.2.1 ≤ 4) ∧ In64 o.2.2.1 ∧ In64 o.2.2.2.2.1) : (lsLine o).length ≤ 80 := by
  have h1 := Lib.itoa_length_le o.1 h.1.1 h.1.2
  have h2 := Lib.itoa_length_le o.2.2.1 h.2.2.1.1 h.2.2.1.2
  have h3 := Lib.itoa_length_le o.2.2.2.2.1 h.2.2.2.1 h.2.2.2.2
  have h4 := name_len (l := lsNames) (m := 6) (by decide) o.2.1.toNat
  unfold lsLine
  simp only [List.length_append, List.length_cons, List.length_nil]
  omega
def lsofV (next tick : Int) (progs : List (List InsD)) (ps : List ProcD) (os : List OpenD) (pipes : List PipeD) (files : List FileD) (rd out : List Int) : Str :=
  if unixOkV next tick progs ps os pipes files rd out = true then os.flatMap lsLine else []
def lsofP (next tick : Int) (progs : List (List InsD)) (ps : List ProcD) (os : List OpenD) (pipes : List PipeD) (files : List FileD) (rd out : List Int) : Option Str :=
  if rd.length ≤ LIM then some (lsofV next tick progs ps os pipes files rd out) else none
abbrev f6_S0 := (List UInt8 × Int × Unit) × (UnixD × List (List UInt8) × Unit)
def f6_L0 : f6_S0 → Out (Round f6_S0 ((List UInt8 × Unit) × (Unit)) Empty)
| ((p0, p1, _), (p2, p3, p4, p5, p6, p7, p8, p9, p10, _), p11, _) =>
 .ite (decide (p1 < ((List.length p6 : Nat) : Int)))
 (.ite (decide (0 ≤ p1))
 (.get (nth p6 (Int.toNat p1)) fun y1 =>
 .get (itoaP y1.1) fun y2 =>
 .ite (decide (List.length p0 + List.length y2 ≤ LIM))
 (.ite (decide (List.length (p0 ++ y2) + List.length ([32] : List UInt8) ≤ LIM))
 (.ite (decide (0 ≤ y1.2.1 ∧ y1.2.1 < ((List.length p11 : Nat) : Int)))
 (.get (nth p11 (Int.toNat y1.2.1)) fun y3 =>
 .ite (decide (List.length ((p0 ++ y2) ++ ([32] : List UInt8)) + List.length y3 ≤ LIM))
 (.ite (decide (List.length (((p0 ++ y2) ++ ([32] : List UInt8)) ++ y3) + List.length ([32] : List UInt8) ≤ LIM))
 (.get (itoaP y1.2.2.1) fun y4 =>
 .ite (decide (List.length ((((p0 ++ y2) ++ ([32] : List UInt8)) ++ y3) ++ ([32] : List UInt8)) + List.length y4 ≤ LIM))
 (.ite (decide (List.length (((((p0 ++ y2) ++ ([32] : List UInt8)) ++ y3) ++ ([32] : List UInt8)) ++ y4) + List.length ([32] : List UInt8) ≤ LIM))
 (.get (itoaP y1.2.2.2.2.1) fun y5 =>
 .ite (decide (List.length ((((((p0 ++ y2) ++ ([32] : List UInt8)) ++ y3) ++ ([32] : List UInt8)) ++ y4) ++ ([32] : List UInt8)) + List.length y5 ≤ LIM))
 (.ite (decide (List.length (((((((p0 ++ y2) ++ ([32] : List UInt8)) ++ y3) ++ ([32] : List UInt8)) ++ y4) ++ ([32] : List UInt8)) ++ y5) + List.length ([10] : List UInt8) ≤ LIM))
 (.ret (.again ((((((((((p0 ++ y2) ++ ([32] : List UInt8)) ++ y3) ++ ([32] : List UInt8)) ++ y4) ++ ([32] : List UInt8)) ++ y5) ++ ([10] : List UInt8)), (IntKind.i64.wrap (p1 + (1 : Int))), ()), ((p2, p3, p4, p5, p6, p7, p8, p9, p10, ()), p11, ()))))
 .fail)
 .fail)
 .fail)
 .fail)
 .fail)
 .fail)
 .fail)
 .fail)
 .fail)
 .fail)
 (.ret (.out ((p0, ()), ())))
def f6_tree (a0 : Int) (a1 : Int) (a2 : List (List InsD)) (a3 : List ProcD) (a4 : List OpenD) (a5 : List CpuD) (a6 : List CpuD) (a7 : List Int) (a8 : List Int) : Out (((List UInt8 × Unit) × Unit) × (Unit × Unit)) :=
 .ite (!(unixOkV a0 a1 a2 a3 a4 a5 a6 a7 a8))
 (.ret (((([] : List UInt8), ()), ()), ((), ())))
 (.get (iter1 f6_L0 FUEL ((([] : List UInt8), (0 : Int), ()), ((a0, a1, a2, a3, a4, a5, a6, a7, a8, ()), ([([] : List UInt8), ([99, 111, 110] : List UInt8), ([102, 105, 108, 101] : List UInt8), ([105, 110] : List UInt8), ([111, 117, 116] : List UInt8)] : List (List UInt8)), ()))) fun y1 =>
 .ret (((y1.1.1, ()), ()), ((), ())))
def f6_A : Nat → Option LoopAnn := fun n => annOf [(0, { head := { t := [.dead, .vptr 64000000 0, .dead, .srf 64000001, .s, .i .i64] ++ dd 41, v := [(64000000, .var [.i .i64, .i .i64, .ro (.sl tyN) (some 0), .ro tyP (some 1), .ro tyO (some 2), .ro tyF (some 3), .ro tyF (some 4), .ro (.int .i64) (some 5), .ro (.int .i64) (some 6)]), (64000001, .arr .str)] }, out := { t := dd 4 ++ [.s] ++ dd 42, v := [] }, ret := none })] n
def k6 : Con := { f := 6, lend := true, its := [⟨false, true, [.i .i64, .i .i64, .ro (.sl tyN), .ro tyP, .ro tyO, .ro tyF, .ro tyF, .ro (.int .i64), .ro (.int .i64)]⟩], lay := [none], rs := [⟨false, false, [.s]⟩], F := fun x => .get (lsofP x.1.1 x.1.2.1 x.1.2.2.1 x.1.2.2.2.1 x.1.2.2.2.2.1 x.1.2.2.2.2.2.1 x.1.2.2.2.2.2.2.1 x.1.2.2.2.2.2.2.2.1 x.1.2.2.2.2.2.2.2.2.1) fun y => .ret (((y, ()), ()), ((), ())) }
theorem f6_eq (x : itemsD k6.its) : bo [k18, k19] f6_A Tryz.f6 k6 [.tmp 2] x = f6_tree x.1.1 x.1.2.1 x.1.2.2.1 x.1.2.2.2.1 x.1.2.2.2.2.1 x.1.2.2.2.2.2.1 x.1.2.2.2.2.2.2.1 x.1.2.2.2.2.2.2.2.1 x.1.2.2.2.2.2.2.2.2.1 := by kernel_rfl
theorem f6_okp (hr : ∀ x : UnixD × Unit, itemsWF k6.its x → ∀ y, (k6.F x).eval = some y → (f6_tree x.1.1 x.1.2.1 x.1.2.2.1 x.1.2.2.2.1 x.1.2.2.2.2.1 x.1.2.2.2.2.2.1 x.1.2.2.2.2.2.2.1 x.1.2.2.2.2.2.2.2.1 x.1.2.2.2.2.2.2.2.2.1).eval = some y) : k6.Ok Tryz.prog := con_fn [k18, k19] ⟨k18_ok, k19_ok, trivial⟩ f6_eq hr
theorem k6_ok : k6.Ok Tryz.prog := by
  refine f6_okp fun x hw y hy => ?_
  obtain ⟨⟨a0, a1, a2, a3, a4, a5, a6, a7, a8, _⟩, _⟩ := x
  have l2 : List.length a2 ≤ BIG := hw.1.1.1
  have l3 : List.length a3 ≤ BIG := hw.1.2.1.1
  have l4 : List.length a4 ≤ BIG := hw.1.2.2.1.1
  have l5 : List.length a5 ≤ BIG := hw.1.2.2.2.1.1
  have l6 : List.length a6 ≤ BIG := hw.1.2.2.2.2.1.1
  have l7 : List.length a7 ≤ BIG := hw.1.2.2.2.2.2.1.1
  have l8 : List.length a8 ≤ BIG := hw.1.2.2.2.2.2.2.1.1
  change (Out.get (lsofP a0 a1 a2 a3 a4 a5 a6 a7 a8) fun y => Out.ret (((y, ()), ()), ((), ()))).eval = some y at hy
  show (f6_tree a0 a1 a2 a3 a4 a5 a6 a7 a8).eval = some y
  unfold lsofP at hy
  by_cases hl : List.length a7 ≤ LIM
  case neg => rw [if_neg hl] at hy; exact nomatch hy
  rw [if_pos hl] at hy
  refine Eq.trans ?_ hy
  unfold f6_tree lsofV
  by_cases hu : unixOkV a0 a1 a2 a3 a4 a5 a6 a7 a8 = true
  case neg => rw [if_neg hu, eval_ite_t (by simp [hu])]; rfl
  rw [if_pos hu, eval_ite_f (by simp [hu])]
  have hk := opens_in hu
  have hp := (unix_parts hu).2.2.2.1
  have hb := flatMap_len lsLine 80 a4 fun x hx => lsLine_len (hk x hx)
  have h1 : iter1 f6_L0 FUEL ((([] : List UInt8), (0 : Int), ()), ((a0, a1, a2, a3, a4, a5, a6, a7, a8, ()), ([([] : List UInt8), ([99, 111, 110] : List UInt8), ([102, 105, 108, 101] : List UInt8), ([105, 110] : List UInt8), ([111, 117, 116] : List UInt8)] : List (List UInt8)), ())) = some (((([] : List UInt8) ++ List.flatMap lsLine a4), ()), ()) := flat_loop (f := f6_L0) lsLine a4 (fun d i => ((d, ((i : Nat) : Int), ()), ((a0, a1, a2, a3, a4, a5, a6, a7, a8, ()), ([([] : List UInt8), ([99, 111, 110] : List UInt8), ([102, 105, 108, 101] : List UInt8), ([105, 110] : List UInt8), ([111, 117, 116] : List UInt8)] : List (List UInt8)), ()))) (fun d => ((d, ()), ())) 1000000
      (fun i hi d hd => by
        have h1 := wrap_succ (i := i) (by omega)
        have e8 := hk _ (List.getElem_mem hi)
        have e1 : itoaP a4[i].1 = some (Lib.itoa a4[i].1) := if_pos e8.1
        have e2 : itoaP a4[i].2.2.1 = some (Lib.itoa a4[i].2.2.1) := if_pos e8.2.2.1
        have e9 : 0 ≤ a4[i].2.1 ∧ a4[i].2.1 < ((List.length lsNames : Nat) : Int) := by (have := e8.2.1; simp only [List.length_cons, List.length_nil]; omega)
        have e3 := decide_eq_true e9
        have e4 := nth_name e9
        have e5 : itoaP a4[i].2.2.2.2.1 = some (Lib.itoa a4[i].2.2.2.2.1) := if_pos e8.2.2.2
        unfold lsLine at hd
        all_goals (try simp only [List.length_append, List.length_cons, List.length_nil] at hd)
        all_goals (simp only [f6_L0, Out.eval, lt_t hi, ge0, nth_get hi, Option.bind_some, cond_true, cond_false, h1, e1, e2, e3, e4, e5])
        all_goals (repeat rw [cond_lim (by (try simp only [List.length_append, List.length_cons, List.length_nil]); omega)])
        all_goals (try simp only [List.append_assoc])
        all_goals (try rfl))
      (fun d => by simp [f6_L0, Out.eval]) l4 ([] : List UInt8) (by (try simp only [List.length_append, List.length_cons, List.length_nil]); omega)
  refine (eval_get_some h1).trans ?_
  rfl
abbrev f8_S0 := (List UInt8 × List OpenD × Int × Int × Unit) × (List (List UInt8) × Unit)
def f8_L0 : f8_S0 → Out (Round f8_S0 ((List UInt8 × Unit) × (Unit)) Empty)
| ((p0, p1, p2, p3, _), p4, _) =>
 .ite (decide (p3 < p2))
 (.ite (decide (0 ≤ p3))
 (.get (nth p1 (Int.toNat p3)) fun y1 =>
 .get (itoaP y1.1) fun y2 =>
 .ite (decide (List.length y2 + List.length ([32] : List UInt8) ≤ LIM))
 (.ite (decide (0 ≤ y1.2.1 ∧ y1.2.1 < ((List.length p4 : Nat) : Int)))
 (.get (nth p4 (Int.toNat y1.2.1)) fun y3 =>
 .ite (decide (List.length (y2 ++ ([32] : List UInt8)) + List.length y3 ≤ LIM))
 (.ite (decide (List.length ((y2 ++ ([32] : List UInt8)) ++ y3) + List.length ([32] : List UInt8) ≤ LIM))
 (.get (itoaP y1.2.2.1) fun y4 =>
 .ite (decide (List.length (((y2 ++ ([32] : List UInt8)) ++ y3) ++ ([32] : List UInt8)) + List.length y4 ≤ LIM))
 (.ite (decide (List.length ((((y2 ++ ([32] : List UInt8)) ++ y3) ++ ([32] : List UInt8)) ++ y4) + List.length ([32] : List UInt8) ≤ LIM))
 (.get (itoaP y1.2.2.2.2.1) fun y5 =>
 .ite (decide (List.length (((((y2 ++ ([32] : List UInt8)) ++ y3) ++ ([32] : List UInt8)) ++ y4) ++ ([32] : List UInt8)) + List.length y5 ≤ LIM))
 (.ite (decide (List.length ((((((y2 ++ ([32] : List UInt8)) ++ y3) ++ ([32] : List UInt8)) ++ y4) ++ ([32] : List UInt8)) ++ y5) + List.length ([10] : List UInt8) ≤ LIM))
 (.ite (decide (List.length p0 + List.length (((((((y2 ++ ([32] : List UInt8)) ++ y3) ++ ([32] : List UInt8)) ++ y4) ++ ([32] : List UInt8)) ++ y5) ++ ([10] : List UInt8)) ≤ LIM))
 (.ret (.again (((p0 ++ (((((((y2 ++ ([32] : List UInt8)) ++ y3) ++ ([32] : List UInt8)) ++ y4) ++ ([32] : List UInt8)) ++ y5) ++ ([10] : List UInt8))), p1, p2, (IntKind.i64.wrap (p3 + (1 : Int))), ()), (p4, ()))))
 .fail)
 .fail)
 .fail)
 .fail)
 .fail)
 .fail)
 .fail)
 .fail)
 .fail)
 .fail)
 (.ret (.out ((p0, ()), ())))
def f8_tree (a0 : Int) (a1 : Int) (a2 : List (List InsD)) (a3 : List ProcD) (a4 : List OpenD) (a5 : List CpuD) (a6 : List CpuD) (a7 : List Int) (a8 : List Int) : Out (((List UInt8 × Unit) × Unit) × (Unit × Unit)) :=
 .get (unixOkP a0 a1 a2 a3 a4 a5 a6 a7 a8) fun y1 =>
 .ite (!y1)
 (.ret (((([] : List UInt8), ()), ()), ((), ())))
 (.get (iter1 f8_L0 FUEL ((([] : List UInt8), a4, ((List.length a4 : Nat) : Int), (0 : Int), ()), (([([] : List UInt8), ([99, 111, 110] : List UInt8), ([102, 105, 108, 101] : List UInt8), ([105, 110] : List UInt8), ([111, 117, 116] : List UInt8)] : List (List UInt8)), ()))) fun y2 =>
 .ret (((y2.1.1, ()), ()), ((), ())))
def f8_A : Nat → Option LoopAnn := fun n => annOf [(0, { head := { t := [.dead, .dead, .dead, .srf 64000000, .s] ++ dd 7 ++ [.ro tyO (some 2), .i .i64, .i .i64] ++ dd 28, v := [(64000000, .arr .str)] }, out := { t := dd 4 ++ [.s] ++ dd 38, v := [] }, ret := none })] n
def k8 : Con := { f := 8, lend := true, its := [⟨false, true, [.i .i64, .i .i64, .ro (.sl tyN), .ro tyP, .ro tyO, .ro tyF, .ro tyF, .ro (.int .i64), .ro (.int .i64)]⟩], lay := [none], rs := [⟨false, false, [.s]⟩], F := fun x => .get (lsofP x.1.1 x.1.2.1 x.1.2.2.1 x.1.2.2.2.1 x.1.2.2.2.2.1 x.1.2.2.2.2.2.1 x.1.2.2.2.2.2.2.1 x.1.2.2.2.2.2.2.2.1 x.1.2.2.2.2.2.2.2.2.1) fun y => .ret (((y, ()), ()), ((), ())) }
theorem f8_eq (x : itemsD k8.its) : bo [k26, k27] f8_A Tryz.f8 k8 [.tmp 2] x = f8_tree x.1.1 x.1.2.1 x.1.2.2.1 x.1.2.2.2.1 x.1.2.2.2.2.1 x.1.2.2.2.2.2.1 x.1.2.2.2.2.2.2.1 x.1.2.2.2.2.2.2.2.1 x.1.2.2.2.2.2.2.2.2.1 := by kernel_rfl
theorem f8_okp (hr : ∀ x : UnixD × Unit, itemsWF k8.its x → ∀ y, (k8.F x).eval = some y → (f8_tree x.1.1 x.1.2.1 x.1.2.2.1 x.1.2.2.2.1 x.1.2.2.2.2.1 x.1.2.2.2.2.2.1 x.1.2.2.2.2.2.2.1 x.1.2.2.2.2.2.2.2.1 x.1.2.2.2.2.2.2.2.2.1).eval = some y) : k8.Ok Tryz.prog := con_fn [k26, k27] ⟨k26_ok, k27_ok, trivial⟩ f8_eq hr
theorem k8_ok : k8.Ok Tryz.prog := by
  refine f8_okp fun x hw y hy => ?_
  obtain ⟨⟨a0, a1, a2, a3, a4, a5, a6, a7, a8, _⟩, _⟩ := x
  have l2 : List.length a2 ≤ BIG := hw.1.1.1
  have l3 : List.length a3 ≤ BIG := hw.1.2.1.1
  have l4 : List.length a4 ≤ BIG := hw.1.2.2.1.1
  have l5 : List.length a5 ≤ BIG := hw.1.2.2.2.1.1
  have l6 : List.length a6 ≤ BIG := hw.1.2.2.2.2.1.1
  have l7 : List.length a7 ≤ BIG := hw.1.2.2.2.2.2.1.1
  have l8 : List.length a8 ≤ BIG := hw.1.2.2.2.2.2.2.1.1
  change (Out.get (lsofP a0 a1 a2 a3 a4 a5 a6 a7 a8) fun y => Out.ret (((y, ()), ()), ((), ()))).eval = some y at hy
  show (f8_tree a0 a1 a2 a3 a4 a5 a6 a7 a8).eval = some y
  unfold lsofP at hy
  by_cases hl : List.length a7 ≤ LIM
  case neg => rw [if_neg hl] at hy; exact nomatch hy
  rw [if_pos hl] at hy
  refine Eq.trans ?_ hy
  unfold f8_tree lsofV
  have e0 : unixOkP a0 a1 a2 a3 a4 a5 a6 a7 a8 = some (unixOkV a0 a1 a2 a3 a4 a5 a6 a7 a8) := by
    unfold unixOkP
    rw [if_pos hl, unix_same]
  refine (eval_get_some e0).trans ?_
  by_cases hu : unixOkV a0 a1 a2 a3 a4 a5 a6 a7 a8 = true
  case neg => rw [if_neg hu, eval_ite_t (by simp [hu])]; rfl
  rw [if_pos hu, eval_ite_f (by simp [hu])]
  have hk := opens_in hu
  have hp := (unix_parts hu).2.2.2.1
  have hb := flatMap_len lsLine 80 a4 fun x hx => lsLine_len (hk x hx)
  have h1 : iter1 f8_L0 FUEL ((([] : List UInt8), a4, ((List.length a4 : Nat) : Int), (0 : Int), ()), (([([] : List UInt8), ([99, 111, 110] : List UInt8), ([102, 105, 108, 101] : List UInt8), ([105, 110] : List UInt8), ([111, 117, 116] : List UInt8)] : List (List UInt8)), ())) = some (((([] : List UInt8) ++ List.flatMap lsLine a4), ()), ()) := flat_loop (f := f8_L0) lsLine a4 (fun d i => ((d, a4, ((List.length a4 : Nat) : Int), ((i : Nat) : Int), ()), (([([] : List UInt8), ([99, 111, 110] : List UInt8), ([102, 105, 108, 101] : List UInt8), ([105, 110] : List UInt8), ([111, 117, 116] : List UInt8)] : List (List UInt8)), ()))) (fun d => ((d, ()), ())) 1000000
      (fun i hi d hd => by
        have h1 := wrap_succ (i := i) (by omega)
        have e8 := hk _ (List.getElem_mem hi)
        have e1 : itoaP a4[i].1 = some (Lib.itoa a4[i].1) := if_pos e8.1
        have e2 : itoaP a4[i].2.2.1 = some (Lib.itoa a4[i].2.2.1) := if_pos e8.2.2.1
        have e9 : 0 ≤ a4[i].2.1 ∧ a4[i].2.1 < ((List.length lsNames : Nat) : Int) := by (have := e8.2.1; simp only [List.length_cons, List.length_nil]; omega)
        have e3 := decide_eq_true e9
        have e4 := nth_name e9
        have e5 : itoaP a4[i].2.2.2.2.1 = some (Lib.itoa a4[i].2.2.2.2.1) := if_pos e8.2.2.2
        unfold lsLine at hd
        all_goals (try simp only [List.length_append, List.length_cons, List.length_nil] at hd)
        all_goals (simp only [f8_L0, Out.eval, lt_t hi, ge0, nth_get hi, Option.bind_some, cond_true, cond_false, h1, e1, e2, e3, e4, e5])
        all_goals (repeat rw [cond_lim (by (try simp only [List.length_append, List.length_cons, List.length_nil]); omega)])
        all_goals (try simp only [List.append_assoc])
        all_goals (try rfl))
      (fun d => by simp [f8_L0, Out.eval]) l4 ([] : List UInt8) (by (try simp only [List.length_append, List.length_cons, List.length_nil]); omega)
  refine (eval_get_some h1).trans ?_
  rfl
end Go.Proofs.YtcpjdjgipmjhdaaGreatDoor.Dm
