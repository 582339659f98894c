/- Functions of the program, and what they compute. -/
import Derived.Test.YtcpjdjgipmjhdaaGreatDoorQ80
namespace Go.Proofs.YtcpjdjgipmjhdaaGreatDoor.Dm
open Go Go.ChangeShapes Go.WideShapes Go.ChangeAt Go.RowKit
theorem idx_key {α : Type} {key : α → Int} {a : List α} {v : Int} {i : Nat} (h : idxBy key a v = some i) : ∃ x ∈ a, key x = v := by
  unfold idxBy at h
  obtain ⟨hi, h1, _⟩ := List.findIdx?_eq_some_iff_getElem.1 h
  exact ⟨_, List.getElem_mem hi, by simpa using h1⟩
theorem procs_in {next tick : Int} {progs : List (List InsD)} {ps : List ProcD} {os : List OpenD} {pipes : List PipeD} {files : List FileD} {rd out : List Int} (h : unixOkV next tick progs ps os pipes files rd out = true) :
    ∀ p ∈ ps, In64 p.1 ∧ In64 p.2.1 ∧ (1 ≤ p.2.2.1 ∧ p.2.2.1 ≤ 6) ∧ p.2.2.2.2.2.1.length ≤ 12 := by
  unfold unixOkV at h
  simp only [Bool.and_eq_true] at h
  have hn := h.1.1.1.1.1.1.1.1.1
  have ha := List.all_eq_true.1 (rows_all h.1.1.2)
  unfold inV at hn
  simp only [Bool.and_eq_true, decide_eq_true_eq] at hn
  have w : IntKind.i64.wrap (next - 1) = next - 1 := wrap_id (by omega) (by omega)
  have key : ∀ p ∈ ps, 1 ≤ p.1 ∧ p.1 ≤ 100000 := fun p hp => by
    have := ha p hp
    unfold procInV inV at this
    rw [w] at this
    simp only [Bool.and_eq_true, decide_eq_true_eq] at this
    omega
  intro p hp
  have h1 := key p hp
  have := ha p hp
  unfold procInV proc1V procOkV at this
  simp only [Bool.and_eq_true] at this
  have hs := this.2.1.1.1.1.1.1.1.1.1.1.1
  have hm := this.2.1.1.1.1.1.1.1.1.2
  have hp2 := this.2.1.1.2
  unfold inV at hs
  simp only [Bool.and_eq_true, decide_eq_true_eq] at hs hm
  refine ⟨by omega, ?_, hs, hm⟩
  unfold parentOkV at hp2
  rcases Bool.or_eq_true _ _ ▸ hp2 with hp2 | hp2
  · have : p.2.1 = 0 := by simpa using hp2
    omega
  · simp only [Bool.and_eq_true] at hp2
    have h3 := hp2.2
    cases hi : idxBy procKey ps p.2.1 with
    | none => rw [hi] at h3; cases h3
    | some i =>
      obtain ⟨x, hx, e⟩ := idx_key hi
      have := key x hx
      have e : x.1 = p.2.1 := e
      omega
abbrev psNames : List Str := [([] : List UInt8), ([114, 101, 97, 100, 121] : List UInt8), ([115, 108, 101, 101, 112] : List UInt8), ([119, 97, 105, 116] : List UInt8), ([114, 101, 97, 100] : List UInt8), ([119, 114, 105, 116, 101] : List UInt8), ([122, 111, 109, 98, 105, 101] : List UInt8)]
abbrev lsNames : List Str := [([] : List UInt8), ([99, 111, 110] : List UInt8), ([102, 105, 108, 101] : List UInt8), ([105, 110] : List UInt8), ([111, 117, 116] : List UInt8)]
def psLine (p : ProcD) : Str := Lib.itoa p.1 ++ ([32] ++ (Lib.itoa p.2.1 ++ ([32] ++ (psNames.getD p.2.2.1.toNat [] ++ ([32] ++ (Lib.itoa ((p.2.2.2.2.2.1.length / 4 : Nat) : Int) ++ [10]))))))
def lsLine (o : OpenD) : Str := Lib.itoa o.1 ++ ([32] ++ (lsNames.getD o.2.1.toNat [] ++ ([32] ++ (Lib.itoa o.2.2.1 ++ ([32] ++ (Lib.itoa o.2.2.2.2.1 ++ [10]))))))
theorem name_len {l : List Str} {m : Nat} (h : ∀ x ∈ l, x.length ≤ m) (i : Nat) : (l.getD i []).length ≤ m := by
  rw [List.getD_eq_getElem?_getD]
  cases e : l[i]? with
  | none => exact Nat.zero_le _
  | some x => exact h x (List.mem_of_getElem? e)
theorem nth_name {l : List Str} {x : Int} (h : 0 ≤ x ∧ x < ((l.length : Nat) : Int)) : nth l (Int.toNat x) = some (l.getD x.toNat []) := by
  have hi : x.toNat < l.length := by omega
  show l[x.toNat]? = _
  rw [List.getD_eq_getElem?_getD, List.getElem?_eq_getElem hi]
  rfl
theorem psLine_len {p : ProcD} (h : In64 p.1 ∧ In64 p.2.1 ∧ (1 ≤ p.2.2.1 ∧ p.2.2.1 ≤ 6) ∧ p.2.2.2.2.2.1.length ≤ 12) : (psLine p).length ≤ 80 := by
  have h1 := Lib.itoa_length_le p.1 h.1.1 h.1.2
  have h2 := Lib.itoa_length_le p.2.1 h.2.1.1 h.2.1.2
  have h3 := Lib.itoa_length_le ((p.2.2.2.2.2.1.length / 4 : Nat) : Int) (by omega) (by omega)
  have h4 := name_len (l := psNames) (m := 6) (by decide) p.2.2.1.toNat
  unfold psLine
  simp only [List.length_append, List.length_cons, List.length_nil]
  omega
def psV (next tick : Int) (progs : List (List InsD)) (ps : List ProcD) (os : List OpenD) (pipes : List PipeD) (files : List FileD) (rd out : List Int) : Str :=
  if unixOkV next tick progs ps os pipes files rd out = true then ps.flatMap psLine else []
def psP (next tick : Int) (progs : List (List InsD)) (ps : List ProcD) (os : List OpenD) (pipes : List PipeD) (files : List FileD) (rd out : List Int) : Option Str :=
  if rd.length ≤ LIM then some (psV next tick progs ps os pipes files rd out) else none
def lsofV (next tick : Int) (progs : List (List InsD)) (ps : List ProcD) (os : List OpenD) (pipes : List PipeD) (files : List FileD) (rd out : List Int) : Str :=
  if unixOkV next tick progs ps os pipes files rd out = true then os.flatMap lsLine else []
def lsofP (next tick : Int) (progs : List (List InsD)) (ps : List ProcD) (os : List OpenD) (pipes : List PipeD) (files : List FileD) (rd out : List Int) : Option Str :=
  if rd.length ≤ LIM then some (lsofV next tick progs ps os pipes files rd out) else none
theorem quarter {n : Nat} (h : n ≤ 12) : IntKind.i64.wrap (Int.tdiv ((n : Nat) : Int) (4 : Int)) = ((n / 4 : Nat) : Int) := by
  rw [show Int.tdiv ((n : Nat) : Int) 4 = ((n / 4 : Nat) : Int) from rfl]
  exact wrap_id (by omega) (by omega)
abbrev f10_S0 := (List UInt8 × Int × Unit) × (UnixD × List (List UInt8) × Unit)
def f10_L0 : f10_S0 → Out (Round f10_S0 ((List UInt8 × Unit) × (Unit)) Empty)
| ((p0, p1, _), (p2, p3, p4, p5, p6, p7, p8, p9, p10, _), p11, _) =>
 .ite (decide (p1 < ((List.length p5 : Nat) : Int)))
 (.ite (decide (0 ≤ p1))
 (.get (nth p5 (Int.toNat p1)) fun y1 =>
 .get (itoaP y1.1) fun y2 =>
 .ite (decide (List.length p0 + List.length y2 ≤ LIM))
 (.ite (decide (List.length (p0 ++ y2) + List.length ([32] : List UInt8) ≤ LIM))
 (.get (itoaP y1.2.1) fun y3 =>
 .ite (decide (List.length ((p0 ++ y2) ++ ([32] : List UInt8)) + List.length y3 ≤ LIM))
 (.ite (decide (List.length (((p0 ++ y2) ++ ([32] : List UInt8)) ++ y3) + List.length ([32] : List UInt8) ≤ LIM))
 (.ite (decide (0 ≤ y1.2.2.1 ∧ y1.2.2.1 < ((List.length p11 : Nat) : Int)))
 (.get (nth p11 (Int.toNat y1.2.2.1)) fun y4 =>
 .ite (decide (List.length ((((p0 ++ y2) ++ ([32] : List UInt8)) ++ y3) ++ ([32] : List UInt8)) + List.length y4 ≤ LIM))
 (.ite (decide (List.length (((((p0 ++ y2) ++ ([32] : List UInt8)) ++ y3) ++ ([32] : List UInt8)) ++ y4) + List.length ([32] : List UInt8) ≤ LIM))
 (.ite ((4 : Int) == 0)
 .fail
 (.get (itoaP (IntKind.i64.wrap (Int.tdiv ((List.length y1.2.2.2.2.2.1 : Nat) : Int) (4 : Int)))) fun y5 =>
 .ite (decide (List.length ((((((p0 ++ y2) ++ ([32] : List UInt8)) ++ y3) ++ ([32] : List UInt8)) ++ y4) ++ ([32] : List UInt8)) + List.length y5 ≤ LIM))
 (.ite (decide (List.length (((((((p0 ++ y2) ++ ([32] : List UInt8)) ++ y3) ++ ([32] : List UInt8)) ++ y4) ++ ([32] : List UInt8)) ++ y5) + List.length ([10] : List UInt8) ≤ LIM))
 (.ret (.again ((((((((((p0 ++ y2) ++ ([32] : List UInt8)) ++ y3) ++ ([32] : List UInt8)) ++ y4) ++ ([32] : List UInt8)) ++ y5) ++ ([10] : List UInt8)), (IntKind.i64.wrap (p1 + (1 : Int))), ()), ((p2, p3, p4, p5, p6, p7, p8, p9, p10, ()), p11, ()))))
 .fail)
 .fail))
 .fail)
 .fail)
 .fail)
 .fail)
 .fail)
 .fail)
 .fail)
 .fail)
 (.ret (.out ((p0, ()), ())))
def f10_tree (a0 : Int) (a1 : Int) (a2 : List (List InsD)) (a3 : List ProcD) (a4 : List OpenD) (a5 : List CpuD) (a6 : List CpuD) (a7 : List Int) (a8 : List Int) : Out (((List UInt8 × Unit) × Unit) × (Unit × Unit)) :=
 .ite (!(unixOkV a0 a1 a2 a3 a4 a5 a6 a7 a8))
 (.ret (((([] : List UInt8), ()), ()), ((), ())))
 (.get (iter1 f10_L0 FUEL ((([] : List UInt8), (0 : Int), ()), ((a0, a1, a2, a3, a4, a5, a6, a7, a8, ()), ([([] : List UInt8), ([114, 101, 97, 100, 121] : List UInt8), ([115, 108, 101, 101, 112] : List UInt8), ([119, 97, 105, 116] : List UInt8), ([114, 101, 97, 100] : List UInt8), ([119, 114, 105, 116, 101] : List UInt8), ([122, 111, 109, 98, 105, 101] : List UInt8)] : List (List UInt8)), ()))) fun y1 =>
 .ret (((y1.1.1, ()), ()), ((), ())))
def f10_A : Nat → Option LoopAnn := fun n => annOf [(0, { head := { t := [.dead, .vptr 64000000 0, .dead, .srf 64000001, .s, .i .i64] ++ dd 43, v := [(64000000, .var [.i .i64, .i .i64, .ro (.sl tyN) (some 0), .ro tyP (some 1), .ro tyO (some 2), .ro tyF (some 3), .ro tyF (some 4), .ro (.int .i64) (some 5), .ro (.int .i64) (some 6)]), (64000001, .arr .str)] }, out := { t := dd 4 ++ [.s] ++ dd 44, v := [] }, ret := none })] n
def k10 : Con := { f := 10, lend := true, its := [⟨false, true, [.i .i64, .i .i64, .ro (.sl tyN), .ro tyP, .ro tyO, .ro tyF, .ro tyF, .ro (.int .i64), .ro (.int .i64)]⟩], lay := [none], rs := [⟨false, false, [.s]⟩], F := fun x => .get (psP x.1.1 x.1.2.1 x.1.2.2.1 x.1.2.2.2.1 x.1.2.2.2.2.1 x.1.2.2.2.2.2.1 x.1.2.2.2.2.2.2.1 x.1.2.2.2.2.2.2.2.1 x.1.2.2.2.2.2.2.2.2.1) fun y => .ret (((y, ()), ()), ((), ())) }
theorem f10_eq (x : itemsD k10.its) : bo [k18, k19] f10_A Tryz.f10 k10 [.tmp 2] x = f10_tree x.1.1 x.1.2.1 x.1.2.2.1 x.1.2.2.2.1 x.1.2.2.2.2.1 x.1.2.2.2.2.2.1 x.1.2.2.2.2.2.2.1 x.1.2.2.2.2.2.2.2.1 x.1.2.2.2.2.2.2.2.2.1 := by kernel_rfl
theorem f10_okp (hr : ∀ x : UnixD × Unit, itemsWF k10.its x → ∀ y, (k10.F x).eval = some y → (f10_tree x.1.1 x.1.2.1 x.1.2.2.1 x.1.2.2.2.1 x.1.2.2.2.2.1 x.1.2.2.2.2.2.1 x.1.2.2.2.2.2.2.1 x.1.2.2.2.2.2.2.2.1 x.1.2.2.2.2.2.2.2.2.1).eval = some y) : k10.Ok Tryz.prog := con_fn [k18, k19] ⟨k18_ok, k19_ok, trivial⟩ f10_eq hr
theorem k10_ok : k10.Ok Tryz.prog := by
  refine f10_okp fun x hw y hy => ?_
  obtain ⟨⟨a0, a1, a2, a3, a4, a5, a6, a7, a8, _⟩, _⟩ := x
  have l2 : List.length a2 ≤ BIG := hw.1.1.1
  have l3 : List.length a3 ≤ BIG := hw.1.2.1.1
  have l4 : List.length a4 ≤ BIG := hw.1.2.2.1.1
  have l5 : List.length a5 ≤ BIG := hw.1.2.2.2.1.1
  have l6 : List.length a6 ≤ BIG := hw.1.2.2.2.2.1.1
  have l7 : List.length a7 ≤ BIG := hw.1.2.2.2.2.2.1.1
  have l8 : List.length a8 ≤ BIG := hw.1.2.2.2.2.2.2.1.1
  change (Out.get (psP a0 a1 a2 a3 a4 a5 a6 a7 a8) fun y => Out.ret (((y, ()), ()), ((), ()))).eval = some y at hy
  show (f10_tree a0 a1 a2 a3 a4 a5 a6 a7 a8).eval = some y
  unfold psP at hy
  by_cases hl : List.length a7 ≤ LIM
  case neg => rw [if_neg hl] at hy; exact nomatch hy
  rw [if_pos hl] at hy
  refine Eq.trans ?_ hy
  unfold f10_tree psV
  by_cases hu : unixOkV a0 a1 a2 a3 a4 a5 a6 a7 a8 = true
  case neg => rw [if_neg hu, eval_ite_t (by simp [hu])]; rfl
  rw [if_pos hu, eval_ite_f (by simp [hu])]
  have hk := procs_in hu
  have hp := (unix_parts hu).2.2.1
  have hb := flatMap_len psLine 80 a3 fun x hx => psLine_len (hk x hx)
  have h1 : iter1 f10_L0 FUEL ((([] : List UInt8), (0 : Int), ()), ((a0, a1, a2, a3, a4, a5, a6, a7, a8, ()), ([([] : List UInt8), ([114, 101, 97, 100, 121] : List UInt8), ([115, 108, 101, 101, 112] : List UInt8), ([119, 97, 105, 116] : List UInt8), ([114, 101, 97, 100] : List UInt8), ([119, 114, 105, 116, 101] : List UInt8), ([122, 111, 109, 98, 105, 101] : List UInt8)] : List (List UInt8)), ())) = some (((([] : List UInt8) ++ List.flatMap psLine a3), ()), ()) := flat_loop (f := f10_L0) psLine a3 (fun d i => ((d, ((i : Nat) : Int), ()), ((a0, a1, a2, a3, a4, a5, a6, a7, a8, ()), ([([] : List UInt8), ([114, 101, 97, 100, 121] : List UInt8), ([115, 108, 101, 101, 112] : List UInt8), ([119, 97, 105, 116] : List UInt8), ([114, 101, 97, 100] : List UInt8), ([119, 114, 105, 116, 101] : List UInt8), ([122, 111, 109, 98, 105, 101] : List UInt8)] : List (List UInt8)), ()))) (fun d => ((d, ()), ())) 1000000
      (fun i hi d hd => by
        have h1 := wrap_succ (i := i) (by omega)
        have e8 := hk _ (List.getElem_mem hi)
        have e1 : itoaP a3[i].1 = some (Lib.itoa a3[i].1) := if_pos e8.1
        have e2 : itoaP a3[i].2.1 = some (Lib.itoa a3[i].2.1) := if_pos e8.2.1
        have e9 : 0 ≤ a3[i].2.2.1 ∧ a3[i].2.2.1 < ((List.length psNames : Nat) : Int) := by (have := e8.2.2.1; simp only [List.length_cons, List.length_nil]; omega)
        have e3 := decide_eq_true e9
        have e4 := nth_name e9
        have e5 : itoaP ((a3[i].2.2.2.2.2.1.length / 4 : Nat) : Int) = some (Lib.itoa ((a3[i].2.2.2.2.2.1.length / 4 : Nat) : Int)) := if_pos (by have := e8.2.2.2; omega)
        have e6 : ((4 : Int) == 0) = false := rfl
        unfold psLine at hd
        all_goals (try simp only [List.length_append, List.length_cons, List.length_nil] at hd)
        all_goals (simp only [f10_L0, Out.eval, lt_t hi, ge0, nth_get hi, Option.bind_some, cond_true, cond_false, h1, e1, e2, e3, e4, e5, e6, quarter e8.2.2.2])
        all_goals (repeat rw [cond_lim (by (try simp only [List.length_append, List.length_cons, List.length_nil]); omega)])
        all_goals (try simp only [List.append_assoc])
        all_goals (try rfl))
      (fun d => by simp [f10_L0, Out.eval]) l3 ([] : List UInt8) (by (try simp only [List.length_append, List.length_cons, List.length_nil]); omega)
  refine (eval_get_some h1).trans ?_
  rfl
abbrev f11_S0 := (List UInt8 × List ProcD × Int × Int × Unit) × (List (List UInt8) × Unit)
def f11_L0 : f11_S0 → Out (Round f11_S0 ((List UInt8 × Unit) × (Unit)) Empty)
| ((p0, p1, p2, p3, _), p4, _) =>
 .ite (decide (p3 < p2))
 (.ite (decide (0 ≤ p3))
 (.get (nth p1 (Int.toNat p3)) fun y1 =>
 .get (itoaP y1.1) fun y2 =>
 .ite (decide (List.length y2 + List.length ([32] : List UInt8) ≤ LIM))
 (.get (itoaP y1.2.1) fun y3 =>
 .ite (decide (List.length (y2 ++ ([32] : List UInt8)) + List.length y3 ≤ LIM))
 (.ite (decide (List.length ((y2 ++ ([32] : List UInt8)) ++ y3) + List.length ([32] : List UInt8) ≤ LIM))
 (.ite (decide (0 ≤ y1.2.2.1 ∧ y1.2.2.1 < ((List.length p4 : Nat) : Int)))
 (.get (nth p4 (Int.toNat y1.2.2.1)) fun y4 =>
 .ite (decide (List.length (((y2 ++ ([32] : List UInt8)) ++ y3) ++ ([32] : List UInt8)) + List.length y4 ≤ LIM))
 (.ite (decide (List.length ((((y2 ++ ([32] : List UInt8)) ++ y3) ++ ([32] : List UInt8)) ++ y4) + List.length ([32] : List UInt8) ≤ LIM))
 (.ite ((4 : Int) == 0)
 .fail
 (.get (itoaP (IntKind.i64.wrap (Int.tdiv ((List.length y1.2.2.2.2.2.1 : Nat) : Int) (4 : Int)))) fun y5 =>
 .ite (decide (List.length (((((y2 ++ ([32] : List UInt8)) ++ y3) ++ ([32] : List UInt8)) ++ y4) ++ ([32] : List UInt8)) + List.length y5 ≤ LIM))
 (.ite (decide (List.length ((((((y2 ++ ([32] : List UInt8)) ++ y3) ++ ([32] : List UInt8)) ++ y4) ++ ([32] : List UInt8)) ++ y5) + List.length ([10] : List UInt8) ≤ LIM))
 (.ite (decide (List.length p0 + List.length (((((((y2 ++ ([32] : List UInt8)) ++ y3) ++ ([32] : List UInt8)) ++ y4) ++ ([32] : List UInt8)) ++ y5) ++ ([10] : List UInt8)) ≤ LIM))
 (.ret (.again (((p0 ++ (((((((y2 ++ ([32] : List UInt8)) ++ y3) ++ ([32] : List UInt8)) ++ y4) ++ ([32] : List UInt8)) ++ y5) ++ ([10] : List UInt8))), p1, p2, (IntKind.i64.wrap (p3 + (1 : Int))), ()), (p4, ()))))
 .fail)
 .fail)
 .fail))
 .fail)
 .fail)
 .fail)
 .fail)
 .fail)
 .fail)
 .fail)
 (.ret (.out ((p0, ()), ())))
def f11_tree (a0 : Int) (a1 : Int) (a2 : List (List InsD)) (a3 : List ProcD) (a4 : List OpenD) (a5 : List CpuD) (a6 : List CpuD) (a7 : List Int) (a8 : List Int) : Out (((List UInt8 × Unit) × Unit) × (Unit × Unit)) :=
 .get (unixOkP a0 a1 a2 a3 a4 a5 a6 a7 a8) fun y1 =>
 .ite (!y1)
 (.ret (((([] : List UInt8), ()), ()), ((), ())))
 (.get (iter1 f11_L0 FUEL ((([] : List UInt8), a3, ((List.length a3 : Nat) : Int), (0 : Int), ()), (([([] : List UInt8), ([114, 101, 97, 100, 121] : List UInt8), ([115, 108, 101, 101, 112] : List UInt8), ([119, 97, 105, 116] : List UInt8), ([114, 101, 97, 100] : List UInt8), ([119, 114, 105, 116, 101] : List UInt8), ([122, 111, 109, 98, 105, 101] : List UInt8)] : List (List UInt8)), ()))) fun y2 =>
 .ret (((y2.1.1, ()), ()), ((), ())))
def f11_A : Nat → Option LoopAnn := fun n => annOf [(0, { head := { t := [.dead, .dead, .dead, .srf 64000000, .s] ++ dd 7 ++ [.ro tyP (some 1), .i .i64, .i .i64] ++ dd 30, v := [(64000000, .arr .str)] }, out := { t := dd 4 ++ [.s] ++ dd 40, v := [] }, ret := none })] n
def k11 : Con := { f := 11, lend := true, its := [⟨false, true, [.i .i64, .i .i64, .ro (.sl tyN), .ro tyP, .ro tyO, .ro tyF, .ro tyF, .ro (.int .i64), .ro (.int .i64)]⟩], lay := [none], rs := [⟨false, false, [.s]⟩], F := fun x => .get (psP x.1.1 x.1.2.1 x.1.2.2.1 x.1.2.2.2.1 x.1.2.2.2.2.1 x.1.2.2.2.2.2.1 x.1.2.2.2.2.2.2.1 x.1.2.2.2.2.2.2.2.1 x.1.2.2.2.2.2.2.2.2.1) fun y => .ret (((y, ()), ()), ((), ())) }
theorem f11_eq (x : itemsD k11.its) : bo [k26, k27] f11_A Tryz.f11 k11 [.tmp 2] x = f11_tree x.1.1 x.1.2.1 x.1.2.2.1 x.1.2.2.2.1 x.1.2.2.2.2.1 x.1.2.2.2.2.2.1 x.1.2.2.2.2.2.2.1 x.1.2.2.2.2.2.2.2.1 x.1.2.2.2.2.2.2.2.2.1 := by kernel_rfl
theorem f11_okp (hr : ∀ x : UnixD × Unit, itemsWF k11.its x → ∀ y, (k11.F x).eval = some y → (f11_tree x.1.1 x.1.2.1 x.1.2.2.1 x.1.2.2.2.1 x.1.2.2.2.2.1 x.1.2.2.2.2.2.1 x.1.2.2.2.2.2.2.1 x.1.2.2.2.2.2.2.2.1 x.1.2.2.2.2.2.2.2.2.1).eval = some y) : k11.Ok Tryz.prog := con_fn [k26, k27] ⟨k26_ok, k27_ok, trivial⟩ f11_eq hr
theorem k11_ok : k11.Ok Tryz.prog := by
  refine f11_okp fun x hw y hy => ?_
  obtain ⟨⟨a0, a1, a2, a3, a4, a5, a6, a7, a8, _⟩, _⟩ := x
  have l2 : List.length a2 ≤ BIG := hw.1.1.1
  have l3 : List.length a3 ≤ BIG := hw.1.2.1.1
  have l4 : List.length a4 ≤ BIG := hw.1.2.2.1.1
  have l5 : List.length a5 ≤ BIG := hw.1.2.2.2.1.1
  have l6 : List.length a6 ≤ BIG := hw.1.2.2.2.2.1.1
  have l7 : List.length a7 ≤ BIG := hw.1.2.2.2.2.2.1.1
  have l8 : List.length a8 ≤ BIG := hw.1.2.2.2.2.2.2.1.1
  change (Out.get (psP a0 a1 a2 a3 a4 a5 a6 a7 a8) fun y => Out.ret (((y, ()), ()), ((), ()))).eval = some y at hy
  show (f11_tree a0 a1 a2 a3 a4 a5 a6 a7 a8).eval = some y
  unfold psP at hy
  by_cases hl : List.length a7 ≤ LIM
  case neg => rw [if_neg hl] at hy; exact nomatch hy
  rw [if_pos hl] at hy
  refine Eq.trans ?_ hy
  unfold f11_tree psV
  have e0 : unixOkP a0 a1 a2 a3 a4 a5 a6 a7 a8 = some (unixOkV a0 a1 a2 a3 a4 a5 a6 a7 a8) := by
    unfold unixOkP
    rw [if_pos hl, unix_same]
  refine (eval_get_some e0).trans ?_
  by_cases hu : unixOkV a0 a1 a2 a3 a4 a5 a6 a7 a8 = true
  case neg => rw [if_neg hu, eval_ite_t (by simp [hu])]; rfl
  rw [if_pos hu, eval_ite_f (by simp [hu])]
  have hk := procs_in hu
  have hp := (unix_parts hu).2.2.1
  have hb := flatMap_len psLine 80 a3 fun x hx => psLine_len (hk x hx)
  have h1 : iter1 f11_L0 FUEL ((([] : List UInt8), a3, ((List.length a3 : Nat) : Int), (0 : Int), ()), (([([] : List UInt8), ([114, 101, 97, 100, 121] : List UInt8), ([115, 108, 101, 101, 112] : List UInt8), ([119, 97, 105, 116] : List UInt8), ([114, 101, 97, 100] : List UInt8), ([119, 114, 105, 116, 101] : List UInt8), ([122, 111, 109, 98, 105, 101] : List UInt8)] : List (List UInt8)), ())) = some (((([] : List UInt8) ++ List.flatMap psLine a3), ()), ()) := flat_loop (f := f11_L0) psLine a3 (fun d i => ((d, a3, ((List.length a3 : Nat) : Int), ((i : Nat) : Int), ()), (([([] : List UInt8), ([114, 101, 97, 100, 121] : List UInt8), ([115, 108, 101, 101, 112] : List UInt8), ([119, 97, 105, 116] : List UInt8), ([114, 101, 97, 100] : List UInt8), ([119, 114, 105, 116, 101] : List UInt8), ([122, 111, 109, 98, 105, 101] : List UInt8)] : List (List UInt8)), ()))) (fun d => ((d, ()), ())) 1000000
      (fun i hi d hd => by
        have h1 := wrap_succ (i := i) (by omega)
        have e8 := hk _ (List.getElem_mem hi)
        have e1 : itoaP a3[i].1 = some (Lib.itoa a3[i].1) := if_pos e8.1
        have e2 : itoaP a3[i].2.1 = some (Lib.itoa a3[i].2.1) := if_pos e8.2.1
        have e9 : 0 ≤ a3[i].2.2.1 ∧ a3[i].2.2.1 < ((List.length psNames : Nat) : Int) := by (have := e8.2.2.1; simp only [List.length_cons, List.length_nil]; omega)
        have e3 := decide_eq_true e9
        have e4 := nth_name e9
        have e5 : itoaP ((a3[i].2.2.2.2.2.1.length / 4 : Nat) : Int) = some (Lib.itoa ((a3[i].2.2.2.2.2.1.length / 4 : Nat) : Int)) := if_pos (by have := e8.2.2.2; omega)
        have e6 : ((4 : Int) == 0) = false := rfl
        unfold psLine at hd
        all_goals (try simp only [List.length_append, List.length_cons, List.length_nil] at hd)
        all_goals (simp only [f11_L0, Out.eval, lt_t hi, ge0, nth_get hi, Option.bind_some, cond_true, cond_false, h1, e1, e2, e3, e4, e5, e6, quarter e8.2.2.2])
        all_goals (repeat rw [cond_lim (by (try simp only [List.length_append, List.length_cons, List.length_nil]); omega)])
        all_goals (try simp only [List.append_assoc])
        all_goals (try rfl))
      (fun d => by simp [f11_L0, Out.eval]) l3 ([] : List UInt8) (by (try simp only [List.length_append, List.length_cons, List.length_nil]); omega)
  refine (eval_get_some h1).trans ?_
  rfl
def k6 : Con := { f := 6, lend := true, its := [⟨false, true, [.i .i64, .i .i64, .ro (.sl tyN), .ro tyP, .ro tyO, .ro tyF, .ro tyF, .ro (.int .i64), .ro (.int .i64)]⟩], lay := [none], rs := [⟨false, false, [.s]⟩], F := fun x => .get (lsofP x.1.1 x.1.2.1 x.1.2.2.1 x.1.2.2.2.1 x.1.2.2.2.2.1 x.1.2.2.2.2.2.1 x.1.2.2.2.2.2.2.1 x.1.2.2.2.2.2.2.2.1 x.1.2.2.2.2.2.2.2.2.1) fun y => .ret (((y, ()), ()), ((), ())) }
end Go.Proofs.YtcpjdjgipmjhdaaGreatDoor.Dm
