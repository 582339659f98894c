/- Functions of the program, and what they compute. -/
import Derived.Test.YtcpjdjgipmjhdaaGreatQ12
namespace Go.Proofs.YtcpjdjgipmjhdaaGreat.Dm
open Go Go.ChangeShapes Go.WideShapes Go.ChangeAt Go.RowKit
def openL : List Int → OpenD
  | [a, b, c, d, e] => (a, (b, (c, (d, (e, ())))))
  | _ => (0, (0, (0, (0, (0, ())))))
theorem mapP_congr {α β : Type} {P : Str → Option (α × Nat)} {f g : α → Option β} (h : ∀ s a k, P s = some (a, k) → f a = g a) : mapP f P = mapP g P := by
  funext s
  unfold mapP
  cases e : P s with
  | none => rfl
  | some x => obtain ⟨a, k⟩ := x; simp only [h s a k e]
theorem openQ_raw : openQ = mapP (fun l => some (openL l)) (numsP 5) := mapP_congr fun s l k h => by
  obtain ⟨a, b, c, d, e, rfl⟩ := five_of (numsP_le h).2.1
  rfl
def dataL (x : List Int × List Int) : FileD := (x.1.headD 0, (x.2.map zagV, ()))
theorem dataQ_raw (m : Nat) : dataQ m = mapP (fun x => some (dataL x)) (seqP (numsP 1) (listP m)) := by
  unfold dataQ zagsP
  simp only [oneP_nums, mapP_mapP, seqP_map2, seqP_mapO]
  refine mapP_congr fun s x k h => ?_
  obtain ⟨i, j, h1, h2, _⟩ := seqP_some h
  obtain ⟨y, hy⟩ := List.length_eq_one_iff.1 (numsP_le h1).2.1
  obtain ⟨l, d⟩ := x
  simp only at hy
  subst hy
  rfl
theorem data_ats (s : Str) {m : Nat} (hm : m ≤ 1000) : Ats (seqA (fun p => l3VarsV s p ((1 : Nat) : Int)) (fun p => l20ListV s p ((m : Nat) : Int))) (seqP (numsP 1) (listP m)) s :=
  seqA_ats (vars_ats s (by decide) (by decide)) (list_ats s hm)
def thingsQ : Str → Option ((List OpenD × List PipeD × List FileD) × Nat) := seqP (manyP 8 openQ) (seqP (manyP 3 (dataQ 4)) (manyP 6 (dataQ 8)))
theorem zags_in {l : List Int} (h : l.length ≤ 100) : zagsV l = some (l.map zagV) := lim_some (by rw [LIM_eq]; omega)
theorem seqP_none {α β : Type} {P : Str → Option (α × Nat)} {Q : Str → Option (β × Nat)} {s : Str} (h : P s = none) : seqP P Q s = none := by unfold seqP; rw [h]
theorem seqP_next {α β : Type} {P : Str → Option (α × Nat)} {Q : Str → Option (β × Nat)} {s : Str} {a : α} {k : Nat} (h : P s = some (a, k)) : seqP P Q s = match Q (s.drop k) with | none => none | some (b, j) => some ((a, b), k + j) := by
  unfold seqP; rw [h]; rfl
theorem mapP_t {α β : Type} {P : Str → Option (α × Nat)} {g : α → β} {s : Str} {a : α} {k : Nat} (h : P s = some (a, k)) : mapP (fun a => some (g a)) P s = some (g a, k) := by unfold mapP; rw [h]
theorem mapP_n {α β : Type} {P : Str → Option (α × Nat)} {g : α → β} {s : Str} (h : P s = none) : mapP (fun a => some (g a)) P s = none := by unfold mapP; rw [h]
abbrev f16_S0 := (List UInt8 × Int × Int × Int × Unit) × ((Int × Int × Unit) × (Int × Int × Unit) × List (List InsD) × List ProcD × List OpenD × List CpuD × List CpuD × List Int × List Int × U7T)
def f16_L0 : f16_S0 → Out (Round f16_S0 ((List UInt8 × Int × Unit) × ((Int × Int × Unit) × (Int × Int × Unit) × List (List InsD) × List ProcD × List OpenD × List CpuD × List CpuD × List Int × List Int × U7T)) ((Int × Unit) × ((Int × Int × Unit) × U7T)))
| ((p0, p1, p2, p3, _), (p4, p5, _), (p6, p7, _), p8, p9, p10, p11, p12, p13, p14, p15, p16, p17, p18, p19, p20, p21, _) =>
 .ite ((decide (p3 < p2)) == true)
 (.ite (decide (p1 ≥ (0 : Int)))
 (.get (l3VarsV p0 p1 (5 : Int)) fun y1 =>
 .ite (decide (y1.2 < (0 : Int)))
 (.ret (.ret (((-1 : Int), ()), ((p4, p5, ()), p8, p9, p10, p11, p12, p13, p14, ()))))
 (.ite (decide (0 ≤ (0 : Int) ∧ (0 : Int) < ((List.length y1.1 : Nat) : Int)))
 (.get (nth y1.1 (Int.toNat (0 : Int))) fun y2 =>
 .ite (decide (0 ≤ (1 : Int) ∧ (1 : Int) < ((List.length y1.1 : Nat) : Int)))
 (.get (nth y1.1 (Int.toNat (1 : Int))) fun y3 =>
 .ite (decide (0 ≤ (2 : Int) ∧ (2 : Int) < ((List.length y1.1 : Nat) : Int)))
 (.get (nth y1.1 (Int.toNat (2 : Int))) fun y4 =>
 .ite (decide (0 ≤ (3 : Int) ∧ (3 : Int) < ((List.length y1.1 : Nat) : Int)))
 (.get (nth y1.1 (Int.toNat (3 : Int))) fun y5 =>
 .ite (decide (0 ≤ (4 : Int) ∧ (4 : Int) < ((List.length y1.1 : Nat) : Int)))
 (.get (nth y1.1 (Int.toNat (4 : Int))) fun y6 =>
 .ite (decide (List.length p10 + List.length ([(y2, y3, y4, y5, y6, ())] : List OpenD) ≤ LIM))
 (.ret (.again ((p0, y1.2, p2, (IntKind.i64.wrap (p3 + (1 : Int))), ()), ((p4, p5, ()), (p6, p7, ()), p8, p9, (p10 ++ ([(y2, y3, y4, y5, y6, ())] : List OpenD)), p11, p12, p13, p14, p15, p16, p17, p18, p19, p20, p21, ()))))
 .fail)
 .fail)
 .fail)
 .fail)
 .fail)
 .fail))
 (.ret (.out ((p0, p1, ()), ((p4, p5, ()), (p6, p7, ()), p8, p9, p10, p11, p12, p13, p14, p15, p16, p17, p18, p19, p20, p21, ())))))
 (.ret (.out ((p0, p1, ()), ((p4, p5, ()), (p6, p7, ()), p8, p9, p10, p11, p12, p13, p14, p15, p16, p17, p18, p19, p20, p21, ()))))
abbrev f16_S2 := (List UInt8 × Int × Int × Int × Unit) × ((Int × Int × Unit) × (Int × Int × Unit) × List (List InsD) × List ProcD × List OpenD × List CpuD × List CpuD × List Int × List Int × U7T)
def f16_L2 : f16_S2 → Out (Round f16_S2 ((List UInt8 × Int × Unit) × ((Int × Int × Unit) × (Int × Int × Unit) × List (List InsD) × List ProcD × List OpenD × List CpuD × List CpuD × List Int × List Int × U7T)) ((Int × Unit) × ((Int × Int × Unit) × U7T)))
| ((p0, p1, p2, p3, _), (p4, p5, _), (p6, p7, _), p8, p9, p10, p11, p12, p13, p14, p15, p16, p17, p18, p19, p20, p21, _) =>
 .ite ((decide (p3 < p2)) == true)
 (.ite (decide (p1 ≥ (0 : Int)))
 (.get (l3VarsV p0 p1 (1 : Int)) fun y1 =>
 .get (l20ListV p0 y1.2 (4 : Int)) fun y2 =>
 .ite (decide (y2.2 < (0 : Int)))
 (.ret (.ret (((-1 : Int), ()), ((p4, p5, ()), p8, p9, p10, p11, p12, p13, p14, ()))))
 (.ite (decide (0 ≤ (0 : Int) ∧ (0 : Int) < ((List.length y1.1 : Nat) : Int)))
 (.get (nth y1.1 (Int.toNat (0 : Int))) fun y3 =>
 .get (zagsV y2.1) fun y4 =>
 .ite (decide (List.length p11 + List.length ([(y3, y4, ())] : List CpuD) ≤ LIM))
 (.ret (.again ((p0, y2.2, p2, (IntKind.i64.wrap (p3 + (1 : Int))), ()), ((p4, p5, ()), (p6, p7, ()), p8, p9, p10, (p11 ++ ([(y3, y4, ())] : List CpuD)), p12, p13, p14, p15, p16, p17, p18, p19, p20, p21, ()))))
 .fail)
 .fail))
 (.ret (.out ((p0, p1, ()), ((p4, p5, ()), (p6, p7, ()), p8, p9, p10, p11, p12, p13, p14, p15, p16, p17, p18, p19, p20, p21, ())))))
 (.ret (.out ((p0, p1, ()), ((p4, p5, ()), (p6, p7, ()), p8, p9, p10, p11, p12, p13, p14, p15, p16, p17, p18, p19, p20, p21, ()))))
abbrev f16_S4 := (List UInt8 × Int × Int × Int × Unit) × ((Int × Int × Unit) × (Int × Int × Unit) × List (List InsD) × List ProcD × List OpenD × List CpuD × List CpuD × List Int × List Int × U7T)
def f16_L4 : f16_S4 → Out (Round f16_S4 ((Int × Unit) × ((Int × Int × Unit) × (Int × Int × Unit) × List (List InsD) × List ProcD × List OpenD × List CpuD × List CpuD × List Int × List Int × U7T)) ((Int × Unit) × ((Int × Int × Unit) × U7T)))
| ((p0, p1, p2, p3, _), (p4, p5, _), (p6, p7, _), p8, p9, p10, p11, p12, p13, p14, p15, p16, p17, p18, p19, p20, p21, _) =>
 .ite ((decide (p3 < p2)) == true)
 (.ite (decide (p1 ≥ (0 : Int)))
 (.get (l3VarsV p0 p1 (1 : Int)) fun y1 =>
 .get (l20ListV p0 y1.2 (8 : Int)) fun y2 =>
 .ite (decide (y2.2 < (0 : Int)))
 (.ret (.ret (((-1 : Int), ()), ((p4, p5, ()), p8, p9, p10, p11, p12, p13, p14, ()))))
 (.ite (decide (0 ≤ (0 : Int) ∧ (0 : Int) < ((List.length y1.1 : Nat) : Int)))
 (.get (nth y1.1 (Int.toNat (0 : Int))) fun y3 =>
 .get (zagsV y2.1) fun y4 =>
 .ite (decide (List.length p12 + List.length ([(y3, y4, ())] : List CpuD) ≤ LIM))
 (.ret (.again ((p0, y2.2, p2, (IntKind.i64.wrap (p3 + (1 : Int))), ()), ((p4, p5, ()), (p6, p7, ()), p8, p9, p10, p11, (p12 ++ ([(y3, y4, ())] : List CpuD)), p13, p14, p15, p16, p17, p18, p19, p20, p21, ()))))
 .fail)
 .fail))
 (.ret (.out ((p1, ()), ((p4, p5, ()), (p6, p7, ()), p8, p9, p10, p11, p12, p13, p14, p15, p16, p17, p18, p19, p20, p21, ())))))
 (.ret (.out ((p1, ()), ((p4, p5, ()), (p6, p7, ()), p8, p9, p10, p11, p12, p13, p14, p15, p16, p17, p18, p19, p20, p21, ()))))
def f16_tree (a0 : Int) (a1 : Int) (a2 : List (List InsD)) (a3 : List ProcD) (a4 : List OpenD) (a5 : List CpuD) (a6 : List CpuD) (a7 : List Int) (a8 : List Int) (a9 : List UInt8) (a10 : Int) : Out ((UnixD × (Int × Unit) × Unit) × (Unit × Unit × Unit × Unit)) :=
 .get (k13_V a9 a10 (8 : Int)) fun y1 =>
 .get (iter f16_L0 FUEL ((a9, y1.1.2.1.1, y1.1.1.1, (0 : Int), ()), ((a0, a1, ()), ((0 : Int), (0 : Int), ()), a2, a3, a4, a5, a6, a7, a8, ([] : List (List InsD)), ([] : List ProcD), ([] : List OpenD), ([] : List CpuD), ([] : List CpuD), ([] : List Int), ([] : List Int), ()))) fun y2 => .alt y2 (fun y3 =>
 .get (k13_V y3.1.1 y3.1.2.1 (3 : Int)) fun y5 =>
 .get (iter f16_L2 FUEL ((y3.1.1, y5.1.2.1.1, y5.1.1.1, (0 : Int), ()), ((y3.2.1.1, y3.2.1.2.1, ()), (y3.2.2.1.1, y3.2.2.1.2.1, ()), y3.2.2.2.1, y3.2.2.2.2.1, y3.2.2.2.2.2.1, y3.2.2.2.2.2.2.1, y3.2.2.2.2.2.2.2.1, y3.2.2.2.2.2.2.2.2.1, y3.2.2.2.2.2.2.2.2.2.1, y3.2.2.2.2.2.2.2.2.2.2.1, y3.2.2.2.2.2.2.2.2.2.2.2.1, y3.2.2.2.2.2.2.2.2.2.2.2.2.1, y3.2.2.2.2.2.2.2.2.2.2.2.2.2.1, y3.2.2.2.2.2.2.2.2.2.2.2.2.2.2.1, y3.2.2.2.2.2.2.2.2.2.2.2.2.2.2.2.1, y3.2.2.2.2.2.2.2.2.2.2.2.2.2.2.2.2.1, ()))) fun y6 => .alt y6 (fun y7 =>
 .get (k13_V y7.1.1 y7.1.2.1 (6 : Int)) fun y9 =>
 .get (iter f16_L4 FUEL ((y7.1.1, y9.1.2.1.1, y9.1.1.1, (0 : Int), ()), ((y7.2.1.1, y7.2.1.2.1, ()), (y7.2.2.1.1, y7.2.2.1.2.1, ()), y7.2.2.2.1, y7.2.2.2.2.1, y7.2.2.2.2.2.1, y7.2.2.2.2.2.2.1, y7.2.2.2.2.2.2.2.1, y7.2.2.2.2.2.2.2.2.1, y7.2.2.2.2.2.2.2.2.2.1, y7.2.2.2.2.2.2.2.2.2.2.1, y7.2.2.2.2.2.2.2.2.2.2.2.1, y7.2.2.2.2.2.2.2.2.2.2.2.2.1, y7.2.2.2.2.2.2.2.2.2.2.2.2.2.1, y7.2.2.2.2.2.2.2.2.2.2.2.2.2.2.1, y7.2.2.2.2.2.2.2.2.2.2.2.2.2.2.2.1, y7.2.2.2.2.2.2.2.2.2.2.2.2.2.2.2.2.1, ()))) fun y10 => .alt y10 (fun y11 =>
 .ret (((y11.2.1.1, y11.2.1.2.1, y11.2.2.2.1, y11.2.2.2.2.1, y11.2.2.2.2.2.1, y11.2.2.2.2.2.2.1, y11.2.2.2.2.2.2.2.1, y11.2.2.2.2.2.2.2.2.1, y11.2.2.2.2.2.2.2.2.2.1, ()), (y11.1.1, ()), ()), ((), (), (), ()))) (fun y12 =>
 .ret (((y12.2.1.1, y12.2.1.2.1, y12.2.2.1, y12.2.2.2.1, y12.2.2.2.2.1, y12.2.2.2.2.2.1, y12.2.2.2.2.2.2.1, y12.2.2.2.2.2.2.2.1, y12.2.2.2.2.2.2.2.2.1, ()), (y12.1.1, ()), ()), ((), (), (), ())))) (fun y8 =>
 .ret (((y8.2.1.1, y8.2.1.2.1, y8.2.2.1, y8.2.2.2.1, y8.2.2.2.2.1, y8.2.2.2.2.2.1, y8.2.2.2.2.2.2.1, y8.2.2.2.2.2.2.2.1, y8.2.2.2.2.2.2.2.2.1, ()), (y8.1.1, ()), ()), ((), (), (), ())))) (fun y4 =>
 .ret (((y4.2.1.1, y4.2.1.2.1, y4.2.2.1, y4.2.2.2.1, y4.2.2.2.2.1, y4.2.2.2.2.2.1, y4.2.2.2.2.2.2.1, y4.2.2.2.2.2.2.2.1, y4.2.2.2.2.2.2.2.2.1, ()), (y4.1.1, ()), ()), ((), (), (), ())))
def f16_A : Nat → Option LoopAnn := fun n => annOf [(0, { head := { t := [.dead, .s, .i .i64, .vptr 64000000 0, .dead, .dead, .vptr 64000001 0, .dead, .i .i64, .i .i64] ++ dd 142, v := [(64000000, .var [.i .i64, .i .i64, .srf 64000002, .srf 64000003, .srf 64000004, .srf 64000005, .srf 64000006, .srf 64000007, .srf 64000008]), (64000001, .var [.i .i64, .i .i64, .srf 64000009, .srf 64000010, .srf 64000011, .srf 64000012, .srf 64000013, .srf 64000014, .srf 64000015]), (64000002, .arr (.sl tyN)), (64000003, .arr tyP), (64000004, .arr tyO), (64000005, .arr tyF), (64000006, .arr tyF), (64000007, .arr (.int .i64)), (64000008, .arr (.int .i64)), (64000009, .arr (.sl tyN)), (64000010, .arr tyP), (64000011, .arr tyO), (64000012, .arr tyF), (64000013, .arr tyF), (64000014, .arr (.int .i64)), (64000015, .arr (.int .i64))] }, out := { t := [.dead, .s, .i .i64, .vptr 64000256 0, .dead, .dead, .vptr 64000257 0] ++ dd 145, v := [(64000256, .var [.i .i64, .i .i64, .srf 64000258, .srf 64000259, .srf 64000260, .srf 64000261, .srf 64000262, .srf 64000263, .srf 64000264]), (64000257, .var [.i .i64, .i .i64, .srf 64000265, .srf 64000266, .srf 64000267, .srf 64000268, .srf 64000269, .srf 64000270, .srf 64000271]), (64000258, .arr (.sl tyN)), (64000259, .arr tyP), (64000260, .arr tyO), (64000261, .arr tyF), (64000262, .arr tyF), (64000263, .arr (.int .i64)), (64000264, .arr (.int .i64)), (64000265, .arr (.sl tyN)), (64000266, .arr tyP), (64000267, .arr tyO), (64000268, .arr tyF), (64000269, .arr tyF), (64000270, .arr (.int .i64)), (64000271, .arr (.int .i64))] }, ret := some { t := dd 6 ++ [.vptr 64000512 0, .i .i64] ++ dd 144, v := [(64000512, .var [.i .i64, .i .i64, .srf 64000513, .srf 64000514, .srf 64000515, .srf 64000516, .srf 64000517, .srf 64000518, .srf 64000519]), (64000513, .arr (.sl tyN)), (64000514, .arr tyP), (64000515, .arr tyO), (64000516, .arr tyF), (64000517, .arr tyF), (64000518, .arr (.int .i64)), (64000519, .arr (.int .i64))] } }), (2, { head := { t := [.dead, .s, .i .i64, .vptr 64002048 0, .dead, .dead, .vptr 64002049 0, .dead, .i .i64, .dead, .dead, .dead, .i .i64] ++ dd 139, v := [(64002048, .var [.i .i64, .i .i64, .srf 64002050, .srf 64002051, .srf 64002052, .srf 64002053, .srf 64002054, .srf 64002055, .srf 64002056]), (64002049, .var [.i .i64, .i .i64, .srf 64002057, .srf 64002058, .srf 64002059, .srf 64002060, .srf 64002061, .srf 64002062, .srf 64002063]), (64002050, .arr (.sl tyN)), (64002051, .arr tyP), (64002052, .arr tyO), (64002053, .arr tyF), (64002054, .arr tyF), (64002055, .arr (.int .i64)), (64002056, .arr (.int .i64)), (64002057, .arr (.sl tyN)), (64002058, .arr tyP), (64002059, .arr tyO), (64002060, .arr tyF), (64002061, .arr tyF), (64002062, .arr (.int .i64)), (64002063, .arr (.int .i64))] }, out := { t := [.dead, .s, .i .i64, .vptr 64002304 0, .dead, .dead, .vptr 64002305 0] ++ dd 145, v := [(64002304, .var [.i .i64, .i .i64, .srf 64002306, .srf 64002307, .srf 64002308, .srf 64002309, .srf 64002310, .srf 64002311, .srf 64002312]), (64002305, .var [.i .i64, .i .i64, .srf 64002313, .srf 64002314, .srf 64002315, .srf 64002316, .srf 64002317, .srf 64002318, .srf 64002319]), (64002306, .arr (.sl tyN)), (64002307, .arr tyP), (64002308, .arr tyO), (64002309, .arr tyF), (64002310, .arr tyF), (64002311, .arr (.int .i64)), (64002312, .arr (.int .i64)), (64002313, .arr (.sl tyN)), (64002314, .arr tyP), (64002315, .arr tyO), (64002316, .arr tyF), (64002317, .arr tyF), (64002318, .arr (.int .i64)), (64002319, .arr (.int .i64))] }, ret := some { t := dd 6 ++ [.vptr 64002560 0, .i .i64] ++ dd 144, v := [(64002560, .var [.i .i64, .i .i64, .srf 64002561, .srf 64002562, .srf 64002563, .srf 64002564, .srf 64002565, .srf 64002566, .srf 64002567]), (64002561, .arr (.sl tyN)), (64002562, .arr tyP), (64002563, .arr tyO), (64002564, .arr tyF), (64002565, .arr tyF), (64002566, .arr (.int .i64)), (64002567, .arr (.int .i64))] } }), (4, { head := { t := [.dead, .s, .i .i64, .vptr 64004096 0, .dead, .dead, .vptr 64004097 0, .dead, .i .i64] ++ dd 7 ++ [.i .i64] ++ dd 135, v := [(64004096, .var [.i .i64, .i .i64, .srf 64004098, .srf 64004099, .srf 64004100, .srf 64004101, .srf 64004102, .srf 64004103, .srf 64004104]), (64004097, .var [.i .i64, .i .i64, .srf 64004105, .srf 64004106, .srf 64004107, .srf 64004108, .srf 64004109, .srf 64004110, .srf 64004111]), (64004098, .arr (.sl tyN)), (64004099, .arr tyP), (64004100, .arr tyO), (64004101, .arr tyF), (64004102, .arr tyF), (64004103, .arr (.int .i64)), (64004104, .arr (.int .i64)), (64004105, .arr (.sl tyN)), (64004106, .arr tyP), (64004107, .arr tyO), (64004108, .arr tyF), (64004109, .arr tyF), (64004110, .arr (.int .i64)), (64004111, .arr (.int .i64))] }, out := { t := [.dead, .dead, .i .i64, .vptr 64004352 0, .dead, .dead, .vptr 64004353 0] ++ dd 145, v := [(64004352, .var [.i .i64, .i .i64, .srf 64004354, .srf 64004355, .srf 64004356, .srf 64004357, .srf 64004358, .srf 64004359, .srf 64004360]), (64004353, .var [.i .i64, .i .i64, .srf 64004361, .srf 64004362, .srf 64004363, .srf 64004364, .srf 64004365, .srf 64004366, .srf 64004367]), (64004354, .arr (.sl tyN)), (64004355, .arr tyP), (64004356, .arr tyO), (64004357, .arr tyF), (64004358, .arr tyF), (64004359, .arr (.int .i64)), (64004360, .arr (.int .i64)), (64004361, .arr (.sl tyN)), (64004362, .arr tyP), (64004363, .arr tyO), (64004364, .arr tyF), (64004365, .arr tyF), (64004366, .arr (.int .i64)), (64004367, .arr (.int .i64))] }, ret := some { t := dd 6 ++ [.vptr 64004608 0, .i .i64] ++ dd 144, v := [(64004608, .var [.i .i64, .i .i64, .srf 64004609, .srf 64004610, .srf 64004611, .srf 64004612, .srf 64004613, .srf 64004614, .srf 64004615]), (64004609, .arr (.sl tyN)), (64004610, .arr tyP), (64004611, .arr tyO), (64004612, .arr tyF), (64004613, .arr tyF), (64004614, .arr (.int .i64)), (64004615, .arr (.int .i64))] } })] n
def k16_V (a0 : Int) (a1 : Int) (a2 : List (List InsD)) (a3 : List ProcD) (a4 : List OpenD) (a5 : List CpuD) (a6 : List CpuD) (a7 : List Int) (a8 : List Int) (a9 : List UInt8) (a10 : Int) : Option ((UnixD × (Int × Unit) × Unit) × (Unit × Unit × Unit × Unit)) := (f16_tree a0 a1 a2 a3 a4 a5 a6 a7 a8 a9 a10).eval
def k16 : Con := { f := 16, lend := true, its := [⟨false, true, [.i .i64, .i .i64, .own (.sl tyN), .own tyP, .own tyO, .own tyF, .own tyF, .own (.int .i64), .own (.int .i64)]⟩, ⟨false, false, [.s]⟩, ⟨false, false, [.i .i64]⟩], lay := [none, none, none], rs := [⟨false, true, [.i .i64, .i .i64, .own (.sl tyN), .own tyP, .own tyO, .own tyF, .own tyF, .own (.int .i64), .own (.int .i64)]⟩, ⟨false, false, [.i .i64]⟩], F := fun x => .get (k16_V x.1.1 x.1.2.1 x.1.2.2.1 x.1.2.2.2.1 x.1.2.2.2.2.1 x.1.2.2.2.2.2.1 x.1.2.2.2.2.2.2.1 x.1.2.2.2.2.2.2.2.1 x.1.2.2.2.2.2.2.2.2.1 x.2.1.1 x.2.2.1.1) fun y => .ret y }
theorem f16_eq (x : itemsD k16.its) : bo [k13, k12, k17, k18] f16_A Tryz.f16 k16 [.cell 6 29, .tmp 7] x = f16_tree x.1.1 x.1.2.1 x.1.2.2.1 x.1.2.2.2.1 x.1.2.2.2.2.1 x.1.2.2.2.2.2.1 x.1.2.2.2.2.2.2.1 x.1.2.2.2.2.2.2.2.1 x.1.2.2.2.2.2.2.2.2.1 x.2.1.1 x.2.2.1.1 := by kernel_rfl
theorem f16_ok (hr : ∀ x : UnixD × (List UInt8 × Unit) × (Int × Unit) × Unit, itemsWF k16.its x → (f16_tree x.1.1 x.1.2.1 x.1.2.2.1 x.1.2.2.2.1 x.1.2.2.2.2.1 x.1.2.2.2.2.2.1 x.1.2.2.2.2.2.2.1 x.1.2.2.2.2.2.2.2.1 x.1.2.2.2.2.2.2.2.2.1 x.2.1.1 x.2.2.1.1).eval = (k16.F x).eval) : k16.Ok Tryz.prog := con_fn [k13, k12, k17, k18] ⟨k13_ok, k12_ok, k17_ok, k18_ok, trivial⟩ f16_eq fun x hw _ hy => (hr x hw).trans hy
theorem k16_ok : k16.Ok Tryz.prog := f16_ok fun x _ => (eval_get_ret _).symm
def ThingsIs (a0 a1 : Int) (a2 : List (List InsD)) (a3 : List ProcD) (a7 a8 : List Int) (a9 : Str) (p : Int) : Option ((List OpenD × List PipeD × List FileD) × Int) → Prop
  | some ((os, pis, fis), e) => k16_V a0 a1 a2 a3 [] [] [] a7 a8 a9 p = some (((a0, a1, a2, a3, os, pis, fis, a7, a8, ()), (e, ()), ()), ((), (), (), ()))
  | none => ∃ os pis fis, k16_V a0 a1 a2 a3 [] [] [] a7 a8 a9 p = some (((a0, a1, a2, a3, os, pis, fis, a7, a8, ()), (-1, ()), ()), ((), (), (), ()))
theorem things_at (a0 a1 : Int) (a2 : List (List InsD)) (a3 : List ProcD) (a7 a8 : List Int) (a9 : Str) :
    (∀ p : Nat, p ≤ a9.length → match thingsQ (a9.drop p) with
      | some (x, k) => ThingsIs a0 a1 a2 a3 a7 a8 a9 ((p : Nat) : Int) (some (x, ((p + k : Nat) : Int))) ∧ p + k ≤ a9.length
      | none => ThingsIs a0 a1 a2 a3 a7 a8 a9 ((p : Nat) : Int) none) ∧ ThingsIs a0 a1 a2 a3 a7 a8 a9 (-1) none := by
  obtain ⟨a5, h5⟩ : ∃ x : List PipeD, x = [] := ⟨[], rfl⟩
  obtain ⟨a6, h6⟩ : ∃ x : List FileD, x = [] := ⟨[], rfl⟩
  have h1 := many_atR (f := f16_L0) (vars_ats a9 (n := 5) (by decide) (by decide)) openL (fun n i p l => ((a9, p, ((n : Nat) : Int), ((i : Nat) : Int), ()), ((a0, a1, ()), ((0 : Int), (0 : Int), ()), a2, a3, l, a5, a6, a7, a8, ([] : List (List InsD)), ([] : List ProcD), ([] : List OpenD), ([] : List CpuD), ([] : List CpuD), ([] : List Int), ([] : List Int), ()))) (fun p l => ((a9, p, ()), ((a0, a1, ()), ((0 : Int), (0 : Int), ()), a2, a3, l, a5, a6, a7, a8, ([] : List (List InsD)), ([] : List ProcD), ([] : List OpenD), ([] : List CpuD), ([] : List CpuD), ([] : List Int), ([] : List Int), ()))) (fun l => (((-1 : Int), ()), ((a0, a1, ()), a2, a3, l, a5, a6, a7, a8, ()))) (m := 8) (by decide)
      (fun n i p l a e hn hi hl hp ha he hP => by
        have h1 := wrap_succ (i := i) (by unfold BIG; omega)
        obtain ⟨k, hk⟩ := hP
        obtain ⟨x1, x2, x3, x4, x5, rfl⟩ := five_of (numsP_le hk).2.1
        refine (eval_ite_t (by rw [decide_eq_true (show ((i : Nat) : Int) < ((n : Nat) : Int) by omega)]; rfl)).trans ((eval_ite_t (decide_eq_true (show p ≥ 0 by omega))).trans ((eval_get_some ha).trans ((eval_ite_f (decide_eq_false (show ¬ e < 0 by omega))).trans ?_)))
        refine (eval_ite_t rfl).trans ((eval_get_some (x := x1) rfl).trans ((eval_ite_t rfl).trans ((eval_get_some (x := x2) rfl).trans ((eval_ite_t rfl).trans ((eval_get_some (x := x3) rfl).trans ((eval_ite_t rfl).trans ((eval_get_some (x := x4) rfl).trans ((eval_ite_t rfl).trans ((eval_get_some (x := x5) rfl).trans ?_)))))))))
        exact (eval_ite_t (lim_t (by simp; omega))).trans (by rw [← h1]; rfl))
      (fun n i p l a hi hl hp ha => by
        exact (eval_ite_t (by rw [decide_eq_true (show ((i : Nat) : Int) < ((n : Nat) : Int) by omega)]; rfl)).trans ((eval_ite_t (decide_eq_true (show p ≥ 0 by omega))).trans ((eval_get_some ha).trans ((eval_ite_t rfl).trans rfl))))
      (fun n p l => (eval_ite_f (by rw [decide_eq_false (show ¬ ((n : Nat) : Int) < ((n : Nat) : Int) by omega)]; rfl)).trans rfl)
  skip
  have h2 (os : List OpenD) := many_atR (f := f16_L2) (data_ats a9 (m := 4) (by decide)) dataL (fun n i p l => ((a9, p, ((n : Nat) : Int), ((i : Nat) : Int), ()), ((a0, a1, ()), ((0 : Int), (0 : Int), ()), a2, a3, os, l, a6, a7, a8, ([] : List (List InsD)), ([] : List ProcD), ([] : List OpenD), ([] : List CpuD), ([] : List CpuD), ([] : List Int), ([] : List Int), ()))) (fun p l => ((a9, p, ()), ((a0, a1, ()), ((0 : Int), (0 : Int), ()), a2, a3, os, l, a6, a7, a8, ([] : List (List InsD)), ([] : List ProcD), ([] : List OpenD), ([] : List CpuD), ([] : List CpuD), ([] : List Int), ([] : List Int), ()))) (fun l => (((-1 : Int), ()), ((a0, a1, ()), a2, a3, os, l, a6, a7, a8, ()))) (m := 3) (by decide)
      (fun n i p l a e hn hi hl hp ha he hP => by
        have h1 := wrap_succ (i := i) (by unfold BIG; omega)
        obtain ⟨k, hk⟩ := hP
        obtain ⟨i1, i2, k1, k2, _⟩ := seqP_some hk
        obtain ⟨l1, d⟩ := a
        obtain ⟨x1, hx⟩ := List.length_eq_one_iff.1 (numsP_le k1).2.1
        simp only at hx
        subst hx
        obtain ⟨q1, e1, e2⟩ := seqA_some ha
        simp only at e1 e2
        have hd := (listP_le k2).2.1
        refine (eval_ite_t (by rw [decide_eq_true (show ((i : Nat) : Int) < ((n : Nat) : Int) by omega)]; rfl)).trans ((eval_ite_t (decide_eq_true (show p ≥ 0 by omega))).trans ((eval_get_some e1).trans ((eval_get_some e2).trans ((eval_ite_f (decide_eq_false (show ¬ e < 0 by omega))).trans ?_))))
        refine (eval_ite_t rfl).trans ((eval_get_some (x := x1) rfl).trans ((eval_get_some (zags_in (show d.length ≤ 100 by simp only at hd; omega))).trans ?_))
        exact (eval_ite_t (lim_t (by simp; omega))).trans (by rw [← h1]; rfl))
      (fun n i p l a hi hl hp ha => by
        obtain ⟨q1, e1, e2⟩ := seqA_some ha
        exact (eval_ite_t (by rw [decide_eq_true (show ((i : Nat) : Int) < ((n : Nat) : Int) by omega)]; rfl)).trans ((eval_ite_t (decide_eq_true (show p ≥ 0 by omega))).trans ((eval_get_some e1).trans ((eval_get_some e2).trans ((eval_ite_t rfl).trans rfl)))))
      (fun n p l => (eval_ite_f (by rw [decide_eq_false (show ¬ ((n : Nat) : Int) < ((n : Nat) : Int) by omega)]; rfl)).trans rfl)
  skip
  have h4 (os : List OpenD) (pis : List PipeD) := many_atR (f := f16_L4) (data_ats a9 (m := 8) (by decide)) dataL (fun n i p l => ((a9, p, ((n : Nat) : Int), ((i : Nat) : Int), ()), ((a0, a1, ()), ((0 : Int), (0 : Int), ()), a2, a3, os, pis, l, a7, a8, ([] : List (List InsD)), ([] : List ProcD), ([] : List OpenD), ([] : List CpuD), ([] : List CpuD), ([] : List Int), ([] : List Int), ()))) (fun p l => ((p, ()), ((a0, a1, ()), ((0 : Int), (0 : Int), ()), a2, a3, os, pis, l, a7, a8, ([] : List (List InsD)), ([] : List ProcD), ([] : List OpenD), ([] : List CpuD), ([] : List CpuD), ([] : List Int), ([] : List Int), ()))) (fun l => (((-1 : Int), ()), ((a0, a1, ()), a2, a3, os, pis, l, a7, a8, ()))) (m := 6) (by decide)
      (fun n i p l a e hn hi hl hp ha he hP => by
        have h1 := wrap_succ (i := i) (by unfold BIG; omega)
        obtain ⟨k, hk⟩ := hP
        obtain ⟨i1, i2, k1, k2, _⟩ := seqP_some hk
        obtain ⟨l1, d⟩ := a
        obtain ⟨x1, hx⟩ := List.length_eq_one_iff.1 (numsP_le k1).2.1
        simp only at hx
        subst hx
        obtain ⟨q1, e1, e2⟩ := seqA_some ha
        simp only at e1 e2
        have hd := (listP_le k2).2.1
        refine (eval_ite_t (by rw [decide_eq_true (show ((i : Nat) : Int) < ((n : Nat) : Int) by omega)]; rfl)).trans ((eval_ite_t (decide_eq_true (show p ≥ 0 by omega))).trans ((eval_get_some e1).trans ((eval_get_some e2).trans ((eval_ite_f (decide_eq_false (show ¬ e < 0 by omega))).trans ?_))))
        refine (eval_ite_t rfl).trans ((eval_get_some (x := x1) rfl).trans ((eval_get_some (zags_in (show d.length ≤ 100 by simp only at hd; omega))).trans ?_))
        exact (eval_ite_t (lim_t (by simp; omega))).trans (by rw [← h1]; rfl))
      (fun n i p l a hi hl hp ha => by
        obtain ⟨q1, e1, e2⟩ := seqA_some ha
        exact (eval_ite_t (by rw [decide_eq_true (show ((i : Nat) : Int) < ((n : Nat) : Int) by omega)]; rfl)).trans ((eval_ite_t (decide_eq_true (show p ≥ 0 by omega))).trans ((eval_get_some e1).trans ((eval_get_some e2).trans ((eval_ite_t rfl).trans rfl)))))
      (fun n p l => (eval_ite_f (by rw [decide_eq_false (show ¬ ((n : Nat) : Int) < ((n : Nat) : Int) by omega)]; rfl)).trans rfl)
  subst h5 h6
  have out : ThingsIs a0 a1 a2 a3 a7 a8 a9 (-1) none := by
    refine ⟨[], [], [], ?_⟩
    unfold k16_V f16_tree
    exact (eval_get_some (count_out _ _)).trans ((eval_get_some h1.2).trans ((eval_alt_l _).trans ((eval_get_some (count_out _ _)).trans ((eval_get_some (h2 []).2).trans ((eval_alt_l _).trans ((eval_get_some (count_out _ _)).trans ((eval_get_some (h4 [] []).2).trans ((eval_alt_l _).trans rfl))))))))
  refine ⟨fun p hp => ?_, out⟩
  unfold thingsQ
  rw [openQ_raw, dataQ_raw, dataQ_raw, manyP_map, manyP_map, manyP_map]
  cases e1 : manyP 8 (numsP 5) (a9.drop p) with
  | none =>
    rw [seqP_none (mapP_n e1)]
    obtain ⟨n, e, c1, c2⟩ := (h1.1 p hp).2 e1
    rcases c2 with c2 | ⟨l, c2⟩
    · refine ⟨[], [], [], ?_⟩
      unfold k16_V f16_tree
      exact (eval_get_some c1).trans ((eval_get_some c2).trans ((eval_alt_l _).trans ((eval_get_some (count_out _ _)).trans ((eval_get_some (h2 []).2).trans ((eval_alt_l _).trans ((eval_get_some (count_out _ _)).trans ((eval_get_some (h4 [] []).2).trans ((eval_alt_l _).trans rfl))))))))
    · refine ⟨l, [], [], ?_⟩
      unfold k16_V f16_tree
      exact (eval_get_some c1).trans ((eval_get_some c2).trans ((eval_alt_r _).trans rfl))
  | some x =>
    obtain ⟨os, k1⟩ := x
    rw [seqP_next (mapP_t e1)]
    obtain ⟨n1, q1, c1, c2, c3⟩ := (h1.1 p hp).1 _ _ e1
    rw [List.drop_drop]
    cases e2 : manyP 3 (seqP (numsP 1) (listP 4)) (a9.drop (p + k1)) with
    | none =>
      rw [seqP_none (mapP_n e2)]
      obtain ⟨n, e, d1, d2⟩ := ((h2 (os.map openL)).1 (p + k1) c3).2 e2
      rcases d2 with d2 | ⟨l, d2⟩
      · refine ⟨os.map openL, [], [], ?_⟩
        unfold k16_V f16_tree
        exact (eval_get_some c1).trans ((eval_get_some c2).trans ((eval_alt_l _).trans ((eval_get_some d1).trans ((eval_get_some d2).trans ((eval_alt_l _).trans ((eval_get_some (count_out _ _)).trans ((eval_get_some (h4 _ []).2).trans ((eval_alt_l _).trans rfl))))))))
      · refine ⟨os.map openL, l, [], ?_⟩
        unfold k16_V f16_tree
        exact (eval_get_some c1).trans ((eval_get_some c2).trans ((eval_alt_l _).trans ((eval_get_some d1).trans ((eval_get_some d2).trans ((eval_alt_r _).trans rfl)))))
    | some y =>
      obtain ⟨pis, k2⟩ := y
      rw [seqP_next (mapP_t e2)]
      obtain ⟨n2, q2, d1, d2, d3⟩ := ((h2 (os.map openL)).1 (p + k1) c3).1 _ _ e2
      rw [List.drop_drop]
      cases e3 : manyP 6 (seqP (numsP 1) (listP 8)) (a9.drop (p + k1 + k2)) with
      | none =>
        rw [mapP_n e3]
        obtain ⟨n, e, f1, f2⟩ := ((h4 (os.map openL) (pis.map dataL)).1 (p + k1 + k2) d3).2 e3
        rcases f2 with f2 | ⟨l, f2⟩
        · refine ⟨os.map openL, pis.map dataL, [], ?_⟩
          unfold k16_V f16_tree
          exact (eval_get_some c1).trans ((eval_get_some c2).trans ((eval_alt_l _).trans ((eval_get_some d1).trans ((eval_get_some d2).trans ((eval_alt_l _).trans ((eval_get_some f1).trans ((eval_get_some f2).trans ((eval_alt_l _).trans rfl))))))))
        · refine ⟨os.map openL, pis.map dataL, l, ?_⟩
          unfold k16_V f16_tree
          exact (eval_get_some c1).trans ((eval_get_some c2).trans ((eval_alt_l _).trans ((eval_get_some d1).trans ((eval_get_some d2).trans ((eval_alt_l _).trans ((eval_get_some f1).trans ((eval_get_some f2).trans ((eval_alt_r _).trans rfl))))))))
      | some z =>
        obtain ⟨fis, k3⟩ := z
        rw [mapP_t e3]
        obtain ⟨n3, q3, f1, f2, f3⟩ := ((h4 (os.map openL) (pis.map dataL)).1 (p + k1 + k2) d3).1 _ _ e3
        refine ⟨?_, by omega⟩
        show k16_V a0 a1 a2 a3 [] [] [] a7 a8 a9 ((p : Nat) : Int) = _
        unfold k16_V f16_tree
        rw [show p + (k1 + (k2 + k3)) = p + k1 + k2 + k3 by omega]
        exact (eval_get_some c1).trans ((eval_get_some c2).trans ((eval_alt_l _).trans ((eval_get_some d1).trans ((eval_get_some d2).trans ((eval_alt_l _).trans ((eval_get_some f1).trans ((eval_get_some f2).trans ((eval_alt_l _).trans rfl))))))))
end Go.Proofs.YtcpjdjgipmjhdaaGreat.Dm
