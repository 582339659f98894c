/- Functions of the program, and what they compute. -/
import Derived.Test.YtcpjdjgipmjhdaaGreatQ13
namespace Go.Proofs.YtcpjdjgipmjhdaaGreat.Dm
open Go Go.ChangeShapes Go.WideShapes Go.ChangeAt Go.RowKit
theorem things_then {β : Type} (Q : Str → Option (β × Nat)) (s : Str) : seqP (manyP 8 openQ) (seqP (manyP 3 (dataQ 4)) (seqP (manyP 6 (dataQ 8)) Q)) s = match thingsQ s with
    | none => none
    | some (x, k) => match Q (s.drop k) with
      | none => none
      | some (b, j) => some ((x.1, x.2.1, x.2.2, b), k + j) := by
  unfold thingsQ
  cases e1 : manyP 8 openQ s with
  | none => rw [seqP_none e1, seqP_none e1]
  | some x =>
    obtain ⟨os, k1⟩ := x
    rw [seqP_next e1, seqP_next e1]
    cases e2 : manyP 3 (dataQ 4) (s.drop k1) with
    | none => rw [seqP_none e2, seqP_none e2]
    | some y =>
      obtain ⟨pis, k2⟩ := y
      rw [seqP_next e2, seqP_next e2]
      cases e3 : manyP 6 (dataQ 8) ((s.drop k1).drop k2) with
      | none => rw [seqP_none e3]
      | some z =>
        obtain ⟨fis, k3⟩ := z
        rw [seqP_next e3]
        simp only [List.drop_drop]
        rw [show k1 + (k2 + k3) = k1 + k2 + k3 by omega]
        cases Q (s.drop (k1 + k2 + k3)) with
        | none => rfl
        | some b => simp only [Nat.add_assoc]
abbrev UnixR := Int × Int × List (List InsD) × List ProcD × List OpenD × List PipeD × List FileD × List Int × List Int × Bool
def unixZ : UnixR := (0, 0, [], [], [], [], [], [], [], false)
def unixOf (s : Str) : Option (UnixP × Nat) → UnixR
  | some (([n, t], pg, ps, os, pp, fl, rd, ou), _) => if showUV n t pg ps os pp fl rd ou = s then (n, t, pg, ps, os, pp, fl, rd, ou, true) else unixZ
  | _ => unixZ
def readUnixV (s : Str) : UnixR := unixOf s (unixQ (s.drop 1))
def f19_tree (a0 : Int) (a1 : Int) (a2 : List (List InsD)) (a3 : List ProcD) (a4 : List OpenD) (a5 : List CpuD) (a6 : List CpuD) (a7 : List Int) (a8 : List Int) : Out (((List UInt8 × Unit) × Unit) × (Unit × Unit)) :=
 .ite (!(unixOkV a0 a1 a2 a3 a4 a5 a6 a7 a8))
 (.ret (((([] : List UInt8), ()), ()), ((), ())))
 (.get (showUP a0 a1 a2 a3 a4 a5 a6 a7 a8) fun y1 =>
 .ret (((y1, ()), ()), ((), ())))
def k19 : Con := { f := 19, lend := true, its := [⟨false, true, [.i .i64, .i .i64, .ro (.sl tyN), .ro tyP, .ro tyO, .ro tyF, .ro tyF, .ro (.int .i64), .ro (.int .i64)]⟩], lay := [none], rs := [⟨false, false, [.s]⟩], F := fun x => .get (showUnixP x.1.1 x.1.2.1 x.1.2.2.1 x.1.2.2.2.1 x.1.2.2.2.2.1 x.1.2.2.2.2.2.1 x.1.2.2.2.2.2.2.1 x.1.2.2.2.2.2.2.2.1 x.1.2.2.2.2.2.2.2.2.1) fun y => .ret (((y, ()), ()), ((), ())) }
theorem f19_eq (x : itemsD k19.its) : bo [k47, k48] (fun _ => none) Tryz.f19 k19 [.tmp 2] x = f19_tree x.1.1 x.1.2.1 x.1.2.2.1 x.1.2.2.2.1 x.1.2.2.2.2.1 x.1.2.2.2.2.2.1 x.1.2.2.2.2.2.2.1 x.1.2.2.2.2.2.2.2.1 x.1.2.2.2.2.2.2.2.2.1 := by kernel_rfl
theorem f19_okp (hr : ∀ x : UnixD × Unit, itemsWF k19.its x → ∀ y, (k19.F x).eval = some y → (f19_tree x.1.1 x.1.2.1 x.1.2.2.1 x.1.2.2.2.1 x.1.2.2.2.2.1 x.1.2.2.2.2.2.1 x.1.2.2.2.2.2.2.1 x.1.2.2.2.2.2.2.2.1 x.1.2.2.2.2.2.2.2.2.1).eval = some y) : k19.Ok Tryz.prog := con_fn [k47, k48] ⟨k47_ok, k48_ok, trivial⟩ f19_eq hr
theorem k19_ok : k19.Ok Tryz.prog := by
  refine f19_okp fun x hw y hy => ?_
  obtain ⟨⟨a0, a1, a2, a3, a4, a5, a6, a7, a8, _⟩, _⟩ := x
  have l2 : List.length a2 ≤ BIG := hw.1.1.1
  have l3 : List.length a3 ≤ BIG := hw.1.2.1.1
  have l4 : List.length a4 ≤ BIG := hw.1.2.2.1.1
  have l5 : List.length a5 ≤ BIG := hw.1.2.2.2.1.1
  have l6 : List.length a6 ≤ BIG := hw.1.2.2.2.2.1.1
  have l7 : List.length a7 ≤ BIG := hw.1.2.2.2.2.2.1.1
  have l8 : List.length a8 ≤ BIG := hw.1.2.2.2.2.2.2.1.1
  change (Out.get (showUnixP a0 a1 a2 a3 a4 a5 a6 a7 a8) fun y => Out.ret (((y, ()), ()), ((), ()))).eval = some y at hy
  show (f19_tree a0 a1 a2 a3 a4 a5 a6 a7 a8).eval = some y
  unfold showUnixP at hy
  by_cases hl : List.length a7 ≤ LIM
  case neg => rw [if_neg hl] at hy; exact nomatch hy
  rw [if_pos hl] at hy
  refine Eq.trans ?_ hy
  unfold f19_tree showUV
  by_cases hu : unixOkV a0 a1 a2 a3 a4 a5 a6 a7 a8 = true
  case neg => rw [if_neg hu, eval_ite_t (by simp [hu])]; rfl
  rw [if_pos hu, eval_ite_f (by simp [hu])]
  have e1 : showUP a0 a1 a2 a3 a4 a5 a6 a7 a8 = some (unixT a0 a1 a2 a3 a4 a5 a6 a7 a8) := if_pos hu
  exact (eval_get_some e1).trans rfl
abbrev f5_S0 := (List UInt8 × Int × Int × Int × Unit) × ((Int × Int × Unit) × (Int × Int × Unit) × List (List InsD) × List ProcD × List OpenD × List CpuD × List CpuD × List Int × List Int × U7T)
def f5_L0 : f5_S0 → Out (Round f5_S0 ((List UInt8 × Int × Unit) × ((Int × Int × Unit) × (Int × Int × Unit) × List (List InsD) × List ProcD × List OpenD × List CpuD × List CpuD × List Int × List Int × U7T)) Empty)
| ((p0, p1, p2, p3, _), (p4, p5, _), (p6, p7, _), p8, p9, p10, p11, p12, p13, p14, p15, p16, p17, p18, p19, p20, p21, _) =>
 .ite ((decide (p3 < p2)) == true)
 (.ite (decide (p1 ≥ (0 : Int)))
 (.get (k14_V p0 p1) fun y1 =>
 .ite (decide (List.length p15 + List.length ([y1.1.1.1] : List (List InsD)) ≤ LIM))
 (.ret (.again ((p0, y1.1.2.1.1, p2, (IntKind.i64.wrap (p3 + (1 : Int))), ()), ((p4, p5, ()), (p6, p7, ()), p8, p9, p10, p11, p12, p13, p14, (p15 ++ ([y1.1.1.1] : List (List InsD))), p16, p17, p18, p19, p20, p21, ()))))
 .fail)
 (.ret (.out ((p0, p1, ()), ((p4, p5, ()), (p6, p7, ()), p8, p9, p10, p11, p12, p13, p14, p15, p16, p17, p18, p19, p20, p21, ())))))
 (.ret (.out ((p0, p1, ()), ((p4, p5, ()), (p6, p7, ()), p8, p9, p10, p11, p12, p13, p14, p15, p16, p17, p18, p19, p20, p21, ()))))
abbrev f5_S2 := (List UInt8 × Int × Int × Int × Unit) × ((Int × Int × Unit) × (Int × Int × Unit) × List (List InsD) × List ProcD × List OpenD × List CpuD × List CpuD × List Int × List Int × U7T)
def f5_L2 : f5_S2 → Out (Round f5_S2 ((List UInt8 × Int × Unit) × ((Int × Int × Unit) × (Int × Int × Unit) × List (List InsD) × List ProcD × List OpenD × List CpuD × List CpuD × List Int × List Int × U7T)) Empty)
| ((p0, p1, p2, p3, _), (p4, p5, _), (p6, p7, _), p8, p9, p10, p11, p12, p13, p14, p15, p16, p17, p18, p19, p20, p21, _) =>
 .ite ((decide (p3 < p2)) == true)
 (.ite (decide (p1 ≥ (0 : Int)))
 (.get (k15_V p0 p1) fun y1 =>
 .ite (decide (List.length p16 + List.length ([(y1.1.1.1, y1.1.1.2.1, y1.1.1.2.2.1, y1.1.1.2.2.2.1, (y1.1.1.2.2.2.2.1, y1.1.1.2.2.2.2.2.1, ()), y1.1.1.2.2.2.2.2.2.1, y1.1.1.2.2.2.2.2.2.2.1, y1.1.1.2.2.2.2.2.2.2.2.1, y1.1.1.2.2.2.2.2.2.2.2.2.1, ())] : List ProcD) ≤ LIM))
 (.ret (.again ((p0, y1.1.2.1.1, p2, (IntKind.i64.wrap (p3 + (1 : Int))), ()), ((p4, p5, ()), (p6, p7, ()), p8, p9, p10, p11, p12, p13, p14, p15, (p16 ++ ([(y1.1.1.1, y1.1.1.2.1, y1.1.1.2.2.1, y1.1.1.2.2.2.1, (y1.1.1.2.2.2.2.1, y1.1.1.2.2.2.2.2.1, ()), y1.1.1.2.2.2.2.2.2.1, y1.1.1.2.2.2.2.2.2.2.1, y1.1.1.2.2.2.2.2.2.2.2.1, y1.1.1.2.2.2.2.2.2.2.2.2.1, ())] : List ProcD)), p17, p18, p19, p20, p21, ()))))
 .fail)
 (.ret (.out ((p0, p1, ()), ((p4, p5, ()), (p6, p7, ()), p8, p9, p10, p11, p12, p13, p14, p15, p16, p17, p18, p19, p20, p21, ())))))
 (.ret (.out ((p0, p1, ()), ((p4, p5, ()), (p6, p7, ()), p8, p9, p10, p11, p12, p13, p14, p15, p16, p17, p18, p19, p20, p21, ()))))
def f5_tree (a0 : List UInt8) : Out ((UnixD × (Bool × Unit) × Unit) × (Unit × Unit)) :=
 .get (l3VarsV a0 (1 : Int) (2 : Int)) fun y1 =>
 .get (k13_V a0 y1.2 (4 : Int)) fun y2 =>
 .ite (decide (y2.1.2.1.1 < (0 : Int)))
 (.ret ((((0 : Int), (0 : Int), ([] : List (List InsD)), ([] : List ProcD), ([] : List OpenD), ([] : List CpuD), ([] : List CpuD), ([] : List Int), ([] : List Int), ()), (false, ()), ()), ((), ())))
 (.ite (decide (0 ≤ (0 : Int) ∧ (0 : Int) < ((List.length y1.1 : Nat) : Int)))
 (.get (nth y1.1 (Int.toNat (0 : Int))) fun y3 =>
 .ite (decide (0 ≤ (1 : Int) ∧ (1 : Int) < ((List.length y1.1 : Nat) : Int)))
 (.get (nth y1.1 (Int.toNat (1 : Int))) fun y4 =>
 .get (iter1 f5_L0 FUEL ((a0, y2.1.2.1.1, y2.1.1.1, (0 : Int), ()), (((0 : Int), (0 : Int), ()), (y3, y4, ()), ([] : List (List InsD)), ([] : List ProcD), ([] : List OpenD), ([] : List CpuD), ([] : List CpuD), ([] : List Int), ([] : List Int), ([] : List (List InsD)), ([] : List ProcD), ([] : List OpenD), ([] : List CpuD), ([] : List CpuD), ([] : List Int), ([] : List Int), ()))) fun y5 =>
 .get (k13_V y5.1.1 y5.1.2.1 (6 : Int)) fun y6 =>
 .get (iter1 f5_L2 FUEL ((y5.1.1, y6.1.2.1.1, y6.1.1.1, (0 : Int), ()), ((y5.2.1.1, y5.2.1.2.1, ()), (y5.2.2.1.1, y5.2.2.1.2.1, ()), y5.2.2.2.1, y5.2.2.2.2.1, y5.2.2.2.2.2.1, y5.2.2.2.2.2.2.1, y5.2.2.2.2.2.2.2.1, y5.2.2.2.2.2.2.2.2.1, y5.2.2.2.2.2.2.2.2.2.1, y5.2.2.2.2.2.2.2.2.2.2.1, y5.2.2.2.2.2.2.2.2.2.2.2.1, y5.2.2.2.2.2.2.2.2.2.2.2.2.1, y5.2.2.2.2.2.2.2.2.2.2.2.2.2.1, y5.2.2.2.2.2.2.2.2.2.2.2.2.2.2.1, y5.2.2.2.2.2.2.2.2.2.2.2.2.2.2.2.1, y5.2.2.2.2.2.2.2.2.2.2.2.2.2.2.2.2.1, ()))) fun y7 =>
 .get (k16_V y7.2.2.1.1 y7.2.2.1.2.1 y7.2.2.2.2.2.2.2.2.2.2.1 y7.2.2.2.2.2.2.2.2.2.2.2.1 y7.2.2.2.2.2.2.2.2.2.2.2.2.1 y7.2.2.2.2.2.2.2.2.2.2.2.2.2.1 y7.2.2.2.2.2.2.2.2.2.2.2.2.2.2.1 y7.2.2.2.2.2.2.2.2.2.2.2.2.2.2.2.1 y7.2.2.2.2.2.2.2.2.2.2.2.2.2.2.2.2.1 y7.1.1 y7.1.2.1) fun y8 =>
 .get (l20ListV y7.1.1 y8.1.2.1.1 (6 : Int)) fun y9 =>
 .get (l20ListV y7.1.1 y9.2 (60 : Int)) fun y10 =>
 .ite (decide (y10.2 < (0 : Int)))
 (.ret ((((0 : Int), (0 : Int), ([] : List (List InsD)), ([] : List ProcD), ([] : List OpenD), ([] : List CpuD), ([] : List CpuD), ([] : List Int), ([] : List Int), ()), (false, ()), ()), ((), ())))
 (.get (zagsV y10.1) fun y11 =>
 .get (showUnixP y8.1.1.1 y8.1.1.2.1 y8.1.1.2.2.1 y8.1.1.2.2.2.1 y8.1.1.2.2.2.2.1 y8.1.1.2.2.2.2.2.1 y8.1.1.2.2.2.2.2.2.1 y9.1 y11) fun y12 =>
 .ite (y12 != y7.1.1)
 (.ret ((((0 : Int), (0 : Int), ([] : List (List InsD)), ([] : List ProcD), ([] : List OpenD), ([] : List CpuD), ([] : List CpuD), ([] : List Int), ([] : List Int), ()), (false, ()), ()), ((), ())))
 (.ret (((y8.1.1.1, y8.1.1.2.1, y8.1.1.2.2.1, y8.1.1.2.2.2.1, y8.1.1.2.2.2.2.1, y8.1.1.2.2.2.2.2.1, y8.1.1.2.2.2.2.2.2.1, y9.1, y11, ()), (true, ()), ()), ((), ())))))
 .fail)
 .fail)
def f5_A : Nat → Option LoopAnn := fun n => annOf [(0, { head := { t := [.s, .dead, .vptr 64000000 0, .dead, .dead, .i .i64, .i .i64, .vptr 64000001 0, .i .i64] ++ dd 111, v := [(64000000, .var [.i .i64, .i .i64, .srf 64000002, .srf 64000003, .srf 64000004, .srf 64000005, .srf 64000006, .srf 64000007, .srf 64000008]), (64000001, .var [.i .i64, .i .i64, .srf 64000009, .srf 64000010, .srf 64000011, .srf 64000012, .srf 64000013, .srf 64000014, .srf 64000015]), (64000002, .arr (.sl tyN)), (64000003, .arr tyP), (64000004, .arr tyO), (64000005, .arr tyF), (64000006, .arr tyF), (64000007, .arr (.int .i64)), (64000008, .arr (.int .i64)), (64000009, .arr (.sl tyN)), (64000010, .arr tyP), (64000011, .arr tyO), (64000012, .arr tyF), (64000013, .arr tyF), (64000014, .arr (.int .i64)), (64000015, .arr (.int .i64))] }, out := { t := [.s, .dead, .vptr 64000256 0, .dead, .dead, .i .i64, .dead, .vptr 64000257 0] ++ dd 112, v := [(64000256, .var [.i .i64, .i .i64, .srf 64000258, .srf 64000259, .srf 64000260, .srf 64000261, .srf 64000262, .srf 64000263, .srf 64000264]), (64000257, .var [.i .i64, .i .i64, .srf 64000265, .srf 64000266, .srf 64000267, .srf 64000268, .srf 64000269, .srf 64000270, .srf 64000271]), (64000258, .arr (.sl tyN)), (64000259, .arr tyP), (64000260, .arr tyO), (64000261, .arr tyF), (64000262, .arr tyF), (64000263, .arr (.int .i64)), (64000264, .arr (.int .i64)), (64000265, .arr (.sl tyN)), (64000266, .arr tyP), (64000267, .arr tyO), (64000268, .arr tyF), (64000269, .arr tyF), (64000270, .arr (.int .i64)), (64000271, .arr (.int .i64))] }, ret := none }), (2, { head := { t := [.s, .dead, .vptr 64002048 0, .dead, .dead, .i .i64, .i .i64, .vptr 64002049 0, .dead, .dead, .dead, .i .i64] ++ dd 108, v := [(64002048, .var [.i .i64, .i .i64, .srf 64002050, .srf 64002051, .srf 64002052, .srf 64002053, .srf 64002054, .srf 64002055, .srf 64002056]), (64002049, .var [.i .i64, .i .i64, .srf 64002057, .srf 64002058, .srf 64002059, .srf 64002060, .srf 64002061, .srf 64002062, .srf 64002063]), (64002050, .arr (.sl tyN)), (64002051, .arr tyP), (64002052, .arr tyO), (64002053, .arr tyF), (64002054, .arr tyF), (64002055, .arr (.int .i64)), (64002056, .arr (.int .i64)), (64002057, .arr (.sl tyN)), (64002058, .arr tyP), (64002059, .arr tyO), (64002060, .arr tyF), (64002061, .arr tyF), (64002062, .arr (.int .i64)), (64002063, .arr (.int .i64))] }, out := { t := [.s, .dead, .vptr 64002304 0, .dead, .dead, .i .i64, .dead, .vptr 64002305 0] ++ dd 112, v := [(64002304, .var [.i .i64, .i .i64, .srf 64002306, .srf 64002307, .srf 64002308, .srf 64002309, .srf 64002310, .srf 64002311, .srf 64002312]), (64002305, .var [.i .i64, .i .i64, .srf 64002313, .srf 64002314, .srf 64002315, .srf 64002316, .srf 64002317, .srf 64002318, .srf 64002319]), (64002306, .arr (.sl tyN)), (64002307, .arr tyP), (64002308, .arr tyO), (64002309, .arr tyF), (64002310, .arr tyF), (64002311, .arr (.int .i64)), (64002312, .arr (.int .i64)), (64002313, .arr (.sl tyN)), (64002314, .arr tyP), (64002315, .arr tyO), (64002316, .arr tyF), (64002317, .arr tyF), (64002318, .arr (.int .i64)), (64002319, .arr (.int .i64))] }, ret := none })] n
def k5 : Con := { f := 5, lend := true, its := [⟨false, false, [.s]⟩], lay := [none], rs := [⟨false, true, [.i .i64, .i .i64, .own (.sl tyN), .own tyP, .own tyO, .own tyF, .own tyF, .own (.int .i64), .own (.int .i64)]⟩, ⟨false, false, [.b]⟩], F := fun x => .ret ((((readUnixV x.1.1).1, (readUnixV x.1.1).2.1, (readUnixV x.1.1).2.2.1, (readUnixV x.1.1).2.2.2.1, (readUnixV x.1.1).2.2.2.2.1, (readUnixV x.1.1).2.2.2.2.2.1, (readUnixV x.1.1).2.2.2.2.2.2.1, (readUnixV x.1.1).2.2.2.2.2.2.2.1, (readUnixV x.1.1).2.2.2.2.2.2.2.2.1, ()), ((readUnixV x.1.1).2.2.2.2.2.2.2.2.2, ()), ()), ((), ())) }
theorem f5_eq (x : itemsD k5.its) : bo [k12, k13, k14, k15, k16, k17, k18, k19] f5_A Tryz.f5 k5 [.cell 2 29, .tmp 3] x = f5_tree x.1.1 := by kernel_rfl
theorem f5_ok (hr : ∀ x : (List UInt8 × Unit) × Unit, itemsWF k5.its x → (f5_tree x.1.1).eval = (k5.F x).eval) : k5.Ok Tryz.prog := con_fn [k12, k13, k14, k15, k16, k17, k18, k19] ⟨k12_ok, k13_ok, k14_ok, k15_ok, k16_ok, k17_ok, k18_ok, k19_ok, trivial⟩ f5_eq fun x hw _ hy => (hr x hw).trans hy
theorem k5_ok : k5.Ok Tryz.prog := by
  refine f5_ok fun x hw => ?_
  obtain ⟨⟨a0, _⟩, _⟩ := x
  show (f5_tree a0).eval = some ((((readUnixV a0).1, (readUnixV a0).2.1, (readUnixV a0).2.2.1, (readUnixV a0).2.2.2.1, (readUnixV a0).2.2.2.2.1, (readUnixV a0).2.2.2.2.2.1, (readUnixV a0).2.2.2.2.2.2.1, (readUnixV a0).2.2.2.2.2.2.2.1, (readUnixV a0).2.2.2.2.2.2.2.2.1, ()), ((readUnixV a0).2.2.2.2.2.2.2.2.2, ()), ()), ((), ()))
  obtain ⟨z1, hz1⟩ := (list_ats a0 (m := 6) (by decide)).2.2
  obtain ⟨z2, hz2⟩ := (list_ats a0 (m := 60) (by decide)).2.2
  have bad : unixQ (List.drop 1 a0) = none → readUnixV a0 = unixZ := fun h => by unfold readUnixV; rw [h]; rfl
  have hA := vars_ats a0 (n := 2) (by decide) (by decide)
  by_cases hl : 1 ≤ List.length a0
  case neg =>
    obtain rfl : a0 = [] := List.eq_nil_of_length_eq_zero (by omega)
    rw [bad rfl]
    unfold f5_tree
    exact (eval_get_some (show l3VarsV [] 1 2 = some ([], -1) from rfl)).trans ((eval_get_some (count_out _ _)).trans ((eval_ite_t rfl).trans rfl))
  cases e0 : numsP 2 (List.drop 1 a0) with
  | none =>
    rw [bad (by unfold unixQ; rw [seqP_none e0])]
    obtain ⟨z, hz⟩ := hA.2.1 1 hl e0
    unfold f5_tree
    exact (eval_get_some hz).trans ((eval_get_some (count_out _ _)).trans ((eval_ite_t rfl).trans rfl))
  | some x =>
    obtain ⟨h0, k0⟩ := x
    obtain ⟨nx, tk, rfl⟩ : ∃ n t, h0 = [n, t] := by
      have hl0 := (numsP_le e0).2.1
      rcases h0 with _ | ⟨n, _ | ⟨t, _ | ⟨z, r⟩⟩⟩
      · exact nomatch hl0
      · exact nomatch hl0
      · exact ⟨n, t, rfl⟩
      · simp at hl0
    obtain ⟨c0, c0l⟩ := hA.1 1 hl _ _ e0
    skip
    skip
    have h1 := many_at (f := f5_L0) (read_ats a0) (fun l => l) (fun n i p l => ((a0, p, ((n : Nat) : Int), ((i : Nat) : Int), ()), (((0 : Int), (0 : Int), ()), (nx, tk, ()), ([] : List (List InsD)), ([] : List ProcD), ([] : List OpenD), ([] : List CpuD), ([] : List CpuD), ([] : List Int), ([] : List Int), l, ([] : List ProcD), ([] : List OpenD), ([] : List CpuD), ([] : List CpuD), ([] : List Int), ([] : List Int), ()))) (fun p l => ((a0, p, ()), (((0 : Int), (0 : Int), ()), (nx, tk, ()), ([] : List (List InsD)), ([] : List ProcD), ([] : List OpenD), ([] : List CpuD), ([] : List CpuD), ([] : List Int), ([] : List Int), l, ([] : List ProcD), ([] : List OpenD), ([] : List CpuD), ([] : List CpuD), ([] : List Int), ([] : List Int), ()))) (m := 4) (by decide)
        (fun n i p l a e hn hi hl hp ha => by
          have h1 := wrap_succ (i := i) (by unfold BIG; omega)
          obtain ⟨y, hy, e1⟩ := map_some ha
          simp only [Prod.mk.injEq] at e1
          obtain ⟨rfl, rfl⟩ := e1
          refine ⟨_, ?_, fun _ => rfl⟩
          exact (eval_ite_t (by rw [decide_eq_true (show ((i : Nat) : Int) < ((n : Nat) : Int) by omega)]; rfl)).trans ((eval_ite_t (decide_eq_true (show p ≥ 0 by omega))).trans ((eval_get_some hy).trans ((eval_ite_t (lim_t (by simp; omega))).trans (by rw [← h1]; rfl)))))
        (fun n p l => (eval_ite_f (by rw [decide_eq_false (show ¬ ((n : Nat) : Int) < ((n : Nat) : Int) by omega)]; rfl)).trans rfl)
        (fun n i p l hi hp => (eval_ite_t (by rw [decide_eq_true (show ((i : Nat) : Int) < ((n : Nat) : Int) by omega)]; rfl)).trans ((eval_ite_f (decide_eq_false (show ¬ p ≥ 0 by omega))).trans rfl))
    skip
    have h2 (pg : List (List InsD)) := many_at (f := f5_L2) (proc_ats a0) (fun l => l) (fun n i p l => ((a0, p, ((n : Nat) : Int), ((i : Nat) : Int), ()), (((0 : Int), (0 : Int), ()), (nx, tk, ()), ([] : List (List InsD)), ([] : List ProcD), ([] : List OpenD), ([] : List CpuD), ([] : List CpuD), ([] : List Int), ([] : List Int), pg, l, ([] : List OpenD), ([] : List CpuD), ([] : List CpuD), ([] : List Int), ([] : List Int), ()))) (fun p l => ((a0, p, ()), (((0 : Int), (0 : Int), ()), (nx, tk, ()), ([] : List (List InsD)), ([] : List ProcD), ([] : List OpenD), ([] : List CpuD), ([] : List CpuD), ([] : List Int), ([] : List Int), pg, l, ([] : List OpenD), ([] : List CpuD), ([] : List CpuD), ([] : List Int), ([] : List Int), ()))) (m := 6) (by decide)
        (fun n i p l a e hn hi hl hp ha => by
          have h1 := wrap_succ (i := i) (by unfold BIG; omega)
          obtain ⟨y, hy, e1⟩ := map_some ha
          simp only [Prod.mk.injEq] at e1
          obtain ⟨rfl, rfl⟩ := e1
          refine ⟨_, ?_, fun _ => rfl⟩
          exact (eval_ite_t (by rw [decide_eq_true (show ((i : Nat) : Int) < ((n : Nat) : Int) by omega)]; rfl)).trans ((eval_ite_t (decide_eq_true (show p ≥ 0 by omega))).trans ((eval_get_some hy).trans ((eval_ite_t (lim_t (by simp; omega))).trans (by rw [← h1]; rfl)))))
        (fun n p l => (eval_ite_f (by rw [decide_eq_false (show ¬ ((n : Nat) : Int) < ((n : Nat) : Int) by omega)]; rfl)).trans rfl)
        (fun n i p l hi hp => (eval_ite_t (by rw [decide_eq_true (show ((i : Nat) : Int) < ((n : Nat) : Int) by omega)]; rfl)).trans ((eval_ite_f (decide_eq_false (show ¬ p ≥ 0 by omega))).trans rfl))
    have h3 := fun pg ps => things_at nx tk pg ps [] [] a0
    have fin : ∀ {pg : List (List InsD)} {ps : List ProcD}, ThingsIs nx tk pg ps [] [] a0 (-1) none := fun {pg ps} => (h3 pg ps).2
    cases e1 : manyP 4 progQ (List.drop (1 + k0) a0) with
    | none =>
      rw [bad (by unfold unixQ; rw [seqP_next e0, List.drop_drop, seqP_none e1])]
      obtain ⟨n, e, l, c1, c2⟩ := (h1.1 (1 + k0) c0l).2 e1
      unfold f5_tree
      by_cases he : e < 0
      · exact (eval_get_some c0).trans ((eval_get_some c1).trans ((eval_ite_t (decide_eq_true he)).trans rfl))
      · obtain ⟨os, pis, fis, c4⟩ := fin (pg := l) (ps := [])
        exact (eval_get_some c0).trans ((eval_get_some c1).trans ((eval_ite_f (decide_eq_false he)).trans ((eval_ite_t rfl).trans ((eval_get_some (x := nx) rfl).trans ((eval_ite_t rfl).trans ((eval_get_some (x := tk) rfl).trans ((eval_get_some c2).trans ((eval_get_some (count_out _ _)).trans ((eval_get_some (h2 l).2).trans ((eval_get_some c4).trans ((eval_get_some hz1).trans ((eval_get_some hz2).trans ((eval_ite_t rfl).trans rfl)))))))))))))
    | some x =>
      obtain ⟨pg, k1⟩ := x
      obtain ⟨n1, q1, c1, c1n, c2, c2l⟩ := (h1.1 (1 + k0) c0l).1 _ _ e1
      rw [List.map_id'] at c2
      have hd : (decide (q1 < (0 : Int))) = false := decide_eq_false (by omega)
      cases e2 : manyP 6 procQ (List.drop (1 + k0 + k1) a0) with
      | none =>
        rw [bad (by unfold unixQ; rw [seqP_next e0, List.drop_drop, seqP_next e1, List.drop_drop, seqP_none e2])]
        obtain ⟨n, e, l, d1, d2⟩ := ((h2 pg).1 (1 + k0 + k1) c2l).2 e2
        unfold f5_tree
        obtain ⟨os, pis, fis, c4⟩ := fin (pg := pg) (ps := l)
        exact (eval_get_some c0).trans ((eval_get_some c1).trans ((eval_ite_f hd).trans ((eval_ite_t rfl).trans ((eval_get_some (x := nx) rfl).trans ((eval_ite_t rfl).trans ((eval_get_some (x := tk) rfl).trans ((eval_get_some c2).trans ((eval_get_some d1).trans ((eval_get_some d2).trans ((eval_get_some c4).trans ((eval_get_some hz1).trans ((eval_get_some hz2).trans ((eval_ite_t rfl).trans rfl)))))))))))))
      | some x =>
        obtain ⟨ps, k2⟩ := x
        obtain ⟨n2, q2, d1, _, d2, d2l⟩ := ((h2 pg).1 (1 + k0 + k1) c2l).1 _ _ e2
        rw [List.map_id'] at d2
        have h4 := (h3 pg ps).1 (1 + k0 + k1 + k2) d2l
        have to3 : unixQ (List.drop 1 a0) = match (match thingsQ (List.drop (1 + k0 + k1 + k2) a0) with
            | none => none
            | some (x, k) => match seqP (listP 6) (zagsP 60) ((List.drop (1 + k0 + k1 + k2) a0).drop k) with
              | none => none
              | some (b, j) => some ((x.1, x.2.1, x.2.2, b), k + j) : Option ((List OpenD × List PipeD × List FileD × List Int × List Int) × Nat)) with
          | none => none
          | some (b, j) => some (([nx, tk], pg, ps, b), k0 + (k1 + (k2 + j))) := by
          unfold unixQ
          rw [seqP_next e0, List.drop_drop, seqP_next e1, List.drop_drop, seqP_next e2, List.drop_drop, things_then]
          cases thingsQ (List.drop (1 + k0 + k1 + k2) a0) with
          | none => rfl
          | some x =>
            obtain ⟨x, k⟩ := x
            dsimp only
            cases seqP (listP 6) (zagsP 60) ((List.drop (1 + k0 + k1 + k2) a0).drop k) with
            | none => rfl
            | some y => rfl
        cases e3 : thingsQ (List.drop (1 + k0 + k1 + k2) a0) with
        | none =>
          rw [e3] at h4 to3
          rw [bad to3]
          obtain ⟨os, pis, fis, c4⟩ := h4
          unfold f5_tree
          exact (eval_get_some c0).trans ((eval_get_some c1).trans ((eval_ite_f hd).trans ((eval_ite_t rfl).trans ((eval_get_some (x := nx) rfl).trans ((eval_ite_t rfl).trans ((eval_get_some (x := tk) rfl).trans ((eval_get_some c2).trans ((eval_get_some d1).trans ((eval_get_some d2).trans ((eval_get_some c4).trans ((eval_get_some hz1).trans ((eval_get_some hz2).trans ((eval_ite_t rfl).trans rfl)))))))))))))
        | some x =>
          obtain ⟨⟨os, pis, fis⟩, k3⟩ := x
          rw [e3] at h4 to3
          obtain ⟨c4, c4l⟩ := h4
          have c4 : k16_V nx tk pg ps [] [] [] [] [] a0 ((1 + k0 + k1 + k2 : Nat) : Int) = _ := c4
          have L6 := list_ats a0 (m := 6) (by decide)
          have L60 := list_ats a0 (m := 60) (by decide)
          cases e4 : listP 6 (List.drop (1 + k0 + k1 + k2 + k3) a0) with
          | none =>
            rw [bad (by rw [to3]; simp only [List.drop_drop]; rw [seqP_none e4])]
            obtain ⟨z, c5⟩ := L6.2.1 _ c4l e4
            unfold f5_tree
            exact (eval_get_some c0).trans ((eval_get_some c1).trans ((eval_ite_f hd).trans ((eval_ite_t rfl).trans ((eval_get_some (x := nx) rfl).trans ((eval_ite_t rfl).trans ((eval_get_some (x := tk) rfl).trans ((eval_get_some c2).trans ((eval_get_some d1).trans ((eval_get_some d2).trans ((eval_get_some c4).trans ((eval_get_some c5).trans ((eval_get_some hz2).trans ((eval_ite_t rfl).trans rfl)))))))))))))
          | some x =>
            obtain ⟨rd, k4⟩ := x
            obtain ⟨c5, c5l⟩ := L6.1 _ c4l _ _ e4
            cases e5 : listP 60 (List.drop (1 + k0 + k1 + k2 + k3 + k4) a0) with
            | none =>
              rw [bad (by rw [to3]; simp only [List.drop_drop]; rw [seqP_next e4, List.drop_drop, show zagsP 60 (List.drop (1 + k0 + k1 + k2 + k3 + k4) a0) = none from mapP_n e5])]
              obtain ⟨z, c6⟩ := L60.2.1 _ c5l e5
              unfold f5_tree
              exact (eval_get_some c0).trans ((eval_get_some c1).trans ((eval_ite_f hd).trans ((eval_ite_t rfl).trans ((eval_get_some (x := nx) rfl).trans ((eval_ite_t rfl).trans ((eval_get_some (x := tk) rfl).trans ((eval_get_some c2).trans ((eval_get_some d1).trans ((eval_get_some d2).trans ((eval_get_some c4).trans ((eval_get_some c5).trans ((eval_get_some c6).trans ((eval_ite_t rfl).trans rfl)))))))))))))
            | some x =>
              obtain ⟨ou, k5⟩ := x
              obtain ⟨c6, c6l⟩ := L60.1 _ c5l _ _ e5
              have hrd := (listP_le e4).2.1
              have hou := (listP_le e5).2.1
              have s1 : showUnixP nx tk pg ps os pis fis rd (ou.map zagV) = some (showUV nx tk pg ps os pis fis rd (ou.map zagV)) := if_pos (by rw [LIM_eq]; omega)
              have hu : readUnixV a0 = if showUV nx tk pg ps os pis fis rd (ou.map zagV) = a0 then (nx, tk, pg, ps, os, pis, fis, rd, ou.map zagV, true) else unixZ := by
                unfold readUnixV
                rw [to3]
                simp only [List.drop_drop]
                rw [seqP_next e4, List.drop_drop, show zagsP 60 (List.drop (1 + k0 + k1 + k2 + k3 + k4) a0) = some (ou.map zagV, k5) from mapP_t e5]
                rfl
              rw [hu]
              have h60 : decide (((1 + k0 + k1 + k2 + k3 + k4 + k5 : Nat) : Int) < 0) = false := decide_eq_false (by omega)
              unfold f5_tree
              refine (eval_get_some c0).trans ((eval_get_some c1).trans ((eval_ite_f hd).trans ((eval_ite_t rfl).trans ((eval_get_some (x := nx) rfl).trans ((eval_ite_t rfl).trans ((eval_get_some (x := tk) rfl).trans ((eval_get_some c2).trans ((eval_get_some d1).trans ((eval_get_some d2).trans ((eval_get_some c4).trans ((eval_get_some c5).trans ((eval_get_some c6).trans ((eval_ite_f h60).trans ((eval_get_some (zags_in (l := ou) (by omega))).trans ((eval_get_some s1).trans ?_)))))))))))))))
              by_cases hs : showUV nx tk pg ps os pis fis rd (ou.map zagV) = a0
              · rw [if_pos hs]
                exact (eval_ite_f (by simp [hs])).trans rfl
              · rw [if_neg hs]
                exact (eval_ite_t (by simp [hs])).trans rfl
end Go.Proofs.YtcpjdjgipmjhdaaGreat.Dm
