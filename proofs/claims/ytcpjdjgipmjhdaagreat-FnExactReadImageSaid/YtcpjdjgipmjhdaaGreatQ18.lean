/- Functions of the program, and what they compute. -/
import Derived.Test.YtcpjdjgipmjhdaaGreatQ17
namespace Go.Proofs.YtcpjdjgipmjhdaaGreat.Dm
open Go Go.ChangeShapes Go.WideShapes Go.ChangeAt Go.RowKit
abbrev ImageR := Int × Int × Int × List (List InsD) × List ProcD × List OpenD × List PipeD × List FileD × List Int × List Int × Bool
def isKindV : Str → Bool
  | c :: _ => c == 65 || c == 66
  | [] => false
def kindOfV : Str → Int
  | c :: _ => IntKind.i64.wrap (IntKind.i64.wrap (IntKind.u8.wrap (((UInt8.toNat c : Nat) : Int) - (65 : Int))) + 1)
  | [] => 0
def imgOkV (s : Str) : Bool := decide (5 ≤ s.length) && isKindV s && ((s.take 5).drop 1 == sumS (s.drop 5)) && (readUnixV (s.drop 5)).2.2.2.2.2.2.2.2.2
def readImageV (s : Str) : ImageR := if imgOkV s = true then (kindOfV s, (readUnixV (s.drop 5)).1, (readUnixV (s.drop 5)).2.1, (readUnixV (s.drop 5)).2.2.1, (readUnixV (s.drop 5)).2.2.2.1, (readUnixV (s.drop 5)).2.2.2.2.1, (readUnixV (s.drop 5)).2.2.2.2.2.1, (readUnixV (s.drop 5)).2.2.2.2.2.2.1, (readUnixV (s.drop 5)).2.2.2.2.2.2.2.1, (readUnixV (s.drop 5)).2.2.2.2.2.2.2.2.1, true) else (0, unixZ)
theorem readImageV_z {s : Str} (h : imgOkV s = false) : readImageV s = (0, unixZ) := by unfold readImageV; rw [if_neg (by rw [h]; decide)]
theorem u8_ne {c : UInt8} {k : Nat} (h : c.toNat ≠ k) : (((UInt8.toNat c : Nat) : Int) != ((k : Nat) : Int)) = true := by
  rw [bne_iff_ne]
  omega
def f10_tree (a0 : List UInt8) : Out (((Int × Unit) × UnixD × (Bool × Unit) × Unit) × (Unit × Unit)) :=
 .ite ((decide (((List.length a0 : Nat) : Int) < (5 : Int))) == false)
 (.ite (decide (0 ≤ (0 : Int)))
 (.get (nth a0 (Int.toNat (0 : Int))) fun y1 =>
 .ite (((((UInt8.toNat y1 : Nat) : Int) != (65 : Int))) == true)
 (.ite (decide (0 ≤ (0 : Int)))
 (.get (nth a0 (Int.toNat (0 : Int))) fun y2 =>
 .ite (((((UInt8.toNat y2 : Nat) : Int) != (66 : Int))) == false)
 (.ite (decide (0 ≤ (1 : Int) ∧ (1 : Int) ≤ (5 : Int) ∧ (5 : Int) ≤ ((List.length a0 : Nat) : Int)))
 (.ite (decide (0 ≤ (5 : Int) ∧ (5 : Int) ≤ ((List.length a0 : Nat) : Int)))
 (.get (fixedV (crcV (List.drop (Int.toNat (5 : Int)) a0)) (4 : Int)) fun y3 =>
 .ite ((List.drop (Int.toNat (1 : Int)) (List.take (Int.toNat (5 : Int)) a0)) != y3)
 (.ret ((((0 : Int), ()), ((0 : Int), (0 : Int), ([] : List (List InsD)), ([] : List ProcD), ([] : List OpenD), ([] : List CpuD), ([] : List CpuD), ([] : List Int), ([] : List Int), ()), (false, ()), ()), ((), ())))
 (.ite (decide (0 ≤ (5 : Int) ∧ (5 : Int) ≤ ((List.length a0 : Nat) : Int)))
 (.ite (!(readUnixV (List.drop (Int.toNat (5 : Int)) a0)).2.2.2.2.2.2.2.2.2)
 (.ret ((((0 : Int), ()), ((0 : Int), (0 : Int), ([] : List (List InsD)), ([] : List ProcD), ([] : List OpenD), ([] : List CpuD), ([] : List CpuD), ([] : List Int), ([] : List Int), ()), (false, ()), ()), ((), ())))
 (.ite (decide (0 ≤ (0 : Int)))
 (.get (nth a0 (Int.toNat (0 : Int))) fun y4 =>
 .ret ((((IntKind.i64.wrap ((IntKind.i64.wrap (IntKind.u8.wrap (((UInt8.toNat y4 : Nat) : Int) - (65 : Int)))) + (1 : Int))), ()), ((readUnixV (List.drop (Int.toNat (5 : Int)) a0)).1, (readUnixV (List.drop (Int.toNat (5 : Int)) a0)).2.1, (readUnixV (List.drop (Int.toNat (5 : Int)) a0)).2.2.1, (readUnixV (List.drop (Int.toNat (5 : Int)) a0)).2.2.2.1, (readUnixV (List.drop (Int.toNat (5 : Int)) a0)).2.2.2.2.1, (readUnixV (List.drop (Int.toNat (5 : Int)) a0)).2.2.2.2.2.1, (readUnixV (List.drop (Int.toNat (5 : Int)) a0)).2.2.2.2.2.2.1, (readUnixV (List.drop (Int.toNat (5 : Int)) a0)).2.2.2.2.2.2.2.1, (readUnixV (List.drop (Int.toNat (5 : Int)) a0)).2.2.2.2.2.2.2.2.1, ()), (true, ()), ()), ((), ())))
 .fail))
 .fail))
 .fail)
 .fail)
 (.ret ((((0 : Int), ()), ((0 : Int), (0 : Int), ([] : List (List InsD)), ([] : List ProcD), ([] : List OpenD), ([] : List CpuD), ([] : List CpuD), ([] : List Int), ([] : List Int), ()), (false, ()), ()), ((), ()))))
 .fail)
 (.ite (decide (0 ≤ (1 : Int) ∧ (1 : Int) ≤ (5 : Int) ∧ (5 : Int) ≤ ((List.length a0 : Nat) : Int)))
 (.ite (decide (0 ≤ (5 : Int) ∧ (5 : Int) ≤ ((List.length a0 : Nat) : Int)))
 (.get (fixedV (crcV (List.drop (Int.toNat (5 : Int)) a0)) (4 : Int)) fun y5 =>
 .ite ((List.drop (Int.toNat (1 : Int)) (List.take (Int.toNat (5 : Int)) a0)) != y5)
 (.ret ((((0 : Int), ()), ((0 : Int), (0 : Int), ([] : List (List InsD)), ([] : List ProcD), ([] : List OpenD), ([] : List CpuD), ([] : List CpuD), ([] : List Int), ([] : List Int), ()), (false, ()), ()), ((), ())))
 (.ite (decide (0 ≤ (5 : Int) ∧ (5 : Int) ≤ ((List.length a0 : Nat) : Int)))
 (.ite (!(readUnixV (List.drop (Int.toNat (5 : Int)) a0)).2.2.2.2.2.2.2.2.2)
 (.ret ((((0 : Int), ()), ((0 : Int), (0 : Int), ([] : List (List InsD)), ([] : List ProcD), ([] : List OpenD), ([] : List CpuD), ([] : List CpuD), ([] : List Int), ([] : List Int), ()), (false, ()), ()), ((), ())))
 (.ite (decide (0 ≤ (0 : Int)))
 (.get (nth a0 (Int.toNat (0 : Int))) fun y6 =>
 .ret ((((IntKind.i64.wrap ((IntKind.i64.wrap (IntKind.u8.wrap (((UInt8.toNat y6 : Nat) : Int) - (65 : Int)))) + (1 : Int))), ()), ((readUnixV (List.drop (Int.toNat (5 : Int)) a0)).1, (readUnixV (List.drop (Int.toNat (5 : Int)) a0)).2.1, (readUnixV (List.drop (Int.toNat (5 : Int)) a0)).2.2.1, (readUnixV (List.drop (Int.toNat (5 : Int)) a0)).2.2.2.1, (readUnixV (List.drop (Int.toNat (5 : Int)) a0)).2.2.2.2.1, (readUnixV (List.drop (Int.toNat (5 : Int)) a0)).2.2.2.2.2.1, (readUnixV (List.drop (Int.toNat (5 : Int)) a0)).2.2.2.2.2.2.1, (readUnixV (List.drop (Int.toNat (5 : Int)) a0)).2.2.2.2.2.2.2.1, (readUnixV (List.drop (Int.toNat (5 : Int)) a0)).2.2.2.2.2.2.2.2.1, ()), (true, ()), ()), ((), ())))
 .fail))
 .fail))
 .fail)
 .fail))
 .fail)
 (.ret ((((0 : Int), ()), ((0 : Int), (0 : Int), ([] : List (List InsD)), ([] : List ProcD), ([] : List OpenD), ([] : List CpuD), ([] : List CpuD), ([] : List Int), ([] : List Int), ()), (false, ()), ()), ((), ())))
def k10 : Con := { f := 10, lend := true, its := [⟨false, false, [.s]⟩], lay := [none], rs := [⟨false, false, [.i .i64]⟩, ⟨false, true, [.i .i64, .i .i64, .own (.sl tyN), .own tyP, .own tyO, .own tyF, .own tyF, .own (.int .i64), .own (.int .i64)]⟩, ⟨false, false, [.b]⟩], F := fun x => .ret ((((readImageV x.1.1).1, ()), ((readImageV x.1.1).2.1, (readImageV x.1.1).2.2.1, (readImageV x.1.1).2.2.2.1, (readImageV x.1.1).2.2.2.2.1, (readImageV x.1.1).2.2.2.2.2.1, (readImageV x.1.1).2.2.2.2.2.2.1, (readImageV x.1.1).2.2.2.2.2.2.2.1, (readImageV x.1.1).2.2.2.2.2.2.2.2.1, (readImageV x.1.1).2.2.2.2.2.2.2.2.2.1, ()), ((readImageV x.1.1).2.2.2.2.2.2.2.2.2.2, ()), ()), ((), ())) }
theorem f10_eq (x : itemsD k10.its) : bo [k42, k41, k5] (fun _ => none) Tryz.f10 k10 [.tmp 2, .cell 3 29, .tmp 4] x = f10_tree x.1.1 := by kernel_rfl
theorem f10_ok (hr : ∀ x : (List UInt8 × Unit) × Unit, itemsWF k10.its x → (f10_tree x.1.1).eval = (k10.F x).eval) : k10.Ok Tryz.prog := con_fn [k42, k41, k5] ⟨k42_ok, k41_ok, k5_ok, trivial⟩ f10_eq fun x hw _ hy => (hr x hw).trans hy
theorem k10_ok : k10.Ok Tryz.prog := by
  refine f10_ok fun x hw => ?_
  obtain ⟨⟨a0, _⟩, _⟩ := x
  show (f10_tree a0).eval = some ((((readImageV a0).1, ()), ((readImageV a0).2.1, (readImageV a0).2.2.1, (readImageV a0).2.2.2.1, (readImageV a0).2.2.2.2.1, (readImageV a0).2.2.2.2.2.1, (readImageV a0).2.2.2.2.2.2.1, (readImageV a0).2.2.2.2.2.2.2.1, (readImageV a0).2.2.2.2.2.2.2.2.1, (readImageV a0).2.2.2.2.2.2.2.2.2.1, ()), ((readImageV a0).2.2.2.2.2.2.2.2.2.2, ()), ()), ((), ()))
  unfold f10_tree
  by_cases hl : 5 ≤ List.length a0
  case neg =>
    rw [readImageV_z (by unfold imgOkV; rw [decide_eq_false hl]; rfl)]
    exact (eval_ite_f (by rw [decide_eq_true (by omega)]; rfl)).trans rfl
  have h5 : ((decide (((List.length a0 : Nat) : Int) < (5 : Int))) == false) = true := by rw [decide_eq_false (by omega)]; rfl
  have h15 : decide (0 ≤ (1 : Int) ∧ (1 : Int) ≤ (5 : Int) ∧ (5 : Int) ≤ ((List.length a0 : Nat) : Int)) = true := decide_eq_true (by omega)
  have h05 : decide (0 ≤ (5 : Int) ∧ (5 : Int) ≤ ((List.length a0 : Nat) : Int)) = true := decide_eq_true (by omega)
  rcases a0 with _ | ⟨c, r⟩
  · exact absurd hl (by simp)
  by_cases hk : c = 65 ∨ c = 66
  case neg =>
    simp only [not_or] at hk
    have k1 : (((UInt8.toNat c : Nat) : Int) != (65 : Int)) = true := u8_ne (k := 65) fun e => hk.1 (UInt8.toNat_inj.1 e)
    have k2 : (((UInt8.toNat c : Nat) : Int) != (66 : Int)) = true := u8_ne (k := 66) fun e => hk.2 (UInt8.toNat_inj.1 e)
    rw [readImageV_z (by unfold imgOkV isKindV; simp [hk.1, hk.2])]
    exact (eval_ite_t h5).trans ((eval_ite_t rfl).trans ((eval_get_some (x := c) rfl).trans ((eval_ite_t (by rw [k1]; rfl)).trans ((eval_ite_t rfl).trans ((eval_get_some (x := c) rfl).trans ((eval_ite_f (by rw [k2]; rfl)).trans rfl))))))
  have hkv : isKindV (c :: r) = true := by rcases hk with rfl | rfl <;> rfl
  by_cases hs : List.drop 1 (List.take 5 (c :: r)) = sumS (List.drop 5 (c :: r))
  case neg =>
    rw [readImageV_z (by unfold imgOkV; rw [show (List.drop 1 (List.take 5 (c :: r)) == sumS (List.drop 5 (c :: r))) = false from beq_false_of_ne hs]; simp)]
    have hn : ((List.drop (Int.toNat (1 : Int)) (List.take (Int.toNat (5 : Int)) (c :: r))) != sumS (List.drop 5 (c :: r))) = true := by
      show (List.drop 1 (List.take 5 (c :: r)) != sumS (List.drop 5 (c :: r))) = true
      simpa using hs
    rcases hk with rfl | rfl
    · exact (eval_ite_t h5).trans ((eval_ite_t rfl).trans ((eval_get_some (x := 65) rfl).trans ((eval_ite_f rfl).trans ((eval_ite_t h15).trans ((eval_ite_t h05).trans ((eval_get_some (fixed_crc _)).trans ((eval_ite_t hn).trans rfl)))))))
    · exact (eval_ite_t h5).trans ((eval_ite_t rfl).trans ((eval_get_some (x := 66) rfl).trans ((eval_ite_t rfl).trans ((eval_ite_t rfl).trans ((eval_get_some (x := 66) rfl).trans ((eval_ite_t rfl).trans ((eval_ite_t h15).trans ((eval_ite_t h05).trans ((eval_get_some (fixed_crc _)).trans ((eval_ite_t hn).trans rfl))))))))))
  have hn : ((List.drop (Int.toNat (1 : Int)) (List.take (Int.toNat (5 : Int)) (c :: r))) != sumS (List.drop 5 (c :: r))) = false := by
    show (List.drop 1 (List.take 5 (c :: r)) != sumS (List.drop 5 (c :: r))) = false
    simpa using hs
  have hb : (List.drop 1 (List.take 5 (c :: r)) == sumS (List.drop 5 (c :: r))) = true := by simpa using hs
  cases ho : (readUnixV (List.drop 5 (c :: r))).2.2.2.2.2.2.2.2.2 with
  | false =>
    rw [readImageV_z (by unfold imgOkV; rw [ho]; simp)]
    have hn2 : (!(readUnixV (List.drop (Int.toNat (5 : Int)) (c :: r))).2.2.2.2.2.2.2.2.2) = true := by rw [show Int.toNat (5 : Int) = 5 from rfl, ho]; rfl
    rcases hk with rfl | rfl
    · exact (eval_ite_t h5).trans ((eval_ite_t rfl).trans ((eval_get_some (x := 65) rfl).trans ((eval_ite_f rfl).trans ((eval_ite_t h15).trans ((eval_ite_t h05).trans ((eval_get_some (fixed_crc _)).trans ((eval_ite_f hn).trans ((eval_ite_t h05).trans ((eval_ite_t hn2).trans rfl)))))))))
    · exact (eval_ite_t h5).trans ((eval_ite_t rfl).trans ((eval_get_some (x := 66) rfl).trans ((eval_ite_t rfl).trans ((eval_ite_t rfl).trans ((eval_get_some (x := 66) rfl).trans ((eval_ite_t rfl).trans ((eval_ite_t h15).trans ((eval_ite_t h05).trans ((eval_get_some (fixed_crc _)).trans ((eval_ite_f hn).trans ((eval_ite_t h05).trans ((eval_ite_t hn2).trans rfl))))))))))))
  | true =>
    have hi : imgOkV (c :: r) = true := by unfold imgOkV; rw [ho, hkv, hb, decide_eq_true hl]; rfl
    have hn2 : (!(readUnixV (List.drop (Int.toNat (5 : Int)) (c :: r))).2.2.2.2.2.2.2.2.2) = false := by rw [show Int.toNat (5 : Int) = 5 from rfl, ho]; rfl
    unfold readImageV
    rw [if_pos hi]
    rcases hk with rfl | rfl
    · exact (eval_ite_t h5).trans ((eval_ite_t rfl).trans ((eval_get_some (x := 65) rfl).trans ((eval_ite_f rfl).trans ((eval_ite_t h15).trans ((eval_ite_t h05).trans ((eval_get_some (fixed_crc _)).trans ((eval_ite_f hn).trans ((eval_ite_t h05).trans ((eval_ite_f hn2).trans ((eval_ite_t rfl).trans ((eval_get_some (x := 65) rfl).trans rfl)))))))))))
    · exact (eval_ite_t h5).trans ((eval_ite_t rfl).trans ((eval_get_some (x := 66) rfl).trans ((eval_ite_t rfl).trans ((eval_ite_t rfl).trans ((eval_get_some (x := 66) rfl).trans ((eval_ite_t rfl).trans ((eval_ite_t h15).trans ((eval_ite_t h05).trans ((eval_get_some (fixed_crc _)).trans ((eval_ite_f hn).trans ((eval_ite_t h05).trans ((eval_ite_f hn2).trans ((eval_ite_t rfl).trans ((eval_get_some (x := 66) rfl).trans rfl))))))))))))))
def imageP (k : Str) (next tick : Int) (progs : List (List InsD)) (ps : List ProcD) (os : List OpenD) (pipes : List PipeD) (files : List FileD) (rd out : List Int) : Option Str :=
  if rd.length ≤ LIM ∧ k.length ≤ 1000 then some (k ++ sumS (showUV next tick progs ps os pipes files rd out) ++ showUV next tick progs ps os pipes files rd out) else none
theorem showUV_len (next tick : Int) (progs : List (List InsD)) (ps : List ProcD) (os : List OpenD) (pipes : List PipeD) (files : List FileD) (rd out : List Int) : (showUV next tick progs ps os pipes files rd out).length ≤ 20000 := by
  unfold showUV
  split
  · exact unixT_len ‹_›
  · simp
def f43_tree (a0 : List UInt8) (a1 : Int) (a2 : Int) (a3 : List (List InsD)) (a4 : List ProcD) (a5 : List OpenD) (a6 : List CpuD) (a7 : List CpuD) (a8 : List Int) (a9 : List Int) : Out (((List UInt8 × Unit) × Unit) × (Unit × Unit × Unit)) :=
 .get (showUnixP a1 a2 a3 a4 a5 a6 a7 a8 a9) fun y1 =>
 .get (fixedV (crcV y1) (4 : Int)) fun y2 =>
 .ite (decide (List.length a0 + List.length y2 ≤ LIM))
 (.ite (decide (List.length (a0 ++ y2) + List.length y1 ≤ LIM))
 (.ret (((((a0 ++ y2) ++ y1), ()), ()), ((), (), ())))
 .fail)
 .fail
def k43 : Con := { f := 43, lend := true, its := [⟨false, false, [.s]⟩, ⟨false, true, [.i .i64, .i .i64, .ro (.sl tyN), .ro tyP, .ro tyO, .ro tyF, .ro tyF, .ro (.int .i64), .ro (.int .i64)]⟩], lay := [none, none], rs := [⟨false, false, [.s]⟩], F := fun x => .get (imageP x.1.1 x.2.1.1 x.2.1.2.1 x.2.1.2.2.1 x.2.1.2.2.2.1 x.2.1.2.2.2.2.1 x.2.1.2.2.2.2.2.1 x.2.1.2.2.2.2.2.2.1 x.2.1.2.2.2.2.2.2.2.1 x.2.1.2.2.2.2.2.2.2.2.1) fun y => .ret (((y, ()), ()), ((), (), ())) }
theorem f43_eq (x : itemsD k43.its) : bo [k22, k72, k71] (fun _ => none) Tryz.f43 k43 [.tmp 4] x = f43_tree x.1.1 x.2.1.1 x.2.1.2.1 x.2.1.2.2.1 x.2.1.2.2.2.1 x.2.1.2.2.2.2.1 x.2.1.2.2.2.2.2.1 x.2.1.2.2.2.2.2.2.1 x.2.1.2.2.2.2.2.2.2.1 x.2.1.2.2.2.2.2.2.2.2.1 := by kernel_rfl
theorem f43_okp (hr : ∀ x : (List UInt8 × Unit) × UnixD × Unit, itemsWF k43.its x → ∀ y, (k43.F x).eval = some y → (f43_tree x.1.1 x.2.1.1 x.2.1.2.1 x.2.1.2.2.1 x.2.1.2.2.2.1 x.2.1.2.2.2.2.1 x.2.1.2.2.2.2.2.1 x.2.1.2.2.2.2.2.2.1 x.2.1.2.2.2.2.2.2.2.1 x.2.1.2.2.2.2.2.2.2.2.1).eval = some y) : k43.Ok Tryz.prog := con_fn [k22, k72, k71] ⟨k22_ok, k72_ok, k71_ok, trivial⟩ f43_eq hr
theorem k43_ok : k43.Ok Tryz.prog := by
  refine f43_okp fun x hw y hy => ?_
  obtain ⟨⟨a0, _⟩, ⟨a1, a2, a3, a4, a5, a6, a7, a8, a9, _⟩, _⟩ := x
  have l3 : List.length a3 ≤ BIG := hw.2.1.1.1
  have l4 : List.length a4 ≤ BIG := hw.2.1.2.1.1
  have l5 : List.length a5 ≤ BIG := hw.2.1.2.2.1.1
  have l6 : List.length a6 ≤ BIG := hw.2.1.2.2.2.1.1
  have l7 : List.length a7 ≤ BIG := hw.2.1.2.2.2.2.1.1
  have l8 : List.length a8 ≤ BIG := hw.2.1.2.2.2.2.2.1.1
  have l9 : List.length a9 ≤ BIG := hw.2.1.2.2.2.2.2.2.1.1
  change (Out.get (imageP a0 a1 a2 a3 a4 a5 a6 a7 a8 a9) fun y => Out.ret (((y, ()), ()), ((), (), ()))).eval = some y at hy
  show (f43_tree a0 a1 a2 a3 a4 a5 a6 a7 a8 a9).eval = some y
  unfold imageP at hy
  split at hy
  case isFalse => exact nomatch hy
  rename_i hl
  refine Eq.trans ?_ hy
  unfold f43_tree
  have s1 : showUnixP a1 a2 a3 a4 a5 a6 a7 a8 a9 = some (showUV a1 a2 a3 a4 a5 a6 a7 a8 a9) := if_pos hl.1
  have h1 := showUV_len a1 a2 a3 a4 a5 a6 a7 a8 a9
  have h2 := sumS_len (showUV a1 a2 a3 a4 a5 a6 a7 a8 a9)
  exact (eval_get_some s1).trans ((eval_get_some (fixed_crc _)).trans ((eval_ite_t (lim_t (by omega))).trans ((eval_ite_t (lim_t (by rw [List.length_append]; omega))).trans rfl)))
theorem readUnixV_ok {s : Str} (h : (readUnixV s).2.2.2.2.2.2.2.2.2 = true) :
    showUV (readUnixV s).1 (readUnixV s).2.1 (readUnixV s).2.2.1 (readUnixV s).2.2.2.1 (readUnixV s).2.2.2.2.1 (readUnixV s).2.2.2.2.2.1 (readUnixV s).2.2.2.2.2.2.1 (readUnixV s).2.2.2.2.2.2.2.1 (readUnixV s).2.2.2.2.2.2.2.2.1 = s ∧ (readUnixV s).2.2.2.2.2.2.2.1.length ≤ 1000 := by
  refine ⟨?_, (read_szc s).2.2.2.2.2.1⟩
  unfold readUnixV at h ⊢
  cases e : unixQ (s.drop 1) with
  | none => rw [e] at h; exact nomatch h
  | some x =>
    rw [e] at h
    obtain ⟨⟨h0, pg, ps, os, pp, fl, rd, ou⟩, k⟩ := x
    obtain ⟨n, t, h2⟩ := unixQ_two e
    simp only at h2
    subst h2
    simp only [unixOf] at h ⊢
    by_cases hs : showUV n t pg ps os pp fl rd ou = s
    · rw [if_pos hs]; exact hs
    · rw [if_neg hs] at h; exact nomatch h
def f11_tree (a0 : List UInt8) : Out (((Int × Unit) × UnixD × (Bool × Unit) × Unit) × (Unit × Unit)) :=
 .ite ((decide (((List.length a0 : Nat) : Int) < (5 : Int))) == false)
 (.ite (decide (0 ≤ (0 : Int)))
 (.get (nth a0 (Int.toNat (0 : Int))) fun y1 =>
 .ite (((((UInt8.toNat y1 : Nat) : Int) != (65 : Int))) == true)
 (.ite (decide (0 ≤ (0 : Int)))
 (.get (nth a0 (Int.toNat (0 : Int))) fun y2 =>
 .ite ((((UInt8.toNat y2 : Nat) : Int) != (66 : Int)))
 (.ret ((((0 : Int), ()), ((0 : Int), (0 : Int), ([] : List (List InsD)), ([] : List ProcD), ([] : List OpenD), ([] : List CpuD), ([] : List CpuD), ([] : List Int), ([] : List Int), ()), (false, ()), ()), ((), ())))
 (.ite (decide (0 ≤ (5 : Int) ∧ (5 : Int) ≤ ((List.length a0 : Nat) : Int)))
 (.ite ((!(readUnixV (List.drop (Int.toNat (5 : Int)) a0)).2.2.2.2.2.2.2.2.2) == false)
 (.ite (decide (0 ≤ (0 : Int) ∧ (0 : Int) ≤ (1 : Int) ∧ (1 : Int) ≤ ((List.length a0 : Nat) : Int)))
 (.get (imageP (List.drop (Int.toNat (0 : Int)) (List.take (Int.toNat (1 : Int)) a0)) (readUnixV (List.drop (Int.toNat (5 : Int)) a0)).1 (readUnixV (List.drop (Int.toNat (5 : Int)) a0)).2.1 (readUnixV (List.drop (Int.toNat (5 : Int)) a0)).2.2.1 (readUnixV (List.drop (Int.toNat (5 : Int)) a0)).2.2.2.1 (readUnixV (List.drop (Int.toNat (5 : Int)) a0)).2.2.2.2.1 (readUnixV (List.drop (Int.toNat (5 : Int)) a0)).2.2.2.2.2.1 (readUnixV (List.drop (Int.toNat (5 : Int)) a0)).2.2.2.2.2.2.1 (readUnixV (List.drop (Int.toNat (5 : Int)) a0)).2.2.2.2.2.2.2.1 (readUnixV (List.drop (Int.toNat (5 : Int)) a0)).2.2.2.2.2.2.2.2.1) fun y3 =>
 .ite (y3 != a0)
 (.ret ((((0 : Int), ()), ((0 : Int), (0 : Int), ([] : List (List InsD)), ([] : List ProcD), ([] : List OpenD), ([] : List CpuD), ([] : List CpuD), ([] : List Int), ([] : List Int), ()), (false, ()), ()), ((), ())))
 (.ite (decide (0 ≤ (0 : Int)))
 (.get (nth a0 (Int.toNat (0 : Int))) fun y4 =>
 .ret ((((IntKind.i64.wrap ((IntKind.i64.wrap (IntKind.u8.wrap (((UInt8.toNat y4 : Nat) : Int) - (65 : Int)))) + (1 : Int))), ()), ((readUnixV (List.drop (Int.toNat (5 : Int)) a0)).1, (readUnixV (List.drop (Int.toNat (5 : Int)) a0)).2.1, (readUnixV (List.drop (Int.toNat (5 : Int)) a0)).2.2.1, (readUnixV (List.drop (Int.toNat (5 : Int)) a0)).2.2.2.1, (readUnixV (List.drop (Int.toNat (5 : Int)) a0)).2.2.2.2.1, (readUnixV (List.drop (Int.toNat (5 : Int)) a0)).2.2.2.2.2.1, (readUnixV (List.drop (Int.toNat (5 : Int)) a0)).2.2.2.2.2.2.1, (readUnixV (List.drop (Int.toNat (5 : Int)) a0)).2.2.2.2.2.2.2.1, (readUnixV (List.drop (Int.toNat (5 : Int)) a0)).2.2.2.2.2.2.2.2.1, ()), (true, ()), ()), ((), ())))
 .fail))
 .fail)
 (.ret ((((0 : Int), ()), ((0 : Int), (0 : Int), ([] : List (List InsD)), ([] : List ProcD), ([] : List OpenD), ([] : List CpuD), ([] : List CpuD), ([] : List Int), ([] : List Int), ()), (false, ()), ()), ((), ()))))
 .fail))
 .fail)
 (.ite (decide (0 ≤ (5 : Int) ∧ (5 : Int) ≤ ((List.length a0 : Nat) : Int)))
 (.ite ((!(readUnixV (List.drop (Int.toNat (5 : Int)) a0)).2.2.2.2.2.2.2.2.2) == false)
 (.ite (decide (0 ≤ (0 : Int) ∧ (0 : Int) ≤ (1 : Int) ∧ (1 : Int) ≤ ((List.length a0 : Nat) : Int)))
 (.get (imageP (List.drop (Int.toNat (0 : Int)) (List.take (Int.toNat (1 : Int)) a0)) (readUnixV (List.drop (Int.toNat (5 : Int)) a0)).1 (readUnixV (List.drop (Int.toNat (5 : Int)) a0)).2.1 (readUnixV (List.drop (Int.toNat (5 : Int)) a0)).2.2.1 (readUnixV (List.drop (Int.toNat (5 : Int)) a0)).2.2.2.1 (readUnixV (List.drop (Int.toNat (5 : Int)) a0)).2.2.2.2.1 (readUnixV (List.drop (Int.toNat (5 : Int)) a0)).2.2.2.2.2.1 (readUnixV (List.drop (Int.toNat (5 : Int)) a0)).2.2.2.2.2.2.1 (readUnixV (List.drop (Int.toNat (5 : Int)) a0)).2.2.2.2.2.2.2.1 (readUnixV (List.drop (Int.toNat (5 : Int)) a0)).2.2.2.2.2.2.2.2.1) fun y5 =>
 .ite (y5 != a0)
 (.ret ((((0 : Int), ()), ((0 : Int), (0 : Int), ([] : List (List InsD)), ([] : List ProcD), ([] : List OpenD), ([] : List CpuD), ([] : List CpuD), ([] : List Int), ([] : List Int), ()), (false, ()), ()), ((), ())))
 (.ite (decide (0 ≤ (0 : Int)))
 (.get (nth a0 (Int.toNat (0 : Int))) fun y6 =>
 .ret ((((IntKind.i64.wrap ((IntKind.i64.wrap (IntKind.u8.wrap (((UInt8.toNat y6 : Nat) : Int) - (65 : Int)))) + (1 : Int))), ()), ((readUnixV (List.drop (Int.toNat (5 : Int)) a0)).1, (readUnixV (List.drop (Int.toNat (5 : Int)) a0)).2.1, (readUnixV (List.drop (Int.toNat (5 : Int)) a0)).2.2.1, (readUnixV (List.drop (Int.toNat (5 : Int)) a0)).2.2.2.1, (readUnixV (List.drop (Int.toNat (5 : Int)) a0)).2.2.2.2.1, (readUnixV (List.drop (Int.toNat (5 : Int)) a0)).2.2.2.2.2.1, (readUnixV (List.drop (Int.toNat (5 : Int)) a0)).2.2.2.2.2.2.1, (readUnixV (List.drop (Int.toNat (5 : Int)) a0)).2.2.2.2.2.2.2.1, (readUnixV (List.drop (Int.toNat (5 : Int)) a0)).2.2.2.2.2.2.2.2.1, ()), (true, ()), ()), ((), ())))
 .fail))
 .fail)
 (.ret ((((0 : Int), ()), ((0 : Int), (0 : Int), ([] : List (List InsD)), ([] : List ProcD), ([] : List OpenD), ([] : List CpuD), ([] : List CpuD), ([] : List Int), ([] : List Int), ()), (false, ()), ()), ((), ()))))
 .fail))
 .fail)
 (.ret ((((0 : Int), ()), ((0 : Int), (0 : Int), ([] : List (List InsD)), ([] : List ProcD), ([] : List OpenD), ([] : List CpuD), ([] : List CpuD), ([] : List Int), ([] : List Int), ()), (false, ()), ()), ((), ())))
def k11 : Con := { f := 11, lend := true, its := [⟨false, false, [.s]⟩], lay := [none], rs := [⟨false, false, [.i .i64]⟩, ⟨false, true, [.i .i64, .i .i64, .own (.sl tyN), .own tyP, .own tyO, .own tyF, .own tyF, .own (.int .i64), .own (.int .i64)]⟩, ⟨false, false, [.b]⟩], F := fun x => .ret ((((readImageV x.1.1).1, ()), ((readImageV x.1.1).2.1, (readImageV x.1.1).2.2.1, (readImageV x.1.1).2.2.2.1, (readImageV x.1.1).2.2.2.2.1, (readImageV x.1.1).2.2.2.2.2.1, (readImageV x.1.1).2.2.2.2.2.2.1, (readImageV x.1.1).2.2.2.2.2.2.2.1, (readImageV x.1.1).2.2.2.2.2.2.2.2.1, (readImageV x.1.1).2.2.2.2.2.2.2.2.2.1, ()), ((readImageV x.1.1).2.2.2.2.2.2.2.2.2.2, ()), ()), ((), ())) }
theorem f11_eq (x : itemsD k11.its) : bo [k6, k43] (fun _ => none) Tryz.f11 k11 [.tmp 2, .cell 3 29, .tmp 4] x = f11_tree x.1.1 := by kernel_rfl
theorem f11_ok (hr : ∀ x : (List UInt8 × Unit) × Unit, itemsWF k11.its x → (f11_tree x.1.1).eval = (k11.F x).eval) : k11.Ok Tryz.prog := con_fn [k6, k43] ⟨k6_ok, k43_ok, trivial⟩ f11_eq fun x hw _ hy => (hr x hw).trans hy
theorem k11_ok : k11.Ok Tryz.prog := by
  refine f11_ok fun x hw => ?_
  obtain ⟨⟨a0, _⟩, _⟩ := x
  show (f11_tree a0).eval = some ((((readImageV a0).1, ()), ((readImageV a0).2.1, (readImageV a0).2.2.1, (readImageV a0).2.2.2.1, (readImageV a0).2.2.2.2.1, (readImageV a0).2.2.2.2.2.1, (readImageV a0).2.2.2.2.2.2.1, (readImageV a0).2.2.2.2.2.2.2.1, (readImageV a0).2.2.2.2.2.2.2.2.1, (readImageV a0).2.2.2.2.2.2.2.2.2.1, ()), ((readImageV a0).2.2.2.2.2.2.2.2.2.2, ()), ()), ((), ()))
  unfold f11_tree
  by_cases hl : 5 ≤ List.length a0
  case neg =>
    rw [readImageV_z (by unfold imgOkV; rw [decide_eq_false hl]; rfl)]
    exact (eval_ite_f (by rw [decide_eq_true (by omega)]; rfl)).trans rfl
  have h5 : ((decide (((List.length a0 : Nat) : Int) < (5 : Int))) == false) = true := by rw [decide_eq_false (by omega)]; rfl
  have h01 : decide (0 ≤ (0 : Int) ∧ (0 : Int) ≤ (1 : Int) ∧ (1 : Int) ≤ ((List.length a0 : Nat) : Int)) = true := decide_eq_true (by omega)
  have h05 : decide (0 ≤ (5 : Int) ∧ (5 : Int) ≤ ((List.length a0 : Nat) : Int)) = true := decide_eq_true (by omega)
  rcases a0 with _ | ⟨c, r⟩
  · exact absurd hl (by simp)
  by_cases hk : c = 65 ∨ c = 66
  case neg =>
    simp only [not_or] at hk
    have k1 : (((UInt8.toNat c : Nat) : Int) != (65 : Int)) = true := u8_ne (k := 65) fun e => hk.1 (UInt8.toNat_inj.1 e)
    have k2 : (((UInt8.toNat c : Nat) : Int) != (66 : Int)) = true := u8_ne (k := 66) fun e => hk.2 (UInt8.toNat_inj.1 e)
    rw [readImageV_z (by unfold imgOkV isKindV; simp [hk.1, hk.2])]
    exact (eval_ite_t h5).trans ((eval_ite_t rfl).trans ((eval_get_some (x := c) rfl).trans ((eval_ite_t (by rw [k1]; rfl)).trans ((eval_ite_t rfl).trans ((eval_get_some (x := c) rfl).trans ((eval_ite_t k2).trans rfl))))))
  have hkv : isKindV (c :: r) = true := by rcases hk with rfl | rfl <;> rfl
  cases ho : (readUnixV (List.drop 5 (c :: r))).2.2.2.2.2.2.2.2.2 with
  | false =>
    rw [readImageV_z (by unfold imgOkV; rw [ho]; simp)]
    have hn2 : ((!(readUnixV (List.drop (Int.toNat (5 : Int)) (c :: r))).2.2.2.2.2.2.2.2.2) == false) = false := by rw [show Int.toNat (5 : Int) = 5 from rfl, ho]; rfl
    rcases hk with rfl | rfl
    · exact (eval_ite_t h5).trans ((eval_ite_t rfl).trans ((eval_get_some (x := 65) rfl).trans ((eval_ite_f rfl).trans ((eval_ite_t h05).trans ((eval_ite_f hn2).trans rfl)))))
    · exact (eval_ite_t h5).trans ((eval_ite_t rfl).trans ((eval_get_some (x := 66) rfl).trans ((eval_ite_t rfl).trans ((eval_ite_t rfl).trans ((eval_get_some (x := 66) rfl).trans ((eval_ite_f rfl).trans ((eval_ite_t h05).trans ((eval_ite_f hn2).trans rfl))))))))
  | true =>
    have hn2 : ((!(readUnixV (List.drop (Int.toNat (5 : Int)) (c :: r))).2.2.2.2.2.2.2.2.2) == false) = true := by rw [show Int.toNat (5 : Int) = 5 from rfl, ho]; rfl
    obtain ⟨w1, w2⟩ := readUnixV_ok ho
    have him : imageP [c] (readUnixV (List.drop 5 (c :: r))).1 (readUnixV (List.drop 5 (c :: r))).2.1 (readUnixV (List.drop 5 (c :: r))).2.2.1 (readUnixV (List.drop 5 (c :: r))).2.2.2.1 (readUnixV (List.drop 5 (c :: r))).2.2.2.2.1 (readUnixV (List.drop 5 (c :: r))).2.2.2.2.2.1 (readUnixV (List.drop 5 (c :: r))).2.2.2.2.2.2.1 (readUnixV (List.drop 5 (c :: r))).2.2.2.2.2.2.2.1 (readUnixV (List.drop 5 (c :: r))).2.2.2.2.2.2.2.2.1 = some ([c] ++ sumS (List.drop 5 (c :: r)) ++ List.drop 5 (c :: r)) := by
      unfold imageP
      rw [if_pos ⟨by rw [LIM_eq]; omega, by simp⟩, w1]
    have hsame : ([c] ++ sumS (List.drop 5 (c :: r)) ++ List.drop 5 (c :: r) = c :: r) ↔ List.drop 1 (List.take 5 (c :: r)) = sumS (List.drop 5 (c :: r)) := by
      have hr : r = List.take 4 r ++ List.drop 4 r := (List.take_append_drop 4 r).symm
      have e1 : List.drop 5 (c :: r) = List.drop 4 r := rfl
      have e2 : List.drop 1 (List.take 5 (c :: r)) = List.take 4 r := rfl
      rw [e1, e2]
      constructor
      · intro h
        have h : sumS (List.drop 4 r) ++ List.drop 4 r = r := by simpa using h
        have h2 := congrArg (List.take 4) h
        rw [List.take_append_of_le_length (by rw [sumS_len]; omega), List.take_of_length_le (by rw [sumS_len]; omega)] at h2
        exact h2.symm
      · intro h
        rw [← h]
        simp
    by_cases hs : List.drop 1 (List.take 5 (c :: r)) = sumS (List.drop 5 (c :: r))
    · have hb : (List.drop 1 (List.take 5 (c :: r)) == sumS (List.drop 5 (c :: r))) = true := by simpa using hs
      have hi : imgOkV (c :: r) = true := by unfold imgOkV; rw [ho, hkv, hb, decide_eq_true hl]; rfl
      have hn : (([c] ++ sumS (List.drop 5 (c :: r)) ++ List.drop 5 (c :: r)) != (c :: r)) = false := by rw [hsame.2 hs]; simp
      unfold readImageV
      rw [if_pos hi]
      rcases hk with rfl | rfl
      · exact (eval_ite_t h5).trans ((eval_ite_t rfl).trans ((eval_get_some (x := 65) rfl).trans ((eval_ite_f rfl).trans ((eval_ite_t h05).trans ((eval_ite_t hn2).trans ((eval_ite_t h01).trans ((eval_get_some him).trans ((eval_ite_f hn).trans ((eval_ite_t rfl).trans ((eval_get_some (x := 65) rfl).trans rfl))))))))))
      · exact (eval_ite_t h5).trans ((eval_ite_t rfl).trans ((eval_get_some (x := 66) rfl).trans ((eval_ite_t rfl).trans ((eval_ite_t rfl).trans ((eval_get_some (x := 66) rfl).trans ((eval_ite_f rfl).trans ((eval_ite_t h05).trans ((eval_ite_t hn2).trans ((eval_ite_t h01).trans ((eval_get_some him).trans ((eval_ite_f hn).trans ((eval_ite_t rfl).trans ((eval_get_some (x := 66) rfl).trans rfl)))))))))))))
    · rw [readImageV_z (by unfold imgOkV; rw [show (List.drop 1 (List.take 5 (c :: r)) == sumS (List.drop 5 (c :: r))) = false from beq_false_of_ne hs]; simp)]
      have hn : (([c] ++ sumS (List.drop 5 (c :: r)) ++ List.drop 5 (c :: r)) != (c :: r)) = true := by rw [bne_iff_ne]; exact fun e => hs (hsame.1 e)
      rcases hk with rfl | rfl
      · exact (eval_ite_t h5).trans ((eval_ite_t rfl).trans ((eval_get_some (x := 65) rfl).trans ((eval_ite_f rfl).trans ((eval_ite_t h05).trans ((eval_ite_t hn2).trans ((eval_ite_t h01).trans ((eval_get_some him).trans ((eval_ite_t hn).trans rfl))))))))
      · exact (eval_ite_t h5).trans ((eval_ite_t rfl).trans ((eval_get_some (x := 66) rfl).trans ((eval_ite_t rfl).trans ((eval_ite_t rfl).trans ((eval_get_some (x := 66) rfl).trans ((eval_ite_f rfl).trans ((eval_ite_t h05).trans ((eval_ite_t hn2).trans ((eval_ite_t h01).trans ((eval_get_some him).trans ((eval_ite_t hn).trans rfl)))))))))))
theorem image_szc (s : Str) : szcInsSS (readImageV s).2.2.2.1 ≤ 1000 ∧ szcProcS (readImageV s).2.2.2.2.1 ≤ 1000 ∧ szcOpenS (readImageV s).2.2.2.2.2.1 ≤ 1000 ∧ szcCpuS (readImageV s).2.2.2.2.2.2.1 ≤ 1000 ∧ szcCpuS (readImageV s).2.2.2.2.2.2.2.1 ≤ 1000 ∧ szcIntS (readImageV s).2.2.2.2.2.2.2.2.1 ≤ 1000 ∧ szcIntS (readImageV s).2.2.2.2.2.2.2.2.2.1 ≤ 1000 := by
  unfold readImageV
  split
  · exact read_szc (s.drop 5)
  · decide
end Go.Proofs.YtcpjdjgipmjhdaaGreat.Dm
