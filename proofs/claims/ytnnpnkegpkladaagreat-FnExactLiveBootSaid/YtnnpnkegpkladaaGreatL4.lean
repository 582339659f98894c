/- f -/
import Derived.Test.YtnnpnkegpkladaaGreatL3
namespace Go.Proofs.YtnnpnkegpkladaaGreat.Dm
set_option linter.all false
open Go Go.ChangeShapes Go.WideShapes Go.ChangeAt Go.RowKit
abbrev f133_S0 := (List (Bool) × Int × Int × Unit) × (Unit)
def f133_L0 : f133_S0 → Out (Round f133_S0 ((Int × Unit) × (Unit)) ((Int × Unit) × (Unit)))
| ((p0, p1, p2, _), _) =>
 .ite (decide (p2 < ((List.length p0 : Nat) : Int)))
 (.ite (decide (0 ≤ p2))
 (.get (nth p0 (Int.toNat p2)) fun y1 =>
 .ite ((3 : Int) == 0)
 .fail
 (.ite (!(y1 == (((Int.tmod p1 (3 : Int)) == (0 : Int)))))
 (.ret (.ret (((-1 : Int), ()), ())))
 (.ret (.again ((p0, (IntKind.i64.wrap (p1 + (1 : Int))), (IntKind.i64.wrap (p2 + (1 : Int))), ()), ())))))
 .fail)
 (.ret (.out ((p1, ()), ())))
def f133_tree (a0 : List Bool) (a1 : Int) : Out (((Int × Unit) × Unit) × XI) :=
 .get (iter f133_L0 FUEL ((a0, a1, (0 : Int), ()), ())) fun y1 => .alt y1 (fun y2 =>
 .ret (((y2.1.1, ()), ()), ((), (), ()))) (fun y3 =>
 .ret (((y3.1.1, ()), ()), ((), (), ())))
def f133_A : Nat → Option LoopAnn := fun n => annOf [(0, ⟨⟨[.ro .bool (some 0), .i .i64, .dead, .dead, .dead, .i .i64] ++ dd 17, []⟩, ⟨[.dead, .i .i64] ++ dd 21, []⟩, some ⟨dd 4 ++ [.i .i64] ++ dd 18, []⟩, false⟩)] n
def heldBoolSV (a0 : List Bool) (k : Int) : Option Int := hdP (mkcBoolS a0) (decide (mkdBoolS (k) a0 = a0)) k
def k133 : Con := { f := 133, lend := true, its := [⟨false, false, [.ro .bool]⟩, ⟨false, false, [.i .i64]⟩], lay := [none, none], rs := [⟨false, false, [.i .i64]⟩], F := fun x => .get (heldBoolSV x.1.1 x.2.1.1) fun y => .ret (((y, ()), ()), ((), (), ())) }
theorem f133_eq (x : itemsD k133.its) : bo [] f133_A Tryz.f133 k133 [.tmp 4] x = f133_tree x.1.1 x.2.1.1 := by kernel_rfl
theorem f133_okp (hr : ∀ x : (List Bool × Unit) × (Int × Unit) × Unit, itemsWF k133.its x → ∀ y, (k133.F x).eval = some y → (f133_tree x.1.1 x.2.1.1).eval = some y) : k133.Ok Tryz.prog := con_fn [] trivial f133_eq hr
theorem k133_ok : k133.Ok Tryz.prog := by
 refine f133_okp fun x hw y hy => ?_
 obtain ⟨⟨a0, _⟩, ⟨k, _⟩, _⟩ := x
 change (Out.get (heldBoolSV a0 k) fun y => Out.ret (((y, ()), ()), ((), ((), ())))).eval = some y at hy
 obtain ⟨h0, h1, hy⟩ := hdP_get hy
 refine Eq.trans ?_ hy
 show (f133_tree a0 k).eval = _
 unfold f133_tree
 have ha : a0.length ≤ BIG := hw.1.1.1
 have := hd_loop (f := f133_L0) a0 mkcBool mkdBool (fun k i => ((a0, (k, (((i : Nat) : Int), ()))), ())) (y := fun k => ((k, ()), ())) (z := ((-1, ()), ()))
  (fun i hi k h0 hk => by
   have h1 := wrap_succ (i := i) (by omega)
   have w1 : IntKind.i64.wrap (k + 1) = k + 1 := wrap1 (by omega) (by omega)
   by_cases q1 : a0[i] = (Int.tmod (k) 3 == (0 : Int))
   case neg =>
    have q' : ¬ mkdBool (k) a0[i] = a0[i] := fun e => q1 (e.symm.trans (beq3 _).symm)
    rw [if_neg (fun e => q' (congrArg (fun x : Bool => x) e))]
    simp [f133_L0, Out.eval, hi, cond_eq_ite, q1]
   have hq : mkdBool k a0[i] = a0[i] := (beq3 _).symm.trans q1.symm
   rw [if_pos hq]
   simp [f133_L0, Out.eval, hi, h1, w1, q1, mkcBool] <;> omega)
  (fun k => by simp [f133_L0, Out.eval]) ha h0 h1
 refine (eval_get_some this).trans ?_
 show _ = (Out.ret _).eval
 unfold mkdBoolS
 by_cases q : mkdL mkcBool mkdBool k a0 = a0
 . rw [if_pos q, if_pos (decide_eq_true q)]; rfl
 . rw [if_neg q, if_neg (by simpa using q)]; rfl
abbrev f219_S0 := (List (List Int) × Int × Int × Unit) × (Unit)
def f219_L0 : f219_S0 → Out (Round f219_S0 ((Int × Unit) × (Unit)) ((Int × Unit) × (Unit)))
| ((p0, p1, p2, _), _) =>
 .ite (decide (p2 < ((List.length p0 : Nat) : Int)))
 (.ite (decide (0 ≤ p2))
 (.get (nth p0 (Int.toNat p2)) fun y1 =>
 .get (heldIntSV y1 p1) fun y2 =>
 .ite (decide (y2 < (0 : Int)))
 (.ret (.ret (((-1 : Int), ()), ())))
 (.ret (.again ((p0, y2, (IntKind.i64.wrap (p2 + (1 : Int))), ()), ()))))
 .fail)
 (.ret (.out ((p1, ()), ())))
def f219_tree (a0 : List (List Int)) (a1 : Int) : Out (((Int × Unit) × Unit) × XI) :=
 .get (iter f219_L0 FUEL ((a0, a1, (0 : Int), ()), ())) fun y1 => .alt y1 (fun y2 =>
 .ret (((y2.1.1, ()), ()), ((), (), ()))) (fun y3 =>
 .ret (((y3.1.1, ()), ()), ((), (), ())))
def f219_A : Nat → Option LoopAnn := fun n => annOf [(0, ⟨⟨[.ro (.sl (.int .i64)) (some 0), .i .i64, .dead, .dead, .dead, .i .i64] ++ dd 15, []⟩, ⟨[.dead, .i .i64] ++ dd 19, []⟩, some ⟨dd 4 ++ [.i .i64] ++ dd 16, []⟩, false⟩)] n
def heldIntSSV (a0 : List (List Int)) (k : Int) : Option Int := hdP (mkcIntSS a0) (decide (mkdIntSS (k) a0 = a0)) k
def k219 : Con := { f := 219, lend := true, its := [⟨false, false, [.ro (.sl (.int .i64))]⟩, ⟨false, false, [.i .i64]⟩], lay := [none, none], rs := [⟨false, false, [.i .i64]⟩], F := fun x => .get (heldIntSSV x.1.1 x.2.1.1) fun y => .ret (((y, ()), ()), ((), (), ())) }
theorem f219_eq (x : itemsD k219.its) : bo [k132] f219_A Tryz.f219 k219 [.tmp 4] x = f219_tree x.1.1 x.2.1.1 := by kernel_rfl
theorem f219_okp (hr : ∀ x : (List (List Int) × Unit) × (Int × Unit) × Unit, itemsWF k219.its x → ∀ y, (k219.F x).eval = some y → (f219_tree x.1.1 x.2.1.1).eval = some y) : k219.Ok Tryz.prog := con_fn [k132] ⟨k132_ok, trivial⟩ f219_eq hr
theorem k219_ok : k219.Ok Tryz.prog := by
 refine f219_okp fun x hw y hy => ?_
 obtain ⟨⟨a0, _⟩, ⟨k, _⟩, _⟩ := x
 change (Out.get (heldIntSSV a0 k) fun y => Out.ret (((y, ()), ()), ((), ((), ())))).eval = some y at hy
 obtain ⟨h0, h1, hy⟩ := hdP_get hy
 refine Eq.trans ?_ hy
 show (f219_tree a0 k).eval = _
 unfold f219_tree
 have ha : a0.length ≤ BIG := hw.1.1.1
 have := hd_loop (f := f219_L0) a0 mkcIntS mkdIntS (fun k i => ((a0, (k, (((i : Nat) : Int), ()))), ())) (y := fun k => ((k, ()), ())) (z := ((-1, ()), ()))
  (fun i hi k h0 hk => by
   have h1 := wrap_succ (i := i) (by omega)
   have w1 : heldIntSV a0[i] (k) = some (if decide (mkdIntS (k) a0[i] = a0[i]) = true then k + (mkcIntS a0[i] : Nat) else -1) := hdP_in (by omega) (by omega)
   by_cases q1 : mkdIntS (k) a0[i] = a0[i]
   case neg =>
    have q' := q1
    rw [decide_eq_false q1, if_neg (by decide)] at w1
    rw [if_neg (fun e => q' (congrArg (fun x : List Int => x) e))]
    simp [f219_L0, Out.eval, hi, cond_eq_ite, w1, q1]
   rw [decide_eq_true q1, if_pos rfl] at w1
   have n1 : ¬ k + (mkcIntS a0[i] : Nat) < 0 := by omega
   have hq : mkdIntS k a0[i] = a0[i] := q1
   rw [if_pos hq]
   simp [f219_L0, Out.eval, hi, h1, w1, q1, n1] <;> omega)
  (fun k => by simp [f219_L0, Out.eval]) ha h0 h1
 refine (eval_get_some this).trans ?_
 show _ = (Out.ret _).eval
 unfold mkdIntSS
 by_cases q : mkdL mkcIntS mkdIntS k a0 = a0
 . rw [if_pos q, if_pos (decide_eq_true q)]; rfl
 . rw [if_neg q, if_neg (by simpa using q)]; rfl
abbrev f131_S0 := (List (XB) × Int × Int × Unit) × (Unit)
def f131_L0 : f131_S0 → Out (Round f131_S0 ((Int × Unit) × (Unit)) ((Int × Unit) × (Unit)))
| ((p0, p1, p2, _), _) =>
 .ite (decide (p2 < ((List.length p0 : Nat) : Int)))
 (.ite (decide (0 ≤ p2))
 (.get (nth p0 (Int.toNat p2)) fun y1 =>
 .ite ((3 : Int) == 0)
 .fail
 (.ite (!(y1.1 == (((Int.tmod p1 (3 : Int)) == (0 : Int)))))
 (.ret (.ret (((-1 : Int), ()), ())))
 (.ite (decide (0 ≤ p2))
 (.get (nth p0 (Int.toNat p2)) fun y2 =>
 .ite ((y2.2.1 != (IntKind.i64.wrap (p1 + (1 : Int)))))
 (.ret (.ret (((-1 : Int), ()), ())))
 (.ite (decide (0 ≤ p2))
 (.get (nth p0 (Int.toNat p2)) fun y3 =>
 .ite ((y3.2.2.1 != (IntKind.i64.wrap ((IntKind.i64.wrap (p1 + (1 : Int))) + (1 : Int)))))
 (.ret (.ret (((-1 : Int), ()), ())))
 (.ite (decide (0 ≤ p2))
 (.get (nth p0 (Int.toNat p2)) fun y4 =>
 .ite ((y4.2.2.2.1 != (IntKind.i64.wrap ((IntKind.i64.wrap ((IntKind.i64.wrap (p1 + (1 : Int))) + (1 : Int))) + (1 : Int)))))
 (.ret (.ret (((-1 : Int), ()), ())))
 (.ite (decide (0 ≤ p2))
 (.get (nth p0 (Int.toNat p2)) fun y5 =>
 .ite ((y5.2.2.2.2.1 != (IntKind.i64.wrap ((IntKind.i64.wrap ((IntKind.i64.wrap ((IntKind.i64.wrap (p1 + (1 : Int))) + (1 : Int))) + (1 : Int))) + (1 : Int)))))
 (.ret (.ret (((-1 : Int), ()), ())))
 (.ite (decide (0 ≤ p2))
 (.get (nth p0 (Int.toNat p2)) fun y6 =>
 .ite ((y6.2.2.2.2.2.1 != (IntKind.i64.wrap ((IntKind.i64.wrap ((IntKind.i64.wrap ((IntKind.i64.wrap ((IntKind.i64.wrap (p1 + (1 : Int))) + (1 : Int))) + (1 : Int))) + (1 : Int))) + (1 : Int)))))
 (.ret (.ret (((-1 : Int), ()), ())))
 (.ite (decide (0 ≤ p2))
 (.get (nth p0 (Int.toNat p2)) fun y7 =>
 .ite ((y7.2.2.2.2.2.2.1 != (IntKind.i64.wrap ((IntKind.i64.wrap ((IntKind.i64.wrap ((IntKind.i64.wrap ((IntKind.i64.wrap ((IntKind.i64.wrap (p1 + (1 : Int))) + (1 : Int))) + (1 : Int))) + (1 : Int))) + (1 : Int))) + (1 : Int)))))
 (.ret (.ret (((-1 : Int), ()), ())))
 (.ite (decide (0 ≤ p2))
 (.get (nth p0 (Int.toNat p2)) fun y8 =>
 .ite ((y8.2.2.2.2.2.2.2.1 != (IntKind.i64.wrap ((IntKind.i64.wrap ((IntKind.i64.wrap ((IntKind.i64.wrap ((IntKind.i64.wrap ((IntKind.i64.wrap ((IntKind.i64.wrap (p1 + (1 : Int))) + (1 : Int))) + (1 : Int))) + (1 : Int))) + (1 : Int))) + (1 : Int))) + (1 : Int)))))
 (.ret (.ret (((-1 : Int), ()), ())))
 (.ite (decide (0 ≤ p2))
 (.get (nth p0 (Int.toNat p2)) fun y9 =>
 .get (heldIntSV y9.2.2.2.2.2.2.2.2.1 (IntKind.i64.wrap ((IntKind.i64.wrap ((IntKind.i64.wrap ((IntKind.i64.wrap ((IntKind.i64.wrap ((IntKind.i64.wrap ((IntKind.i64.wrap ((IntKind.i64.wrap (p1 + (1 : Int))) + (1 : Int))) + (1 : Int))) + (1 : Int))) + (1 : Int))) + (1 : Int))) + (1 : Int))) + (1 : Int)))) fun y10 =>
 .ite (decide (y10 < (0 : Int)))
 (.ret (.ret (((-1 : Int), ()), ())))
 (.ite (decide (0 ≤ p2))
 (.get (nth p0 (Int.toNat p2)) fun y11 =>
 .get (heldIntSV y11.2.2.2.2.2.2.2.2.2.1 y10) fun y12 =>
 .ite (decide (y12 < (0 : Int)))
 (.ret (.ret (((-1 : Int), ()), ())))
 (.ite (decide (0 ≤ p2))
 (.get (nth p0 (Int.toNat p2)) fun y13 =>
 .get (heldIntSV y13.2.2.2.2.2.2.2.2.2.2.1 y12) fun y14 =>
 .ite (decide (y14 < (0 : Int)))
 (.ret (.ret (((-1 : Int), ()), ())))
 (.ret (.again ((p0, y14, (IntKind.i64.wrap (p2 + (1 : Int))), ()), ()))))
 .fail))
 .fail))
 .fail))
 .fail))
 .fail))
 .fail))
 .fail))
 .fail))
 .fail))
 .fail)))
 .fail)
 (.ret (.out ((p1, ()), ())))
def f131_tree (a0 : List XB) (a1 : Int) : Out (((Int × Unit) × Unit) × XI) :=
 .get (iter f131_L0 FUEL ((a0, a1, (0 : Int), ()), ())) fun y1 => .alt y1 (fun y2 =>
 .ret (((y2.1.1, ()), ()), ((), (), ()))) (fun y3 =>
 .ret (((y3.1.1, ()), ()), ((), (), ())))
def f131_A : Nat → Option LoopAnn := fun n => annOf [(0, ⟨⟨[.ro tyQ (some 0), .i .i64, .dead, .dead, .dead, .i .i64] ++ dd 108, []⟩, ⟨[.dead, .i .i64] ++ dd 112, []⟩, some ⟨dd 4 ++ [.i .i64] ++ dd 109, []⟩, false⟩)] n
def heldASlotSV (a0 : List ASlotD) (k : Int) : Option Int := hdP (mkcASlotS a0) (decide (mkdASlotS (k) a0 = a0)) k
def k131 : Con := { f := 131, lend := true, its := [⟨false, false, [.ro tyQ]⟩, ⟨false, false, [.i .i64]⟩], lay := [none, none], rs := [⟨false, false, [.i .i64]⟩], F := fun x => .get (heldASlotSV x.1.1 x.2.1.1) fun y => .ret (((y, ()), ()), ((), (), ())) }
theorem f131_eq (x : itemsD k131.its) : bo [k132] f131_A Tryz.f131 k131 [.tmp 4] x = f131_tree x.1.1 x.2.1.1 := by kernel_rfl
theorem f131_okp (hr : ∀ x : (List XB × Unit) × (Int × Unit) × Unit, itemsWF k131.its x → ∀ y, (k131.F x).eval = some y → (f131_tree x.1.1 x.2.1.1).eval = some y) : k131.Ok Tryz.prog := con_fn [k132] ⟨k132_ok, trivial⟩ f131_eq hr
theorem extASlot {x : ASlotD} {b0 : Bool} {b1 : Int} {b2 : Int} {b3 : Int} {b4 : Int} {b5 : Int} {b6 : Int} {b7 : Int} {b8 : List Int} {b9 : List Int} {b10 : List Int} (h0 : b0 = x.1) (h1 : b1 = x.2.1) (h2 : b2 = x.2.2.1) (h3 : b3 = x.2.2.2.1) (h4 : b4 = x.2.2.2.2.1) (h5 : b5 = x.2.2.2.2.2.1) (h6 : b6 = x.2.2.2.2.2.2.1) (h7 : b7 = x.2.2.2.2.2.2.2.1) (h8 : b8 = x.2.2.2.2.2.2.2.2.1) (h9 : b9 = x.2.2.2.2.2.2.2.2.2.1) (h10 : b10 = x.2.2.2.2.2.2.2.2.2.2.1) : ((b0, b1, b2, b3, b4, b5, b6, b7, b8, b9, b10, ()) : ASlotD) = x := by
 obtain ⟨c0, c1, c2, c3, c4, c5, c6, c7, c8, c9, c10, _⟩ := x
 simp only at h0 h1 h2 h3 h4 h5 h6 h7 h8 h9 h10
 subst h0 h1 h2 h3 h4 h5 h6 h7 h8 h9 h10
 rfl
set_option maxHeartbeats 3200000 in
theorem k131_ok : k131.Ok Tryz.prog := by
 refine f131_okp fun x hw y hy => ?_
 obtain ⟨⟨a0, _⟩, ⟨k, _⟩, _⟩ := x
 change (Out.get (heldASlotSV a0 k) fun y => Out.ret (((y, ()), ()), ((), ((), ())))).eval = some y at hy
 obtain ⟨h0, h1, hy⟩ := hdP_get hy
 refine Eq.trans ?_ hy
 show (f131_tree a0 k).eval = _
 unfold f131_tree
 have ha : a0.length ≤ BIG := hw.1.1.1
 have := hd_loop (f := f131_L0) a0 mkcASlot mkdASlot (fun k i => ((a0, (k, (((i : Nat) : Int), ()))), ())) (y := fun k => ((k, ()), ())) (z := ((-1, ()), ()))
  (fun i hi k h0 hk => by
   have h1 := wrap_succ (i := i) (by omega)
   unfold mkcASlot at hk
   have w1 : IntKind.i64.wrap (k + 1) = k + 1 := wrap1 (by omega) (by omega)
   have w2 : IntKind.i64.wrap (k + 1 + 1) = k + 1 + 1 := wrap1 (by omega) (by omega)
   have w3 : IntKind.i64.wrap (k + 1 + 1 + 1) = k + 1 + 1 + 1 := wrap1 (by omega) (by omega)
   have w4 : IntKind.i64.wrap (k + 1 + 1 + 1 + 1) = k + 1 + 1 + 1 + 1 := wrap1 (by omega) (by omega)
   have w5 : IntKind.i64.wrap (k + 1 + 1 + 1 + 1 + 1) = k + 1 + 1 + 1 + 1 + 1 := wrap1 (by omega) (by omega)
   have w6 : IntKind.i64.wrap (k + 1 + 1 + 1 + 1 + 1 + 1) = k + 1 + 1 + 1 + 1 + 1 + 1 := wrap1 (by omega) (by omega)
   have w7 : IntKind.i64.wrap (k + 1 + 1 + 1 + 1 + 1 + 1 + 1) = k + 1 + 1 + 1 + 1 + 1 + 1 + 1 := wrap1 (by omega) (by omega)
   have w8 : IntKind.i64.wrap (k + 1 + 1 + 1 + 1 + 1 + 1 + 1 + 1) = k + 1 + 1 + 1 + 1 + 1 + 1 + 1 + 1 := wrap1 (by omega) (by omega)
   have w9 : heldIntSV a0[i].2.2.2.2.2.2.2.2.1 (k + 1 + 1 + 1 + 1 + 1 + 1 + 1 + 1) = some (if decide (mkdIntS (k + 1 + 1 + 1 + 1 + 1 + 1 + 1 + 1) a0[i].2.2.2.2.2.2.2.2.1 = a0[i].2.2.2.2.2.2.2.2.1) = true then k + 1 + 1 + 1 + 1 + 1 + 1 + 1 + 1 + (mkcIntS a0[i].2.2.2.2.2.2.2.2.1 : Nat) else -1) := hdP_in (by omega) (by omega)
   have w10 : heldIntSV a0[i].2.2.2.2.2.2.2.2.2.1 (k + 1 + 1 + 1 + 1 + 1 + 1 + 1 + 1 + (mkcIntS a0[i].2.2.2.2.2.2.2.2.1 : Nat)) = some (if decide (mkdIntS (k + 1 + 1 + 1 + 1 + 1 + 1 + 1 + 1 + (mkcIntS a0[i].2.2.2.2.2.2.2.2.1 : Nat)) a0[i].2.2.2.2.2.2.2.2.2.1 = a0[i].2.2.2.2.2.2.2.2.2.1) = true then k + 1 + 1 + 1 + 1 + 1 + 1 + 1 + 1 + (mkcIntS a0[i].2.2.2.2.2.2.2.2.1 : Nat) + (mkcIntS a0[i].2.2.2.2.2.2.2.2.2.1 : Nat) else -1) := hdP_in (by omega) (by omega)
   have w11 : heldIntSV a0[i].2.2.2.2.2.2.2.2.2.2.1 (k + 1 + 1 + 1 + 1 + 1 + 1 + 1 + 1 + (mkcIntS a0[i].2.2.2.2.2.2.2.2.1 : Nat) + (mkcIntS a0[i].2.2.2.2.2.2.2.2.2.1 : Nat)) = some (if decide (mkdIntS (k + 1 + 1 + 1 + 1 + 1 + 1 + 1 + 1 + (mkcIntS a0[i].2.2.2.2.2.2.2.2.1 : Nat) + (mkcIntS a0[i].2.2.2.2.2.2.2.2.2.1 : Nat)) a0[i].2.2.2.2.2.2.2.2.2.2.1 = a0[i].2.2.2.2.2.2.2.2.2.2.1) = true then k + 1 + 1 + 1 + 1 + 1 + 1 + 1 + 1 + (mkcIntS a0[i].2.2.2.2.2.2.2.2.1 : Nat) + (mkcIntS a0[i].2.2.2.2.2.2.2.2.2.1 : Nat) + (mkcIntS a0[i].2.2.2.2.2.2.2.2.2.2.1 : Nat) else -1) := hdP_in (by omega) (by omega)
   by_cases q1 : a0[i].1 = (Int.tmod (k) 3 == (0 : Int))
   case neg =>
    have q' : ¬ mkdBool (k) a0[i].1 = a0[i].1 := fun e => q1 (e.symm.trans (beq3 _).symm)
    rw [if_neg (fun e => q' (congrArg (fun x : ASlotD => x.1) e))]
    simp [f131_L0, Out.eval, hi, cond_eq_ite, q1]
   by_cases q2 : a0[i].2.1 = (k + 1 : Int)
   case neg =>
    have q' : ¬ (k + 1 : Int) = a0[i].2.1 := fun e => q2 e.symm
    rw [if_neg (fun e => q' (congrArg (fun x : ASlotD => x.2.1) e))]
    simp [f131_L0, Out.eval, hi, cond_eq_ite, w1, q1, q2]
   by_cases q3 : a0[i].2.2.1 = (k + 1 + 1 : Int)
   case neg =>
    have q' : ¬ (k + 1 + 1 : Int) = a0[i].2.2.1 := fun e => q3 e.symm
    rw [if_neg (fun e => q' (congrArg (fun x : ASlotD => x.2.2.1) e))]
    simp [f131_L0, Out.eval, hi, cond_eq_ite, w1, w2, q1, q2, q3]
   by_cases q4 : a0[i].2.2.2.1 = (k + 1 + 1 + 1 : Int)
   case neg =>
    have q' : ¬ (k + 1 + 1 + 1 : Int) = a0[i].2.2.2.1 := fun e => q4 e.symm
    rw [if_neg (fun e => q' (congrArg (fun x : ASlotD => x.2.2.2.1) e))]
    simp [f131_L0, Out.eval, hi, cond_eq_ite, w1, w2, w3, q1, q2, q3, q4]
   by_cases q5 : a0[i].2.2.2.2.1 = (k + 1 + 1 + 1 + 1 : Int)
   case neg =>
    have q' : ¬ (k + 1 + 1 + 1 + 1 : Int) = a0[i].2.2.2.2.1 := fun e => q5 e.symm
    rw [if_neg (fun e => q' (congrArg (fun x : ASlotD => x.2.2.2.2.1) e))]
    simp [f131_L0, Out.eval, hi, cond_eq_ite, w1, w2, w3, w4, q1, q2, q3, q4, q5]
   by_cases q6 : a0[i].2.2.2.2.2.1 = (k + 1 + 1 + 1 + 1 + 1 : Int)
   case neg =>
    have q' : ¬ (k + 1 + 1 + 1 + 1 + 1 : Int) = a0[i].2.2.2.2.2.1 := fun e => q6 e.symm
    rw [if_neg (fun e => q' (congrArg (fun x : ASlotD => x.2.2.2.2.2.1) e))]
    simp [f131_L0, Out.eval, hi, cond_eq_ite, w1, w2, w3, w4, w5, q1, q2, q3, q4, q5, q6]
   by_cases q7 : a0[i].2.2.2.2.2.2.1 = (k + 1 + 1 + 1 + 1 + 1 + 1 : Int)
   case neg =>
    have q' : ¬ (k + 1 + 1 + 1 + 1 + 1 + 1 : Int) = a0[i].2.2.2.2.2.2.1 := fun e => q7 e.symm
    rw [if_neg (fun e => q' (congrArg (fun x : ASlotD => x.2.2.2.2.2.2.1) e))]
    simp [f131_L0, Out.eval, hi, cond_eq_ite, w1, w2, w3, w4, w5, w6, q1, q2, q3, q4, q5, q6, q7]
   by_cases q8 : a0[i].2.2.2.2.2.2.2.1 = (k + 1 + 1 + 1 + 1 + 1 + 1 + 1 : Int)
   case neg =>
    have q' : ¬ (k + 1 + 1 + 1 + 1 + 1 + 1 + 1 : Int) = a0[i].2.2.2.2.2.2.2.1 := fun e => q8 e.symm
    rw [if_neg (fun e => q' (congrArg (fun x : ASlotD => x.2.2.2.2.2.2.2.1) e))]
    simp [f131_L0, Out.eval, hi, cond_eq_ite, w1, w2, w3, w4, w5, w6, w7, q1, q2, q3, q4, q5, q6, q7, q8]
   by_cases q9 : mkdIntS (k + 1 + 1 + 1 + 1 + 1 + 1 + 1 + 1) a0[i].2.2.2.2.2.2.2.2.1 = a0[i].2.2.2.2.2.2.2.2.1
   case neg =>
    have q' := q9
    rw [decide_eq_false q9, if_neg (by decide)] at w9
    rw [if_neg (fun e => q' (congrArg (fun x : ASlotD => x.2.2.2.2.2.2.2.2.1) e))]
    simp [f131_L0, Out.eval, hi, cond_eq_ite, w1, w2, w3, w4, w5, w6, w7, w8, w9, q1, q2, q3, q4, q5, q6, q7, q8, q9]
   rw [decide_eq_true q9, if_pos rfl] at w9
   have n9 : ¬ k + 1 + 1 + 1 + 1 + 1 + 1 + 1 + 1 + (mkcIntS a0[i].2.2.2.2.2.2.2.2.1 : Nat) < 0 := Int.not_lt.2 (Int.add_nonneg (Int.add_nonneg (Int.add_nonneg (Int.add_nonneg (Int.add_nonneg (Int.add_nonneg (Int.add_nonneg (Int.add_nonneg (Int.add_nonneg h0 (by decide)) (by decide)) (by decide)) (by decide)) (by decide)) (by decide)) (by decide)) (by decide)) (Int.natCast_nonneg _))
   by_cases q10 : mkdIntS (k + 1 + 1 + 1 + 1 + 1 + 1 + 1 + 1 + (mkcIntS a0[i].2.2.2.2.2.2.2.2.1 : Nat)) a0[i].2.2.2.2.2.2.2.2.2.1 = a0[i].2.2.2.2.2.2.2.2.2.1
   case neg =>
    have q' := q10
    rw [decide_eq_false q10, if_neg (by decide)] at w10
    rw [if_neg (fun e => q' (congrArg (fun x : ASlotD => x.2.2.2.2.2.2.2.2.2.1) e))]
    simp [f131_L0, Out.eval, hi, cond_eq_ite, w1, w2, w3, w4, w5, w6, w7, w8, w9, w10, q1, q2, q3, q4, q5, q6, q7, q8, q9, q10]
   rw [decide_eq_true q10, if_pos rfl] at w10
   have n10 : ¬ k + 1 + 1 + 1 + 1 + 1 + 1 + 1 + 1 + (mkcIntS a0[i].2.2.2.2.2.2.2.2.1 : Nat) + (mkcIntS a0[i].2.2.2.2.2.2.2.2.2.1 : Nat) < 0 := Int.not_lt.2 (Int.add_nonneg (Int.add_nonneg (Int.add_nonneg (Int.add_nonneg (Int.add_nonneg (Int.add_nonneg (Int.add_nonneg (Int.add_nonneg (Int.add_nonneg (Int.add_nonneg h0 (by decide)) (by decide)) (by decide)) (by decide)) (by decide)) (by decide)) (by decide)) (by decide)) (Int.natCast_nonneg _)) (Int.natCast_nonneg _))
   by_cases q11 : mkdIntS (k + 1 + 1 + 1 + 1 + 1 + 1 + 1 + 1 + (mkcIntS a0[i].2.2.2.2.2.2.2.2.1 : Nat) + (mkcIntS a0[i].2.2.2.2.2.2.2.2.2.1 : Nat)) a0[i].2.2.2.2.2.2.2.2.2.2.1 = a0[i].2.2.2.2.2.2.2.2.2.2.1
   case neg =>
    have q' := q11
    rw [decide_eq_false q11, if_neg (by decide)] at w11
    rw [if_neg (fun e => q' (congrArg (fun x : ASlotD => x.2.2.2.2.2.2.2.2.2.2.1) e))]
    simp [f131_L0, Out.eval, hi, cond_eq_ite, w1, w2, w3, w4, w5, w6, w7, w8, w9, w10, w11, q1, q2, q3, q4, q5, q6, q7, q8, q9, q10, q11]
   rw [decide_eq_true q11, if_pos rfl] at w11
   have n11 : ¬ k + 1 + 1 + 1 + 1 + 1 + 1 + 1 + 1 + (mkcIntS a0[i].2.2.2.2.2.2.2.2.1 : Nat) + (mkcIntS a0[i].2.2.2.2.2.2.2.2.2.1 : Nat) + (mkcIntS a0[i].2.2.2.2.2.2.2.2.2.2.1 : Nat) < 0 := Int.not_lt.2 (Int.add_nonneg (Int.add_nonneg (Int.add_nonneg (Int.add_nonneg (Int.add_nonneg (Int.add_nonneg (Int.add_nonneg (Int.add_nonneg (Int.add_nonneg (Int.add_nonneg (Int.add_nonneg h0 (by decide)) (by decide)) (by decide)) (by decide)) (by decide)) (by decide)) (by decide)) (by decide)) (Int.natCast_nonneg _)) (Int.natCast_nonneg _)) (Int.natCast_nonneg _))
   have hq : mkdASlot k a0[i] = a0[i] := extASlot ((beq3 _).symm.trans q1.symm) q2.symm q3.symm q4.symm q5.symm q6.symm q7.symm q8.symm q9 q10 q11
   rw [if_pos hq]
   simp [f131_L0, Out.eval, hi, h1, w1, w2, w3, w4, w5, w6, w7, w8, w9, w10, w11, q1, q2, q3, q4, q5, q6, q7, q8, q9, q10, q11, n9, n10, n11, mkcASlot] <;> (clear hq w1 w2 w3 w4 w5 w6 w7 w8 w9 w10 w11 q1 q2 q3 q4 q5 q6 q7 q8 q9 q10 q11 n9 n10 n11) <;> omega)
  (fun k => by simp [f131_L0, Out.eval]) ha h0 h1
 refine (eval_get_some this).trans ?_
 show _ = (Out.ret _).eval
 unfold mkdASlotS
 by_cases q : mkdL mkcASlot mkdASlot k a0 = a0
 . rw [if_pos q, if_pos (decide_eq_true q)]; rfl
 . rw [if_neg q, if_neg (by simpa using q)]; rfl
abbrev f134_S0 := (List (XF) × Int × Int × Unit) × (Unit)
def f134_L0 : f134_S0 → Out (Round f134_S0 ((Int × Unit) × (Unit)) ((Int × Unit) × (Unit)))
| ((p0, p1, p2, _), _) =>
 .ite (decide (p2 < ((List.length p0 : Nat) : Int)))
 (.ite (decide (0 ≤ p2))
 (.get (nth p0 (Int.toNat p2)) fun y1 =>
 .ite ((3 : Int) == 0)
 .fail
 (.ite (!(y1.1 == (((Int.tmod p1 (3 : Int)) == (0 : Int)))))
 (.ret (.ret (((-1 : Int), ()), ())))
 (.ite (decide (0 ≤ p2))
 (.get (nth p0 (Int.toNat p2)) fun y2 =>
 .ite ((y2.2.1 != (IntKind.i64.wrap (p1 + (1 : Int)))))
 (.ret (.ret (((-1 : Int), ()), ())))
 (.ite (decide (0 ≤ p2))
 (.get (nth p0 (Int.toNat p2)) fun y3 =>
 .ite ((y3.2.2.1 != (IntKind.i64.wrap ((IntKind.i64.wrap (p1 + (1 : Int))) + (1 : Int)))))
 (.ret (.ret (((-1 : Int), ()), ())))
 (.ite (decide (0 ≤ p2))
 (.get (nth p0 (Int.toNat p2)) fun y4 =>
 .ite ((y4.2.2.2.1 != (IntKind.i64.wrap ((IntKind.i64.wrap ((IntKind.i64.wrap (p1 + (1 : Int))) + (1 : Int))) + (1 : Int)))))
 (.ret (.ret (((-1 : Int), ()), ())))
 (.ite (decide (0 ≤ p2))
 (.get (nth p0 (Int.toNat p2)) fun y5 =>
 .ite ((y5.2.2.2.2.1 != (IntKind.i64.wrap ((IntKind.i64.wrap ((IntKind.i64.wrap ((IntKind.i64.wrap (p1 + (1 : Int))) + (1 : Int))) + (1 : Int))) + (1 : Int)))))
 (.ret (.ret (((-1 : Int), ()), ())))
 (.ret (.again ((p0, (IntKind.i64.wrap ((IntKind.i64.wrap ((IntKind.i64.wrap ((IntKind.i64.wrap ((IntKind.i64.wrap (p1 + (1 : Int))) + (1 : Int))) + (1 : Int))) + (1 : Int))) + (1 : Int))), (IntKind.i64.wrap (p2 + (1 : Int))), ()), ()))))
 .fail))
 .fail))
 .fail))
 .fail)))
 .fail)
 (.ret (.out ((p1, ()), ())))
def f134_tree (a0 : List XF) (a1 : Int) : Out (((Int × Unit) × Unit) × XI) :=
 .get (iter f134_L0 FUEL ((a0, a1, (0 : Int), ()), ())) fun y1 => .alt y1 (fun y2 =>
 .ret (((y2.1.1, ()), ()), ((), (), ()))) (fun y3 =>
 .ret (((y3.1.1, ()), ()), ((), (), ())))
def f134_A : Nat → Option LoopAnn := fun n => annOf [(0, ⟨⟨[.ro tyS (some 0), .i .i64, .dead, .dead, .dead, .i .i64] ++ dd 54, []⟩, ⟨[.dead, .i .i64] ++ dd 58, []⟩, some ⟨dd 4 ++ [.i .i64] ++ dd 55, []⟩, false⟩)] n
def heldAOpenSV (a0 : List AOpenD) (k : Int) : Option Int := hdP (mkcAOpenS a0) (decide (mkdAOpenS (k) a0 = a0)) k
def k134 : Con := { f := 134, lend := true, its := [⟨false, false, [.ro tyS]⟩, ⟨false, false, [.i .i64]⟩], lay := [none, none], rs := [⟨false, false, [.i .i64]⟩], F := fun x => .get (heldAOpenSV x.1.1 x.2.1.1) fun y => .ret (((y, ()), ()), ((), (), ())) }
theorem f134_eq (x : itemsD k134.its) : bo [] f134_A Tryz.f134 k134 [.tmp 4] x = f134_tree x.1.1 x.2.1.1 := by kernel_rfl
theorem f134_okp (hr : ∀ x : (List XF × Unit) × (Int × Unit) × Unit, itemsWF k134.its x → ∀ y, (k134.F x).eval = some y → (f134_tree x.1.1 x.2.1.1).eval = some y) : k134.Ok Tryz.prog := con_fn [] trivial f134_eq hr
theorem k134_ok : k134.Ok Tryz.prog := by
 refine f134_okp fun x hw y hy => ?_
 obtain ⟨⟨a0, _⟩, ⟨k, _⟩, _⟩ := x
 change (Out.get (heldAOpenSV a0 k) fun y => Out.ret (((y, ()), ()), ((), ((), ())))).eval = some y at hy
 obtain ⟨h0, h1, hy⟩ := hdP_get hy
 refine Eq.trans ?_ hy
 show (f134_tree a0 k).eval = _
 unfold f134_tree
 have ha : a0.length ≤ BIG := hw.1.1.1
 have := hd_loop (f := f134_L0) a0 mkcAOpen mkdAOpen (fun k i => ((a0, (k, (((i : Nat) : Int), ()))), ())) (y := fun k => ((k, ()), ())) (z := ((-1, ()), ()))
  (fun i hi k h0 hk => by
   have h1 := wrap_succ (i := i) (by omega)
   unfold mkcAOpen at hk
   have w1 : IntKind.i64.wrap (k + 1) = k + 1 := wrap1 (by omega) (by omega)
   have w2 : IntKind.i64.wrap (k + 1 + 1) = k + 1 + 1 := wrap1 (by omega) (by omega)
   have w3 : IntKind.i64.wrap (k + 1 + 1 + 1) = k + 1 + 1 + 1 := wrap1 (by omega) (by omega)
   have w4 : IntKind.i64.wrap (k + 1 + 1 + 1 + 1) = k + 1 + 1 + 1 + 1 := wrap1 (by omega) (by omega)
   have w5 : IntKind.i64.wrap (k + 1 + 1 + 1 + 1 + 1) = k + 1 + 1 + 1 + 1 + 1 := wrap1 (by omega) (by omega)
   by_cases q1 : a0[i].1 = (Int.tmod (k) 3 == (0 : Int))
   case neg =>
    have q' : ¬ mkdBool (k) a0[i].1 = a0[i].1 := fun e => q1 (e.symm.trans (beq3 _).symm)
    rw [if_neg (fun e => q' (congrArg (fun x : AOpenD => x.1) e))]
    simp [f134_L0, Out.eval, hi, cond_eq_ite, q1]
   by_cases q2 : a0[i].2.1 = (k + 1 : Int)
   case neg =>
    have q' : ¬ (k + 1 : Int) = a0[i].2.1 := fun e => q2 e.symm
    rw [if_neg (fun e => q' (congrArg (fun x : AOpenD => x.2.1) e))]
    simp [f134_L0, Out.eval, hi, cond_eq_ite, w1, q1, q2]
   by_cases q3 : a0[i].2.2.1 = (k + 1 + 1 : Int)
   case neg =>
    have q' : ¬ (k + 1 + 1 : Int) = a0[i].2.2.1 := fun e => q3 e.symm
    rw [if_neg (fun e => q' (congrArg (fun x : AOpenD => x.2.2.1) e))]
    simp [f134_L0, Out.eval, hi, cond_eq_ite, w1, w2, q1, q2, q3]
   by_cases q4 : a0[i].2.2.2.1 = (k + 1 + 1 + 1 : Int)
   case neg =>
    have q' : ¬ (k + 1 + 1 + 1 : Int) = a0[i].2.2.2.1 := fun e => q4 e.symm
    rw [if_neg (fun e => q' (congrArg (fun x : AOpenD => x.2.2.2.1) e))]
    simp [f134_L0, Out.eval, hi, cond_eq_ite, w1, w2, w3, q1, q2, q3, q4]
   by_cases q5 : a0[i].2.2.2.2.1 = (k + 1 + 1 + 1 + 1 : Int)
   case neg =>
    have q' : ¬ (k + 1 + 1 + 1 + 1 : Int) = a0[i].2.2.2.2.1 := fun e => q5 e.symm
    rw [if_neg (fun e => q' (congrArg (fun x : AOpenD => x.2.2.2.2.1) e))]
    simp [f134_L0, Out.eval, hi, cond_eq_ite, w1, w2, w3, w4, q1, q2, q3, q4, q5]
   have hq : mkdAOpen k a0[i] = a0[i] := (Prod.ext ((beq3 _).symm.trans q1.symm) (Prod.ext q2.symm (Prod.ext q3.symm (Prod.ext q4.symm (Prod.ext q5.symm rfl)))))
   rw [if_pos hq]
   simp [f134_L0, Out.eval, hi, h1, w1, w2, w3, w4, w5, q1, q2, q3, q4, q5, mkcAOpen] <;> omega)
  (fun k => by simp [f134_L0, Out.eval]) ha h0 h1
 refine (eval_get_some this).trans ?_
 show _ = (Out.ret _).eval
 unfold mkdAOpenS
 by_cases q : mkdL mkcAOpen mkdAOpen k a0 = a0
 . rw [if_pos q, if_pos (decide_eq_true q)]; rfl
 . rw [if_neg q, if_neg (by simpa using q)]; rfl
def f137_tree (a0 : Bool) (a1 : List Int) (a2 : Int) (a3 : Int) (a4 : Int) : Out (((Int × Unit) × Unit) × XI) :=
 .get (heldIntSV a1 a4) fun y1 =>
 .ite (decide (y1 < (0 : Int)))
 (.ret ((((-1 : Int), ()), ()), ((), (), ())))
 (.ret (((y1, ()), ()), ((), (), ())))
def heldARingV (_a0 : Bool) (a1 : List Int) (_a2 : Int) (_a3 : Int) (k : Int) : Option Int := hdP (mkcIntS a1) (decide (mkdIntS (k) a1 = a1)) k
def k137 : Con := { f := 137, lend := true, its := [⟨false, true, [.b, .ro (.int .i64), .i .i64, .i .i64]⟩, ⟨false, false, [.i .i64]⟩], lay := [none, none], rs := [⟨false, false, [.i .i64]⟩], F := fun x => .get (heldARingV x.1.1 x.1.2.1 x.1.2.2.1 x.1.2.2.2.1 x.2.1.1) fun y => .ret (((y, ()), ()), ((), (), ())) }
theorem f137_eq (x : itemsD k137.its) : bo [k132] (fun _ => none) Tryz.f137 k137 [.tmp 4] x = f137_tree x.1.1 x.1.2.1 x.1.2.2.1 x.1.2.2.2.1 x.2.1.1 := by kernel_rfl
theorem f137_okp (hr : ∀ x : (Bool × XE) × (Int × Unit) × Unit, itemsWF k137.its x → ∀ y, (k137.F x).eval = some y → (f137_tree x.1.1 x.1.2.1 x.1.2.2.1 x.1.2.2.2.1 x.2.1.1).eval = some y) : k137.Ok Tryz.prog := con_fn [k132] ⟨k132_ok, trivial⟩ f137_eq hr
theorem k137_ok : k137.Ok Tryz.prog := by
 refine f137_okp fun x hw y hy => ?_
 obtain ⟨⟨a0, a1, a2, a3, _⟩, ⟨k, _⟩, _⟩ := x
 change (Out.get (heldARingV a0 a1 a2 a3 k) fun y => Out.ret (((y, ()), ()), ((), ((), ())))).eval = some y at hy
 obtain ⟨h0, h1, hy⟩ := hdP_get hy
 refine Eq.trans ?_ hy
 show (f137_tree a0 a1 a2 a3 k).eval = _
 unfold f137_tree
 have e0 : heldIntSV a1 (k) = some (if decide (mkdIntS (k) a1 = a1) = true then k + (mkcIntS a1 : Nat) else -1) := hdP_in (by omega) (by omega)
 rw [eval_get_some e0]
 by_cases q0 : mkdIntS (k) a1 = a1
 case neg => rw [decide_eq_false q0, if_neg (by decide), eval_ite_t (by decide)]; try simp [Out.eval, q0]
 rw [decide_eq_true q0, if_pos rfl, eval_ite_f (decide_eq_false (by omega))]
 all_goals (have e : k + ((mkcIntS a1 : Nat) : Int) = k + (mkcIntS a1 : Nat) := (by omega); rw [e]; try simp [Out.eval, q0])
abbrev f135_S0 := (List ((Bool × XE)) × Int × Int × Unit) × (Unit)
def f135_L0 : f135_S0 → Out (Round f135_S0 ((Int × Unit) × (Unit)) ((Int × Unit) × (Unit)))
| ((p0, p1, p2, _), _) =>
 .ite (decide (p2 < ((List.length p0 : Nat) : Int)))
 (.ite (decide (0 ≤ p2))
 (.get (nth p0 (Int.toNat p2)) fun y1 =>
 .ite ((3 : Int) == 0)
 .fail
 (.ite (!(y1.1 == (((Int.tmod p1 (3 : Int)) == (0 : Int)))))
 (.ret (.ret (((-1 : Int), ()), ())))
 (.ite (decide (0 ≤ p2))
 (.get (nth p0 (Int.toNat p2)) fun y2 =>
 .get (heldIntSV y2.2.1 (IntKind.i64.wrap (p1 + (1 : Int)))) fun y3 =>
 .ite (decide (y3 < (0 : Int)))
 (.ret (.ret (((-1 : Int), ()), ())))
 (.ite (decide (0 ≤ p2))
 (.get (nth p0 (Int.toNat p2)) fun y4 =>
 .ite ((y4.2.2.1 != y3))
 (.ret (.ret (((-1 : Int), ()), ())))
 (.ite (decide (0 ≤ p2))
 (.get (nth p0 (Int.toNat p2)) fun y5 =>
 .ite ((y5.2.2.2.1 != (IntKind.i64.wrap (y3 + (1 : Int)))))
 (.ret (.ret (((-1 : Int), ()), ())))
 (.ret (.again ((p0, (IntKind.i64.wrap ((IntKind.i64.wrap (y3 + (1 : Int))) + (1 : Int))), (IntKind.i64.wrap (p2 + (1 : Int))), ()), ()))))
 .fail))
 .fail))
 .fail)))
 .fail)
 (.ret (.out ((p1, ()), ())))
def f135_tree (a0 : List (Bool × XE)) (a1 : Int) : Out (((Int × Unit) × Unit) × XI) :=
 .get (iter f135_L0 FUEL ((a0, a1, (0 : Int), ()), ())) fun y1 => .alt y1 (fun y2 =>
 .ret (((y2.1.1, ()), ()), ((), (), ()))) (fun y3 =>
 .ret (((y3.1.1, ()), ()), ((), (), ())))
def f135_A : Nat → Option LoopAnn := fun n => annOf [(0, ⟨⟨[.ro tyR (some 0), .i .i64, .dead, .dead, .dead, .i .i64] ++ dd 45, []⟩, ⟨[.dead, .i .i64] ++ dd 49, []⟩, some ⟨dd 4 ++ [.i .i64] ++ dd 46, []⟩, false⟩)] n
def heldARingSV (a0 : List ARingD) (k : Int) : Option Int := hdP (mkcARingS a0) (decide (mkdARingS (k) a0 = a0)) k
def k135 : Con := { f := 135, lend := true, its := [⟨false, false, [.ro tyR]⟩, ⟨false, false, [.i .i64]⟩], lay := [none, none], rs := [⟨false, false, [.i .i64]⟩], F := fun x => .get (heldARingSV x.1.1 x.2.1.1) fun y => .ret (((y, ()), ()), ((), (), ())) }
theorem f135_eq (x : itemsD k135.its) : bo [k132] f135_A Tryz.f135 k135 [.tmp 4] x = f135_tree x.1.1 x.2.1.1 := by kernel_rfl
theorem f135_okp (hr : ∀ x : (List (Bool × XE) × Unit) × (Int × Unit) × Unit, itemsWF k135.its x → ∀ y, (k135.F x).eval = some y → (f135_tree x.1.1 x.2.1.1).eval = some y) : k135.Ok Tryz.prog := con_fn [k132] ⟨k132_ok, trivial⟩ f135_eq hr
theorem k135_ok : k135.Ok Tryz.prog := by
 refine f135_okp fun x hw y hy => ?_
 obtain ⟨⟨a0, _⟩, ⟨k, _⟩, _⟩ := x
 change (Out.get (heldARingSV a0 k) fun y => Out.ret (((y, ()), ()), ((), ((), ())))).eval = some y at hy
 obtain ⟨h0, h1, hy⟩ := hdP_get hy
 refine Eq.trans ?_ hy
 show (f135_tree a0 k).eval = _
 unfold f135_tree
 have ha : a0.length ≤ BIG := hw.1.1.1
 have := hd_loop (f := f135_L0) a0 mkcARing mkdARing (fun k i => ((a0, (k, (((i : Nat) : Int), ()))), ())) (y := fun k => ((k, ()), ())) (z := ((-1, ()), ()))
  (fun i hi k h0 hk => by
   have h1 := wrap_succ (i := i) (by omega)
   unfold mkcARing at hk
   have w1 : IntKind.i64.wrap (k + 1) = k + 1 := wrap1 (by omega) (by omega)
   have w2 : heldIntSV a0[i].2.1 (k + 1) = some (if decide (mkdIntS (k + 1) a0[i].2.1 = a0[i].2.1) = true then k + 1 + (mkcIntS a0[i].2.1 : Nat) else -1) := hdP_in (by omega) (by omega)
   have w3 : IntKind.i64.wrap (k + 1 + (mkcIntS a0[i].2.1 : Nat) + 1) = k + 1 + (mkcIntS a0[i].2.1 : Nat) + 1 := wrap1 (by omega) (by omega)
   have w4 : IntKind.i64.wrap (k + 1 + (mkcIntS a0[i].2.1 : Nat) + 1 + 1) = k + 1 + (mkcIntS a0[i].2.1 : Nat) + 1 + 1 := wrap1 (by omega) (by omega)
   by_cases q1 : a0[i].1 = (Int.tmod (k) 3 == (0 : Int))
   case neg =>
    have q' : ¬ mkdBool (k) a0[i].1 = a0[i].1 := fun e => q1 (e.symm.trans (beq3 _).symm)
    rw [if_neg (fun e => q' (congrArg (fun x : ARingD => x.1) e))]
    simp [f135_L0, Out.eval, hi, cond_eq_ite, q1]
   by_cases q2 : mkdIntS (k + 1) a0[i].2.1 = a0[i].2.1
   case neg =>
    have q' := q2
    rw [decide_eq_false q2, if_neg (by decide)] at w2
    rw [if_neg (fun e => q' (congrArg (fun x : ARingD => x.2.1) e))]
    simp [f135_L0, Out.eval, hi, cond_eq_ite, w1, w2, q1, q2]
   rw [decide_eq_true q2, if_pos rfl] at w2
   have n2 : ¬ k + 1 + (mkcIntS a0[i].2.1 : Nat) < 0 := by omega
   by_cases q3 : a0[i].2.2.1 = (k + 1 + (mkcIntS a0[i].2.1 : Nat) : Int)
   case neg =>
    have q' : ¬ (k + 1 + (mkcIntS a0[i].2.1 : Nat) : Int) = a0[i].2.2.1 := fun e => q3 e.symm
    rw [if_neg (fun e => q' (congrArg (fun x : ARingD => x.2.2.1) e))]
    simp [f135_L0, Out.eval, hi, cond_eq_ite, w1, w2, q1, q2, q3]
   by_cases q4 : a0[i].2.2.2.1 = (k + 1 + (mkcIntS a0[i].2.1 : Nat) + 1 : Int)
   case neg =>
    have q' : ¬ (k + 1 + (mkcIntS a0[i].2.1 : Nat) + 1 : Int) = a0[i].2.2.2.1 := fun e => q4 e.symm
    rw [if_neg (fun e => q' (congrArg (fun x : ARingD => x.2.2.2.1) e))]
    simp [f135_L0, Out.eval, hi, cond_eq_ite, w1, w2, w3, q1, q2, q3, q4]
   have hq : mkdARing k a0[i] = a0[i] := (Prod.ext ((beq3 _).symm.trans q1.symm) (Prod.ext q2 (Prod.ext q3.symm (Prod.ext q4.symm rfl))))
   rw [if_pos hq]
   simp [f135_L0, Out.eval, hi, h1, w1, w2, w3, w4, q1, q2, q3, q4, n2, mkcARing] <;> omega)
  (fun k => by simp [f135_L0, Out.eval]) ha h0 h1
 refine (eval_get_some this).trans ?_
 show _ = (Out.ret _).eval
 unfold mkdARingS
 by_cases q : mkdL mkcARing mkdARing k a0 = a0
 . rw [if_pos q, if_pos (decide_eq_true q)]; rfl
 . rw [if_neg q, if_neg (by simpa using q)]; rfl
abbrev f136_S0 := (List (XK) × Int × Int × Unit) × (Unit)
def f136_L0 : f136_S0 → Out (Round f136_S0 ((Int × Unit) × (Unit)) ((Int × Unit) × (Unit)))
| ((p0, p1, p2, _), _) =>
 .ite (decide (p2 < ((List.length p0 : Nat) : Int)))
 (.ite (decide (0 ≤ p2))
 (.get (nth p0 (Int.toNat p2)) fun y1 =>
 .ite ((3 : Int) == 0)
 .fail
 (.ite (!(y1.1 == (((Int.tmod p1 (3 : Int)) == (0 : Int)))))
 (.ret (.ret (((-1 : Int), ()), ())))
 (.ite (decide (0 ≤ p2))
 (.get (nth p0 (Int.toNat p2)) fun y2 =>
 .get (heldIntSV y2.2.1 (IntKind.i64.wrap (p1 + (1 : Int)))) fun y3 =>
 .ite (decide (y3 < (0 : Int)))
 (.ret (.ret (((-1 : Int), ()), ())))
 (.ret (.again ((p0, y3, (IntKind.i64.wrap (p2 + (1 : Int))), ()), ()))))
 .fail)))
 .fail)
 (.ret (.out ((p1, ()), ())))
def f136_tree (a0 : List XK) (a1 : Int) : Out (((Int × Unit) × Unit) × XI) :=
 .get (iter f136_L0 FUEL ((a0, a1, (0 : Int), ()), ())) fun y1 => .alt y1 (fun y2 =>
 .ret (((y2.1.1, ()), ()), ((), (), ()))) (fun y3 =>
 .ret (((y3.1.1, ()), ()), ((), (), ())))
def f136_A : Nat → Option LoopAnn := fun n => annOf [(0, ⟨⟨[.ro tyT (some 0), .i .i64, .dead, .dead, .dead, .i .i64] ++ dd 27, []⟩, ⟨[.dead, .i .i64] ++ dd 31, []⟩, some ⟨dd 4 ++ [.i .i64] ++ dd 28, []⟩, false⟩)] n
def heldAFileSV (a0 : List AFileD) (k : Int) : Option Int := hdP (mkcAFileS a0) (decide (mkdAFileS (k) a0 = a0)) k
def k136 : Con := { f := 136, lend := true, its := [⟨false, false, [.ro tyT]⟩, ⟨false, false, [.i .i64]⟩], lay := [none, none], rs := [⟨false, false, [.i .i64]⟩], F := fun x => .get (heldAFileSV x.1.1 x.2.1.1) fun y => .ret (((y, ()), ()), ((), (), ())) }
theorem f136_eq (x : itemsD k136.its) : bo [k132] f136_A Tryz.f136 k136 [.tmp 4] x = f136_tree x.1.1 x.2.1.1 := by kernel_rfl
theorem f136_okp (hr : ∀ x : (List XK × Unit) × (Int × Unit) × Unit, itemsWF k136.its x → ∀ y, (k136.F x).eval = some y → (f136_tree x.1.1 x.2.1.1).eval = some y) : k136.Ok Tryz.prog := con_fn [k132] ⟨k132_ok, trivial⟩ f136_eq hr
theorem k136_ok : k136.Ok Tryz.prog := by
 refine f136_okp fun x hw y hy => ?_
 obtain ⟨⟨a0, _⟩, ⟨k, _⟩, _⟩ := x
 change (Out.get (heldAFileSV a0 k) fun y => Out.ret (((y, ()), ()), ((), ((), ())))).eval = some y at hy
 obtain ⟨h0, h1, hy⟩ := hdP_get hy
 refine Eq.trans ?_ hy
 show (f136_tree a0 k).eval = _
 unfold f136_tree
 have ha : a0.length ≤ BIG := hw.1.1.1
 have := hd_loop (f := f136_L0) a0 mkcAFile mkdAFile (fun k i => ((a0, (k, (((i : Nat) : Int), ()))), ())) (y := fun k => ((k, ()), ())) (z := ((-1, ()), ()))
  (fun i hi k h0 hk => by
   have h1 := wrap_succ (i := i) (by omega)
   unfold mkcAFile at hk
   have w1 : IntKind.i64.wrap (k + 1) = k + 1 := wrap1 (by omega) (by omega)
   have w2 : heldIntSV a0[i].2.1 (k + 1) = some (if decide (mkdIntS (k + 1) a0[i].2.1 = a0[i].2.1) = true then k + 1 + (mkcIntS a0[i].2.1 : Nat) else -1) := hdP_in (by omega) (by omega)
   by_cases q1 : a0[i].1 = (Int.tmod (k) 3 == (0 : Int))
   case neg =>
    have q' : ¬ mkdBool (k) a0[i].1 = a0[i].1 := fun e => q1 (e.symm.trans (beq3 _).symm)
    rw [if_neg (fun e => q' (congrArg (fun x : AFileD => x.1) e))]
    simp [f136_L0, Out.eval, hi, cond_eq_ite, q1]
   by_cases q2 : mkdIntS (k + 1) a0[i].2.1 = a0[i].2.1
   case neg =>
    have q' := q2
    rw [decide_eq_false q2, if_neg (by decide)] at w2
    rw [if_neg (fun e => q' (congrArg (fun x : AFileD => x.2.1) e))]
    simp [f136_L0, Out.eval, hi, cond_eq_ite, w1, w2, q1, q2]
   rw [decide_eq_true q2, if_pos rfl] at w2
   have n2 : ¬ k + 1 + (mkcIntS a0[i].2.1 : Nat) < 0 := by omega
   have hq : mkdAFile k a0[i] = a0[i] := (Prod.ext ((beq3 _).symm.trans q1.symm) (Prod.ext q2 rfl))
   rw [if_pos hq]
   simp [f136_L0, Out.eval, hi, h1, w1, w2, q1, q2, n2, mkcAFile] <;> omega)
  (fun k => by simp [f136_L0, Out.eval]) ha h0 h1
 refine (eval_get_some this).trans ?_
 show _ = (Out.ret _).eval
 unfold mkdAFileS
 by_cases q : mkdL mkcAFile mkdAFile k a0 = a0
 . rw [if_pos q, if_pos (decide_eq_true q)]; rfl
 . rw [if_neg q, if_neg (by simpa using q)]; rfl
abbrev f138_S0 := XS × (Unit)
def f138_L0 : f138_S0 → Out (Round f138_S0 ((Int × Unit) × (Unit)) ((Int × Unit) × (Unit)))
| ((p0, p1, p2, _), _) =>
 .ite (decide (p2 < ((List.length p0 : Nat) : Int)))
 (.ite (decide (0 ≤ p2))
 (.get (nth p0 (Int.toNat p2)) fun y1 =>
 .ite ((y1.1 != p1))
 (.ret (.ret (((-1 : Int), ()), ())))
 (.ite (decide (0 ≤ p2))
 (.get (nth p0 (Int.toNat p2)) fun y2 =>
 .ite ((y2.2.1 != (IntKind.i64.wrap (p1 + (1 : Int)))))
 (.ret (.ret (((-1 : Int), ()), ())))
 (.ite (decide (0 ≤ p2))
 (.get (nth p0 (Int.toNat p2)) fun y3 =>
 .ite ((y3.2.2.1 != (IntKind.i64.wrap ((IntKind.i64.wrap (p1 + (1 : Int))) + (1 : Int)))))
 (.ret (.ret (((-1 : Int), ()), ())))
 (.ite (decide (0 ≤ p2))
 (.get (nth p0 (Int.toNat p2)) fun y4 =>
 .ite ((y4.2.2.2.1 != (IntKind.i64.wrap ((IntKind.i64.wrap ((IntKind.i64.wrap (p1 + (1 : Int))) + (1 : Int))) + (1 : Int)))))
 (.ret (.ret (((-1 : Int), ()), ())))
 (.ite (decide (0 ≤ p2))
 (.get (nth p0 (Int.toNat p2)) fun y5 =>
 .ite ((y5.2.2.2.2.1.1 != (IntKind.i64.wrap ((IntKind.i64.wrap ((IntKind.i64.wrap ((IntKind.i64.wrap (p1 + (1 : Int))) + (1 : Int))) + (1 : Int))) + (1 : Int)))))
 (.ret (.ret (((-1 : Int), ()), ())))
 (.ite (decide (0 ≤ p2))
 (.get (nth p0 (Int.toNat p2)) fun y6 =>
 .get (heldIntSV y6.2.2.2.2.1.2.1 (IntKind.i64.wrap ((IntKind.i64.wrap ((IntKind.i64.wrap ((IntKind.i64.wrap ((IntKind.i64.wrap (p1 + (1 : Int))) + (1 : Int))) + (1 : Int))) + (1 : Int))) + (1 : Int)))) fun y7 =>
 .ite (decide (y7 < (0 : Int)))
 (.ret (.ret (((-1 : Int), ()), ())))
 (.ite (decide (0 ≤ p2))
 (.get (nth p0 (Int.toNat p2)) fun y8 =>
 .get (heldIntSV y8.2.2.2.2.2.1 y7) fun y9 =>
 .ite (decide (y9 < (0 : Int)))
 (.ret (.ret (((-1 : Int), ()), ())))
 (.ite (decide (0 ≤ p2))
 (.get (nth p0 (Int.toNat p2)) fun y10 =>
 .get (heldIntSV y10.2.2.2.2.2.2.1 y9) fun y11 =>
 .ite (decide (y11 < (0 : Int)))
 (.ret (.ret (((-1 : Int), ()), ())))
 (.ite (decide (0 ≤ p2))
 (.get (nth p0 (Int.toNat p2)) fun y12 =>
 .ite ((y12.2.2.2.2.2.2.2.1 != y11))
 (.ret (.ret (((-1 : Int), ()), ())))
 (.ite (decide (0 ≤ p2))
 (.get (nth p0 (Int.toNat p2)) fun y13 =>
 .ite ((y13.2.2.2.2.2.2.2.2.1 != (IntKind.i64.wrap (y11 + (1 : Int)))))
 (.ret (.ret (((-1 : Int), ()), ())))
 (.ret (.again ((p0, (IntKind.i64.wrap ((IntKind.i64.wrap (y11 + (1 : Int))) + (1 : Int))), (IntKind.i64.wrap (p2 + (1 : Int))), ()), ()))))
 .fail))
 .fail))
 .fail))
 .fail))
 .fail))
 .fail))
 .fail))
 .fail))
 .fail))
 .fail)
 (.ret (.out ((p1, ()), ())))
def f138_tree (a0 : List ProcD) (a1 : Int) : Out (((Int × Unit) × Unit) × XI) :=
 .get (iter f138_L0 FUEL ((a0, a1, (0 : Int), ()), ())) fun y1 => .alt y1 (fun y2 =>
 .ret (((y2.1.1, ()), ()), ((), (), ()))) (fun y3 =>
 .ret (((y3.1.1, ()), ()), ((), (), ())))
def f138_A : Nat → Option LoopAnn := fun n => annOf [(0, ⟨⟨[.ro tyP (some 0), .i .i64, .dead, .dead, .dead, .i .i64] ++ dd 99, []⟩, ⟨[.dead, .i .i64] ++ dd 103, []⟩, some ⟨dd 4 ++ [.i .i64] ++ dd 100, []⟩, false⟩)] n
def heldProcSV (a0 : List ProcD) (k : Int) : Option Int := hdP (mkcProcS a0) (decide (mkdProcS (k) a0 = a0)) k
def k138 : Con := { f := 138, lend := true, its := [⟨false, false, [.ro tyP]⟩, ⟨false, false, [.i .i64]⟩], lay := [none, none], rs := [⟨false, false, [.i .i64]⟩], F := fun x => .get (heldProcSV x.1.1 x.2.1.1) fun y => .ret (((y, ()), ()), ((), (), ())) }
theorem f138_eq (x : itemsD k138.its) : bo [k132] f138_A Tryz.f138 k138 [.tmp 4] x = f138_tree x.1.1 x.2.1.1 := by kernel_rfl
theorem f138_okp (hr : ∀ x : (List ProcD × Unit) × (Int × Unit) × Unit, itemsWF k138.its x → ∀ y, (k138.F x).eval = some y → (f138_tree x.1.1 x.2.1.1).eval = some y) : k138.Ok Tryz.prog := con_fn [k132] ⟨k132_ok, trivial⟩ f138_eq hr
theorem k138_ok : k138.Ok Tryz.prog := by
 refine f138_okp fun x hw y hy => ?_
 obtain ⟨⟨a0, _⟩, ⟨k, _⟩, _⟩ := x
 change (Out.get (heldProcSV a0 k) fun y => Out.ret (((y, ()), ()), ((), ((), ())))).eval = some y at hy
 obtain ⟨h0, h1, hy⟩ := hdP_get hy
 refine Eq.trans ?_ hy
 show (f138_tree a0 k).eval = _
 unfold f138_tree
 have ha : a0.length ≤ BIG := hw.1.1.1
 have := hd_loop (f := f138_L0) a0 mkcProc mkdProc (fun k i => ((a0, (k, (((i : Nat) : Int), ()))), ())) (y := fun k => ((k, ()), ())) (z := ((-1, ()), ()))
  (fun i hi k h0 hk => by
   have h1 := wrap_succ (i := i) (by omega)
   unfold mkcProc at hk
   have w1 : IntKind.i64.wrap (k + 1) = k + 1 := wrap1 (by omega) (by omega)
   have w2 : IntKind.i64.wrap (k + 1 + 1) = k + 1 + 1 := wrap1 (by omega) (by omega)
   have w3 : IntKind.i64.wrap (k + 1 + 1 + 1) = k + 1 + 1 + 1 := wrap1 (by omega) (by omega)
   have w4 : IntKind.i64.wrap (k + 1 + 1 + 1 + 1) = k + 1 + 1 + 1 + 1 := wrap1 (by omega) (by omega)
   have w5 : IntKind.i64.wrap (k + 1 + 1 + 1 + 1 + 1) = k + 1 + 1 + 1 + 1 + 1 := wrap1 (by omega) (by omega)
   have w6 : heldIntSV a0[i].2.2.2.2.1.2.1 (k + 1 + 1 + 1 + 1 + 1) = some (if decide (mkdIntS (k + 1 + 1 + 1 + 1 + 1) a0[i].2.2.2.2.1.2.1 = a0[i].2.2.2.2.1.2.1) = true then k + 1 + 1 + 1 + 1 + 1 + (mkcIntS a0[i].2.2.2.2.1.2.1 : Nat) else -1) := hdP_in (by omega) (by omega)
   have w7 : heldIntSV a0[i].2.2.2.2.2.1 (k + 1 + 1 + 1 + 1 + 1 + (mkcIntS a0[i].2.2.2.2.1.2.1 : Nat)) = some (if decide (mkdIntS (k + 1 + 1 + 1 + 1 + 1 + (mkcIntS a0[i].2.2.2.2.1.2.1 : Nat)) a0[i].2.2.2.2.2.1 = a0[i].2.2.2.2.2.1) = true then k + 1 + 1 + 1 + 1 + 1 + (mkcIntS a0[i].2.2.2.2.1.2.1 : Nat) + (mkcIntS a0[i].2.2.2.2.2.1 : Nat) else -1) := hdP_in (by omega) (by omega)
   have w8 : heldIntSV a0[i].2.2.2.2.2.2.1 (k + 1 + 1 + 1 + 1 + 1 + (mkcIntS a0[i].2.2.2.2.1.2.1 : Nat) + (mkcIntS a0[i].2.2.2.2.2.1 : Nat)) = some (if decide (mkdIntS (k + 1 + 1 + 1 + 1 + 1 + (mkcIntS a0[i].2.2.2.2.1.2.1 : Nat) + (mkcIntS a0[i].2.2.2.2.2.1 : Nat)) a0[i].2.2.2.2.2.2.1 = a0[i].2.2.2.2.2.2.1) = true then k + 1 + 1 + 1 + 1 + 1 + (mkcIntS a0[i].2.2.2.2.1.2.1 : Nat) + (mkcIntS a0[i].2.2.2.2.2.1 : Nat) + (mkcIntS a0[i].2.2.2.2.2.2.1 : Nat) else -1) := hdP_in (by omega) (by omega)
   have w9 : IntKind.i64.wrap (k + 1 + 1 + 1 + 1 + 1 + (mkcIntS a0[i].2.2.2.2.1.2.1 : Nat) + (mkcIntS a0[i].2.2.2.2.2.1 : Nat) + (mkcIntS a0[i].2.2.2.2.2.2.1 : Nat) + 1) = k + 1 + 1 + 1 + 1 + 1 + (mkcIntS a0[i].2.2.2.2.1.2.1 : Nat) + (mkcIntS a0[i].2.2.2.2.2.1 : Nat) + (mkcIntS a0[i].2.2.2.2.2.2.1 : Nat) + 1 := wrap1 (by omega) (by omega)
   have w10 : IntKind.i64.wrap (k + 1 + 1 + 1 + 1 + 1 + (mkcIntS a0[i].2.2.2.2.1.2.1 : Nat) + (mkcIntS a0[i].2.2.2.2.2.1 : Nat) + (mkcIntS a0[i].2.2.2.2.2.2.1 : Nat) + 1 + 1) = k + 1 + 1 + 1 + 1 + 1 + (mkcIntS a0[i].2.2.2.2.1.2.1 : Nat) + (mkcIntS a0[i].2.2.2.2.2.1 : Nat) + (mkcIntS a0[i].2.2.2.2.2.2.1 : Nat) + 1 + 1 := wrap1 (by omega) (by omega)
   by_cases q1 : a0[i].1 = (k : Int)
   case neg =>
    have q' : ¬ (k : Int) = a0[i].1 := fun e => q1 e.symm
    rw [if_neg (fun e => q' (congrArg (fun x : ProcD => x.1) e))]
    simp [f138_L0, Out.eval, hi, cond_eq_ite, q1]
   by_cases q2 : a0[i].2.1 = (k + 1 : Int)
   case neg =>
    have q' : ¬ (k + 1 : Int) = a0[i].2.1 := fun e => q2 e.symm
    rw [if_neg (fun e => q' (congrArg (fun x : ProcD => x.2.1) e))]
    simp [f138_L0, Out.eval, hi, cond_eq_ite, w1, q1, q2]
   by_cases q3 : a0[i].2.2.1 = (k + 1 + 1 : Int)
   case neg =>
    have q' : ¬ (k + 1 + 1 : Int) = a0[i].2.2.1 := fun e => q3 e.symm
    rw [if_neg (fun e => q' (congrArg (fun x : ProcD => x.2.2.1) e))]
    simp [f138_L0, Out.eval, hi, cond_eq_ite, w1, w2, q1, q2, q3]
   by_cases q4 : a0[i].2.2.2.1 = (k + 1 + 1 + 1 : Int)
   case neg =>
    have q' : ¬ (k + 1 + 1 + 1 : Int) = a0[i].2.2.2.1 := fun e => q4 e.symm
    rw [if_neg (fun e => q' (congrArg (fun x : ProcD => x.2.2.2.1) e))]
    simp [f138_L0, Out.eval, hi, cond_eq_ite, w1, w2, w3, q1, q2, q3, q4]
   by_cases q5 : a0[i].2.2.2.2.1.1 = (k + 1 + 1 + 1 + 1 : Int)
   case neg =>
    have q' : ¬ (k + 1 + 1 + 1 + 1 : Int) = a0[i].2.2.2.2.1.1 := fun e => q5 e.symm
    rw [if_neg (fun e => q' (congrArg (fun x : ProcD => x.2.2.2.2.1.1) e))]
    simp [f138_L0, Out.eval, hi, cond_eq_ite, w1, w2, w3, w4, q1, q2, q3, q4, q5]
   by_cases q6 : mkdIntS (k + 1 + 1 + 1 + 1 + 1) a0[i].2.2.2.2.1.2.1 = a0[i].2.2.2.2.1.2.1
   case neg =>
    have q' := q6
    rw [decide_eq_false q6, if_neg (by decide)] at w6
    rw [if_neg (fun e => q' (congrArg (fun x : ProcD => x.2.2.2.2.1.2.1) e))]
    simp [f138_L0, Out.eval, hi, cond_eq_ite, w1, w2, w3, w4, w5, w6, q1, q2, q3, q4, q5, q6]
   rw [decide_eq_true q6, if_pos rfl] at w6
   have n6 : ¬ k + 1 + 1 + 1 + 1 + 1 + (mkcIntS a0[i].2.2.2.2.1.2.1 : Nat) < 0 := by omega
   by_cases q7 : mkdIntS (k + 1 + 1 + 1 + 1 + 1 + (mkcIntS a0[i].2.2.2.2.1.2.1 : Nat)) a0[i].2.2.2.2.2.1 = a0[i].2.2.2.2.2.1
   case neg =>
    have q' := q7
    rw [decide_eq_false q7, if_neg (by decide)] at w7
    rw [if_neg (fun e => q' (congrArg (fun x : ProcD => x.2.2.2.2.2.1) e))]
    simp [f138_L0, Out.eval, hi, cond_eq_ite, w1, w2, w3, w4, w5, w6, w7, q1, q2, q3, q4, q5, q6, q7]
   rw [decide_eq_true q7, if_pos rfl] at w7
   have n7 : ¬ k + 1 + 1 + 1 + 1 + 1 + (mkcIntS a0[i].2.2.2.2.1.2.1 : Nat) + (mkcIntS a0[i].2.2.2.2.2.1 : Nat) < 0 := by omega
   by_cases q8 : mkdIntS (k + 1 + 1 + 1 + 1 + 1 + (mkcIntS a0[i].2.2.2.2.1.2.1 : Nat) + (mkcIntS a0[i].2.2.2.2.2.1 : Nat)) a0[i].2.2.2.2.2.2.1 = a0[i].2.2.2.2.2.2.1
   case neg =>
    have q' := q8
    rw [decide_eq_false q8, if_neg (by decide)] at w8
    rw [if_neg (fun e => q' (congrArg (fun x : ProcD => x.2.2.2.2.2.2.1) e))]
    simp [f138_L0, Out.eval, hi, cond_eq_ite, w1, w2, w3, w4, w5, w6, w7, w8, q1, q2, q3, q4, q5, q6, q7, q8]
   rw [decide_eq_true q8, if_pos rfl] at w8
   have n8 : ¬ k + 1 + 1 + 1 + 1 + 1 + (mkcIntS a0[i].2.2.2.2.1.2.1 : Nat) + (mkcIntS a0[i].2.2.2.2.2.1 : Nat) + (mkcIntS a0[i].2.2.2.2.2.2.1 : Nat) < 0 := by omega
   by_cases q9 : a0[i].2.2.2.2.2.2.2.1 = (k + 1 + 1 + 1 + 1 + 1 + (mkcIntS a0[i].2.2.2.2.1.2.1 : Nat) + (mkcIntS a0[i].2.2.2.2.2.1 : Nat) + (mkcIntS a0[i].2.2.2.2.2.2.1 : Nat) : Int)
   case neg =>
    have q' : ¬ (k + 1 + 1 + 1 + 1 + 1 + (mkcIntS a0[i].2.2.2.2.1.2.1 : Nat) + (mkcIntS a0[i].2.2.2.2.2.1 : Nat) + (mkcIntS a0[i].2.2.2.2.2.2.1 : Nat) : Int) = a0[i].2.2.2.2.2.2.2.1 := fun e => q9 e.symm
    rw [if_neg (fun e => q' (congrArg (fun x : ProcD => x.2.2.2.2.2.2.2.1) e))]
    simp [f138_L0, Out.eval, hi, cond_eq_ite, w1, w2, w3, w4, w5, w6, w7, w8, q1, q2, q3, q4, q5, q6, q7, q8, q9]
   by_cases q10 : a0[i].2.2.2.2.2.2.2.2.1 = (k + 1 + 1 + 1 + 1 + 1 + (mkcIntS a0[i].2.2.2.2.1.2.1 : Nat) + (mkcIntS a0[i].2.2.2.2.2.1 : Nat) + (mkcIntS a0[i].2.2.2.2.2.2.1 : Nat) + 1 : Int)
   case neg =>
    have q' : ¬ (k + 1 + 1 + 1 + 1 + 1 + (mkcIntS a0[i].2.2.2.2.1.2.1 : Nat) + (mkcIntS a0[i].2.2.2.2.2.1 : Nat) + (mkcIntS a0[i].2.2.2.2.2.2.1 : Nat) + 1 : Int) = a0[i].2.2.2.2.2.2.2.2.1 := fun e => q10 e.symm
    rw [if_neg (fun e => q' (congrArg (fun x : ProcD => x.2.2.2.2.2.2.2.2.1) e))]
    simp [f138_L0, Out.eval, hi, cond_eq_ite, w1, w2, w3, w4, w5, w6, w7, w8, w9, q1, q2, q3, q4, q5, q6, q7, q8, q9, q10]
   have hq : mkdProc k a0[i] = a0[i] := (Prod.ext q1.symm (Prod.ext q2.symm (Prod.ext q3.symm (Prod.ext q4.symm (Prod.ext (Prod.ext q5.symm (Prod.ext q6 rfl)) (Prod.ext q7 (Prod.ext q8 (Prod.ext q9.symm (Prod.ext q10.symm rfl)))))))))
   rw [if_pos hq]
   simp [f138_L0, Out.eval, hi, h1, w1, w2, w3, w4, w5, w6, w7, w8, w9, w10, q1, q2, q3, q4, q5, q6, q7, q8, q9, q10, n6, n7, n8, mkcProc] <;> omega)
  (fun k => by simp [f138_L0, Out.eval]) ha h0 h1
 refine (eval_get_some this).trans ?_
 show _ = (Out.ret _).eval
 unfold mkdProcS
 by_cases q : mkdL mkcProc mkdProc k a0 = a0
 . rw [if_pos q, if_pos (decide_eq_true q)]; rfl
 . rw [if_neg q, if_neg (by simpa using q)]; rfl
abbrev f141_S0 := (List (XH) × Int × Int × Unit) × (Unit)
def f141_L0 : f141_S0 → Out (Round f141_S0 ((Int × Unit) × (Unit)) ((Int × Unit) × (Unit)))
| ((p0, p1, p2, _), _) =>
 .ite (decide (p2 < ((List.length p0 : Nat) : Int)))
 (.ite (decide (0 ≤ p2))
 (.get (nth p0 (Int.toNat p2)) fun y1 =>
 .ite ((y1.1 != p1))
 (.ret (.ret (((-1 : Int), ()), ())))
 (.ite (decide (0 ≤ p2))
 (.get (nth p0 (Int.toNat p2)) fun y2 =>
 .get (heldIntSSV y2.2.1 (IntKind.i64.wrap (p1 + (1 : Int)))) fun y3 =>
 .ite (decide (y3 < (0 : Int)))
 (.ret (.ret (((-1 : Int), ()), ())))
 (.ret (.again ((p0, y3, (IntKind.i64.wrap (p2 + (1 : Int))), ()), ()))))
 .fail))
 .fail)
 (.ret (.out ((p1, ()), ())))
def f141_tree (a0 : List XH) (a1 : Int) : Out (((Int × Unit) × Unit) × XI) :=
 .get (iter f141_L0 FUEL ((a0, a1, (0 : Int), ()), ())) fun y1 => .alt y1 (fun y2 =>
 .ret (((y2.1.1, ()), ()), ((), (), ()))) (fun y3 =>
 .ret (((y3.1.1, ()), ()), ((), (), ())))
def f141_A : Nat → Option LoopAnn := fun n => annOf [(0, ⟨⟨[.ro tyU (some 0), .i .i64, .dead, .dead, .dead, .i .i64] ++ dd 25, []⟩, ⟨[.dead, .i .i64] ++ dd 29, []⟩, some ⟨dd 4 ++ [.i .i64] ++ dd 26, []⟩, false⟩)] n
def heldBPipeSV (a0 : List BPipeD) (k : Int) : Option Int := hdP (mkcBPipeS a0) (decide (mkdBPipeS (k) a0 = a0)) k
def k141 : Con := { f := 141, lend := true, its := [⟨false, false, [.ro tyU]⟩, ⟨false, false, [.i .i64]⟩], lay := [none, none], rs := [⟨false, false, [.i .i64]⟩], F := fun x => .get (heldBPipeSV x.1.1 x.2.1.1) fun y => .ret (((y, ()), ()), ((), (), ())) }
theorem f141_eq (x : itemsD k141.its) : bo [k219] f141_A Tryz.f141 k141 [.tmp 4] x = f141_tree x.1.1 x.2.1.1 := by kernel_rfl
theorem f141_okp (hr : ∀ x : (List XH × Unit) × (Int × Unit) × Unit, itemsWF k141.its x → ∀ y, (k141.F x).eval = some y → (f141_tree x.1.1 x.2.1.1).eval = some y) : k141.Ok Tryz.prog := con_fn [k219] ⟨k219_ok, trivial⟩ f141_eq hr
theorem k141_ok : k141.Ok Tryz.prog := by
 refine f141_okp fun x hw y hy => ?_
 obtain ⟨⟨a0, _⟩, ⟨k, _⟩, _⟩ := x
 change (Out.get (heldBPipeSV a0 k) fun y => Out.ret (((y, ()), ()), ((), ((), ())))).eval = some y at hy
 obtain ⟨h0, h1, hy⟩ := hdP_get hy
 refine Eq.trans ?_ hy
 show (f141_tree a0 k).eval = _
 unfold f141_tree
 have ha : a0.length ≤ BIG := hw.1.1.1
 have := hd_loop (f := f141_L0) a0 mkcBPipe mkdBPipe (fun k i => ((a0, (k, (((i : Nat) : Int), ()))), ())) (y := fun k => ((k, ()), ())) (z := ((-1, ()), ()))
  (fun i hi k h0 hk => by
   have h1 := wrap_succ (i := i) (by omega)
   unfold mkcBPipe at hk
   have w1 : IntKind.i64.wrap (k + 1) = k + 1 := wrap1 (by omega) (by omega)
   have w2 : heldIntSSV a0[i].2.1 (k + 1) = some (if decide (mkdIntSS (k + 1) a0[i].2.1 = a0[i].2.1) = true then k + 1 + (mkcIntSS a0[i].2.1 : Nat) else -1) := hdP_in (by omega) (by omega)
   by_cases q1 : a0[i].1 = (k : Int)
   case neg =>
    have q' : ¬ (k : Int) = a0[i].1 := fun e => q1 e.symm
    rw [if_neg (fun e => q' (congrArg (fun x : BPipeD => x.1) e))]
    simp [f141_L0, Out.eval, hi, cond_eq_ite, q1]
   by_cases q2 : mkdIntSS (k + 1) a0[i].2.1 = a0[i].2.1
   case neg =>
    have q' := q2
    rw [decide_eq_false q2, if_neg (by decide)] at w2
    rw [if_neg (fun e => q' (congrArg (fun x : BPipeD => x.2.1) e))]
    simp [f141_L0, Out.eval, hi, cond_eq_ite, w1, w2, q1, q2]
   rw [decide_eq_true q2, if_pos rfl] at w2
   have n2 : ¬ k + 1 + (mkcIntSS a0[i].2.1 : Nat) < 0 := by omega
   have hq : mkdBPipe k a0[i] = a0[i] := (Prod.ext q1.symm (Prod.ext q2 rfl))
   rw [if_pos hq]
   simp [f141_L0, Out.eval, hi, h1, w1, w2, q1, q2, n2, mkcBPipe] <;> omega)
  (fun k => by simp [f141_L0, Out.eval]) ha h0 h1
 refine (eval_get_some this).trans ?_
 show _ = (Out.ret _).eval
 unfold mkdBPipeS
 by_cases q : mkdL mkcBPipe mkdBPipe k a0 = a0
 . rw [if_pos q, if_pos (decide_eq_true q)]; rfl
 . rw [if_neg q, if_neg (by simpa using q)]; rfl
def f139_tree (a0 : List (List Int)) (a1 : Int) : Out (((Int × Unit) × Unit) × XI) :=
 .get (heldIntSSV a0 a1) fun y1 =>
 .ite (decide (y1 < (0 : Int)))
 (.ret ((((-1 : Int), ()), ()), ((), (), ())))
 (.ret (((y1, ()), ()), ((), (), ())))
def heldBuddyV (a0 : List (List Int)) (k : Int) : Option Int := hdP (mkcIntSS a0) (decide (mkdIntSS (k) a0 = a0)) k
def k139 : Con := { f := 139, lend := true, its := [⟨false, true, [.ro (.sl (.int .i64))]⟩, ⟨false, false, [.i .i64]⟩], lay := [none, none], rs := [⟨false, false, [.i .i64]⟩], F := fun x => .get (heldBuddyV x.1.1 x.2.1.1) fun y => .ret (((y, ()), ()), ((), (), ())) }
theorem f139_eq (x : itemsD k139.its) : bo [k219] (fun _ => none) Tryz.f139 k139 [.tmp 4] x = f139_tree x.1.1 x.2.1.1 := by kernel_rfl
theorem f139_okp (hr : ∀ x : (List (List Int) × Unit) × (Int × Unit) × Unit, itemsWF k139.its x → ∀ y, (k139.F x).eval = some y → (f139_tree x.1.1 x.2.1.1).eval = some y) : k139.Ok Tryz.prog := con_fn [k219] ⟨k219_ok, trivial⟩ f139_eq hr
theorem k139_ok : k139.Ok Tryz.prog := by
 refine f139_okp fun x hw y hy => ?_
 obtain ⟨⟨a0, _⟩, ⟨k, _⟩, _⟩ := x
 change (Out.get (heldBuddyV a0 k) fun y => Out.ret (((y, ()), ()), ((), ((), ())))).eval = some y at hy
 obtain ⟨h0, h1, hy⟩ := hdP_get hy
 refine Eq.trans ?_ hy
 show (f139_tree a0 k).eval = _
 unfold f139_tree
 have e0 : heldIntSSV a0 (k) = some (if decide (mkdIntSS (k) a0 = a0) = true then k + (mkcIntSS a0 : Nat) else -1) := hdP_in (by omega) (by omega)
 rw [eval_get_some e0]
 by_cases q0 : mkdIntSS (k) a0 = a0
 case neg => rw [decide_eq_false q0, if_neg (by decide), eval_ite_t (by decide)]; try simp [Out.eval, q0]
 rw [decide_eq_true q0, if_pos rfl, eval_ite_f (decide_eq_false (by omega))]
 all_goals (have e : k + ((mkcIntSS a0 : Nat) : Int) = k + (mkcIntSS a0 : Nat) := (by omega); rw [e]; try simp [Out.eval, q0])
def f52_tree (a0 : Int) (a1 : Int) (a2 : List (List InsD)) (a3 : List XB) (a4 : List Int) (a5 : List Bool) (a6 : List XF) (a7 : List (Bool × XE)) (a8 : List XK) (a9 : Bool) (a10 : List Int) (a11 : Int) (a12 : Int) (a13 : List Int) (a14 : Int) : Out (((Int × Unit) × Unit) × XI) :=
 .get (heldInsSSV a2 a14) fun y1 =>
 .ite (decide (y1 < (0 : Int)))
 (.ret ((((-1 : Int), ()), ()), ((), (), ())))
 (.get (heldASlotSV a3 y1) fun y2 =>
 .ite (decide (y2 < (0 : Int)))
 (.ret ((((-1 : Int), ()), ()), ((), (), ())))
 (.get (heldIntSV a4 y2) fun y3 =>
 .ite (decide (y3 < (0 : Int)))
 (.ret ((((-1 : Int), ()), ()), ((), (), ())))
 (.get (heldBoolSV a5 y3) fun y4 =>
 .ite (decide (y4 < (0 : Int)))
 (.ret ((((-1 : Int), ()), ()), ((), (), ())))
 (.get (heldAOpenSV a6 y4) fun y5 =>
 .ite (decide (y5 < (0 : Int)))
 (.ret ((((-1 : Int), ()), ()), ((), (), ())))
 (.get (heldARingSV a7 y5) fun y6 =>
 .ite (decide (y6 < (0 : Int)))
 (.ret ((((-1 : Int), ()), ()), ((), (), ())))
 (.get (heldAFileSV a8 y6) fun y7 =>
 .ite (decide (y7 < (0 : Int)))
 (.ret ((((-1 : Int), ()), ()), ((), (), ())))
 (.get (heldARingV a9 a10 a11 a12 y7) fun y8 =>
 .ite (decide (y8 < (0 : Int)))
 (.ret ((((-1 : Int), ()), ()), ((), (), ())))
 (.get (heldIntSV a13 y8) fun y9 =>
 .ite (decide (y9 < (0 : Int)))
 (.ret ((((-1 : Int), ()), ()), ((), (), ())))
 (.ret (((y9, ()), ()), ((), (), ())))))))))))
def heldArraysV (_a0 : Int) (_a1 : Int) (a2 : List (List InsD)) (a3 : List ASlotD) (a4 : List Int) (a5 : List Bool) (a6 : List AOpenD) (a7 : List ARingD) (a8 : List AFileD) (_a9 : Bool) (a10 : List Int) (_a11 : Int) (_a12 : Int) (a13 : List Int) (k : Int) : Option Int := hdP (mkcInsSS a2 + mkcASlotS a3 + mkcIntS a4 + mkcBoolS a5 + mkcAOpenS a6 + mkcARingS a7 + mkcAFileS a8 + mkcIntS a10 + mkcIntS a13) (decide (mkdInsSS (k) a2 = a2) && decide (mkdASlotS (k + (mkcInsSS a2 : Nat)) a3 = a3) && decide (mkdIntS (k + (mkcInsSS a2 : Nat) + (mkcASlotS a3 : Nat)) a4 = a4) && decide (mkdBoolS (k + (mkcInsSS a2 : Nat) + (mkcASlotS a3 : Nat) + (mkcIntS a4 : Nat)) a5 = a5) && decide (mkdAOpenS (k + (mkcInsSS a2 : Nat) + (mkcASlotS a3 : Nat) + (mkcIntS a4 : Nat) + (mkcBoolS a5 : Nat)) a6 = a6) && decide (mkdARingS (k + (mkcInsSS a2 : Nat) + (mkcASlotS a3 : Nat) + (mkcIntS a4 : Nat) + (mkcBoolS a5 : Nat) + (mkcAOpenS a6 : Nat)) a7 = a7) && decide (mkdAFileS (k + (mkcInsSS a2 : Nat) + (mkcASlotS a3 : Nat) + (mkcIntS a4 : Nat) + (mkcBoolS a5 : Nat) + (mkcAOpenS a6 : Nat) + (mkcARingS a7 : Nat)) a8 = a8) && decide (mkdIntS (k + (mkcInsSS a2 : Nat) + (mkcASlotS a3 : Nat) + (mkcIntS a4 : Nat) + (mkcBoolS a5 : Nat) + (mkcAOpenS a6 : Nat) + (mkcARingS a7 : Nat) + (mkcAFileS a8 : Nat)) a10 = a10) && decide (mkdIntS (k + (mkcInsSS a2 : Nat) + (mkcASlotS a3 : Nat) + (mkcIntS a4 : Nat) + (mkcBoolS a5 : Nat) + (mkcAOpenS a6 : Nat) + (mkcARingS a7 : Nat) + (mkcAFileS a8 : Nat) + (mkcIntS a10 : Nat)) a13 = a13)) k
def k52 : Con := { f := 52, lend := true, its := [⟨false, true, [.i .i64, .i .i64, .ro (.sl tyN), .ro tyQ, .ro (.int .i64), .ro .bool, .ro tyS, .ro tyR, .ro tyT, .b, .ro (.int .i64), .i .i64, .i .i64, .ro (.int .i64)]⟩, ⟨false, false, [.i .i64]⟩], lay := [none, none], rs := [⟨false, false, [.i .i64]⟩], F := fun x => .get (heldArraysV x.1.1 x.1.2.1 x.1.2.2.1 x.1.2.2.2.1 x.1.2.2.2.2.1 x.1.2.2.2.2.2.1 x.1.2.2.2.2.2.2.1 x.1.2.2.2.2.2.2.2.1 x.1.2.2.2.2.2.2.2.2.1 x.1.2.2.2.2.2.2.2.2.2.1 x.1.2.2.2.2.2.2.2.2.2.2.1 x.1.2.2.2.2.2.2.2.2.2.2.2.1 x.1.2.2.2.2.2.2.2.2.2.2.2.2.1 x.1.2.2.2.2.2.2.2.2.2.2.2.2.2.1 x.2.1.1) fun y => .ret (((y, ()), ()), ((), (), ())) }
theorem f52_eq (x : itemsD k52.its) : bo [k130, k131, k132, k133, k134, k135, k136, k137] (fun _ => none) Tryz.f52 k52 [.tmp 4] x = f52_tree x.1.1 x.1.2.1 x.1.2.2.1 x.1.2.2.2.1 x.1.2.2.2.2.1 x.1.2.2.2.2.2.1 x.1.2.2.2.2.2.2.1 x.1.2.2.2.2.2.2.2.1 x.1.2.2.2.2.2.2.2.2.1 x.1.2.2.2.2.2.2.2.2.2.1 x.1.2.2.2.2.2.2.2.2.2.2.1 x.1.2.2.2.2.2.2.2.2.2.2.2.1 x.1.2.2.2.2.2.2.2.2.2.2.2.2.1 x.1.2.2.2.2.2.2.2.2.2.2.2.2.2.1 x.2.1.1 := by kernel_rfl
theorem f52_okp (hr : ∀ x : XG × (Int × Unit) × Unit, itemsWF k52.its x → ∀ y, (k52.F x).eval = some y → (f52_tree x.1.1 x.1.2.1 x.1.2.2.1 x.1.2.2.2.1 x.1.2.2.2.2.1 x.1.2.2.2.2.2.1 x.1.2.2.2.2.2.2.1 x.1.2.2.2.2.2.2.2.1 x.1.2.2.2.2.2.2.2.2.1 x.1.2.2.2.2.2.2.2.2.2.1 x.1.2.2.2.2.2.2.2.2.2.2.1 x.1.2.2.2.2.2.2.2.2.2.2.2.1 x.1.2.2.2.2.2.2.2.2.2.2.2.2.1 x.1.2.2.2.2.2.2.2.2.2.2.2.2.2.1 x.2.1.1).eval = some y) : k52.Ok Tryz.prog := con_fn [k130, k131, k132, k133, k134, k135, k136, k137] ⟨k130_ok, k131_ok, k132_ok, k133_ok, k134_ok, k135_ok, k136_ok, k137_ok, trivial⟩ f52_eq hr
theorem k52_ok : k52.Ok Tryz.prog := by
 refine f52_okp fun x hw y hy => ?_
 obtain ⟨⟨a0, a1, a2, a3, a4, a5, a6, a7, a8, a9, a10, a11, a12, a13, _⟩, ⟨k, _⟩, _⟩ := x
 change (Out.get (heldArraysV a0 a1 a2 a3 a4 a5 a6 a7 a8 a9 a10 a11 a12 a13 k) fun y => Out.ret (((y, ()), ()), ((), ((), ())))).eval = some y at hy
 obtain ⟨h0, h1, hy⟩ := hdP_get hy
 refine Eq.trans ?_ hy
 show (f52_tree a0 a1 a2 a3 a4 a5 a6 a7 a8 a9 a10 a11 a12 a13 k).eval = _
 unfold f52_tree
 have e0 : heldInsSSV a2 (k) = some (if decide (mkdInsSS (k) a2 = a2) = true then k + (mkcInsSS a2 : Nat) else -1) := hdP_in (by omega) (by omega)
 have e1 : heldASlotSV a3 (k + (mkcInsSS a2 : Nat)) = some (if decide (mkdASlotS (k + (mkcInsSS a2 : Nat)) a3 = a3) = true then k + (mkcInsSS a2 : Nat) + (mkcASlotS a3 : Nat) else -1) := hdP_in (by omega) (by omega)
 have e2 : heldIntSV a4 (k + (mkcInsSS a2 : Nat) + (mkcASlotS a3 : Nat)) = some (if decide (mkdIntS (k + (mkcInsSS a2 : Nat) + (mkcASlotS a3 : Nat)) a4 = a4) = true then k + (mkcInsSS a2 : Nat) + (mkcASlotS a3 : Nat) + (mkcIntS a4 : Nat) else -1) := hdP_in (by omega) (by omega)
 have e3 : heldBoolSV a5 (k + (mkcInsSS a2 : Nat) + (mkcASlotS a3 : Nat) + (mkcIntS a4 : Nat)) = some (if decide (mkdBoolS (k + (mkcInsSS a2 : Nat) + (mkcASlotS a3 : Nat) + (mkcIntS a4 : Nat)) a5 = a5) = true then k + (mkcInsSS a2 : Nat) + (mkcASlotS a3 : Nat) + (mkcIntS a4 : Nat) + (mkcBoolS a5 : Nat) else -1) := hdP_in (by omega) (by omega)
 have e4 : heldAOpenSV a6 (k + (mkcInsSS a2 : Nat) + (mkcASlotS a3 : Nat) + (mkcIntS a4 : Nat) + (mkcBoolS a5 : Nat)) = some (if decide (mkdAOpenS (k + (mkcInsSS a2 : Nat) + (mkcASlotS a3 : Nat) + (mkcIntS a4 : Nat) + (mkcBoolS a5 : Nat)) a6 = a6) = true then k + (mkcInsSS a2 : Nat) + (mkcASlotS a3 : Nat) + (mkcIntS a4 : Nat) + (mkcBoolS a5 : Nat) + (mkcAOpenS a6 : Nat) else -1) := hdP_in (by omega) (by omega)
 have e5 : heldARingSV a7 (k + (mkcInsSS a2 : Nat) + (mkcASlotS a3 : Nat) + (mkcIntS a4 : Nat) + (mkcBoolS a5 : Nat) + (mkcAOpenS a6 : Nat)) = some (if decide (mkdARingS (k + (mkcInsSS a2 : Nat) + (mkcASlotS a3 : Nat) + (mkcIntS a4 : Nat) + (mkcBoolS a5 : Nat) + (mkcAOpenS a6 : Nat)) a7 = a7) = true then k + (mkcInsSS a2 : Nat) + (mkcASlotS a3 : Nat) + (mkcIntS a4 : Nat) + (mkcBoolS a5 : Nat) + (mkcAOpenS a6 : Nat) + (mkcARingS a7 : Nat) else -1) := hdP_in (by omega) (by omega)
 have e6 : heldAFileSV a8 (k + (mkcInsSS a2 : Nat) + (mkcASlotS a3 : Nat) + (mkcIntS a4 : Nat) + (mkcBoolS a5 : Nat) + (mkcAOpenS a6 : Nat) + (mkcARingS a7 : Nat)) = some (if decide (mkdAFileS (k + (mkcInsSS a2 : Nat) + (mkcASlotS a3 : Nat) + (mkcIntS a4 : Nat) + (mkcBoolS a5 : Nat) + (mkcAOpenS a6 : Nat) + (mkcARingS a7 : Nat)) a8 = a8) = true then k + (mkcInsSS a2 : Nat) + (mkcASlotS a3 : Nat) + (mkcIntS a4 : Nat) + (mkcBoolS a5 : Nat) + (mkcAOpenS a6 : Nat) + (mkcARingS a7 : Nat) + (mkcAFileS a8 : Nat) else -1) := hdP_in (by omega) (by omega)
 have e7 : heldARingV a9 a10 a11 a12 (k + (mkcInsSS a2 : Nat) + (mkcASlotS a3 : Nat) + (mkcIntS a4 : Nat) + (mkcBoolS a5 : Nat) + (mkcAOpenS a6 : Nat) + (mkcARingS a7 : Nat) + (mkcAFileS a8 : Nat)) = some (if decide (mkdIntS (k + (mkcInsSS a2 : Nat) + (mkcASlotS a3 : Nat) + (mkcIntS a4 : Nat) + (mkcBoolS a5 : Nat) + (mkcAOpenS a6 : Nat) + (mkcARingS a7 : Nat) + (mkcAFileS a8 : Nat)) a10 = a10) = true then k + (mkcInsSS a2 : Nat) + (mkcASlotS a3 : Nat) + (mkcIntS a4 : Nat) + (mkcBoolS a5 : Nat) + (mkcAOpenS a6 : Nat) + (mkcARingS a7 : Nat) + (mkcAFileS a8 : Nat) + (mkcIntS a10 : Nat) else -1) := hdP_in (by omega) (by omega)
 have e8 : heldIntSV a13 (k + (mkcInsSS a2 : Nat) + (mkcASlotS a3 : Nat) + (mkcIntS a4 : Nat) + (mkcBoolS a5 : Nat) + (mkcAOpenS a6 : Nat) + (mkcARingS a7 : Nat) + (mkcAFileS a8 : Nat) + (mkcIntS a10 : Nat)) = some (if decide (mkdIntS (k + (mkcInsSS a2 : Nat) + (mkcASlotS a3 : Nat) + (mkcIntS a4 : Nat) + (mkcBoolS a5 : Nat) + (mkcAOpenS a6 : Nat) + (mkcARingS a7 : Nat) + (mkcAFileS a8 : Nat) + (mkcIntS a10 : Nat)) a13 = a13) = true then k + (mkcInsSS a2 : Nat) + (mkcASlotS a3 : Nat) + (mkcIntS a4 : Nat) + (mkcBoolS a5 : Nat) + (mkcAOpenS a6 : Nat) + (mkcARingS a7 : Nat) + (mkcAFileS a8 : Nat) + (mkcIntS a10 : Nat) + (mkcIntS a13 : Nat) else -1) := hdP_in (by omega) (by omega)
 rw [eval_get_some e0]
 by_cases q0 : mkdInsSS (k) a2 = a2
 case neg => rw [decide_eq_false q0, if_neg (by decide), eval_ite_t (by decide)]; try simp [Out.eval, q0]
 rw [decide_eq_true q0, if_pos rfl, eval_ite_f (decide_eq_false (by omega))]
 rw [eval_get_some e1]
 by_cases q1 : mkdASlotS (k + (mkcInsSS a2 : Nat)) a3 = a3
 case neg => rw [decide_eq_false q1, if_neg (by decide), eval_ite_t (by decide)]; try simp [Out.eval, q0, q1]
 rw [decide_eq_true q1, if_pos rfl, eval_ite_f (decide_eq_false (by omega))]
 rw [eval_get_some e2]
 by_cases q2 : mkdIntS (k + (mkcInsSS a2 : Nat) + (mkcASlotS a3 : Nat)) a4 = a4
 case neg => rw [decide_eq_false q2, if_neg (by decide), eval_ite_t (by decide)]; try simp [Out.eval, q0, q1, q2]
 rw [decide_eq_true q2, if_pos rfl, eval_ite_f (decide_eq_false (by omega))]
 rw [eval_get_some e3]
 by_cases q3 : mkdBoolS (k + (mkcInsSS a2 : Nat) + (mkcASlotS a3 : Nat) + (mkcIntS a4 : Nat)) a5 = a5
 case neg => rw [decide_eq_false q3, if_neg (by decide), eval_ite_t (by decide)]; try simp [Out.eval, q0, q1, q2, q3]
 rw [decide_eq_true q3, if_pos rfl, eval_ite_f (decide_eq_false (by omega))]
 rw [eval_get_some e4]
 by_cases q4 : mkdAOpenS (k + (mkcInsSS a2 : Nat) + (mkcASlotS a3 : Nat) + (mkcIntS a4 : Nat) + (mkcBoolS a5 : Nat)) a6 = a6
 case neg => rw [decide_eq_false q4, if_neg (by decide), eval_ite_t (by decide)]; try simp [Out.eval, q0, q1, q2, q3, q4]
 rw [decide_eq_true q4, if_pos rfl, eval_ite_f (decide_eq_false (by omega))]
 rw [eval_get_some e5]
 by_cases q5 : mkdARingS (k + (mkcInsSS a2 : Nat) + (mkcASlotS a3 : Nat) + (mkcIntS a4 : Nat) + (mkcBoolS a5 : Nat) + (mkcAOpenS a6 : Nat)) a7 = a7
 case neg => rw [decide_eq_false q5, if_neg (by decide), eval_ite_t (by decide)]; try simp [Out.eval, q0, q1, q2, q3, q4, q5]
 rw [decide_eq_true q5, if_pos rfl, eval_ite_f (decide_eq_false (by omega))]
 rw [eval_get_some e6]
 by_cases q6 : mkdAFileS (k + (mkcInsSS a2 : Nat) + (mkcASlotS a3 : Nat) + (mkcIntS a4 : Nat) + (mkcBoolS a5 : Nat) + (mkcAOpenS a6 : Nat) + (mkcARingS a7 : Nat)) a8 = a8
 case neg => rw [decide_eq_false q6, if_neg (by decide), eval_ite_t (by decide)]; try simp [Out.eval, q0, q1, q2, q3, q4, q5, q6]
 rw [decide_eq_true q6, if_pos rfl, eval_ite_f (decide_eq_false (by omega))]
 rw [eval_get_some e7]
 by_cases q7 : mkdIntS (k + (mkcInsSS a2 : Nat) + (mkcASlotS a3 : Nat) + (mkcIntS a4 : Nat) + (mkcBoolS a5 : Nat) + (mkcAOpenS a6 : Nat) + (mkcARingS a7 : Nat) + (mkcAFileS a8 : Nat)) a10 = a10
 case neg => rw [decide_eq_false q7, if_neg (by decide), eval_ite_t (by decide)]; try simp [Out.eval, q0, q1, q2, q3, q4, q5, q6, q7]
 rw [decide_eq_true q7, if_pos rfl, eval_ite_f (decide_eq_false (by omega))]
 rw [eval_get_some e8]
 by_cases q8 : mkdIntS (k + (mkcInsSS a2 : Nat) + (mkcASlotS a3 : Nat) + (mkcIntS a4 : Nat) + (mkcBoolS a5 : Nat) + (mkcAOpenS a6 : Nat) + (mkcARingS a7 : Nat) + (mkcAFileS a8 : Nat) + (mkcIntS a10 : Nat)) a13 = a13
 case neg => rw [decide_eq_false q8, if_neg (by decide), eval_ite_t (by decide)]; try simp [Out.eval, q0, q1, q2, q3, q4, q5, q6, q7, q8]
 rw [decide_eq_true q8, if_pos rfl, eval_ite_f (decide_eq_false (by omega))]
 all_goals (have e : k + ((mkcInsSS a2 + mkcASlotS a3 + mkcIntS a4 + mkcBoolS a5 + mkcAOpenS a6 + mkcARingS a7 + mkcAFileS a8 + mkcIntS a10 + mkcIntS a13 : Nat) : Int) = k + (mkcInsSS a2 : Nat) + (mkcASlotS a3 : Nat) + (mkcIntS a4 : Nat) + (mkcBoolS a5 : Nat) + (mkcAOpenS a6 : Nat) + (mkcARingS a7 : Nat) + (mkcAFileS a8 : Nat) + (mkcIntS a10 : Nat) + (mkcIntS a13 : Nat) := (by omega); rw [e]; try simp [Out.eval, q0, q1, q2, q3, q4, q5, q6, q7, q8])
def f53_tree (a0 : Int) (a1 : Int) (a2 : List (List InsD)) (a3 : List ProcD) (a4 : List Int) (a5 : List (List Int)) (a6 : List OpenD) (a7 : List XH) (a8 : List CpuD) (a9 : List Int) (a10 : List Int) (a11 : Int) : Out (((Int × Unit) × Unit) × XI) :=
 .get (heldInsSSV a2 a11) fun y1 =>
 .ite (decide (y1 < (0 : Int)))
 (.ret ((((-1 : Int), ()), ()), ((), (), ())))
 (.get (heldProcSV a3 y1) fun y2 =>
 .ite (decide (y2 < (0 : Int)))
 (.ret ((((-1 : Int), ()), ()), ((), (), ())))
 (.get (heldIntSV a4 y2) fun y3 =>
 .ite (decide (y3 < (0 : Int)))
 (.ret ((((-1 : Int), ()), ()), ((), (), ())))
 (.get (heldBuddyV a5 y3) fun y4 =>
 .ite (decide (y4 < (0 : Int)))
 (.ret ((((-1 : Int), ()), ()), ((), (), ())))
 (.get (heldOpenSV a6 y4) fun y5 =>
 .ite (decide (y5 < (0 : Int)))
 (.ret ((((-1 : Int), ()), ()), ((), (), ())))
 (.get (heldBPipeSV a7 y5) fun y6 =>
 .ite (decide (y6 < (0 : Int)))
 (.ret ((((-1 : Int), ()), ()), ((), (), ())))
 (.get (heldCpuSV a8 y6) fun y7 =>
 .ite (decide (y7 < (0 : Int)))
 (.ret ((((-1 : Int), ()), ()), ((), (), ())))
 (.get (heldIntSV a9 y7) fun y8 =>
 .ite (decide (y8 < (0 : Int)))
 (.ret ((((-1 : Int), ()), ()), ((), (), ())))
 (.get (heldIntSV a10 y8) fun y9 =>
 .ite (decide (y9 < (0 : Int)))
 (.ret ((((-1 : Int), ()), ()), ((), (), ())))
 (.ret (((y9, ()), ()), ((), (), ())))))))))))
def heldNodesV (_a0 : Int) (_a1 : Int) (a2 : List (List InsD)) (a3 : List ProcD) (a4 : List Int) (a5 : List (List Int)) (a6 : List OpenD) (a7 : List BPipeD) (a8 : List CpuD) (a9 : List Int) (a10 : List Int) (k : Int) : Option Int := hdP (mkcInsSS a2 + mkcProcS a3 + mkcIntS a4 + mkcIntSS a5 + mkcOpenS a6 + mkcBPipeS a7 + mkcCpuS a8 + mkcIntS a9 + mkcIntS a10) (decide (mkdInsSS (k) a2 = a2) && decide (mkdProcS (k + (mkcInsSS a2 : Nat)) a3 = a3) && decide (mkdIntS (k + (mkcInsSS a2 : Nat) + (mkcProcS a3 : Nat)) a4 = a4) && decide (mkdIntSS (k + (mkcInsSS a2 : Nat) + (mkcProcS a3 : Nat) + (mkcIntS a4 : Nat)) a5 = a5) && decide (mkdOpenS (k + (mkcInsSS a2 : Nat) + (mkcProcS a3 : Nat) + (mkcIntS a4 : Nat) + (mkcIntSS a5 : Nat)) a6 = a6) && decide (mkdBPipeS (k + (mkcInsSS a2 : Nat) + (mkcProcS a3 : Nat) + (mkcIntS a4 : Nat) + (mkcIntSS a5 : Nat) + (mkcOpenS a6 : Nat)) a7 = a7) && decide (mkdCpuS (k + (mkcInsSS a2 : Nat) + (mkcProcS a3 : Nat) + (mkcIntS a4 : Nat) + (mkcIntSS a5 : Nat) + (mkcOpenS a6 : Nat) + (mkcBPipeS a7 : Nat)) a8 = a8) && decide (mkdIntS (k + (mkcInsSS a2 : Nat) + (mkcProcS a3 : Nat) + (mkcIntS a4 : Nat) + (mkcIntSS a5 : Nat) + (mkcOpenS a6 : Nat) + (mkcBPipeS a7 : Nat) + (mkcCpuS a8 : Nat)) a9 = a9) && decide (mkdIntS (k + (mkcInsSS a2 : Nat) + (mkcProcS a3 : Nat) + (mkcIntS a4 : Nat) + (mkcIntSS a5 : Nat) + (mkcOpenS a6 : Nat) + (mkcBPipeS a7 : Nat) + (mkcCpuS a8 : Nat) + (mkcIntS a9 : Nat)) a10 = a10)) k
def k53 : Con := { f := 53, lend := true, its := [⟨false, true, [.i .i64, .i .i64, .ro (.sl tyN), .ro tyP, .ro (.int .i64), .ro (.sl (.int .i64)), .ro tyO, .ro tyU, .ro tyF, .ro (.int .i64), .ro (.int .i64)]⟩, ⟨false, false, [.i .i64]⟩], lay := [none, none], rs := [⟨false, false, [.i .i64]⟩], F := fun x => .get (heldNodesV x.1.1 x.1.2.1 x.1.2.2.1 x.1.2.2.2.1 x.1.2.2.2.2.1 x.1.2.2.2.2.2.1 x.1.2.2.2.2.2.2.1 x.1.2.2.2.2.2.2.2.1 x.1.2.2.2.2.2.2.2.2.1 x.1.2.2.2.2.2.2.2.2.2.1 x.1.2.2.2.2.2.2.2.2.2.2.1 x.2.1.1) fun y => .ret (((y, ()), ()), ((), (), ())) }
theorem f53_eq (x : itemsD k53.its) : bo [k130, k138, k132, k139, k140, k141, k142] (fun _ => none) Tryz.f53 k53 [.tmp 4] x = f53_tree x.1.1 x.1.2.1 x.1.2.2.1 x.1.2.2.2.1 x.1.2.2.2.2.1 x.1.2.2.2.2.2.1 x.1.2.2.2.2.2.2.1 x.1.2.2.2.2.2.2.2.1 x.1.2.2.2.2.2.2.2.2.1 x.1.2.2.2.2.2.2.2.2.2.1 x.1.2.2.2.2.2.2.2.2.2.2.1 x.2.1.1 := by kernel_rfl
theorem f53_okp (hr : ∀ x : (Int × Int × XJ) × (Int × Unit) × Unit, itemsWF k53.its x → ∀ y, (k53.F x).eval = some y → (f53_tree x.1.1 x.1.2.1 x.1.2.2.1 x.1.2.2.2.1 x.1.2.2.2.2.1 x.1.2.2.2.2.2.1 x.1.2.2.2.2.2.2.1 x.1.2.2.2.2.2.2.2.1 x.1.2.2.2.2.2.2.2.2.1 x.1.2.2.2.2.2.2.2.2.2.1 x.1.2.2.2.2.2.2.2.2.2.2.1 x.2.1.1).eval = some y) : k53.Ok Tryz.prog := con_fn [k130, k138, k132, k139, k140, k141, k142] ⟨k130_ok, k138_ok, k132_ok, k139_ok, k140_ok, k141_ok, k142_ok, trivial⟩ f53_eq hr
theorem k53_ok : k53.Ok Tryz.prog := by
 refine f53_okp fun x hw y hy => ?_
 obtain ⟨⟨a0, a1, a2, a3, a4, a5, a6, a7, a8, a9, a10, _⟩, ⟨k, _⟩, _⟩ := x
 change (Out.get (heldNodesV a0 a1 a2 a3 a4 a5 a6 a7 a8 a9 a10 k) fun y => Out.ret (((y, ()), ()), ((), ((), ())))).eval = some y at hy
 obtain ⟨h0, h1, hy⟩ := hdP_get hy
 refine Eq.trans ?_ hy
 show (f53_tree a0 a1 a2 a3 a4 a5 a6 a7 a8 a9 a10 k).eval = _
 unfold f53_tree
 have e0 : heldInsSSV a2 (k) = some (if decide (mkdInsSS (k) a2 = a2) = true then k + (mkcInsSS a2 : Nat) else -1) := hdP_in (by omega) (by omega)
 have e1 : heldProcSV a3 (k + (mkcInsSS a2 : Nat)) = some (if decide (mkdProcS (k + (mkcInsSS a2 : Nat)) a3 = a3) = true then k + (mkcInsSS a2 : Nat) + (mkcProcS a3 : Nat) else -1) := hdP_in (by omega) (by omega)
 have e2 : heldIntSV a4 (k + (mkcInsSS a2 : Nat) + (mkcProcS a3 : Nat)) = some (if decide (mkdIntS (k + (mkcInsSS a2 : Nat) + (mkcProcS a3 : Nat)) a4 = a4) = true then k + (mkcInsSS a2 : Nat) + (mkcProcS a3 : Nat) + (mkcIntS a4 : Nat) else -1) := hdP_in (by omega) (by omega)
 have e3 : heldBuddyV a5 (k + (mkcInsSS a2 : Nat) + (mkcProcS a3 : Nat) + (mkcIntS a4 : Nat)) = some (if decide (mkdIntSS (k + (mkcInsSS a2 : Nat) + (mkcProcS a3 : Nat) + (mkcIntS a4 : Nat)) a5 = a5) = true then k + (mkcInsSS a2 : Nat) + (mkcProcS a3 : Nat) + (mkcIntS a4 : Nat) + (mkcIntSS a5 : Nat) else -1) := hdP_in (by omega) (by omega)
 have e4 : heldOpenSV a6 (k + (mkcInsSS a2 : Nat) + (mkcProcS a3 : Nat) + (mkcIntS a4 : Nat) + (mkcIntSS a5 : Nat)) = some (if decide (mkdOpenS (k + (mkcInsSS a2 : Nat) + (mkcProcS a3 : Nat) + (mkcIntS a4 : Nat) + (mkcIntSS a5 : Nat)) a6 = a6) = true then k + (mkcInsSS a2 : Nat) + (mkcProcS a3 : Nat) + (mkcIntS a4 : Nat) + (mkcIntSS a5 : Nat) + (mkcOpenS a6 : Nat) else -1) := hdP_in (by omega) (by omega)
 have e5 : heldBPipeSV a7 (k + (mkcInsSS a2 : Nat) + (mkcProcS a3 : Nat) + (mkcIntS a4 : Nat) + (mkcIntSS a5 : Nat) + (mkcOpenS a6 : Nat)) = some (if decide (mkdBPipeS (k + (mkcInsSS a2 : Nat) + (mkcProcS a3 : Nat) + (mkcIntS a4 : Nat) + (mkcIntSS a5 : Nat) + (mkcOpenS a6 : Nat)) a7 = a7) = true then k + (mkcInsSS a2 : Nat) + (mkcProcS a3 : Nat) + (mkcIntS a4 : Nat) + (mkcIntSS a5 : Nat) + (mkcOpenS a6 : Nat) + (mkcBPipeS a7 : Nat) else -1) := hdP_in (by omega) (by omega)
 have e6 : heldCpuSV a8 (k + (mkcInsSS a2 : Nat) + (mkcProcS a3 : Nat) + (mkcIntS a4 : Nat) + (mkcIntSS a5 : Nat) + (mkcOpenS a6 : Nat) + (mkcBPipeS a7 : Nat)) = some (if decide (mkdCpuS (k + (mkcInsSS a2 : Nat) + (mkcProcS a3 : Nat) + (mkcIntS a4 : Nat) + (mkcIntSS a5 : Nat) + (mkcOpenS a6 : Nat) + (mkcBPipeS a7 : Nat)) a8 = a8) = true then k + (mkcInsSS a2 : Nat) + (mkcProcS a3 : Nat) + (mkcIntS a4 : Nat) + (mkcIntSS a5 : Nat) + (mkcOpenS a6 : Nat) + (mkcBPipeS a7 : Nat) + (mkcCpuS a8 : Nat) else -1) := hdP_in (by omega) (by omega)
 have e7 : heldIntSV a9 (k + (mkcInsSS a2 : Nat) + (mkcProcS a3 : Nat) + (mkcIntS a4 : Nat) + (mkcIntSS a5 : Nat) + (mkcOpenS a6 : Nat) + (mkcBPipeS a7 : Nat) + (mkcCpuS a8 : Nat)) = some (if decide (mkdIntS (k + (mkcInsSS a2 : Nat) + (mkcProcS a3 : Nat) + (mkcIntS a4 : Nat) + (mkcIntSS a5 : Nat) + (mkcOpenS a6 : Nat) + (mkcBPipeS a7 : Nat) + (mkcCpuS a8 : Nat)) a9 = a9) = true then k + (mkcInsSS a2 : Nat) + (mkcProcS a3 : Nat) + (mkcIntS a4 : Nat) + (mkcIntSS a5 : Nat) + (mkcOpenS a6 : Nat) + (mkcBPipeS a7 : Nat) + (mkcCpuS a8 : Nat) + (mkcIntS a9 : Nat) else -1) := hdP_in (by omega) (by omega)
 have e8 : heldIntSV a10 (k + (mkcInsSS a2 : Nat) + (mkcProcS a3 : Nat) + (mkcIntS a4 : Nat) + (mkcIntSS a5 : Nat) + (mkcOpenS a6 : Nat) + (mkcBPipeS a7 : Nat) + (mkcCpuS a8 : Nat) + (mkcIntS a9 : Nat)) = some (if decide (mkdIntS (k + (mkcInsSS a2 : Nat) + (mkcProcS a3 : Nat) + (mkcIntS a4 : Nat) + (mkcIntSS a5 : Nat) + (mkcOpenS a6 : Nat) + (mkcBPipeS a7 : Nat) + (mkcCpuS a8 : Nat) + (mkcIntS a9 : Nat)) a10 = a10) = true then k + (mkcInsSS a2 : Nat) + (mkcProcS a3 : Nat) + (mkcIntS a4 : Nat) + (mkcIntSS a5 : Nat) + (mkcOpenS a6 : Nat) + (mkcBPipeS a7 : Nat) + (mkcCpuS a8 : Nat) + (mkcIntS a9 : Nat) + (mkcIntS a10 : Nat) else -1) := hdP_in (by omega) (by omega)
 rw [eval_get_some e0]
 by_cases q0 : mkdInsSS (k) a2 = a2
 case neg => rw [decide_eq_false q0, if_neg (by decide), eval_ite_t (by decide)]; try simp [Out.eval, q0]
 rw [decide_eq_true q0, if_pos rfl, eval_ite_f (decide_eq_false (by omega))]
 rw [eval_get_some e1]
 by_cases q1 : mkdProcS (k + (mkcInsSS a2 : Nat)) a3 = a3
 case neg => rw [decide_eq_false q1, if_neg (by decide), eval_ite_t (by decide)]; try simp [Out.eval, q0, q1]
 rw [decide_eq_true q1, if_pos rfl, eval_ite_f (decide_eq_false (by omega))]
 rw [eval_get_some e2]
 by_cases q2 : mkdIntS (k + (mkcInsSS a2 : Nat) + (mkcProcS a3 : Nat)) a4 = a4
 case neg => rw [decide_eq_false q2, if_neg (by decide), eval_ite_t (by decide)]; try simp [Out.eval, q0, q1, q2]
 rw [decide_eq_true q2, if_pos rfl, eval_ite_f (decide_eq_false (by omega))]
 rw [eval_get_some e3]
 by_cases q3 : mkdIntSS (k + (mkcInsSS a2 : Nat) + (mkcProcS a3 : Nat) + (mkcIntS a4 : Nat)) a5 = a5
 case neg => rw [decide_eq_false q3, if_neg (by decide), eval_ite_t (by decide)]; try simp [Out.eval, q0, q1, q2, q3]
 rw [decide_eq_true q3, if_pos rfl, eval_ite_f (decide_eq_false (by omega))]
 rw [eval_get_some e4]
 by_cases q4 : mkdOpenS (k + (mkcInsSS a2 : Nat) + (mkcProcS a3 : Nat) + (mkcIntS a4 : Nat) + (mkcIntSS a5 : Nat)) a6 = a6
 case neg => rw [decide_eq_false q4, if_neg (by decide), eval_ite_t (by decide)]; try simp [Out.eval, q0, q1, q2, q3, q4]
 rw [decide_eq_true q4, if_pos rfl, eval_ite_f (decide_eq_false (by omega))]
 rw [eval_get_some e5]
 by_cases q5 : mkdBPipeS (k + (mkcInsSS a2 : Nat) + (mkcProcS a3 : Nat) + (mkcIntS a4 : Nat) + (mkcIntSS a5 : Nat) + (mkcOpenS a6 : Nat)) a7 = a7
 case neg => rw [decide_eq_false q5, if_neg (by decide), eval_ite_t (by decide)]; try simp [Out.eval, q0, q1, q2, q3, q4, q5]
 rw [decide_eq_true q5, if_pos rfl, eval_ite_f (decide_eq_false (by omega))]
 rw [eval_get_some e6]
 by_cases q6 : mkdCpuS (k + (mkcInsSS a2 : Nat) + (mkcProcS a3 : Nat) + (mkcIntS a4 : Nat) + (mkcIntSS a5 : Nat) + (mkcOpenS a6 : Nat) + (mkcBPipeS a7 : Nat)) a8 = a8
 case neg => rw [decide_eq_false q6, if_neg (by decide), eval_ite_t (by decide)]; try simp [Out.eval, q0, q1, q2, q3, q4, q5, q6]
 rw [decide_eq_true q6, if_pos rfl, eval_ite_f (decide_eq_false (by omega))]
 rw [eval_get_some e7]
 by_cases q7 : mkdIntS (k + (mkcInsSS a2 : Nat) + (mkcProcS a3 : Nat) + (mkcIntS a4 : Nat) + (mkcIntSS a5 : Nat) + (mkcOpenS a6 : Nat) + (mkcBPipeS a7 : Nat) + (mkcCpuS a8 : Nat)) a9 = a9
 case neg => rw [decide_eq_false q7, if_neg (by decide), eval_ite_t (by decide)]; try simp [Out.eval, q0, q1, q2, q3, q4, q5, q6, q7]
 rw [decide_eq_true q7, if_pos rfl, eval_ite_f (decide_eq_false (by omega))]
 rw [eval_get_some e8]
 by_cases q8 : mkdIntS (k + (mkcInsSS a2 : Nat) + (mkcProcS a3 : Nat) + (mkcIntS a4 : Nat) + (mkcIntSS a5 : Nat) + (mkcOpenS a6 : Nat) + (mkcBPipeS a7 : Nat) + (mkcCpuS a8 : Nat) + (mkcIntS a9 : Nat)) a10 = a10
 case neg => rw [decide_eq_false q8, if_neg (by decide), eval_ite_t (by decide)]; try simp [Out.eval, q0, q1, q2, q3, q4, q5, q6, q7, q8]
 rw [decide_eq_true q8, if_pos rfl, eval_ite_f (decide_eq_false (by omega))]
 all_goals (have e : k + ((mkcInsSS a2 + mkcProcS a3 + mkcIntS a4 + mkcIntSS a5 + mkcOpenS a6 + mkcBPipeS a7 + mkcCpuS a8 + mkcIntS a9 + mkcIntS a10 : Nat) : Int) = k + (mkcInsSS a2 : Nat) + (mkcProcS a3 : Nat) + (mkcIntS a4 : Nat) + (mkcIntSS a5 : Nat) + (mkcOpenS a6 : Nat) + (mkcBPipeS a7 : Nat) + (mkcCpuS a8 : Nat) + (mkcIntS a9 : Nat) + (mkcIntS a10 : Nat) := (by omega); rw [e]; try simp [Out.eval, q0, q1, q2, q3, q4, q5, q6, q7, q8])
def f20_tree (a0 : Int) (a1 : Int) (a2 : Int) (a3 : List (List InsD)) (a4 : List XB) (a5 : List Int) (a6 : List Bool) (a7 : List XF) (a8 : List (Bool × XE)) (a9 : List XK) (a10 : Bool) (a11 : List Int) (a12 : Int) (a13 : Int) (a14 : List Int) (a15 : Int) (a16 : Int) (a17 : List (List InsD)) (a18 : List ProcD) (a19 : List Int) (a20 : List (List Int)) (a21 : List OpenD) (a22 : List XH) (a23 : List CpuD) (a24 : List Int) (a25 : List Int) (a26 : Int) : Out (((Int × Unit) × Unit) × XI) :=
 .get (heldArraysV a1 a2 a3 a4 a5 a6 a7 a8 a9 a10 a11 a12 a13 a14 a26) fun y1 =>
 .ite (decide (y1 < (0 : Int)))
 (.ret ((((-1 : Int), ()), ()), ((), (), ())))
 (.get (heldNodesV a15 a16 a17 a18 a19 a20 a21 a22 a23 a24 a25 y1) fun y2 =>
 .ite (decide (y2 < (0 : Int)))
 (.ret ((((-1 : Int), ()), ()), ((), (), ())))
 (.ret (((y2, ()), ()), ((), (), ()))))
def heldLiveV (_a0 : Int) (_a1 : Int) (_a2 : Int) (a3 : List (List InsD)) (a4 : List ASlotD) (a5 : List Int) (a6 : List Bool) (a7 : List AOpenD) (a8 : List ARingD) (a9 : List AFileD) (_a10 : Bool) (a11 : List Int) (_a12 : Int) (_a13 : Int) (a14 : List Int) (_a15 : Int) (_a16 : Int) (a17 : List (List InsD)) (a18 : List ProcD) (a19 : List Int) (a20 : List (List Int)) (a21 : List OpenD) (a22 : List BPipeD) (a23 : List CpuD) (a24 : List Int) (a25 : List Int) (k : Int) : Option Int := hdP (mkcInsSS a3 + mkcASlotS a4 + mkcIntS a5 + mkcBoolS a6 + mkcAOpenS a7 + mkcARingS a8 + mkcAFileS a9 + mkcIntS a11 + mkcIntS a14 + mkcInsSS a17 + mkcProcS a18 + mkcIntS a19 + mkcIntSS a20 + mkcOpenS a21 + mkcBPipeS a22 + mkcCpuS a23 + mkcIntS a24 + mkcIntS a25) (decide (mkdInsSS (k) a3 = a3) && decide (mkdASlotS (k + (mkcInsSS a3 : Nat)) a4 = a4) && decide (mkdIntS (k + (mkcInsSS a3 : Nat) + (mkcASlotS a4 : Nat)) a5 = a5) && decide (mkdBoolS (k + (mkcInsSS a3 : Nat) + (mkcASlotS a4 : Nat) + (mkcIntS a5 : Nat)) a6 = a6) && decide (mkdAOpenS (k + (mkcInsSS a3 : Nat) + (mkcASlotS a4 : Nat) + (mkcIntS a5 : Nat) + (mkcBoolS a6 : Nat)) a7 = a7) && decide (mkdARingS (k + (mkcInsSS a3 : Nat) + (mkcASlotS a4 : Nat) + (mkcIntS a5 : Nat) + (mkcBoolS a6 : Nat) + (mkcAOpenS a7 : Nat)) a8 = a8) && decide (mkdAFileS (k + (mkcInsSS a3 : Nat) + (mkcASlotS a4 : Nat) + (mkcIntS a5 : Nat) + (mkcBoolS a6 : Nat) + (mkcAOpenS a7 : Nat) + (mkcARingS a8 : Nat)) a9 = a9) && decide (mkdIntS (k + (mkcInsSS a3 : Nat) + (mkcASlotS a4 : Nat) + (mkcIntS a5 : Nat) + (mkcBoolS a6 : Nat) + (mkcAOpenS a7 : Nat) + (mkcARingS a8 : Nat) + (mkcAFileS a9 : Nat)) a11 = a11) && decide (mkdIntS (k + (mkcInsSS a3 : Nat) + (mkcASlotS a4 : Nat) + (mkcIntS a5 : Nat) + (mkcBoolS a6 : Nat) + (mkcAOpenS a7 : Nat) + (mkcARingS a8 : Nat) + (mkcAFileS a9 : Nat) + (mkcIntS a11 : Nat)) a14 = a14) && decide (mkdInsSS (k + (mkcInsSS a3 : Nat) + (mkcASlotS a4 : Nat) + (mkcIntS a5 : Nat) + (mkcBoolS a6 : Nat) + (mkcAOpenS a7 : Nat) + (mkcARingS a8 : Nat) + (mkcAFileS a9 : Nat) + (mkcIntS a11 : Nat) + (mkcIntS a14 : Nat)) a17 = a17) && decide (mkdProcS (k + (mkcInsSS a3 : Nat) + (mkcASlotS a4 : Nat) + (mkcIntS a5 : Nat) + (mkcBoolS a6 : Nat) + (mkcAOpenS a7 : Nat) + (mkcARingS a8 : Nat) + (mkcAFileS a9 : Nat) + (mkcIntS a11 : Nat) + (mkcIntS a14 : Nat) + (mkcInsSS a17 : Nat)) a18 = a18) && decide (mkdIntS (k + (mkcInsSS a3 : Nat) + (mkcASlotS a4 : Nat) + (mkcIntS a5 : Nat) + (mkcBoolS a6 : Nat) + (mkcAOpenS a7 : Nat) + (mkcARingS a8 : Nat) + (mkcAFileS a9 : Nat) + (mkcIntS a11 : Nat) + (mkcIntS a14 : Nat) + (mkcInsSS a17 : Nat) + (mkcProcS a18 : Nat)) a19 = a19) && decide (mkdIntSS (k + (mkcInsSS a3 : Nat) + (mkcASlotS a4 : Nat) + (mkcIntS a5 : Nat) + (mkcBoolS a6 : Nat) + (mkcAOpenS a7 : Nat) + (mkcARingS a8 : Nat) + (mkcAFileS a9 : Nat) + (mkcIntS a11 : Nat) + (mkcIntS a14 : Nat) + (mkcInsSS a17 : Nat) + (mkcProcS a18 : Nat) + (mkcIntS a19 : Nat)) a20 = a20) && decide (mkdOpenS (k + (mkcInsSS a3 : Nat) + (mkcASlotS a4 : Nat) + (mkcIntS a5 : Nat) + (mkcBoolS a6 : Nat) + (mkcAOpenS a7 : Nat) + (mkcARingS a8 : Nat) + (mkcAFileS a9 : Nat) + (mkcIntS a11 : Nat) + (mkcIntS a14 : Nat) + (mkcInsSS a17 : Nat) + (mkcProcS a18 : Nat) + (mkcIntS a19 : Nat) + (mkcIntSS a20 : Nat)) a21 = a21) && decide (mkdBPipeS (k + (mkcInsSS a3 : Nat) + (mkcASlotS a4 : Nat) + (mkcIntS a5 : Nat) + (mkcBoolS a6 : Nat) + (mkcAOpenS a7 : Nat) + (mkcARingS a8 : Nat) + (mkcAFileS a9 : Nat) + (mkcIntS a11 : Nat) + (mkcIntS a14 : Nat) + (mkcInsSS a17 : Nat) + (mkcProcS a18 : Nat) + (mkcIntS a19 : Nat) + (mkcIntSS a20 : Nat) + (mkcOpenS a21 : Nat)) a22 = a22) && decide (mkdCpuS (k + (mkcInsSS a3 : Nat) + (mkcASlotS a4 : Nat) + (mkcIntS a5 : Nat) + (mkcBoolS a6 : Nat) + (mkcAOpenS a7 : Nat) + (mkcARingS a8 : Nat) + (mkcAFileS a9 : Nat) + (mkcIntS a11 : Nat) + (mkcIntS a14 : Nat) + (mkcInsSS a17 : Nat) + (mkcProcS a18 : Nat) + (mkcIntS a19 : Nat) + (mkcIntSS a20 : Nat) + (mkcOpenS a21 : Nat) + (mkcBPipeS a22 : Nat)) a23 = a23) && decide (mkdIntS (k + (mkcInsSS a3 : Nat) + (mkcASlotS a4 : Nat) + (mkcIntS a5 : Nat) + (mkcBoolS a6 : Nat) + (mkcAOpenS a7 : Nat) + (mkcARingS a8 : Nat) + (mkcAFileS a9 : Nat) + (mkcIntS a11 : Nat) + (mkcIntS a14 : Nat) + (mkcInsSS a17 : Nat) + (mkcProcS a18 : Nat) + (mkcIntS a19 : Nat) + (mkcIntSS a20 : Nat) + (mkcOpenS a21 : Nat) + (mkcBPipeS a22 : Nat) + (mkcCpuS a23 : Nat)) a24 = a24) && decide (mkdIntS (k + (mkcInsSS a3 : Nat) + (mkcASlotS a4 : Nat) + (mkcIntS a5 : Nat) + (mkcBoolS a6 : Nat) + (mkcAOpenS a7 : Nat) + (mkcARingS a8 : Nat) + (mkcAFileS a9 : Nat) + (mkcIntS a11 : Nat) + (mkcIntS a14 : Nat) + (mkcInsSS a17 : Nat) + (mkcProcS a18 : Nat) + (mkcIntS a19 : Nat) + (mkcIntSS a20 : Nat) + (mkcOpenS a21 : Nat) + (mkcBPipeS a22 : Nat) + (mkcCpuS a23 : Nat) + (mkcIntS a24 : Nat)) a25 = a25)) k
def k20 : Con := { f := 20, lend := true, its := [⟨false, true, [.i .i64, .i .i64, .i .i64, .ro (.sl tyN), .ro tyQ, .ro (.int .i64), .ro .bool, .ro tyS, .ro tyR, .ro tyT, .b, .ro (.int .i64), .i .i64, .i .i64, .ro (.int .i64), .i .i64, .i .i64, .ro (.sl tyN), .ro tyP, .ro (.int .i64), .ro (.sl (.int .i64)), .ro tyO, .ro tyU, .ro tyF, .ro (.int .i64), .ro (.int .i64)]⟩, ⟨false, false, [.i .i64]⟩], lay := [none, none], rs := [⟨false, false, [.i .i64]⟩], F := fun x => .get (heldLiveV x.1.1 x.1.2.1 x.1.2.2.1 x.1.2.2.2.1 x.1.2.2.2.2.1 x.1.2.2.2.2.2.1 x.1.2.2.2.2.2.2.1 x.1.2.2.2.2.2.2.2.1 x.1.2.2.2.2.2.2.2.2.1 x.1.2.2.2.2.2.2.2.2.2.1 x.1.2.2.2.2.2.2.2.2.2.2.1 x.1.2.2.2.2.2.2.2.2.2.2.2.1 x.1.2.2.2.2.2.2.2.2.2.2.2.2.1 x.1.2.2.2.2.2.2.2.2.2.2.2.2.2.1 x.1.2.2.2.2.2.2.2.2.2.2.2.2.2.2.1 x.1.2.2.2.2.2.2.2.2.2.2.2.2.2.2.2.1 x.1.2.2.2.2.2.2.2.2.2.2.2.2.2.2.2.2.1 x.1.2.2.2.2.2.2.2.2.2.2.2.2.2.2.2.2.2.1 x.1.2.2.2.2.2.2.2.2.2.2.2.2.2.2.2.2.2.2.1 x.1.2.2.2.2.2.2.2.2.2.2.2.2.2.2.2.2.2.2.2.1 x.1.2.2.2.2.2.2.2.2.2.2.2.2.2.2.2.2.2.2.2.2.1 x.1.2.2.2.2.2.2.2.2.2.2.2.2.2.2.2.2.2.2.2.2.2.1 x.1.2.2.2.2.2.2.2.2.2.2.2.2.2.2.2.2.2.2.2.2.2.2.1 x.1.2.2.2.2.2.2.2.2.2.2.2.2.2.2.2.2.2.2.2.2.2.2.2.1 x.1.2.2.2.2.2.2.2.2.2.2.2.2.2.2.2.2.2.2.2.2.2.2.2.2.1 x.1.2.2.2.2.2.2.2.2.2.2.2.2.2.2.2.2.2.2.2.2.2.2.2.2.2.1 x.2.1.1) fun y => .ret (((y, ()), ()), ((), (), ())) }
theorem f20_eq (x : itemsD k20.its) : bo [k52, k53] (fun _ => none) Tryz.f20 k20 [.tmp 4] x = f20_tree x.1.1 x.1.2.1 x.1.2.2.1 x.1.2.2.2.1 x.1.2.2.2.2.1 x.1.2.2.2.2.2.1 x.1.2.2.2.2.2.2.1 x.1.2.2.2.2.2.2.2.1 x.1.2.2.2.2.2.2.2.2.1 x.1.2.2.2.2.2.2.2.2.2.1 x.1.2.2.2.2.2.2.2.2.2.2.1 x.1.2.2.2.2.2.2.2.2.2.2.2.1 x.1.2.2.2.2.2.2.2.2.2.2.2.2.1 x.1.2.2.2.2.2.2.2.2.2.2.2.2.2.1 x.1.2.2.2.2.2.2.2.2.2.2.2.2.2.2.1 x.1.2.2.2.2.2.2.2.2.2.2.2.2.2.2.2.1 x.1.2.2.2.2.2.2.2.2.2.2.2.2.2.2.2.2.1 x.1.2.2.2.2.2.2.2.2.2.2.2.2.2.2.2.2.2.1 x.1.2.2.2.2.2.2.2.2.2.2.2.2.2.2.2.2.2.2.1 x.1.2.2.2.2.2.2.2.2.2.2.2.2.2.2.2.2.2.2.2.1 x.1.2.2.2.2.2.2.2.2.2.2.2.2.2.2.2.2.2.2.2.2.1 x.1.2.2.2.2.2.2.2.2.2.2.2.2.2.2.2.2.2.2.2.2.2.1 x.1.2.2.2.2.2.2.2.2.2.2.2.2.2.2.2.2.2.2.2.2.2.2.1 x.1.2.2.2.2.2.2.2.2.2.2.2.2.2.2.2.2.2.2.2.2.2.2.2.1 x.1.2.2.2.2.2.2.2.2.2.2.2.2.2.2.2.2.2.2.2.2.2.2.2.2.1 x.1.2.2.2.2.2.2.2.2.2.2.2.2.2.2.2.2.2.2.2.2.2.2.2.2.2.1 x.2.1.1 := by kernel_rfl
theorem f20_okp (hr : ∀ x : XD × (Int × Unit) × Unit, itemsWF k20.its x → ∀ y, (k20.F x).eval = some y → (f20_tree x.1.1 x.1.2.1 x.1.2.2.1 x.1.2.2.2.1 x.1.2.2.2.2.1 x.1.2.2.2.2.2.1 x.1.2.2.2.2.2.2.1 x.1.2.2.2.2.2.2.2.1 x.1.2.2.2.2.2.2.2.2.1 x.1.2.2.2.2.2.2.2.2.2.1 x.1.2.2.2.2.2.2.2.2.2.2.1 x.1.2.2.2.2.2.2.2.2.2.2.2.1 x.1.2.2.2.2.2.2.2.2.2.2.2.2.1 x.1.2.2.2.2.2.2.2.2.2.2.2.2.2.1 x.1.2.2.2.2.2.2.2.2.2.2.2.2.2.2.1 x.1.2.2.2.2.2.2.2.2.2.2.2.2.2.2.2.1 x.1.2.2.2.2.2.2.2.2.2.2.2.2.2.2.2.2.1 x.1.2.2.2.2.2.2.2.2.2.2.2.2.2.2.2.2.2.1 x.1.2.2.2.2.2.2.2.2.2.2.2.2.2.2.2.2.2.2.1 x.1.2.2.2.2.2.2.2.2.2.2.2.2.2.2.2.2.2.2.2.1 x.1.2.2.2.2.2.2.2.2.2.2.2.2.2.2.2.2.2.2.2.2.1 x.1.2.2.2.2.2.2.2.2.2.2.2.2.2.2.2.2.2.2.2.2.2.1 x.1.2.2.2.2.2.2.2.2.2.2.2.2.2.2.2.2.2.2.2.2.2.2.1 x.1.2.2.2.2.2.2.2.2.2.2.2.2.2.2.2.2.2.2.2.2.2.2.2.1 x.1.2.2.2.2.2.2.2.2.2.2.2.2.2.2.2.2.2.2.2.2.2.2.2.2.1 x.1.2.2.2.2.2.2.2.2.2.2.2.2.2.2.2.2.2.2.2.2.2.2.2.2.2.1 x.2.1.1).eval = some y) : k20.Ok Tryz.prog := con_fn [k52, k53] ⟨k52_ok, k53_ok, trivial⟩ f20_eq hr
theorem k20_ok : k20.Ok Tryz.prog := by
 refine f20_okp fun x hw y hy => ?_
 obtain ⟨⟨a0, a1, a2, a3, a4, a5, a6, a7, a8, a9, a10, a11, a12, a13, a14, a15, a16, a17, a18, a19, a20, a21, a22, a23, a24, a25, _⟩, ⟨k, _⟩, _⟩ := x
 change (Out.get (heldLiveV a0 a1 a2 a3 a4 a5 a6 a7 a8 a9 a10 a11 a12 a13 a14 a15 a16 a17 a18 a19 a20 a21 a22 a23 a24 a25 k) fun y => Out.ret (((y, ()), ()), ((), ((), ())))).eval = some y at hy
 obtain ⟨h0, h1, hy⟩ := hdP_get hy
 refine Eq.trans ?_ hy
 show (f20_tree a0 a1 a2 a3 a4 a5 a6 a7 a8 a9 a10 a11 a12 a13 a14 a15 a16 a17 a18 a19 a20 a21 a22 a23 a24 a25 k).eval = _
 unfold f20_tree
 have e0 : heldArraysV a1 a2 a3 a4 a5 a6 a7 a8 a9 a10 a11 a12 a13 a14 (k) = some (if (decide (mkdInsSS (k) a3 = a3) && decide (mkdASlotS (k + (mkcInsSS a3 : Nat)) a4 = a4) && decide (mkdIntS (k + (mkcInsSS a3 : Nat) + (mkcASlotS a4 : Nat)) a5 = a5) && decide (mkdBoolS (k + (mkcInsSS a3 : Nat) + (mkcASlotS a4 : Nat) + (mkcIntS a5 : Nat)) a6 = a6) && decide (mkdAOpenS (k + (mkcInsSS a3 : Nat) + (mkcASlotS a4 : Nat) + (mkcIntS a5 : Nat) + (mkcBoolS a6 : Nat)) a7 = a7) && decide (mkdARingS (k + (mkcInsSS a3 : Nat) + (mkcASlotS a4 : Nat) + (mkcIntS a5 : Nat) + (mkcBoolS a6 : Nat) + (mkcAOpenS a7 : Nat)) a8 = a8) && decide (mkdAFileS (k + (mkcInsSS a3 : Nat) + (mkcASlotS a4 : Nat) + (mkcIntS a5 : Nat) + (mkcBoolS a6 : Nat) + (mkcAOpenS a7 : Nat) + (mkcARingS a8 : Nat)) a9 = a9) && decide (mkdIntS (k + (mkcInsSS a3 : Nat) + (mkcASlotS a4 : Nat) + (mkcIntS a5 : Nat) + (mkcBoolS a6 : Nat) + (mkcAOpenS a7 : Nat) + (mkcARingS a8 : Nat) + (mkcAFileS a9 : Nat)) a11 = a11) && decide (mkdIntS (k + (mkcInsSS a3 : Nat) + (mkcASlotS a4 : Nat) + (mkcIntS a5 : Nat) + (mkcBoolS a6 : Nat) + (mkcAOpenS a7 : Nat) + (mkcARingS a8 : Nat) + (mkcAFileS a9 : Nat) + (mkcIntS a11 : Nat)) a14 = a14)) = true then k + (mkcInsSS a3 : Nat) + (mkcASlotS a4 : Nat) + (mkcIntS a5 : Nat) + (mkcBoolS a6 : Nat) + (mkcAOpenS a7 : Nat) + (mkcARingS a8 : Nat) + (mkcAFileS a9 : Nat) + (mkcIntS a11 : Nat) + (mkcIntS a14 : Nat) else -1) := (hdP_in (by omega) (by omega)).trans (by rw [show k + ((mkcInsSS a3 + mkcASlotS a4 + mkcIntS a5 + mkcBoolS a6 + mkcAOpenS a7 + mkcARingS a8 + mkcAFileS a9 + mkcIntS a11 + mkcIntS a14 : Nat) : Int) = k + (mkcInsSS a3 : Nat) + (mkcASlotS a4 : Nat) + (mkcIntS a5 : Nat) + (mkcBoolS a6 : Nat) + (mkcAOpenS a7 : Nat) + (mkcARingS a8 : Nat) + (mkcAFileS a9 : Nat) + (mkcIntS a11 : Nat) + (mkcIntS a14 : Nat) by omega])
 rw [eval_get_some e0]
 by_cases q0 : (decide (mkdInsSS (k) a3 = a3) && decide (mkdASlotS (k + (mkcInsSS a3 : Nat)) a4 = a4) && decide (mkdIntS (k + (mkcInsSS a3 : Nat) + (mkcASlotS a4 : Nat)) a5 = a5) && decide (mkdBoolS (k + (mkcInsSS a3 : Nat) + (mkcASlotS a4 : Nat) + (mkcIntS a5 : Nat)) a6 = a6) && decide (mkdAOpenS (k + (mkcInsSS a3 : Nat) + (mkcASlotS a4 : Nat) + (mkcIntS a5 : Nat) + (mkcBoolS a6 : Nat)) a7 = a7) && decide (mkdARingS (k + (mkcInsSS a3 : Nat) + (mkcASlotS a4 : Nat) + (mkcIntS a5 : Nat) + (mkcBoolS a6 : Nat) + (mkcAOpenS a7 : Nat)) a8 = a8) && decide (mkdAFileS (k + (mkcInsSS a3 : Nat) + (mkcASlotS a4 : Nat) + (mkcIntS a5 : Nat) + (mkcBoolS a6 : Nat) + (mkcAOpenS a7 : Nat) + (mkcARingS a8 : Nat)) a9 = a9) && decide (mkdIntS (k + (mkcInsSS a3 : Nat) + (mkcASlotS a4 : Nat) + (mkcIntS a5 : Nat) + (mkcBoolS a6 : Nat) + (mkcAOpenS a7 : Nat) + (mkcARingS a8 : Nat) + (mkcAFileS a9 : Nat)) a11 = a11) && decide (mkdIntS (k + (mkcInsSS a3 : Nat) + (mkcASlotS a4 : Nat) + (mkcIntS a5 : Nat) + (mkcBoolS a6 : Nat) + (mkcAOpenS a7 : Nat) + (mkcARingS a8 : Nat) + (mkcAFileS a9 : Nat) + (mkcIntS a11 : Nat)) a14 = a14)) = true
 case neg =>
  have q := Bool.eq_false_iff.2 q0
  rw [if_neg q0, eval_ite_t (by decide)]
  simp only [q, Bool.false_and]
  try rfl
 rw [if_pos q0, eval_ite_f (decide_eq_false (by omega))]
 have e1 : heldNodesV a15 a16 a17 a18 a19 a20 a21 a22 a23 a24 a25 (k + (mkcInsSS a3 : Nat) + (mkcASlotS a4 : Nat) + (mkcIntS a5 : Nat) + (mkcBoolS a6 : Nat) + (mkcAOpenS a7 : Nat) + (mkcARingS a8 : Nat) + (mkcAFileS a9 : Nat) + (mkcIntS a11 : Nat) + (mkcIntS a14 : Nat)) = some (if (decide (mkdInsSS (k + (mkcInsSS a3 : Nat) + (mkcASlotS a4 : Nat) + (mkcIntS a5 : Nat) + (mkcBoolS a6 : Nat) + (mkcAOpenS a7 : Nat) + (mkcARingS a8 : Nat) + (mkcAFileS a9 : Nat) + (mkcIntS a11 : Nat) + (mkcIntS a14 : Nat)) a17 = a17) && decide (mkdProcS (k + (mkcInsSS a3 : Nat) + (mkcASlotS a4 : Nat) + (mkcIntS a5 : Nat) + (mkcBoolS a6 : Nat) + (mkcAOpenS a7 : Nat) + (mkcARingS a8 : Nat) + (mkcAFileS a9 : Nat) + (mkcIntS a11 : Nat) + (mkcIntS a14 : Nat) + (mkcInsSS a17 : Nat)) a18 = a18) && decide (mkdIntS (k + (mkcInsSS a3 : Nat) + (mkcASlotS a4 : Nat) + (mkcIntS a5 : Nat) + (mkcBoolS a6 : Nat) + (mkcAOpenS a7 : Nat) + (mkcARingS a8 : Nat) + (mkcAFileS a9 : Nat) + (mkcIntS a11 : Nat) + (mkcIntS a14 : Nat) + (mkcInsSS a17 : Nat) + (mkcProcS a18 : Nat)) a19 = a19) && decide (mkdIntSS (k + (mkcInsSS a3 : Nat) + (mkcASlotS a4 : Nat) + (mkcIntS a5 : Nat) + (mkcBoolS a6 : Nat) + (mkcAOpenS a7 : Nat) + (mkcARingS a8 : Nat) + (mkcAFileS a9 : Nat) + (mkcIntS a11 : Nat) + (mkcIntS a14 : Nat) + (mkcInsSS a17 : Nat) + (mkcProcS a18 : Nat) + (mkcIntS a19 : Nat)) a20 = a20) && decide (mkdOpenS (k + (mkcInsSS a3 : Nat) + (mkcASlotS a4 : Nat) + (mkcIntS a5 : Nat) + (mkcBoolS a6 : Nat) + (mkcAOpenS a7 : Nat) + (mkcARingS a8 : Nat) + (mkcAFileS a9 : Nat) + (mkcIntS a11 : Nat) + (mkcIntS a14 : Nat) + (mkcInsSS a17 : Nat) + (mkcProcS a18 : Nat) + (mkcIntS a19 : Nat) + (mkcIntSS a20 : Nat)) a21 = a21) && decide (mkdBPipeS (k + (mkcInsSS a3 : Nat) + (mkcASlotS a4 : Nat) + (mkcIntS a5 : Nat) + (mkcBoolS a6 : Nat) + (mkcAOpenS a7 : Nat) + (mkcARingS a8 : Nat) + (mkcAFileS a9 : Nat) + (mkcIntS a11 : Nat) + (mkcIntS a14 : Nat) + (mkcInsSS a17 : Nat) + (mkcProcS a18 : Nat) + (mkcIntS a19 : Nat) + (mkcIntSS a20 : Nat) + (mkcOpenS a21 : Nat)) a22 = a22) && decide (mkdCpuS (k + (mkcInsSS a3 : Nat) + (mkcASlotS a4 : Nat) + (mkcIntS a5 : Nat) + (mkcBoolS a6 : Nat) + (mkcAOpenS a7 : Nat) + (mkcARingS a8 : Nat) + (mkcAFileS a9 : Nat) + (mkcIntS a11 : Nat) + (mkcIntS a14 : Nat) + (mkcInsSS a17 : Nat) + (mkcProcS a18 : Nat) + (mkcIntS a19 : Nat) + (mkcIntSS a20 : Nat) + (mkcOpenS a21 : Nat) + (mkcBPipeS a22 : Nat)) a23 = a23) && decide (mkdIntS (k + (mkcInsSS a3 : Nat) + (mkcASlotS a4 : Nat) + (mkcIntS a5 : Nat) + (mkcBoolS a6 : Nat) + (mkcAOpenS a7 : Nat) + (mkcARingS a8 : Nat) + (mkcAFileS a9 : Nat) + (mkcIntS a11 : Nat) + (mkcIntS a14 : Nat) + (mkcInsSS a17 : Nat) + (mkcProcS a18 : Nat) + (mkcIntS a19 : Nat) + (mkcIntSS a20 : Nat) + (mkcOpenS a21 : Nat) + (mkcBPipeS a22 : Nat) + (mkcCpuS a23 : Nat)) a24 = a24) && decide (mkdIntS (k + (mkcInsSS a3 : Nat) + (mkcASlotS a4 : Nat) + (mkcIntS a5 : Nat) + (mkcBoolS a6 : Nat) + (mkcAOpenS a7 : Nat) + (mkcARingS a8 : Nat) + (mkcAFileS a9 : Nat) + (mkcIntS a11 : Nat) + (mkcIntS a14 : Nat) + (mkcInsSS a17 : Nat) + (mkcProcS a18 : Nat) + (mkcIntS a19 : Nat) + (mkcIntSS a20 : Nat) + (mkcOpenS a21 : Nat) + (mkcBPipeS a22 : Nat) + (mkcCpuS a23 : Nat) + (mkcIntS a24 : Nat)) a25 = a25)) = true then k + (mkcInsSS a3 : Nat) + (mkcASlotS a4 : Nat) + (mkcIntS a5 : Nat) + (mkcBoolS a6 : Nat) + (mkcAOpenS a7 : Nat) + (mkcARingS a8 : Nat) + (mkcAFileS a9 : Nat) + (mkcIntS a11 : Nat) + (mkcIntS a14 : Nat) + (mkcInsSS a17 : Nat) + (mkcProcS a18 : Nat) + (mkcIntS a19 : Nat) + (mkcIntSS a20 : Nat) + (mkcOpenS a21 : Nat) + (mkcBPipeS a22 : Nat) + (mkcCpuS a23 : Nat) + (mkcIntS a24 : Nat) + (mkcIntS a25 : Nat) else -1) := (hdP_in (by omega) (by omega)).trans (by rw [show k + (mkcInsSS a3 : Nat) + (mkcASlotS a4 : Nat) + (mkcIntS a5 : Nat) + (mkcBoolS a6 : Nat) + (mkcAOpenS a7 : Nat) + (mkcARingS a8 : Nat) + (mkcAFileS a9 : Nat) + (mkcIntS a11 : Nat) + (mkcIntS a14 : Nat) + ((mkcInsSS a17 + mkcProcS a18 + mkcIntS a19 + mkcIntSS a20 + mkcOpenS a21 + mkcBPipeS a22 + mkcCpuS a23 + mkcIntS a24 + mkcIntS a25 : Nat) : Int) = k + (mkcInsSS a3 : Nat) + (mkcASlotS a4 : Nat) + (mkcIntS a5 : Nat) + (mkcBoolS a6 : Nat) + (mkcAOpenS a7 : Nat) + (mkcARingS a8 : Nat) + (mkcAFileS a9 : Nat) + (mkcIntS a11 : Nat) + (mkcIntS a14 : Nat) + (mkcInsSS a17 : Nat) + (mkcProcS a18 : Nat) + (mkcIntS a19 : Nat) + (mkcIntSS a20 : Nat) + (mkcOpenS a21 : Nat) + (mkcBPipeS a22 : Nat) + (mkcCpuS a23 : Nat) + (mkcIntS a24 : Nat) + (mkcIntS a25 : Nat) by omega])
 rw [eval_get_some e1]
 by_cases q1 : (decide (mkdInsSS (k + (mkcInsSS a3 : Nat) + (mkcASlotS a4 : Nat) + (mkcIntS a5 : Nat) + (mkcBoolS a6 : Nat) + (mkcAOpenS a7 : Nat) + (mkcARingS a8 : Nat) + (mkcAFileS a9 : Nat) + (mkcIntS a11 : Nat) + (mkcIntS a14 : Nat)) a17 = a17) && decide (mkdProcS (k + (mkcInsSS a3 : Nat) + (mkcASlotS a4 : Nat) + (mkcIntS a5 : Nat) + (mkcBoolS a6 : Nat) + (mkcAOpenS a7 : Nat) + (mkcARingS a8 : Nat) + (mkcAFileS a9 : Nat) + (mkcIntS a11 : Nat) + (mkcIntS a14 : Nat) + (mkcInsSS a17 : Nat)) a18 = a18) && decide (mkdIntS (k + (mkcInsSS a3 : Nat) + (mkcASlotS a4 : Nat) + (mkcIntS a5 : Nat) + (mkcBoolS a6 : Nat) + (mkcAOpenS a7 : Nat) + (mkcARingS a8 : Nat) + (mkcAFileS a9 : Nat) + (mkcIntS a11 : Nat) + (mkcIntS a14 : Nat) + (mkcInsSS a17 : Nat) + (mkcProcS a18 : Nat)) a19 = a19) && decide (mkdIntSS (k + (mkcInsSS a3 : Nat) + (mkcASlotS a4 : Nat) + (mkcIntS a5 : Nat) + (mkcBoolS a6 : Nat) + (mkcAOpenS a7 : Nat) + (mkcARingS a8 : Nat) + (mkcAFileS a9 : Nat) + (mkcIntS a11 : Nat) + (mkcIntS a14 : Nat) + (mkcInsSS a17 : Nat) + (mkcProcS a18 : Nat) + (mkcIntS a19 : Nat)) a20 = a20) && decide (mkdOpenS (k + (mkcInsSS a3 : Nat) + (mkcASlotS a4 : Nat) + (mkcIntS a5 : Nat) + (mkcBoolS a6 : Nat) + (mkcAOpenS a7 : Nat) + (mkcARingS a8 : Nat) + (mkcAFileS a9 : Nat) + (mkcIntS a11 : Nat) + (mkcIntS a14 : Nat) + (mkcInsSS a17 : Nat) + (mkcProcS a18 : Nat) + (mkcIntS a19 : Nat) + (mkcIntSS a20 : Nat)) a21 = a21) && decide (mkdBPipeS (k + (mkcInsSS a3 : Nat) + (mkcASlotS a4 : Nat) + (mkcIntS a5 : Nat) + (mkcBoolS a6 : Nat) + (mkcAOpenS a7 : Nat) + (mkcARingS a8 : Nat) + (mkcAFileS a9 : Nat) + (mkcIntS a11 : Nat) + (mkcIntS a14 : Nat) + (mkcInsSS a17 : Nat) + (mkcProcS a18 : Nat) + (mkcIntS a19 : Nat) + (mkcIntSS a20 : Nat) + (mkcOpenS a21 : Nat)) a22 = a22) && decide (mkdCpuS (k + (mkcInsSS a3 : Nat) + (mkcASlotS a4 : Nat) + (mkcIntS a5 : Nat) + (mkcBoolS a6 : Nat) + (mkcAOpenS a7 : Nat) + (mkcARingS a8 : Nat) + (mkcAFileS a9 : Nat) + (mkcIntS a11 : Nat) + (mkcIntS a14 : Nat) + (mkcInsSS a17 : Nat) + (mkcProcS a18 : Nat) + (mkcIntS a19 : Nat) + (mkcIntSS a20 : Nat) + (mkcOpenS a21 : Nat) + (mkcBPipeS a22 : Nat)) a23 = a23) && decide (mkdIntS (k + (mkcInsSS a3 : Nat) + (mkcASlotS a4 : Nat) + (mkcIntS a5 : Nat) + (mkcBoolS a6 : Nat) + (mkcAOpenS a7 : Nat) + (mkcARingS a8 : Nat) + (mkcAFileS a9 : Nat) + (mkcIntS a11 : Nat) + (mkcIntS a14 : Nat) + (mkcInsSS a17 : Nat) + (mkcProcS a18 : Nat) + (mkcIntS a19 : Nat) + (mkcIntSS a20 : Nat) + (mkcOpenS a21 : Nat) + (mkcBPipeS a22 : Nat) + (mkcCpuS a23 : Nat)) a24 = a24) && decide (mkdIntS (k + (mkcInsSS a3 : Nat) + (mkcASlotS a4 : Nat) + (mkcIntS a5 : Nat) + (mkcBoolS a6 : Nat) + (mkcAOpenS a7 : Nat) + (mkcARingS a8 : Nat) + (mkcAFileS a9 : Nat) + (mkcIntS a11 : Nat) + (mkcIntS a14 : Nat) + (mkcInsSS a17 : Nat) + (mkcProcS a18 : Nat) + (mkcIntS a19 : Nat) + (mkcIntSS a20 : Nat) + (mkcOpenS a21 : Nat) + (mkcBPipeS a22 : Nat) + (mkcCpuS a23 : Nat) + (mkcIntS a24 : Nat)) a25 = a25)) = true
 case neg =>
  have q := Bool.eq_false_iff.2 q1
  rw [if_neg q1, eval_ite_t (by decide)]
  simp only [q0, Bool.true_and, q, Bool.false_and]
  try rfl
 rw [if_pos q1, eval_ite_f (decide_eq_false (by omega))]
 have e : k + ((mkcInsSS a3 + mkcASlotS a4 + mkcIntS a5 + mkcBoolS a6 + mkcAOpenS a7 + mkcARingS a8 + mkcAFileS a9 + mkcIntS a11 + mkcIntS a14 + mkcInsSS a17 + mkcProcS a18 + mkcIntS a19 + mkcIntSS a20 + mkcOpenS a21 + mkcBPipeS a22 + mkcCpuS a23 + mkcIntS a24 + mkcIntS a25 : Nat) : Int) = k + (mkcInsSS a3 : Nat) + (mkcASlotS a4 : Nat) + (mkcIntS a5 : Nat) + (mkcBoolS a6 : Nat) + (mkcAOpenS a7 : Nat) + (mkcARingS a8 : Nat) + (mkcAFileS a9 : Nat) + (mkcIntS a11 : Nat) + (mkcIntS a14 : Nat) + (mkcInsSS a17 : Nat) + (mkcProcS a18 : Nat) + (mkcIntS a19 : Nat) + (mkcIntSS a20 : Nat) + (mkcOpenS a21 : Nat) + (mkcBPipeS a22 : Nat) + (mkcCpuS a23 : Nat) + (mkcIntS a24 : Nat) + (mkcIntS a25 : Nat) := by omega
 rw [e]
 simp only [q0, Bool.true_and, q1, Bool.true_and, if_true]
 try rfl
end Go.Proofs.YtnnpnkegpkladaaGreat.Dm
