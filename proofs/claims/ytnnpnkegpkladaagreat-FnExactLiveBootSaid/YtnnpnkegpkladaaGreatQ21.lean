/- f -/
import Derived.Test.YtnnpnkegpkladaaGreatQ2
namespace Go.Proofs.YtnnpnkegpkladaaGreat.Dm
open Go Go.ChangeShapes Go.WideShapes Go.ChangeAt Go.RowKit
abbrev f132_S0 := XE × (Unit)
def f132_L0 : f132_S0 → Out (Round f132_S0 ((Int × Unit) × (Unit)) ((Int × Unit) × (Unit)))
| ((p0, p1, p2, _), _) =>
 .ite (decide (p2 < ((List.length p0 : Nat) : Int)))
 (.ite (decide (0 ≤ p2))
 (.get (nth p0 (Int.toNat p2)) fun y1 =>
 .ite ((y1 != p1))
 (.ret (.ret (((-1 : Int), ()), ())))
 (.ret (.again ((p0, (IntKind.i64.wrap (p1 + (1 : Int))), (IntKind.i64.wrap (p2 + (1 : Int))), ()), ()))))
 .fail)
 (.ret (.out ((p1, ()), ())))
def f132_tree (a0 : List Int) (a1 : Int) : Out (((Int × Unit) × Unit) × XI) :=
 .get (iter f132_L0 FUEL ((a0, a1, (0 : Int), ()), ())) fun y1 => .alt y1 (fun y2 =>
 .ret (((y2.1.1, ()), ()), ((), (), ()))) (fun y3 =>
 .ret (((y3.1.1, ()), ()), ((), (), ())))
def f132_A : Nat → Option LoopAnn := fun n => annOf [(0, ⟨⟨[.ro (.int .i64) (some 0), .i .i64, .dead, .dead, .dead, .i .i64] ++ dd 15, []⟩, ⟨[.dead, .i .i64] ++ dd 19, []⟩, some ⟨dd 4 ++ [.i .i64] ++ dd 16, []⟩, false⟩)] n
def heldIntSV (a0 : List Int) (k : Int) : Option Int := hdP (mkcIntS a0) (decide (mkdIntS (k) a0 = a0)) k
def k132 : Con := { f := 132, lend := true, its := [⟨false, false, [.ro (.int .i64)]⟩, ⟨false, false, [.i .i64]⟩], lay := [none, none], rs := [⟨false, false, [.i .i64]⟩], F := fun x => .get (heldIntSV x.1.1 x.2.1.1) fun y => .ret (((y, ()), ()), ((), (), ())) }
theorem f132_eq (x : itemsD k132.its) : bo [] f132_A Tryz.f132 k132 [.tmp 4] x = f132_tree x.1.1 x.2.1.1 := by kernel_rfl
theorem f132_okp (hr : ∀ x : (List Int × Unit) × (Int × Unit) × Unit, itemsWF k132.its x → ∀ y, (k132.F x).eval = some y → (f132_tree x.1.1 x.2.1.1).eval = some y) : k132.Ok Tryz.prog := con_fn [] trivial f132_eq hr
theorem k132_ok : k132.Ok Tryz.prog := by
 refine f132_okp fun x hw y hy => ?_
 obtain ⟨⟨a0, _⟩, ⟨k, _⟩, _⟩ := x
 change (Out.get (heldIntSV a0 k) fun y => Out.ret (((y, ()), ()), ((), ((), ())))).eval = some y at hy
 obtain ⟨h0, h1, hy⟩ := hdP_get hy
 refine Eq.trans ?_ hy
 show (f132_tree a0 k).eval = _
 unfold f132_tree
 have ha : a0.length ≤ BIG := hw.1.1.1
 have := hd_loop (f := f132_L0) a0 mkcInt mkdInt (fun k i => ((a0, (k, (((i : Nat) : Int), ()))), ())) (y := fun k => ((k, ()), ())) (z := ((-1, ()), ()))
  (fun i hi k h0 hk => by
   have h1 := wrap_succ (i := i) (by omega)
   have w1 : IntKind.i64.wrap (k + 1) = k + 1 := wrap1 (by omega) (by omega)
   by_cases q1 : a0[i] = (k : Int)
   case neg =>
    have q' : ¬ (k : Int) = a0[i] := fun e => q1 e.symm
    rw [if_neg (fun e => q' (congrArg (fun x : Int => x) e))]
    simp [f132_L0, Out.eval, hi, cond_eq_ite, q1]
   have hq : mkdInt k a0[i] = a0[i] := by
    simp only [mkdInt]
    simp only [← q1]
   rw [if_pos hq]
   simp [f132_L0, Out.eval, hi, h1, w1, q1, mkcInt] <;> omega)
  (fun k => by simp [f132_L0, Out.eval]) ha h0 h1
 refine (eval_get_some this).trans ?_
 show _ = (Out.ret _).eval
 unfold mkdIntS
 by_cases q : mkdL mkcInt mkdInt k a0 = a0
 . rw [if_pos q, if_pos (decide_eq_true q)]; rfl
 . rw [if_neg q, if_neg (by simpa using q)]; rfl
abbrev f218_S0 := (List InsD × Int × Int × Unit) × (Unit)
def f218_L0 : f218_S0 → Out (Round f218_S0 ((Int × Unit) × (Unit)) ((Int × Unit) × (Unit)))
| ((p0, p1, p2, _), _) =>
 .ite (decide (p2 < ((List.length p0 : Nat) : Int)))
 (.ite (decide (0 ≤ p2))
 (.get (nth p0 (Int.toNat p2)) fun y1 =>
 .ite ((y1.1 != p1))
 (.ret (.ret (((-1 : Int), ()), ())))
 (.ite (decide (0 ≤ p2))
 (.get (nth p0 (Int.toNat p2)) fun y2 =>
 .ite ((y2.2.1 != (IntKind.i64.wrap (p1 + (1 : Int)))))
 (.ret (.ret (((-1 : Int), ()), ())))
 (.ite (decide (0 ≤ p2))
 (.get (nth p0 (Int.toNat p2)) fun y3 =>
 .ite ((y3.2.2.1 != (IntKind.i64.wrap ((IntKind.i64.wrap (p1 + (1 : Int))) + (1 : Int)))))
 (.ret (.ret (((-1 : Int), ()), ())))
 (.ite (decide (0 ≤ p2))
 (.get (nth p0 (Int.toNat p2)) fun y4 =>
 .ite ((y4.2.2.2.1 != (IntKind.i64.wrap ((IntKind.i64.wrap ((IntKind.i64.wrap (p1 + (1 : Int))) + (1 : Int))) + (1 : Int)))))
 (.ret (.ret (((-1 : Int), ()), ())))
 (.ret (.again ((p0, (IntKind.i64.wrap ((IntKind.i64.wrap ((IntKind.i64.wrap ((IntKind.i64.wrap (p1 + (1 : Int))) + (1 : Int))) + (1 : Int))) + (1 : Int))), (IntKind.i64.wrap (p2 + (1 : Int))), ()), ()))))
 .fail))
 .fail))
 .fail))
 .fail)
 (.ret (.out ((p1, ()), ())))
def f218_tree (a0 : List InsD) (a1 : Int) : Out (((Int × Unit) × Unit) × XI) :=
 .get (iter f218_L0 FUEL ((a0, a1, (0 : Int), ()), ())) fun y1 => .alt y1 (fun y2 =>
 .ret (((y2.1.1, ()), ()), ((), (), ()))) (fun y3 =>
 .ret (((y3.1.1, ()), ()), ((), (), ())))
def f218_A : Nat → Option LoopAnn := fun n => annOf [(0, ⟨⟨[.ro tyN (some 0), .i .i64, .dead, .dead, .dead, .i .i64] ++ dd 43, []⟩, ⟨[.dead, .i .i64] ++ dd 47, []⟩, some ⟨dd 4 ++ [.i .i64] ++ dd 44, []⟩, false⟩)] n
def heldInsSV (a0 : List InsD) (k : Int) : Option Int := hdP (mkcInsS a0) (decide (mkdInsS (k) a0 = a0)) k
def k218 : Con := { f := 218, lend := true, its := [⟨false, false, [.ro tyN]⟩, ⟨false, false, [.i .i64]⟩], lay := [none, none], rs := [⟨false, false, [.i .i64]⟩], F := fun x => .get (heldInsSV x.1.1 x.2.1.1) fun y => .ret (((y, ()), ()), ((), (), ())) }
theorem f218_eq (x : itemsD k218.its) : bo [] f218_A Tryz.f218 k218 [.tmp 4] x = f218_tree x.1.1 x.2.1.1 := by kernel_rfl
theorem f218_okp (hr : ∀ x : (List InsD × Unit) × (Int × Unit) × Unit, itemsWF k218.its x → ∀ y, (k218.F x).eval = some y → (f218_tree x.1.1 x.2.1.1).eval = some y) : k218.Ok Tryz.prog := con_fn [] trivial f218_eq hr
theorem k218_ok : k218.Ok Tryz.prog := by
 refine f218_okp fun x hw y hy => ?_
 obtain ⟨⟨a0, _⟩, ⟨k, _⟩, _⟩ := x
 change (Out.get (heldInsSV a0 k) fun y => Out.ret (((y, ()), ()), ((), ((), ())))).eval = some y at hy
 obtain ⟨h0, h1, hy⟩ := hdP_get hy
 refine Eq.trans ?_ hy
 show (f218_tree a0 k).eval = _
 unfold f218_tree
 have ha : a0.length ≤ BIG := hw.1.1.1
 have := hd_loop (f := f218_L0) a0 mkcIns mkdIns (fun k i => ((a0, (k, (((i : Nat) : Int), ()))), ())) (y := fun k => ((k, ()), ())) (z := ((-1, ()), ()))
  (fun i hi k h0 hk => by
   have h1 := wrap_succ (i := i) (by omega)
   unfold mkcIns at hk
   have w1 : IntKind.i64.wrap (k + 1) = k + 1 := wrap1 (by omega) (by omega)
   have w2 : IntKind.i64.wrap (k + 1 + 1) = k + 1 + 1 := wrap1 (by omega) (by omega)
   have w3 : IntKind.i64.wrap (k + 1 + 1 + 1) = k + 1 + 1 + 1 := wrap1 (by omega) (by omega)
   have w4 : IntKind.i64.wrap (k + 1 + 1 + 1 + 1) = k + 1 + 1 + 1 + 1 := wrap1 (by omega) (by omega)
   by_cases q1 : a0[i].1 = (k : Int)
   case neg =>
    have q' : ¬ (k : Int) = a0[i].1 := fun e => q1 e.symm
    rw [if_neg (fun e => q' (congrArg (fun x : InsD => x.1) e))]
    simp [f218_L0, Out.eval, hi, cond_eq_ite, q1]
   by_cases q2 : a0[i].2.1 = (k + 1 : Int)
   case neg =>
    have q' : ¬ (k + 1 : Int) = a0[i].2.1 := fun e => q2 e.symm
    rw [if_neg (fun e => q' (congrArg (fun x : InsD => x.2.1) e))]
    simp [f218_L0, Out.eval, hi, cond_eq_ite, w1, q1, q2]
   by_cases q3 : a0[i].2.2.1 = (k + 1 + 1 : Int)
   case neg =>
    have q' : ¬ (k + 1 + 1 : Int) = a0[i].2.2.1 := fun e => q3 e.symm
    rw [if_neg (fun e => q' (congrArg (fun x : InsD => x.2.2.1) e))]
    simp [f218_L0, Out.eval, hi, cond_eq_ite, w1, w2, q1, q2, q3]
   by_cases q4 : a0[i].2.2.2.1 = (k + 1 + 1 + 1 : Int)
   case neg =>
    have q' : ¬ (k + 1 + 1 + 1 : Int) = a0[i].2.2.2.1 := fun e => q4 e.symm
    rw [if_neg (fun e => q' (congrArg (fun x : InsD => x.2.2.2.1) e))]
    simp [f218_L0, Out.eval, hi, cond_eq_ite, w1, w2, w3, q1, q2, q3, q4]
   have hq : mkdIns k a0[i] = a0[i] := (Prod.ext q1.symm (Prod.ext q2.symm (Prod.ext q3.symm (Prod.ext q4.symm rfl))))
   rw [if_pos hq]
   simp [f218_L0, Out.eval, hi, h1, w1, w2, w3, w4, q1, q2, q3, q4, mkcIns] <;> omega)
  (fun k => by simp [f218_L0, Out.eval]) ha h0 h1
 refine (eval_get_some this).trans ?_
 show _ = (Out.ret _).eval
 unfold mkdInsS
 by_cases q : mkdL mkcIns mkdIns k a0 = a0
 . rw [if_pos q, if_pos (decide_eq_true q)]; rfl
 . rw [if_neg q, if_neg (by simpa using q)]; rfl
abbrev f130_S0 := (List (List InsD) × Int × Int × Unit) × (Unit)
def f130_L0 : f130_S0 → Out (Round f130_S0 ((Int × Unit) × (Unit)) ((Int × Unit) × (Unit)))
| ((p0, p1, p2, _), _) =>
 .ite (decide (p2 < ((List.length p0 : Nat) : Int)))
 (.ite (decide (0 ≤ p2))
 (.get (nth p0 (Int.toNat p2)) fun y1 =>
 .get (heldInsSV y1 p1) fun y2 =>
 .ite (decide (y2 < (0 : Int)))
 (.ret (.ret (((-1 : Int), ()), ())))
 (.ret (.again ((p0, y2, (IntKind.i64.wrap (p2 + (1 : Int))), ()), ()))))
 .fail)
 (.ret (.out ((p1, ()), ())))
def f130_tree (a0 : List (List InsD)) (a1 : Int) : Out (((Int × Unit) × Unit) × XI) :=
 .get (iter f130_L0 FUEL ((a0, a1, (0 : Int), ()), ())) fun y1 => .alt y1 (fun y2 =>
 .ret (((y2.1.1, ()), ()), ((), (), ()))) (fun y3 =>
 .ret (((y3.1.1, ()), ()), ((), (), ())))
def f130_A : Nat → Option LoopAnn := fun n => annOf [(0, ⟨⟨[.ro (.sl tyN) (some 0), .i .i64, .dead, .dead, .dead, .i .i64] ++ dd 15, []⟩, ⟨[.dead, .i .i64] ++ dd 19, []⟩, some ⟨dd 4 ++ [.i .i64] ++ dd 16, []⟩, false⟩)] n
def heldInsSSV (a0 : List (List InsD)) (k : Int) : Option Int := hdP (mkcInsSS a0) (decide (mkdInsSS (k) a0 = a0)) k
def k130 : Con := { f := 130, lend := true, its := [⟨false, false, [.ro (.sl tyN)]⟩, ⟨false, false, [.i .i64]⟩], lay := [none, none], rs := [⟨false, false, [.i .i64]⟩], F := fun x => .get (heldInsSSV x.1.1 x.2.1.1) fun y => .ret (((y, ()), ()), ((), (), ())) }
theorem f130_eq (x : itemsD k130.its) : bo [k218] f130_A Tryz.f130 k130 [.tmp 4] x = f130_tree x.1.1 x.2.1.1 := by kernel_rfl
theorem f130_okp (hr : ∀ x : (List (List InsD) × Unit) × (Int × Unit) × Unit, itemsWF k130.its x → ∀ y, (k130.F x).eval = some y → (f130_tree x.1.1 x.2.1.1).eval = some y) : k130.Ok Tryz.prog := con_fn [k218] ⟨k218_ok, trivial⟩ f130_eq hr
theorem k130_ok : k130.Ok Tryz.prog := by
 refine f130_okp fun x hw y hy => ?_
 obtain ⟨⟨a0, _⟩, ⟨k, _⟩, _⟩ := x
 change (Out.get (heldInsSSV a0 k) fun y => Out.ret (((y, ()), ()), ((), ((), ())))).eval = some y at hy
 obtain ⟨h0, h1, hy⟩ := hdP_get hy
 refine Eq.trans ?_ hy
 show (f130_tree a0 k).eval = _
 unfold f130_tree
 have ha : a0.length ≤ BIG := hw.1.1.1
 have := hd_loop (f := f130_L0) a0 mkcInsS mkdInsS (fun k i => ((a0, (k, (((i : Nat) : Int), ()))), ())) (y := fun k => ((k, ()), ())) (z := ((-1, ()), ()))
  (fun i hi k h0 hk => by
   have h1 := wrap_succ (i := i) (by omega)
   have w1 : heldInsSV a0[i] (k) = some (if decide (mkdInsS (k) a0[i] = a0[i]) = true then k + (mkcInsS a0[i] : Nat) else -1) := hdP_in (by omega) (by omega)
   by_cases q1 : mkdInsS (k) a0[i] = a0[i]
   case neg =>
    have q' := q1
    rw [decide_eq_false q1, if_neg (by decide)] at w1
    rw [if_neg (fun e => q' (congrArg (fun x : List InsD => x) e))]
    simp [f130_L0, Out.eval, hi, cond_eq_ite, w1, q1]
   rw [decide_eq_true q1, if_pos rfl] at w1
   have n1 : ¬ k + (mkcInsS a0[i] : Nat) < 0 := by omega
   have hq : mkdInsS k a0[i] = a0[i] := q1
   rw [if_pos hq]
   simp [f130_L0, Out.eval, hi, h1, w1, q1, n1] <;> omega)
  (fun k => by simp [f130_L0, Out.eval]) ha h0 h1
 refine (eval_get_some this).trans ?_
 show _ = (Out.ret _).eval
 unfold mkdInsSS
 by_cases q : mkdL mkcInsS mkdInsS k a0 = a0
 . rw [if_pos q, if_pos (decide_eq_true q)]; rfl
 . rw [if_neg q, if_neg (by simpa using q)]; rfl
abbrev f140_S0 := (List OpenD × Int × Int × Unit) × (Unit)
def f140_L0 : f140_S0 → Out (Round f140_S0 ((Int × Unit) × (Unit)) ((Int × Unit) × (Unit)))
| ((p0, p1, p2, _), _) =>
 .ite (decide (p2 < ((List.length p0 : Nat) : Int)))
 (.ite (decide (0 ≤ p2))
 (.get (nth p0 (Int.toNat p2)) fun y1 =>
 .ite ((y1.1 != p1))
 (.ret (.ret (((-1 : Int), ()), ())))
 (.ite (decide (0 ≤ p2))
 (.get (nth p0 (Int.toNat p2)) fun y2 =>
 .ite ((y2.2.1 != (IntKind.i64.wrap (p1 + (1 : Int)))))
 (.ret (.ret (((-1 : Int), ()), ())))
 (.ite (decide (0 ≤ p2))
 (.get (nth p0 (Int.toNat p2)) fun y3 =>
 .ite ((y3.2.2.1 != (IntKind.i64.wrap ((IntKind.i64.wrap (p1 + (1 : Int))) + (1 : Int)))))
 (.ret (.ret (((-1 : Int), ()), ())))
 (.ite (decide (0 ≤ p2))
 (.get (nth p0 (Int.toNat p2)) fun y4 =>
 .ite ((y4.2.2.2.1 != (IntKind.i64.wrap ((IntKind.i64.wrap ((IntKind.i64.wrap (p1 + (1 : Int))) + (1 : Int))) + (1 : Int)))))
 (.ret (.ret (((-1 : Int), ()), ())))
 (.ite (decide (0 ≤ p2))
 (.get (nth p0 (Int.toNat p2)) fun y5 =>
 .ite ((y5.2.2.2.2.1 != (IntKind.i64.wrap ((IntKind.i64.wrap ((IntKind.i64.wrap ((IntKind.i64.wrap (p1 + (1 : Int))) + (1 : Int))) + (1 : Int))) + (1 : Int)))))
 (.ret (.ret (((-1 : Int), ()), ())))
 (.ret (.again ((p0, (IntKind.i64.wrap ((IntKind.i64.wrap ((IntKind.i64.wrap ((IntKind.i64.wrap ((IntKind.i64.wrap (p1 + (1 : Int))) + (1 : Int))) + (1 : Int))) + (1 : Int))) + (1 : Int))), (IntKind.i64.wrap (p2 + (1 : Int))), ()), ()))))
 .fail))
 .fail))
 .fail))
 .fail))
 .fail)
 (.ret (.out ((p1, ()), ())))
def f140_tree (a0 : List OpenD) (a1 : Int) : Out (((Int × Unit) × Unit) × XI) :=
 .get (iter f140_L0 FUEL ((a0, a1, (0 : Int), ()), ())) fun y1 => .alt y1 (fun y2 =>
 .ret (((y2.1.1, ()), ()), ((), (), ()))) (fun y3 =>
 .ret (((y3.1.1, ()), ()), ((), (), ())))
def f140_A : Nat → Option LoopAnn := fun n => annOf [(0, ⟨⟨[.ro tyO (some 0), .i .i64, .dead, .dead, .dead, .i .i64] ++ dd 52, []⟩, ⟨[.dead, .i .i64] ++ dd 56, []⟩, some ⟨dd 4 ++ [.i .i64] ++ dd 53, []⟩, false⟩)] n
def heldOpenSV (a0 : List OpenD) (k : Int) : Option Int := hdP (mkcOpenS a0) (decide (mkdOpenS (k) a0 = a0)) k
def k140 : Con := { f := 140, lend := true, its := [⟨false, false, [.ro tyO]⟩, ⟨false, false, [.i .i64]⟩], lay := [none, none], rs := [⟨false, false, [.i .i64]⟩], F := fun x => .get (heldOpenSV x.1.1 x.2.1.1) fun y => .ret (((y, ()), ()), ((), (), ())) }
theorem f140_eq (x : itemsD k140.its) : bo [] f140_A Tryz.f140 k140 [.tmp 4] x = f140_tree x.1.1 x.2.1.1 := by kernel_rfl
theorem f140_okp (hr : ∀ x : (List OpenD × Unit) × (Int × Unit) × Unit, itemsWF k140.its x → ∀ y, (k140.F x).eval = some y → (f140_tree x.1.1 x.2.1.1).eval = some y) : k140.Ok Tryz.prog := con_fn [] trivial f140_eq hr
theorem k140_ok : k140.Ok Tryz.prog := by
 refine f140_okp fun x hw y hy => ?_
 obtain ⟨⟨a0, _⟩, ⟨k, _⟩, _⟩ := x
 change (Out.get (heldOpenSV a0 k) fun y => Out.ret (((y, ()), ()), ((), ((), ())))).eval = some y at hy
 obtain ⟨h0, h1, hy⟩ := hdP_get hy
 refine Eq.trans ?_ hy
 show (f140_tree a0 k).eval = _
 unfold f140_tree
 have ha : a0.length ≤ BIG := hw.1.1.1
 have := hd_loop (f := f140_L0) a0 mkcOpen mkdOpen (fun k i => ((a0, (k, (((i : Nat) : Int), ()))), ())) (y := fun k => ((k, ()), ())) (z := ((-1, ()), ()))
  (fun i hi k h0 hk => by
   have h1 := wrap_succ (i := i) (by omega)
   unfold mkcOpen at hk
   have w1 : IntKind.i64.wrap (k + 1) = k + 1 := wrap1 (by omega) (by omega)
   have w2 : IntKind.i64.wrap (k + 1 + 1) = k + 1 + 1 := wrap1 (by omega) (by omega)
   have w3 : IntKind.i64.wrap (k + 1 + 1 + 1) = k + 1 + 1 + 1 := wrap1 (by omega) (by omega)
   have w4 : IntKind.i64.wrap (k + 1 + 1 + 1 + 1) = k + 1 + 1 + 1 + 1 := wrap1 (by omega) (by omega)
   have w5 : IntKind.i64.wrap (k + 1 + 1 + 1 + 1 + 1) = k + 1 + 1 + 1 + 1 + 1 := wrap1 (by omega) (by omega)
   by_cases q1 : a0[i].1 = (k : Int)
   case neg =>
    have q' : ¬ (k : Int) = a0[i].1 := fun e => q1 e.symm
    rw [if_neg (fun e => q' (congrArg (fun x : OpenD => x.1) e))]
    simp [f140_L0, Out.eval, hi, cond_eq_ite, q1]
   by_cases q2 : a0[i].2.1 = (k + 1 : Int)
   case neg =>
    have q' : ¬ (k + 1 : Int) = a0[i].2.1 := fun e => q2 e.symm
    rw [if_neg (fun e => q' (congrArg (fun x : OpenD => x.2.1) e))]
    simp [f140_L0, Out.eval, hi, cond_eq_ite, w1, q1, q2]
   by_cases q3 : a0[i].2.2.1 = (k + 1 + 1 : Int)
   case neg =>
    have q' : ¬ (k + 1 + 1 : Int) = a0[i].2.2.1 := fun e => q3 e.symm
    rw [if_neg (fun e => q' (congrArg (fun x : OpenD => x.2.2.1) e))]
    simp [f140_L0, Out.eval, hi, cond_eq_ite, w1, w2, q1, q2, q3]
   by_cases q4 : a0[i].2.2.2.1 = (k + 1 + 1 + 1 : Int)
   case neg =>
    have q' : ¬ (k + 1 + 1 + 1 : Int) = a0[i].2.2.2.1 := fun e => q4 e.symm
    rw [if_neg (fun e => q' (congrArg (fun x : OpenD => x.2.2.2.1) e))]
    simp [f140_L0, Out.eval, hi, cond_eq_ite, w1, w2, w3, q1, q2, q3, q4]
   by_cases q5 : a0[i].2.2.2.2.1 = (k + 1 + 1 + 1 + 1 : Int)
   case neg =>
    have q' : ¬ (k + 1 + 1 + 1 + 1 : Int) = a0[i].2.2.2.2.1 := fun e => q5 e.symm
    rw [if_neg (fun e => q' (congrArg (fun x : OpenD => x.2.2.2.2.1) e))]
    simp [f140_L0, Out.eval, hi, cond_eq_ite, w1, w2, w3, w4, q1, q2, q3, q4, q5]
   have hq : mkdOpen k a0[i] = a0[i] := (Prod.ext q1.symm (Prod.ext q2.symm (Prod.ext q3.symm (Prod.ext q4.symm (Prod.ext q5.symm rfl)))))
   rw [if_pos hq]
   simp [f140_L0, Out.eval, hi, h1, w1, w2, w3, w4, w5, q1, q2, q3, q4, q5, mkcOpen] <;> omega)
  (fun k => by simp [f140_L0, Out.eval]) ha h0 h1
 refine (eval_get_some this).trans ?_
 show _ = (Out.ret _).eval
 unfold mkdOpenS
 by_cases q : mkdL mkcOpen mkdOpen k a0 = a0
 . rw [if_pos q, if_pos (decide_eq_true q)]; rfl
 . rw [if_neg q, if_neg (by simpa using q)]; rfl
abbrev f142_S0 := (List CpuD × Int × Int × Unit) × (Unit)
def f142_L0 : f142_S0 → Out (Round f142_S0 ((Int × Unit) × (Unit)) ((Int × Unit) × (Unit)))
| ((p0, p1, p2, _), _) =>
 .ite (decide (p2 < ((List.length p0 : Nat) : Int)))
 (.ite (decide (0 ≤ p2))
 (.get (nth p0 (Int.toNat p2)) fun y1 =>
 .ite ((y1.1 != p1))
 (.ret (.ret (((-1 : Int), ()), ())))
 (.ite (decide (0 ≤ p2))
 (.get (nth p0 (Int.toNat p2)) fun y2 =>
 .get (heldIntSV y2.2.1 (IntKind.i64.wrap (p1 + (1 : Int)))) fun y3 =>
 .ite (decide (y3 < (0 : Int)))
 (.ret (.ret (((-1 : Int), ()), ())))
 (.ret (.again ((p0, y3, (IntKind.i64.wrap (p2 + (1 : Int))), ()), ()))))
 .fail))
 .fail)
 (.ret (.out ((p1, ()), ())))
def f142_tree (a0 : List CpuD) (a1 : Int) : Out (((Int × Unit) × Unit) × XI) :=
 .get (iter f142_L0 FUEL ((a0, a1, (0 : Int), ()), ())) fun y1 => .alt y1 (fun y2 =>
 .ret (((y2.1.1, ()), ()), ((), (), ()))) (fun y3 =>
 .ret (((y3.1.1, ()), ()), ((), (), ())))
def f142_A : Nat → Option LoopAnn := fun n => annOf [(0, ⟨⟨[.ro tyF (some 0), .i .i64, .dead, .dead, .dead, .i .i64] ++ dd 25, []⟩, ⟨[.dead, .i .i64] ++ dd 29, []⟩, some ⟨dd 4 ++ [.i .i64] ++ dd 26, []⟩, false⟩)] n
def heldCpuSV (a0 : List CpuD) (k : Int) : Option Int := hdP (mkcCpuS a0) (decide (mkdCpuS (k) a0 = a0)) k
def k142 : Con := { f := 142, lend := true, its := [⟨false, false, [.ro tyF]⟩, ⟨false, false, [.i .i64]⟩], lay := [none, none], rs := [⟨false, false, [.i .i64]⟩], F := fun x => .get (heldCpuSV x.1.1 x.2.1.1) fun y => .ret (((y, ()), ()), ((), (), ())) }
theorem f142_eq (x : itemsD k142.its) : bo [k132] f142_A Tryz.f142 k142 [.tmp 4] x = f142_tree x.1.1 x.2.1.1 := by kernel_rfl
theorem f142_okp (hr : ∀ x : (List CpuD × Unit) × (Int × Unit) × Unit, itemsWF k142.its x → ∀ y, (k142.F x).eval = some y → (f142_tree x.1.1 x.2.1.1).eval = some y) : k142.Ok Tryz.prog := con_fn [k132] ⟨k132_ok, trivial⟩ f142_eq hr
theorem k142_ok : k142.Ok Tryz.prog := by
 refine f142_okp fun x hw y hy => ?_
 obtain ⟨⟨a0, _⟩, ⟨k, _⟩, _⟩ := x
 change (Out.get (heldCpuSV a0 k) fun y => Out.ret (((y, ()), ()), ((), ((), ())))).eval = some y at hy
 obtain ⟨h0, h1, hy⟩ := hdP_get hy
 refine Eq.trans ?_ hy
 show (f142_tree a0 k).eval = _
 unfold f142_tree
 have ha : a0.length ≤ BIG := hw.1.1.1
 have := hd_loop (f := f142_L0) a0 mkcCpu mkdCpu (fun k i => ((a0, (k, (((i : Nat) : Int), ()))), ())) (y := fun k => ((k, ()), ())) (z := ((-1, ()), ()))
  (fun i hi k h0 hk => by
   have h1 := wrap_succ (i := i) (by omega)
   unfold mkcCpu at hk
   have w1 : IntKind.i64.wrap (k + 1) = k + 1 := wrap1 (by omega) (by omega)
   have w2 : heldIntSV a0[i].2.1 (k + 1) = some (if decide (mkdIntS (k + 1) a0[i].2.1 = a0[i].2.1) = true then k + 1 + (mkcIntS a0[i].2.1 : Nat) else -1) := hdP_in (by omega) (by omega)
   by_cases q1 : a0[i].1 = (k : Int)
   case neg =>
    have q' : ¬ (k : Int) = a0[i].1 := fun e => q1 e.symm
    rw [if_neg (fun e => q' (congrArg (fun x : CpuD => x.1) e))]
    simp [f142_L0, Out.eval, hi, cond_eq_ite, q1]
   by_cases q2 : mkdIntS (k + 1) a0[i].2.1 = a0[i].2.1
   case neg =>
    have q' := q2
    rw [decide_eq_false q2, if_neg (by decide)] at w2
    rw [if_neg (fun e => q' (congrArg (fun x : CpuD => x.2.1) e))]
    simp [f142_L0, Out.eval, hi, cond_eq_ite, w1, w2, q1, q2]
   rw [decide_eq_true q2, if_pos rfl] at w2
   have n2 : ¬ k + 1 + (mkcIntS a0[i].2.1 : Nat) < 0 := by omega
   have hq : mkdCpu k a0[i] = a0[i] := (Prod.ext q1.symm (Prod.ext q2 rfl))
   rw [if_pos hq]
   simp [f142_L0, Out.eval, hi, h1, w1, w2, q1, q2, n2, mkcCpu] <;> omega)
  (fun k => by simp [f142_L0, Out.eval]) ha h0 h1
 refine (eval_get_some this).trans ?_
 show _ = (Out.ret _).eval
 unfold mkdCpuS
 by_cases q : mkdL mkcCpu mkdCpu k a0 = a0
 . rw [if_pos q, if_pos (decide_eq_true q)]; rfl
 . rw [if_neg q, if_neg (by simpa using q)]; rfl
end Go.Proofs.YtnnpnkegpkladaaGreat.Dm
