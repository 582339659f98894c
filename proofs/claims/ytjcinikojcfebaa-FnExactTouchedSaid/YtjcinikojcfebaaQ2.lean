/- Functions of the program, and what they compute. -/
import Derived.Test.YtjcinikojcfebaaQ1
namespace Go.Proofs.Ytjcinikojcfebaa.Dm
open Go Go.ChangeShapes Go.WideShapes Go.ChangeAt Go.RowKit

def szcIntS (a : List Int) : Nat := a.length
def mkcIntS (a : List Int) : Nat := sumBy mkcInt a
def mkdIntS (k : Int) (a : List Int) : List Int := mkdL mkcInt mkdInt k a
theorem mkcIntS_d (k : Int) (a : List Int) : mkcIntS (mkdIntS k a) = mkcIntS a := mkcL_d mkcInt_d k a
theorem mkdIntS_d (j k : Int) (a : List Int) : mkdIntS j (mkdIntS k a) = mkdIntS j a := mkdL_d mkcInt_d mkdInt_d j k a
theorem mkcIntS_le (a : List Int) : mkcIntS a ≤ 64 * szcIntS a := mkcL_le0 (fun x => by show 1 ≤ 64; omega) a
def f118_tree (a0 : List Int) (a1 : Int) : Out (((Int × Unit) × Unit) × (Unit × Unit × Unit)) :=
 .ite (decide ((IntKind.i64.wrap (a1 - ((List.length a0 : Nat) : Int))) < (0 : Int)))
 (.ret ((((-1 : Int), ()), ()), ((), (), ())))
 (.ret ((((IntKind.i64.wrap (a1 - ((List.length a0 : Nat) : Int))), ()), ()), ((), (), ())))
def szIntSV (a0 : List Int) (l : Int) : Option Int := szP (szcIntS a0) l
def k118 : Con := { f := 118, lend := true, its := [⟨false, false, [.ro (.int .i64)]⟩, ⟨false, false, [.i .i64]⟩], lay := [none, none], rs := [⟨false, false, [.i .i64]⟩], F := fun x => .get (szIntSV x.1.1 x.2.1.1) fun y => .ret (((y, ()), ()), ((), (), ())) }
theorem f118_eq (x : itemsD k118.its) : bodyOut (cxOf []) (fun _ => none) (codeOf Try.f118) k118.its k118.lay Try.f118.ntmps k118.rs [.tmp 4] x = f118_tree x.1.1 x.2.1.1 := by kernel_rfl
theorem f118_okp (hr : ∀ x : (List Int × Unit) × (Int × Unit) × Unit, itemsWF k118.its x → ∀ y, (k118.F x).eval = some y → (f118_tree x.1.1 x.2.1.1).eval = some y) : k118.Ok Try.prog :=
  con_fn [] trivial (by kernel_rfl) (codeOf_eq (by kernel_rfl)) (by kernel_rfl) (by kernel_rfl) (by kernel_rfl) f118_eq hr
theorem k118_ok : k118.Ok Try.prog := by
  refine f118_okp fun x hw y hy => ?_
  obtain ⟨⟨a0, _⟩, ⟨l, _⟩, _⟩ := x
  change (Out.get (szIntSV a0 l) fun y => Out.ret (((y, ()), ()), ((), ((), ())))).eval = some y at hy
  obtain ⟨⟨h0, h1⟩, hy⟩ := szP_get hy
  refine Eq.trans ?_ hy
  show (f118_tree a0 l).eval = _
  unfold f118_tree
  have ha : a0.length ≤ BIG := hw.1.1.1
  have hb : a0.length ≤ 9223372036854775807 := ha
  have w : IntKind.i64.wrap (l - ((a0.length : Nat) : Int)) = l - ((a0.length : Nat) : Int) := wrap_le (by omega) (by omega)
  rw [w]
  unfold szcIntS
  by_cases q : l - ((a0.length : Nat) : Int) < 0
  · rw [eval_ite_t (decide_eq_true q), if_neg (by omega)]; try rfl
  · rw [eval_ite_f (decide_eq_false q), if_pos (by omega)]; try rfl
abbrev f121_S0 := (List (Int) × Int × Unit) × (List (Int) × Unit)
def f121_L0 (x : f121_S0) : Out (Round f121_S0 ((Unit) × (List (Int) × Unit)) Empty) :=
 .ite (decide (x.1.2.1 < ((List.length x.1.1 : Nat) : Int)))
 (.ite (decide (0 ≤ x.1.2.1))
 (.get (nth x.1.1 (Int.toNat x.1.2.1)) fun y1 =>
 .ite (decide (0 ≤ x.1.2.1 ∧ x.1.2.1 < ((List.length x.2.1 : Nat) : Int)))
 (.get (nth x.2.1 (Int.toNat x.1.2.1)) fun y2 =>
 .ret (.again ((x.1.1, (IntKind.i64.wrap (x.1.2.1 + (1 : Int))), ()), ((List.set x.2.1 (Int.toNat x.1.2.1) y1), ()))))
 .fail)
 .fail)
 (.ret (.out ((), (x.2.1, ()))))
def f121_tree (a0 : List Int) : Out (((List Int × Unit) × Unit) × (Unit × Unit)) :=
 .ite (decide (0 ≤ ((List.length a0 : Nat) : Int) ∧ ((List.length a0 : Nat) : Int) ≤ ((List.length a0 : Nat) : Int) ∧ ((List.length a0 : Nat) : Int) ≤ (LIM : Int)))
 (.get (iter1 f121_L0 FUEL ((a0, (0 : Int), ()), ((List.replicate (Int.toNat ((List.length a0 : Nat) : Int)) (0 : Int)), ()))) fun y1 =>
 .ret (((y1.2.1, ()), ()), ((), ())))
 .fail
def f121_A : Nat → Option LoopAnn := fun n => annOf [(0, { head := { t := [.ro (.int .i64) (some 0), .dead, .dead, .srf 64000000, .i .i64, .dead, .dead, .dead, .dead, .dead, .dead, .dead, .dead, .dead, .dead, .dead, .dead, .dead, .dead, .dead, .dead, .dead], v := [(64000000, .arr (.int .i64))] }, out := { t := [.dead, .dead, .dead, .srf 64000256, .dead, .dead, .dead, .dead, .dead, .dead, .dead, .dead, .dead, .dead, .dead, .dead, .dead, .dead, .dead, .dead, .dead, .dead], v := [(64000256, .arr (.int .i64))] }, ret := none })] n
def toIntSV (a0 : List Int) : Option ((List Int)) := toP (szcIntS a0) a0
def k121 : Con := { f := 121, lend := true, its := [⟨false, false, [.ro (.int .i64)]⟩], lay := [none], rs := [⟨false, false, [.own (.int .i64)]⟩], F := fun x => .get (toIntSV x.1.1) fun y => .ret (((y, ()), ()), ((), ())) }
theorem f121_eq (x : itemsD k121.its) : bodyOut (cxOf []) (f121_A) (codeOf Try.f121) k121.its k121.lay Try.f121.ntmps k121.rs [.tmp 2] x = f121_tree x.1.1 := by kernel_rfl
theorem f121_okp (hr : ∀ x : (List Int × Unit) × Unit, itemsWF k121.its x → ∀ y, (k121.F x).eval = some y → (f121_tree x.1.1).eval = some y) : k121.Ok Try.prog :=
  con_fn [] trivial (by kernel_rfl) (codeOf_eq (by kernel_rfl)) (by kernel_rfl) (by kernel_rfl) (by kernel_rfl) f121_eq hr
theorem k121_ok : k121.Ok Try.prog := by
  refine f121_okp fun x hw y hy => ?_
  obtain ⟨⟨a0, _⟩, _⟩ := x
  change (Out.get (toIntSV a0) fun y => Out.ret (((y, ()), ()), ((), ()))).eval = some y at hy
  obtain ⟨h, hy⟩ := toP_get hy
  refine Eq.trans ?_ hy
  show (f121_tree a0).eval = _
  unfold f121_tree
  have ha : a0.length ≤ BIG := hw.1.1.1
  unfold szcIntS at h
  have hl : a0.length ≤ LIM := by rw [LIM_eq]; omega
  rw [eval_ite_t (lim_cond hl), Int.toNat_natCast]
  have := copy_loop (f := f121_L0) a0 (fun x : Int => x) (List.replicate a0.length (0 : Int)) (fun i l => ((a0, (((i : Nat) : Int), ())), (l, ()))) (by simp) ha
    (fun i hi l hl' => by
      have h1 := wrap_succ (i := i) (by omega)
      have h2 : i < l.length := by omega
      simp [f121_L0, Out.eval, hi, h1, h2])
    (fun l => by simp [f121_L0, Out.eval])
  refine (eval_get_some this).trans ?_
  rw [List.map_id']
  try rfl
abbrev f100_S0 := (List (Int) × List (Int) × Int × Unit) × (Unit)
def f100_L0 (x : f100_S0) : Out (Round f100_S0 ((Unit) × (Unit)) ((Bool × Unit) × (Unit))) :=
 .ite (decide (x.1.2.2.1 < ((List.length x.1.1 : Nat) : Int)))
 (.ite (decide (0 ≤ x.1.2.2.1))
 (.get (nth x.1.1 (Int.toNat x.1.2.2.1)) fun y1 =>
 .ite (decide (0 ≤ x.1.2.2.1))
 (.get (nth x.1.2.1 (Int.toNat x.1.2.2.1)) fun y2 =>
 .ite ((y1 != y2))
 (.ret (.ret ((false, ()), ())))
 (.ret (.again ((x.1.1, x.1.2.1, (IntKind.i64.wrap (x.1.2.2.1 + (1 : Int))), ()), ()))))
 .fail)
 .fail)
 (.ret (.out ((), ())))
def f100_tree (a0 : List Int) (a1 : List Int) : Out (((Bool × Unit) × Unit) × (Unit × Unit × Unit)) :=
 .ite ((((List.length a0 : Nat) : Int) != ((List.length a1 : Nat) : Int)))
 (.ret (((false, ()), ()), ((), (), ())))
 (.get (iter f100_L0 FUEL ((a0, a1, (0 : Int), ()), ())) fun y1 => .alt y1 (fun y2 =>
 .ret (((true, ()), ()), ((), (), ()))) (fun y3 =>
 .ret (((y3.1.1, ()), ()), ((), (), ()))))
def f100_A : Nat → Option LoopAnn := fun n => annOf [(0, { head := { t := [.ro (.int .i64) (some 0), .ro (.int .i64) (some 1), .dead, .dead, .dead, .i .i64, .dead, .dead, .dead, .dead, .dead, .dead, .dead, .dead, .dead, .dead, .dead, .dead, .dead, .dead, .dead, .dead, .dead, .dead, .dead, .dead], v := [] }, out := { t := [.dead, .dead, .dead, .dead, .dead, .dead, .dead, .dead, .dead, .dead, .dead, .dead, .dead, .dead, .dead, .dead, .dead, .dead, .dead, .dead, .dead, .dead, .dead, .dead, .dead, .dead], v := [] }, ret := some { t := [.dead, .dead, .dead, .dead, .b, .dead, .dead, .dead, .dead, .dead, .dead, .dead, .dead, .dead, .dead, .dead, .dead, .dead, .dead, .dead, .dead, .dead, .dead, .dead, .dead, .dead], v := [] } })] n
def eqIntSV (a0 : List Int) (b0 : List Int) : Bool := decide ((a0 : List Int) = b0)
def k100 : Con := { f := 100, lend := true, its := [⟨false, false, [.ro (.int .i64)]⟩, ⟨false, false, [.ro (.int .i64)]⟩], lay := [none, none], rs := [⟨false, false, [.b]⟩], F := fun x => .ret ((((eqIntSV x.1.1 x.2.1.1), ()), ()), ((), (), ())) }
theorem f100_eq (x : itemsD k100.its) : bodyOut (cxOf []) (f100_A) (codeOf Try.f100) k100.its k100.lay Try.f100.ntmps k100.rs [.tmp 4] x = f100_tree x.1.1 x.2.1.1 := by kernel_rfl
theorem f100_ok (hr : ∀ x : (List Int × Unit) × (List Int × Unit) × Unit, itemsWF k100.its x → (f100_tree x.1.1 x.2.1.1).eval = (k100.F x).eval) : k100.Ok Try.prog :=
  con_fn [] trivial (by kernel_rfl) (codeOf_eq (by kernel_rfl)) (by kernel_rfl) (by kernel_rfl) (by kernel_rfl) f100_eq fun x hw _ hy => (hr x hw).trans hy
theorem k100_ok : k100.Ok Try.prog := by
  refine f100_ok fun x hw => ?_
  obtain ⟨⟨a0, _⟩, ⟨b0, _⟩, _⟩ := x
  show (f100_tree a0 b0).eval = some (((eqIntSV a0 b0, ()), ()), ((), ((), ())))
  unfold f100_tree
  have ha : a0.length ≤ BIG := hw.1.1.1
  by_cases hl : a0.length = b0.length
  · rw [eval_ite_f (len_eq hl)]
    have := eq_loop (f := f100_L0) a0 b0 (fun i => ((a0, (b0, (((i : Nat) : Int), ()))), ())) (y := ((), ())) (z := ((false, ()), ())) hl ha
      (fun i hi hi' he => by
        have := wrap_succ (i := i) (by omega)
        simp [f100_L0, Out.eval, hi, hi', he, this])
      (fun i hi hi' he => by
        simp [f100_L0, Out.eval, hi, hi', he, cond_eq_ite])
      (by simp [f100_L0, Out.eval])
    refine (eval_get_some this).trans ?_
    unfold eqIntSV
    by_cases hab : a0 = b0
    · simp only [if_pos hab, decide_eq_true hab]; rfl
    · simp only [if_neg hab, decide_eq_false hab]; rfl
  · rw [eval_ite_t (len_ne hl)]
    have : eqIntSV a0 b0 = false := decide_eq_false fun e => hl (by rw [e])
    rw [this]
    rfl
abbrev f103_S0 := (Int × Int × Unit) × (List (Int) × Unit)
def f103_L0 (x : f103_S0) : Out (Round f103_S0 ((Int × Unit) × (List (Int) × Unit)) Empty) :=
 .ite (decide (x.1.2.1 < ((List.length x.2.1 : Nat) : Int)))
 (.ite (decide (0 ≤ x.1.2.1 ∧ x.1.2.1 < ((List.length x.2.1 : Nat) : Int)))
 (.get (nth x.2.1 (Int.toNat x.1.2.1)) fun y1 =>
 .ret (.again (((IntKind.i64.wrap (x.1.1 + (1 : Int))), (IntKind.i64.wrap (x.1.2.1 + (1 : Int))), ()), ((List.set x.2.1 (Int.toNat x.1.2.1) x.1.1), ()))))
 .fail)
 (.ret (.out ((x.1.1, ()), (x.2.1, ()))))
def f103_tree (a0 : List Int) (a1 : Int) : Out (((Int × Unit) × Unit) × ((List Int × Unit) × Unit × Unit)) :=
 .get (iter1 f103_L0 FUEL ((a1, (0 : Int), ()), (a0, ()))) fun y1 =>
 .ret (((y1.1.1, ()), ()), ((y1.2.1, ()), (), ()))
def f103_A : Nat → Option LoopAnn := fun n => annOf [(0, { head := { t := [.srf 0, .i .i64, .dead, .dead, .dead, .i .i64, .dead, .dead, .dead, .dead, .dead, .dead, .dead, .dead, .dead, .dead, .dead, .dead, .dead], v := [(0, .arr (.int .i64))] }, out := { t := [.srf 0, .i .i64, .dead, .dead, .dead, .dead, .dead, .dead, .dead, .dead, .dead, .dead, .dead, .dead, .dead, .dead, .dead, .dead, .dead], v := [(0, .arr (.int .i64))] }, ret := none })] n
def markIntSV (a0 : List Int) (k : Int) : Option (Int × (List Int)) := mkP (mkcIntS a0) k (mkdIntS (k) a0)
def k103 : Con := { f := 103, lend := true, its := [⟨false, false, [.mut (.int .i64)]⟩, ⟨false, false, [.i .i64]⟩], lay := [none, none], rs := [⟨false, false, [.i .i64]⟩], F := fun x => .get (markIntSV x.1.1 x.2.1.1) fun y => .ret (((y.1, ()), ()), ((y.2, ()), (), ())) }
theorem f103_eq (x : itemsD k103.its) : bodyOut (cxOf []) (f103_A) (codeOf Try.f103) k103.its k103.lay Try.f103.ntmps k103.rs [.tmp 4] x = f103_tree x.1.1 x.2.1.1 := by kernel_rfl
theorem f103_okp (hr : ∀ x : (List Int × Unit) × (Int × Unit) × Unit, itemsWF k103.its x → ∀ y, (k103.F x).eval = some y → (f103_tree x.1.1 x.2.1.1).eval = some y) : k103.Ok Try.prog :=
  con_fn [] trivial (by kernel_rfl) (codeOf_eq (by kernel_rfl)) (by kernel_rfl) (by kernel_rfl) (by kernel_rfl) f103_eq hr
theorem k103_ok : k103.Ok Try.prog := by
  refine f103_okp fun x hw y hy => ?_
  obtain ⟨⟨a0, _⟩, ⟨k, _⟩, _⟩ := x
  change (Out.get (markIntSV a0 k) fun y => Out.ret (((y.1, ()), ()), ((y.2, ()), (), ()))).eval = some y at hy
  obtain ⟨h0, h1, hy⟩ := mkP_get hy
  refine Eq.trans ?_ hy
  show (f103_tree a0 k).eval = _
  unfold f103_tree
  have ha : a0.length ≤ BIG := hw.1.1.1
  have := mk_loop (f := f103_L0) a0 mkcInt mkdInt (fun k l i => ((k, (((i : Nat) : Int), ())), (l, ()))) (fun k l => ((k, ()), (l, ())))
    (fun i hi k l hl h3 h0 hk => by
      have h1 := wrap_succ (i := i) (by omega)
      have h2 : i < l.length := by omega
      have h4 : l[i] = a0[i] := by rw [List.getElem?_eq_getElem h2] at h3; exact Option.some.inj h3
      unfold mkcInt at hk
      have w1 : IntKind.i64.wrap (k + 1) = k + 1 := wrap1 (by omega) (by omega)
      simp [f103_L0, Out.eval, h1, h2, h3, h4, hl, hi, mkcInt, mkdInt, w1] <;> omega)
    (fun k l hl => by simp [f103_L0, Out.eval, hl]) ha h0 h1
  refine (eval_get_some this).trans ?_
  rfl
abbrev f104_S0 := (List (Int) × Int × Int × Unit) × (Unit)
def f104_L0 (x : f104_S0) : Out (Round f104_S0 ((Int × Unit) × (Unit)) ((Int × Unit) × (Unit))) :=
 .ite (decide (x.1.2.2.1 < ((List.length x.1.1 : Nat) : Int)))
 (.ite (decide (0 ≤ x.1.2.2.1))
 (.get (nth x.1.1 (Int.toNat x.1.2.2.1)) fun y1 =>
 .ite ((y1 != x.1.2.1))
 (.ret (.ret (((-1 : Int), ()), ())))
 (.ret (.again ((x.1.1, (IntKind.i64.wrap (x.1.2.1 + (1 : Int))), (IntKind.i64.wrap (x.1.2.2.1 + (1 : Int))), ()), ()))))
 .fail)
 (.ret (.out ((x.1.2.1, ()), ())))
def f104_tree (a0 : List Int) (a1 : Int) : Out (((Int × Unit) × Unit) × (Unit × Unit × Unit)) :=
 .get (iter f104_L0 FUEL ((a0, a1, (0 : Int), ()), ())) fun y1 => .alt y1 (fun y2 =>
 .ret (((y2.1.1, ()), ()), ((), (), ()))) (fun y3 =>
 .ret (((y3.1.1, ()), ()), ((), (), ())))
def f104_A : Nat → Option LoopAnn := fun n => annOf [(0, { head := { t := [.ro (.int .i64) (some 0), .i .i64, .dead, .dead, .dead, .i .i64, .dead, .dead, .dead, .dead, .dead, .dead, .dead, .dead, .dead, .dead, .dead, .dead, .dead, .dead, .dead], v := [] }, out := { t := [.dead, .i .i64, .dead, .dead, .dead, .dead, .dead, .dead, .dead, .dead, .dead, .dead, .dead, .dead, .dead, .dead, .dead, .dead, .dead, .dead, .dead], v := [] }, ret := some { t := [.dead, .dead, .dead, .dead, .i .i64, .dead, .dead, .dead, .dead, .dead, .dead, .dead, .dead, .dead, .dead, .dead, .dead, .dead, .dead, .dead, .dead], v := [] } })] n
def heldIntSV (a0 : List Int) (k : Int) : Option Int := hdP (mkcIntS a0) (decide (mkdIntS (k) a0 = a0)) k
def k104 : Con := { f := 104, lend := true, its := [⟨false, false, [.ro (.int .i64)]⟩, ⟨false, false, [.i .i64]⟩], lay := [none, none], rs := [⟨false, false, [.i .i64]⟩], F := fun x => .get (heldIntSV x.1.1 x.2.1.1) fun y => .ret (((y, ()), ()), ((), (), ())) }
theorem f104_eq (x : itemsD k104.its) : bodyOut (cxOf []) (f104_A) (codeOf Try.f104) k104.its k104.lay Try.f104.ntmps k104.rs [.tmp 4] x = f104_tree x.1.1 x.2.1.1 := by kernel_rfl
theorem f104_okp (hr : ∀ x : (List Int × Unit) × (Int × Unit) × Unit, itemsWF k104.its x → ∀ y, (k104.F x).eval = some y → (f104_tree x.1.1 x.2.1.1).eval = some y) : k104.Ok Try.prog :=
  con_fn [] trivial (by kernel_rfl) (codeOf_eq (by kernel_rfl)) (by kernel_rfl) (by kernel_rfl) (by kernel_rfl) f104_eq hr
theorem k104_ok : k104.Ok Try.prog := by
  refine f104_okp fun x hw y hy => ?_
  obtain ⟨⟨a0, _⟩, ⟨k, _⟩, _⟩ := x
  change (Out.get (heldIntSV a0 k) fun y => Out.ret (((y, ()), ()), ((), ((), ())))).eval = some y at hy
  obtain ⟨h0, h1, hy⟩ := hdP_get hy
  refine Eq.trans ?_ hy
  show (f104_tree a0 k).eval = _
  unfold f104_tree
  have ha : a0.length ≤ BIG := hw.1.1.1
  have := hd_loop (f := f104_L0) a0 mkcInt mkdInt (fun k i => ((a0, (k, (((i : Nat) : Int), ()))), ())) (y := fun k => ((k, ()), ())) (z := ((-1, ()), ()))
    (fun i hi k h0 hk => by
      have h1 := wrap_succ (i := i) (by omega)
      unfold mkcInt at hk
      have w1 : IntKind.i64.wrap (k + 1) = k + 1 := wrap1 (by omega) (by omega)
      by_cases q1 : a0[i] = (k : Int)
      case neg =>
        have q' : ¬ (k : Int) = a0[i] := fun e => q1 e.symm
        rw [if_neg (fun e => q' (congrArg (fun x : Int => x) e))]
        simp [f104_L0, Out.eval, hi, cond_eq_ite, q1]
      have hq : mkdInt k a0[i] = a0[i] := by
        simp only [mkdInt]
        simp only [← q1]
      rw [if_pos hq]
      simp [f104_L0, Out.eval, hi, h1, w1, q1, mkcInt])
    (fun k => by simp [f104_L0, Out.eval]) ha h0 h1
  refine (eval_get_some this).trans ?_
  show _ = (Out.ret _).eval
  unfold mkdIntS
  by_cases q : mkdL mkcInt mkdInt k a0 = a0
  · rw [if_pos q, if_pos (decide_eq_true q)]; rfl
  · rw [if_neg q, if_neg (by simpa using q)]; rfl
abbrev EffD := Int × (Int × (Int × (Int × (List Int × Unit))))
instance dqEff : DecidableEq EffD := (@instDecidableEqProd _ _ inferInstance (@instDecidableEqProd _ _ inferInstance (@instDecidableEqProd _ _ inferInstance (@instDecidableEqProd _ _ inferInstance (@instDecidableEqProd _ _ inferInstance inferInstance)))))
def szcEff (x : EffD) : Nat := szcIntS x.2.2.2.2.1
def mkcEff (x : EffD) : Nat := 1 + 1 + 1 + 1 + mkcIntS x.2.2.2.2.1
def mkdEff (k : Int) (x : EffD) : EffD := (mkdInt k x.1, (mkdInt (k + 1) x.2.1, (mkdInt (k + 1 + 1) x.2.2.1, (mkdInt (k + 1 + 1 + 1) x.2.2.2.1, (mkdIntS (k + 1 + 1 + 1 + 1) x.2.2.2.2.1, ())))))
theorem mkcEff_d (k : Int) (x : EffD) : mkcEff (mkdEff k x) = mkcEff x := by simp only [mkcEff, mkdEff, mkcIntS_d]
theorem mkdEff_d (j k : Int) (x : EffD) : mkdEff j (mkdEff k x) = mkdEff j x := by simp only [mkdEff, mkcIntS_d, mkdIntS_d]
theorem mkcEff_le (x : EffD) : mkcEff x ≤ 64 + 64 * szcEff x := by
  have := mkcIntS_le x.2.2.2.2.1
  unfold mkcEff szcEff
  omega
def f182_tree (a0 : Int) (a1 : Int) (a2 : Int) (a3 : Int) (a4 : List Int) (a5 : Int) : Out (((Int × Unit) × Unit) × (Unit × Unit × Unit)) :=
 .get (szIntSV a4 a5) fun y1 =>
 .ite (decide (y1 < (0 : Int)))
 (.ret ((((-1 : Int), ()), ()), ((), (), ())))
 (.ret (((y1, ()), ()), ((), (), ())))
def szEffV (a0 : Int) (a1 : Int) (a2 : Int) (a3 : Int) (a4 : List Int) (l : Int) : Option Int := szP (szcEff (a0, a1, a2, a3, a4, ())) l
def k182 : Con := { f := 182, lend := true, its := [⟨false, true, [.i .i64, .i .i64, .i .i64, .i .i64, .ro (.int .i64)]⟩, ⟨false, false, [.i .i64]⟩], lay := [none, none], rs := [⟨false, false, [.i .i64]⟩], F := fun x => .get (szEffV x.1.1 x.1.2.1 x.1.2.2.1 x.1.2.2.2.1 x.1.2.2.2.2.1 x.2.1.1) fun y => .ret (((y, ()), ()), ((), (), ())) }
theorem f182_eq (x : itemsD k182.its) : bodyOut (cxOf [k118]) (fun _ => none) (codeOf Try.f182) k182.its k182.lay Try.f182.ntmps k182.rs [.tmp 4] x = f182_tree x.1.1 x.1.2.1 x.1.2.2.1 x.1.2.2.2.1 x.1.2.2.2.2.1 x.2.1.1 := by kernel_rfl
theorem f182_okp (hr : ∀ x : (Int × Int × Int × Int × List Int × Unit) × (Int × Unit) × Unit, itemsWF k182.its x → ∀ y, (k182.F x).eval = some y → (f182_tree x.1.1 x.1.2.1 x.1.2.2.1 x.1.2.2.2.1 x.1.2.2.2.2.1 x.2.1.1).eval = some y) : k182.Ok Try.prog :=
  con_fn [k118] ⟨k118_ok, trivial⟩ (by kernel_rfl) (codeOf_eq (by kernel_rfl)) (by kernel_rfl) (by kernel_rfl) (by kernel_rfl) f182_eq hr
theorem k182_ok : k182.Ok Try.prog := by
  refine f182_okp fun x hw y hy => ?_
  obtain ⟨⟨a0, a1, a2, a3, a4, _⟩, ⟨l, _⟩, _⟩ := x
  change (Out.get (szEffV a0 a1 a2 a3 a4 l) fun y => Out.ret (((y, ()), ()), ((), ((), ())))).eval = some y at hy
  obtain ⟨⟨h0, h1⟩, hy⟩ := szP_get hy
  refine Eq.trans ?_ hy
  show (f182_tree a0 a1 a2 a3 a4 l).eval = _
  unfold f182_tree
  have hc : szcEff (a0, a1, a2, a3, a4, ()) = szcIntS a4 := rfl
  have e0 : szIntSV a4 (l) = some (if ((szcIntS a4 : Nat) : Int) ≤ l then l - ((szcIntS a4 : Nat) : Int) else -1) := szP_in (by omega) (by omega)
  rw [eval_get_some e0]
  by_cases q0 : ((szcIntS a4 : Nat) : Int) ≤ l
  case neg => rw [if_neg q0, eval_ite_t (by decide), if_neg (by omega)]; try rfl
  rw [if_pos q0, eval_ite_f (decide_eq_false (by omega))]
  have e : l - ((szcEff (a0, a1, a2, a3, a4, ()) : Nat) : Int) = l - ((szcIntS a4 : Nat) : Int) := by omega
  rw [if_pos (by omega), e]; try rfl
def f185_tree (a0 : Int) (a1 : Int) (a2 : Int) (a3 : Int) (a4 : List Int) : Out (((Int × Int × Int × Int × List Int × Unit) × Unit) × (Unit × Unit)) :=
 .get (toIntSV a4) fun y1 =>
 .ret (((a0, a1, a2, a3, y1, ()), ()), ((), ()))
def toEffV (a0 : Int) (a1 : Int) (a2 : Int) (a3 : Int) (a4 : List Int) : Option (Int × Int × Int × Int × (List Int)) := toP (szcEff (a0, a1, a2, a3, a4, ())) (a0, a1, a2, a3, a4)
def k185 : Con := { f := 185, lend := true, its := [⟨false, true, [.i .i64, .i .i64, .i .i64, .i .i64, .ro (.int .i64)]⟩], lay := [none], rs := [⟨false, true, [.i .i64, .i .i64, .i .i64, .i .i64, .own (.int .i64)]⟩], F := fun x => .get (toEffV x.1.1 x.1.2.1 x.1.2.2.1 x.1.2.2.2.1 x.1.2.2.2.2.1) fun y => .ret (((y.1, y.2.1, y.2.2.1, y.2.2.2.1, y.2.2.2.2, ()), ()), ((), ())) }
theorem f185_eq (x : itemsD k185.its) : bodyOut (cxOf [k121]) (fun _ => none) (codeOf Try.f185) k185.its k185.lay Try.f185.ntmps k185.rs [.cell 2 192] x = f185_tree x.1.1 x.1.2.1 x.1.2.2.1 x.1.2.2.2.1 x.1.2.2.2.2.1 := by kernel_rfl
theorem f185_okp (hr : ∀ x : (Int × Int × Int × Int × List Int × Unit) × Unit, itemsWF k185.its x → ∀ y, (k185.F x).eval = some y → (f185_tree x.1.1 x.1.2.1 x.1.2.2.1 x.1.2.2.2.1 x.1.2.2.2.2.1).eval = some y) : k185.Ok Try.prog :=
  con_fn [k121] ⟨k121_ok, trivial⟩ (by kernel_rfl) (codeOf_eq (by kernel_rfl)) (by kernel_rfl) (by kernel_rfl) (by kernel_rfl) f185_eq hr
theorem k185_ok : k185.Ok Try.prog := by
  refine f185_okp fun x hw y hy => ?_
  obtain ⟨⟨a0, a1, a2, a3, a4, _⟩, _⟩ := x
  change (Out.get (toEffV a0 a1 a2 a3 a4) fun y => Out.ret (((y.1, y.2.1, y.2.2.1, y.2.2.2.1, y.2.2.2.2, ()), ()), ((), ()))).eval = some y at hy
  obtain ⟨h, hy⟩ := toP_get hy
  refine Eq.trans ?_ hy
  show (f185_tree a0 a1 a2 a3 a4).eval = _
  unfold f185_tree
  have h : szcIntS a4 ≤ 1048576 := h
  have e0 : toIntSV a4 = some a4 := toP_in (by omega)
  simp [e0, Out.eval]
def f188_tree (a0 : Int) (a1 : Int) (a2 : Int) (a3 : Int) (a4 : List Int) (a5 : Int) (a6 : Int) (a7 : Int) (a8 : Int) (a9 : List Int) : Out (((Bool × Unit) × Unit) × (Unit × Unit × Unit)) :=
 .ite ((a0 != a5))
 (.ret (((false, ()), ()), ((), (), ())))
 (.ite ((a1 != a6))
 (.ret (((false, ()), ()), ((), (), ())))
 (.ite ((a2 != a7))
 (.ret (((false, ()), ()), ((), (), ())))
 (.ite ((a3 != a8))
 (.ret (((false, ()), ()), ((), (), ())))
 (.ite (!(eqIntSV a4 a9))
 (.ret (((false, ()), ()), ((), (), ())))
 (.ret (((true, ()), ()), ((), (), ())))))))
def eqEffV (a0 : Int) (a1 : Int) (a2 : Int) (a3 : Int) (a4 : List Int) (b0 : Int) (b1 : Int) (b2 : Int) (b3 : Int) (b4 : List Int) : Bool := decide (((a0, a1, a2, a3, a4, ()) : EffD) = (b0, b1, b2, b3, b4, ()))
def k188 : Con := { f := 188, lend := true, its := [⟨false, true, [.i .i64, .i .i64, .i .i64, .i .i64, .ro (.int .i64)]⟩, ⟨false, true, [.i .i64, .i .i64, .i .i64, .i .i64, .ro (.int .i64)]⟩], lay := [none, none], rs := [⟨false, false, [.b]⟩], F := fun x => .ret ((((eqEffV x.1.1 x.1.2.1 x.1.2.2.1 x.1.2.2.2.1 x.1.2.2.2.2.1 x.2.1.1 x.2.1.2.1 x.2.1.2.2.1 x.2.1.2.2.2.1 x.2.1.2.2.2.2.1), ()), ()), ((), (), ())) }
theorem f188_eq (x : itemsD k188.its) : bodyOut (cxOf [k100]) (fun _ => none) (codeOf Try.f188) k188.its k188.lay Try.f188.ntmps k188.rs [.tmp 4] x = f188_tree x.1.1 x.1.2.1 x.1.2.2.1 x.1.2.2.2.1 x.1.2.2.2.2.1 x.2.1.1 x.2.1.2.1 x.2.1.2.2.1 x.2.1.2.2.2.1 x.2.1.2.2.2.2.1 := by kernel_rfl
theorem f188_ok (hr : ∀ x : (Int × Int × Int × Int × List Int × Unit) × (Int × Int × Int × Int × List Int × Unit) × Unit, itemsWF k188.its x → (f188_tree x.1.1 x.1.2.1 x.1.2.2.1 x.1.2.2.2.1 x.1.2.2.2.2.1 x.2.1.1 x.2.1.2.1 x.2.1.2.2.1 x.2.1.2.2.2.1 x.2.1.2.2.2.2.1).eval = (k188.F x).eval) : k188.Ok Try.prog :=
  con_fn [k100] ⟨k100_ok, trivial⟩ (by kernel_rfl) (codeOf_eq (by kernel_rfl)) (by kernel_rfl) (by kernel_rfl) (by kernel_rfl) f188_eq fun x hw _ hy => (hr x hw).trans hy
theorem k188_ok : k188.Ok Try.prog := by
  refine f188_ok fun x hw => ?_
  obtain ⟨⟨a0, a1, a2, a3, a4, _⟩, ⟨b0, b1, b2, b3, b4, _⟩, _⟩ := x
  show (f188_tree a0 a1 a2 a3 a4 b0 b1 b2 b3 b4).eval = some (((eqEffV a0 a1 a2 a3 a4 b0 b1 b2 b3 b4, ()), ()), ((), ((), ())))
  unfold f188_tree
  unfold eqEffV eqIntSV
  by_cases h0 : a0 = b0
  case neg => simp [Out.eval, h0, cond_eq_ite]
  subst h0
  by_cases h1 : a1 = b1
  case neg => simp [Out.eval, h1, cond_eq_ite]
  subst h1
  by_cases h2 : a2 = b2
  case neg => simp [Out.eval, h2, cond_eq_ite]
  subst h2
  by_cases h3 : a3 = b3
  case neg => simp [Out.eval, h3, cond_eq_ite]
  subst h3
  by_cases h4 : a4 = b4
  case neg => simp [Out.eval, h4, cond_eq_ite]
  subst h4
  simp [Out.eval, cond_eq_ite]
def szcEffS (a : List EffD) : Nat := a.length + sumBy (fun x => szcEff x) a
def mkcEffS (a : List EffD) : Nat := sumBy mkcEff a
def mkdEffS (k : Int) (a : List EffD) : List EffD := mkdL mkcEff mkdEff k a
theorem mkcEffS_d (k : Int) (a : List EffD) : mkcEffS (mkdEffS k a) = mkcEffS a := mkcL_d mkcEff_d k a
theorem mkdEffS_d (j k : Int) (a : List EffD) : mkdEffS j (mkdEffS k a) = mkdEffS j a := mkdL_d mkcEff_d mkdEff_d j k a
theorem mkcEffS_le (a : List EffD) : mkcEffS a ≤ 64 * szcEffS a := mkcL_le (s := fun x => szcEff x) (fun x => by have := mkcEff_le x; omega) a
abbrev f96_S0 := (List ((Int × Int × Int × Int × List Int × Unit)) × Int × Int × Unit) × (Unit)
def f96_L0 (x : f96_S0) : Out (Round f96_S0 ((Int × Unit) × (Unit)) ((Int × Unit) × (Unit))) :=
 .ite (decide (x.1.2.2.1 < ((List.length x.1.1 : Nat) : Int)))
 (.ite (decide (0 ≤ x.1.2.2.1))
 (.get (nth x.1.1 (Int.toNat x.1.2.2.1)) fun y1 =>
 .get (szEffV y1.1 y1.2.1 y1.2.2.1 y1.2.2.2.1 y1.2.2.2.2.1 x.1.2.1) fun y2 =>
 .ite (decide (y2 < (0 : Int)))
 (.ret (.ret (((-1 : Int), ()), ())))
 (.ret (.again ((x.1.1, y2, (IntKind.i64.wrap (x.1.2.2.1 + (1 : Int))), ()), ()))))
 .fail)
 (.ret (.out ((x.1.2.1, ()), ())))
def f96_tree (a0 : List (Int × Int × Int × Int × List Int × Unit)) (a1 : Int) : Out (((Int × Unit) × Unit) × (Unit × Unit × Unit)) :=
 .ite (decide ((IntKind.i64.wrap (a1 - ((List.length a0 : Nat) : Int))) < (0 : Int)))
 (.ret ((((-1 : Int), ()), ()), ((), (), ())))
 (.get (iter f96_L0 FUEL ((a0, (IntKind.i64.wrap (a1 - ((List.length a0 : Nat) : Int))), (0 : Int), ()), ())) fun y1 => .alt y1 (fun y2 =>
 .ret (((y2.1.1, ()), ()), ((), (), ()))) (fun y3 =>
 .ret (((y3.1.1, ()), ()), ((), (), ()))))
def f96_A : Nat → Option LoopAnn := fun n => annOf [(0, { head := { t := [.ro (.st (.cons (.int .i64) (.cons (.int .i64) (.cons (.int .i64) (.cons (.int .i64) (.cons (.sl (.int .i64)) .nil)))))) (some 0), .i .i64, .dead, .dead, .dead, .i .i64, .dead, .dead, .dead, .dead, .dead, .dead, .dead, .dead, .dead, .dead, .dead, .dead, .dead, .dead, .dead, .dead, .dead, .dead, .dead, .dead, .dead], v := [] }, out := { t := [.dead, .i .i64, .dead, .dead, .dead, .dead, .dead, .dead, .dead, .dead, .dead, .dead, .dead, .dead, .dead, .dead, .dead, .dead, .dead, .dead, .dead, .dead, .dead, .dead, .dead, .dead, .dead], v := [] }, ret := some { t := [.dead, .dead, .dead, .dead, .i .i64, .dead, .dead, .dead, .dead, .dead, .dead, .dead, .dead, .dead, .dead, .dead, .dead, .dead, .dead, .dead, .dead, .dead, .dead, .dead, .dead, .dead, .dead], v := [] } })] n
def szEffSV (a0 : List EffD) (l : Int) : Option Int := szP (szcEffS a0) l
def k96 : Con := { f := 96, lend := true, its := [⟨false, false, [.ro (.st (.cons (.int .i64) (.cons (.int .i64) (.cons (.int .i64) (.cons (.int .i64) (.cons (.sl (.int .i64)) .nil))))))]⟩, ⟨false, false, [.i .i64]⟩], lay := [none, none], rs := [⟨false, false, [.i .i64]⟩], F := fun x => .get (szEffSV x.1.1 x.2.1.1) fun y => .ret (((y, ()), ()), ((), (), ())) }
theorem f96_eq (x : itemsD k96.its) : bodyOut (cxOf [k182]) (f96_A) (codeOf Try.f96) k96.its k96.lay Try.f96.ntmps k96.rs [.tmp 4] x = f96_tree x.1.1 x.2.1.1 := by kernel_rfl
theorem f96_okp (hr : ∀ x : (List (Int × Int × Int × Int × List Int × Unit) × Unit) × (Int × Unit) × Unit, itemsWF k96.its x → ∀ y, (k96.F x).eval = some y → (f96_tree x.1.1 x.2.1.1).eval = some y) : k96.Ok Try.prog :=
  con_fn [k182] ⟨k182_ok, trivial⟩ (by kernel_rfl) (codeOf_eq (by kernel_rfl)) (by kernel_rfl) (by kernel_rfl) (by kernel_rfl) f96_eq hr
theorem k96_ok : k96.Ok Try.prog := by
  refine f96_okp fun x hw y hy => ?_
  obtain ⟨⟨a0, _⟩, ⟨l, _⟩, _⟩ := x
  change (Out.get (szEffSV a0 l) fun y => Out.ret (((y, ()), ()), ((), ((), ())))).eval = some y at hy
  obtain ⟨⟨h0, h1⟩, hy⟩ := szP_get hy
  refine Eq.trans ?_ hy
  show (f96_tree a0 l).eval = _
  unfold f96_tree
  have ha : a0.length ≤ BIG := hw.1.1.1
  have hb : a0.length ≤ 9223372036854775807 := ha
  have w : IntKind.i64.wrap (l - ((a0.length : Nat) : Int)) = l - ((a0.length : Nat) : Int) := wrap_le (by omega) (by omega)
  rw [w]
  unfold szcEffS
  by_cases q : l - ((a0.length : Nat) : Int) < 0
  · rw [eval_ite_t (decide_eq_true q), if_neg (by omega)]; try rfl
  · rw [eval_ite_f (decide_eq_false q)]
    have := sz_loop (f := f96_L0) a0 (fun x : EffD => szcEff x) (fun l i => ((a0, (l, (((i : Nat) : Int), ()))), ())) (y := fun l => ((l, ()), ())) (z := ((-1, ()), ()))
      (fun i hi l h0 h1 => by
        have h2 := wrap_succ (i := i) (by omega)
        have e : szEffV a0[i].1 a0[i].2.1 a0[i].2.2.1 a0[i].2.2.2.1 a0[i].2.2.2.2.1 l = some (if ((szcEff a0[i] : Nat) : Int) ≤ l then l - ((szcEff a0[i] : Nat) : Int) else -1) := szP_in h0 h1
        by_cases q : ((szcEff a0[i] : Nat) : Int) ≤ l
        · have q2 : ¬ l - ((szcEff a0[i] : Nat) : Int) < 0 := by omega
          rw [if_pos q] at e
          simp [f96_L0, Out.eval, hi, h2, e, q, q2]
        · rw [if_neg q] at e
          simp [f96_L0, Out.eval, hi, e, q])
      (fun l => by simp [f96_L0, Out.eval]) ha (l := l - ((a0.length : Nat) : Int)) (by omega) (by omega)
    refine (eval_get_some this).trans ?_
    by_cases q2 : ((sumBy (fun x : EffD => szcEff x) a0 : Nat) : Int) ≤ l - ((a0.length : Nat) : Int)
    · have e3 : l - ((a0.length : Nat) : Int) - ((sumBy (fun x : EffD => szcEff x) a0 : Nat) : Int) = l - ((a0.length + sumBy (fun x : EffD => szcEff x) a0 : Nat) : Int) := by omega
      rw [if_pos q2, if_pos (by omega), ← e3]; rfl
    · rw [if_neg q2, if_neg (by omega)]; rfl
abbrev f98_S0 := (List ((Int × Int × Int × Int × List Int × Unit)) × Int × Unit) × (List ((Int × Int × Int × Int × List Int × Unit)) × Unit)
def f98_L0 (x : f98_S0) : Out (Round f98_S0 ((Unit) × (List ((Int × Int × Int × Int × List Int × Unit)) × Unit)) Empty) :=
 .ite (decide (x.1.2.1 < ((List.length x.1.1 : Nat) : Int)))
 (.ite (decide (0 ≤ x.1.2.1))
 (.get (nth x.1.1 (Int.toNat x.1.2.1)) fun y1 =>
 .get (toEffV y1.1 y1.2.1 y1.2.2.1 y1.2.2.2.1 y1.2.2.2.2.1) fun y2 =>
 .ite (decide (0 ≤ x.1.2.1 ∧ x.1.2.1 < ((List.length x.2.1 : Nat) : Int)))
 (.get (nth x.2.1 (Int.toNat x.1.2.1)) fun y3 =>
 .ret (.again ((x.1.1, (IntKind.i64.wrap (x.1.2.1 + (1 : Int))), ()), ((List.set x.2.1 (Int.toNat x.1.2.1) (y2.1, y2.2.1, y2.2.2.1, y2.2.2.2.1, y2.2.2.2.2, ())), ()))))
 .fail)
 .fail)
 (.ret (.out ((), (x.2.1, ()))))
def f98_tree (a0 : List (Int × Int × Int × Int × List Int × Unit)) : Out (((List (Int × Int × Int × Int × List Int × Unit) × Unit) × Unit) × (Unit × Unit)) :=
 .ite (decide (0 ≤ ((List.length a0 : Nat) : Int) ∧ ((List.length a0 : Nat) : Int) ≤ ((List.length a0 : Nat) : Int) ∧ ((List.length a0 : Nat) : Int) ≤ (LIM : Int)))
 (.get (iter1 f98_L0 FUEL ((a0, (0 : Int), ()), ((List.replicate (Int.toNat ((List.length a0 : Nat) : Int)) ((0 : Int), ((0 : Int), ((0 : Int), ((0 : Int), (([] : List (Int)), ())))))), ()))) fun y1 =>
 .ret (((y1.2.1, ()), ()), ((), ())))
 .fail
def f98_A : Nat → Option LoopAnn := fun n => annOf [(0, { head := { t := [.ro (.st (.cons (.int .i64) (.cons (.int .i64) (.cons (.int .i64) (.cons (.int .i64) (.cons (.sl (.int .i64)) .nil)))))) (some 0), .dead, .dead, .srf 64000000, .i .i64, .dead, .dead, .dead, .dead, .dead, .dead, .dead, .dead, .dead, .dead, .dead, .dead, .dead, .dead, .dead, .dead, .dead, .dead], v := [(64000000, .arr (.st (.cons (.int .i64) (.cons (.int .i64) (.cons (.int .i64) (.cons (.int .i64) (.cons (.sl (.int .i64)) .nil)))))))] }, out := { t := [.dead, .dead, .dead, .srf 64000256, .dead, .dead, .dead, .dead, .dead, .dead, .dead, .dead, .dead, .dead, .dead, .dead, .dead, .dead, .dead, .dead, .dead, .dead, .dead], v := [(64000256, .arr (.st (.cons (.int .i64) (.cons (.int .i64) (.cons (.int .i64) (.cons (.int .i64) (.cons (.sl (.int .i64)) .nil)))))))] }, ret := none })] n
def toEffSV (a0 : List EffD) : Option ((List EffD)) := toP (szcEffS a0) a0
def k98 : Con := { f := 98, lend := true, its := [⟨false, false, [.ro (.st (.cons (.int .i64) (.cons (.int .i64) (.cons (.int .i64) (.cons (.int .i64) (.cons (.sl (.int .i64)) .nil))))))]⟩], lay := [none], rs := [⟨false, false, [.own (.st (.cons (.int .i64) (.cons (.int .i64) (.cons (.int .i64) (.cons (.int .i64) (.cons (.sl (.int .i64)) .nil))))))]⟩], F := fun x => .get (toEffSV x.1.1) fun y => .ret (((y, ()), ()), ((), ())) }
theorem f98_eq (x : itemsD k98.its) : bodyOut (cxOf [k185]) (f98_A) (codeOf Try.f98) k98.its k98.lay Try.f98.ntmps k98.rs [.tmp 2] x = f98_tree x.1.1 := by kernel_rfl
theorem f98_okp (hr : ∀ x : (List (Int × Int × Int × Int × List Int × Unit) × Unit) × Unit, itemsWF k98.its x → ∀ y, (k98.F x).eval = some y → (f98_tree x.1.1).eval = some y) : k98.Ok Try.prog :=
  con_fn [k185] ⟨k185_ok, trivial⟩ (by kernel_rfl) (codeOf_eq (by kernel_rfl)) (by kernel_rfl) (by kernel_rfl) (by kernel_rfl) f98_eq hr
theorem k98_ok : k98.Ok Try.prog := by
  refine f98_okp fun x hw y hy => ?_
  obtain ⟨⟨a0, _⟩, _⟩ := x
  change (Out.get (toEffSV a0) fun y => Out.ret (((y, ()), ()), ((), ()))).eval = some y at hy
  obtain ⟨h, hy⟩ := toP_get hy
  refine Eq.trans ?_ hy
  show (f98_tree a0).eval = _
  unfold f98_tree
  have ha : a0.length ≤ BIG := hw.1.1.1
  unfold szcEffS at h
  have hl : a0.length ≤ LIM := by rw [LIM_eq]; omega
  rw [eval_ite_t (lim_cond hl), Int.toNat_natCast]
  have := copy_loop (f := f98_L0) a0 (fun x : EffD => x) (List.replicate a0.length ((0 : Int), ((0 : Int), ((0 : Int), ((0 : Int), (([] : List (Int)), ())))))) (fun i l => ((a0, (((i : Nat) : Int), ())), (l, ()))) (by simp) ha
    (fun i hi l hl' => by
      have h1 := wrap_succ (i := i) (by omega)
      have h2 : i < l.length := by omega
      have h3 : szcEff a0[i] ≤ sumBy (fun x : EffD => szcEff x) a0 := sumBy_mem (c := fun x : EffD => szcEff x) (List.getElem_mem hi)
      have h4 : toEffV a0[i].1 a0[i].2.1 a0[i].2.2.1 a0[i].2.2.2.1 a0[i].2.2.2.2.1 = some (a0[i].1, a0[i].2.1, a0[i].2.2.1, a0[i].2.2.2.1, a0[i].2.2.2.2.1) := toP_in (show szcEff a0[i] ≤ 1048576 by omega)
      simp [f98_L0, Out.eval, hi, h1, h2, h4])
    (fun l => by simp [f98_L0, Out.eval])
  refine (eval_get_some this).trans ?_
  rw [List.map_id']
  try rfl
abbrev f101_S0 := (List ((Int × Int × Int × Int × List Int × Unit)) × List ((Int × Int × Int × Int × List Int × Unit)) × Int × Unit) × (Unit)
def f101_L0 (x : f101_S0) : Out (Round f101_S0 ((Unit) × (Unit)) ((Bool × Unit) × (Unit))) :=
 .ite (decide (x.1.2.2.1 < ((List.length x.1.1 : Nat) : Int)))
 (.ite (decide (0 ≤ x.1.2.2.1))
 (.get (nth x.1.1 (Int.toNat x.1.2.2.1)) fun y1 =>
 .ite (decide (0 ≤ x.1.2.2.1))
 (.get (nth x.1.2.1 (Int.toNat x.1.2.2.1)) fun y2 =>
 .ite (!(eqEffV y1.1 y1.2.1 y1.2.2.1 y1.2.2.2.1 y1.2.2.2.2.1 y2.1 y2.2.1 y2.2.2.1 y2.2.2.2.1 y2.2.2.2.2.1))
 (.ret (.ret ((false, ()), ())))
 (.ret (.again ((x.1.1, x.1.2.1, (IntKind.i64.wrap (x.1.2.2.1 + (1 : Int))), ()), ()))))
 .fail)
 .fail)
 (.ret (.out ((), ())))
def f101_tree (a0 : List (Int × Int × Int × Int × List Int × Unit)) (a1 : List (Int × Int × Int × Int × List Int × Unit)) : Out (((Bool × Unit) × Unit) × (Unit × Unit × Unit)) :=
 .ite ((((List.length a0 : Nat) : Int) != ((List.length a1 : Nat) : Int)))
 (.ret (((false, ()), ()), ((), (), ())))
 (.get (iter f101_L0 FUEL ((a0, a1, (0 : Int), ()), ())) fun y1 => .alt y1 (fun y2 =>
 .ret (((true, ()), ()), ((), (), ()))) (fun y3 =>
 .ret (((y3.1.1, ()), ()), ((), (), ()))))
def f101_A : Nat → Option LoopAnn := fun n => annOf [(0, { head := { t := [.ro (.st (.cons (.int .i64) (.cons (.int .i64) (.cons (.int .i64) (.cons (.int .i64) (.cons (.sl (.int .i64)) .nil)))))) (some 0), .ro (.st (.cons (.int .i64) (.cons (.int .i64) (.cons (.int .i64) (.cons (.int .i64) (.cons (.sl (.int .i64)) .nil)))))) (some 1), .dead, .dead, .dead, .i .i64, .dead, .dead, .dead, .dead, .dead, .dead, .dead, .dead, .dead, .dead, .dead, .dead, .dead, .dead, .dead, .dead, .dead, .dead, .dead, .dead, .dead], v := [] }, out := { t := [.dead, .dead, .dead, .dead, .dead, .dead, .dead, .dead, .dead, .dead, .dead, .dead, .dead, .dead, .dead, .dead, .dead, .dead, .dead, .dead, .dead, .dead, .dead, .dead, .dead, .dead, .dead], v := [] }, ret := some { t := [.dead, .dead, .dead, .dead, .b, .dead, .dead, .dead, .dead, .dead, .dead, .dead, .dead, .dead, .dead, .dead, .dead, .dead, .dead, .dead, .dead, .dead, .dead, .dead, .dead, .dead, .dead], v := [] } })] n
def eqEffSV (a0 : List EffD) (b0 : List EffD) : Bool := decide ((a0 : List EffD) = b0)
def k101 : Con := { f := 101, lend := true, its := [⟨false, false, [.ro (.st (.cons (.int .i64) (.cons (.int .i64) (.cons (.int .i64) (.cons (.int .i64) (.cons (.sl (.int .i64)) .nil))))))]⟩, ⟨false, false, [.ro (.st (.cons (.int .i64) (.cons (.int .i64) (.cons (.int .i64) (.cons (.int .i64) (.cons (.sl (.int .i64)) .nil))))))]⟩], lay := [none, none], rs := [⟨false, false, [.b]⟩], F := fun x => .ret ((((eqEffSV x.1.1 x.2.1.1), ()), ()), ((), (), ())) }
theorem f101_eq (x : itemsD k101.its) : bodyOut (cxOf [k188]) (f101_A) (codeOf Try.f101) k101.its k101.lay Try.f101.ntmps k101.rs [.tmp 4] x = f101_tree x.1.1 x.2.1.1 := by kernel_rfl
theorem f101_ok (hr : ∀ x : (List (Int × Int × Int × Int × List Int × Unit) × Unit) × (List (Int × Int × Int × Int × List Int × Unit) × Unit) × Unit, itemsWF k101.its x → (f101_tree x.1.1 x.2.1.1).eval = (k101.F x).eval) : k101.Ok Try.prog :=
  con_fn [k188] ⟨k188_ok, trivial⟩ (by kernel_rfl) (codeOf_eq (by kernel_rfl)) (by kernel_rfl) (by kernel_rfl) (by kernel_rfl) f101_eq fun x hw _ hy => (hr x hw).trans hy
theorem k101_ok : k101.Ok Try.prog := by
  refine f101_ok fun x hw => ?_
  obtain ⟨⟨a0, _⟩, ⟨b0, _⟩, _⟩ := x
  show (f101_tree a0 b0).eval = some (((eqEffSV a0 b0, ()), ()), ((), ((), ())))
  unfold f101_tree
  have ha : a0.length ≤ BIG := hw.1.1.1
  by_cases hl : a0.length = b0.length
  · rw [eval_ite_f (len_eq hl)]
    have := eq_loop (f := f101_L0) a0 b0 (fun i => ((a0, (b0, (((i : Nat) : Int), ()))), ())) (y := ((), ())) (z := ((false, ()), ())) hl ha
      (fun i hi hi' he => by
        have := wrap_succ (i := i) (by omega)
        have h3 : ∀ x y : EffD, eqEffV x.1 x.2.1 x.2.2.1 x.2.2.2.1 x.2.2.2.2.1 y.1 y.2.1 y.2.2.1 y.2.2.2.1 y.2.2.2.2.1 = decide (x = y) := fun _ _ => rfl
        simp [f101_L0, Out.eval, hi, hi', he, this, h3])
      (fun i hi hi' he => by
        have h3 : ∀ x y : EffD, eqEffV x.1 x.2.1 x.2.2.1 x.2.2.2.1 x.2.2.2.2.1 y.1 y.2.1 y.2.2.1 y.2.2.2.1 y.2.2.2.2.1 = decide (x = y) := fun _ _ => rfl
        simp [f101_L0, Out.eval, hi, hi', he, cond_eq_ite, h3])
      (by simp [f101_L0, Out.eval])
    refine (eval_get_some this).trans ?_
    unfold eqEffSV
    by_cases hab : a0 = b0
    · simp only [if_pos hab, decide_eq_true hab]; rfl
    · simp only [if_neg hab, decide_eq_false hab]; rfl
  · rw [eval_ite_t (len_ne hl)]
    have : eqEffSV a0 b0 = false := decide_eq_false fun e => hl (by rw [e])
    rw [this]
    rfl
abbrev f102_S0 := (Int × Int × Unit) × (List ((Int × Int × Int × Int × List Int × Unit)) × Unit)
def f102_L0 (x : f102_S0) : Out (Round f102_S0 ((Int × Unit) × (List ((Int × Int × Int × Int × List Int × Unit)) × Unit)) Empty) :=
 .ite (decide (x.1.2.1 < ((List.length x.2.1 : Nat) : Int)))
 (.ite (decide (0 ≤ x.1.2.1 ∧ x.1.2.1 < ((List.length x.2.1 : Nat) : Int)))
 (.get (nth x.2.1 (Int.toNat x.1.2.1)) fun y1 =>
 .ite (decide (0 ≤ x.1.2.1 ∧ x.1.2.1 < ((List.length (List.set x.2.1 (Int.toNat x.1.2.1) (x.1.1, y1.2)) : Nat) : Int)))
 (.get (nth (List.set x.2.1 (Int.toNat x.1.2.1) (x.1.1, y1.2)) (Int.toNat x.1.2.1)) fun y2 =>
 .ite (decide (0 ≤ x.1.2.1 ∧ x.1.2.1 < ((List.length (List.set (List.set x.2.1 (Int.toNat x.1.2.1) (x.1.1, y1.2)) (Int.toNat x.1.2.1) (y2.1, ((IntKind.i64.wrap (x.1.1 + (1 : Int))), y2.2.2))) : Nat) : Int)))
 (.get (nth (List.set (List.set x.2.1 (Int.toNat x.1.2.1) (x.1.1, y1.2)) (Int.toNat x.1.2.1) (y2.1, ((IntKind.i64.wrap (x.1.1 + (1 : Int))), y2.2.2))) (Int.toNat x.1.2.1)) fun y3 =>
 .ite (decide (0 ≤ x.1.2.1 ∧ x.1.2.1 < ((List.length (List.set (List.set (List.set x.2.1 (Int.toNat x.1.2.1) (x.1.1, y1.2)) (Int.toNat x.1.2.1) (y2.1, ((IntKind.i64.wrap (x.1.1 + (1 : Int))), y2.2.2))) (Int.toNat x.1.2.1) (y3.1, (y3.2.1, ((IntKind.i64.wrap ((IntKind.i64.wrap (x.1.1 + (1 : Int))) + (1 : Int))), y3.2.2.2)))) : Nat) : Int)))
 (.get (nth (List.set (List.set (List.set x.2.1 (Int.toNat x.1.2.1) (x.1.1, y1.2)) (Int.toNat x.1.2.1) (y2.1, ((IntKind.i64.wrap (x.1.1 + (1 : Int))), y2.2.2))) (Int.toNat x.1.2.1) (y3.1, (y3.2.1, ((IntKind.i64.wrap ((IntKind.i64.wrap (x.1.1 + (1 : Int))) + (1 : Int))), y3.2.2.2)))) (Int.toNat x.1.2.1)) fun y4 =>
 .ite (decide (0 ≤ x.1.2.1 ∧ x.1.2.1 < ((List.length (List.set (List.set (List.set (List.set x.2.1 (Int.toNat x.1.2.1) (x.1.1, y1.2)) (Int.toNat x.1.2.1) (y2.1, ((IntKind.i64.wrap (x.1.1 + (1 : Int))), y2.2.2))) (Int.toNat x.1.2.1) (y3.1, (y3.2.1, ((IntKind.i64.wrap ((IntKind.i64.wrap (x.1.1 + (1 : Int))) + (1 : Int))), y3.2.2.2)))) (Int.toNat x.1.2.1) (y4.1, (y4.2.1, (y4.2.2.1, ((IntKind.i64.wrap ((IntKind.i64.wrap ((IntKind.i64.wrap (x.1.1 + (1 : Int))) + (1 : Int))) + (1 : Int))), y4.2.2.2.2))))) : Nat) : Int)))
 (.get (nth (List.set (List.set (List.set (List.set x.2.1 (Int.toNat x.1.2.1) (x.1.1, y1.2)) (Int.toNat x.1.2.1) (y2.1, ((IntKind.i64.wrap (x.1.1 + (1 : Int))), y2.2.2))) (Int.toNat x.1.2.1) (y3.1, (y3.2.1, ((IntKind.i64.wrap ((IntKind.i64.wrap (x.1.1 + (1 : Int))) + (1 : Int))), y3.2.2.2)))) (Int.toNat x.1.2.1) (y4.1, (y4.2.1, (y4.2.2.1, ((IntKind.i64.wrap ((IntKind.i64.wrap ((IntKind.i64.wrap (x.1.1 + (1 : Int))) + (1 : Int))) + (1 : Int))), y4.2.2.2.2))))) (Int.toNat x.1.2.1)) fun y5 =>
 .get (markIntSV y5.2.2.2.2.1 (IntKind.i64.wrap ((IntKind.i64.wrap ((IntKind.i64.wrap ((IntKind.i64.wrap (x.1.1 + (1 : Int))) + (1 : Int))) + (1 : Int))) + (1 : Int)))) fun y6 =>
 .ret (.again ((y6.1, (IntKind.i64.wrap (x.1.2.1 + (1 : Int))), ()), ((List.set (List.set (List.set (List.set (List.set x.2.1 (Int.toNat x.1.2.1) (x.1.1, y1.2)) (Int.toNat x.1.2.1) (y2.1, ((IntKind.i64.wrap (x.1.1 + (1 : Int))), y2.2.2))) (Int.toNat x.1.2.1) (y3.1, (y3.2.1, ((IntKind.i64.wrap ((IntKind.i64.wrap (x.1.1 + (1 : Int))) + (1 : Int))), y3.2.2.2)))) (Int.toNat x.1.2.1) (y4.1, (y4.2.1, (y4.2.2.1, ((IntKind.i64.wrap ((IntKind.i64.wrap ((IntKind.i64.wrap (x.1.1 + (1 : Int))) + (1 : Int))) + (1 : Int))), y4.2.2.2.2))))) (Int.toNat x.1.2.1) (y5.1, (y5.2.1, (y5.2.2.1, (y5.2.2.2.1, (y6.2, y5.2.2.2.2.2)))))), ()))))
 .fail)
 .fail)
 .fail)
 .fail)
 .fail)
 (.ret (.out ((x.1.1, ()), (x.2.1, ()))))
def f102_tree (a0 : List (Int × Int × Int × Int × List Int × Unit)) (a1 : Int) : Out (((Int × Unit) × Unit) × ((List (Int × Int × Int × Int × List Int × Unit) × Unit) × Unit × Unit)) :=
 .get (iter1 f102_L0 FUEL ((a1, (0 : Int), ()), (a0, ()))) fun y1 =>
 .ret (((y1.1.1, ()), ()), ((y1.2.1, ()), (), ()))
def f102_A : Nat → Option LoopAnn := fun n => annOf [(0, { head := { t := [.srf 0, .i .i64, .dead, .dead, .dead, .i .i64, .dead, .dead, .dead, .dead, .dead, .dead, .dead, .dead, .dead, .dead, .dead, .dead, .dead, .dead, .dead, .dead, .dead, .dead, .dead, .dead, .dead, .dead, .dead, .dead, .dead, .dead, .dead, .dead, .dead, .dead, .dead, .dead, .dead, .dead, .dead, .dead, .dead, .dead, .dead, .dead, .dead, .dead], v := [(0, .arr (.st (.cons (.int .i64) (.cons (.int .i64) (.cons (.int .i64) (.cons (.int .i64) (.cons (.sl (.int .i64)) .nil)))))))] }, out := { t := [.srf 0, .i .i64, .dead, .dead, .dead, .dead, .dead, .dead, .dead, .dead, .dead, .dead, .dead, .dead, .dead, .dead, .dead, .dead, .dead, .dead, .dead, .dead, .dead, .dead, .dead, .dead, .dead, .dead, .dead, .dead, .dead, .dead, .dead, .dead, .dead, .dead, .dead, .dead, .dead, .dead, .dead, .dead, .dead, .dead, .dead, .dead, .dead, .dead], v := [(0, .arr (.st (.cons (.int .i64) (.cons (.int .i64) (.cons (.int .i64) (.cons (.int .i64) (.cons (.sl (.int .i64)) .nil)))))))] }, ret := none })] n
def markEffSV (a0 : List EffD) (k : Int) : Option (Int × (List EffD)) := mkP (mkcEffS a0) k (mkdEffS (k) a0)
def k102 : Con := { f := 102, lend := true, its := [⟨false, false, [.mut (.st (.cons (.int .i64) (.cons (.int .i64) (.cons (.int .i64) (.cons (.int .i64) (.cons (.sl (.int .i64)) .nil))))))]⟩, ⟨false, false, [.i .i64]⟩], lay := [none, none], rs := [⟨false, false, [.i .i64]⟩], F := fun x => .get (markEffSV x.1.1 x.2.1.1) fun y => .ret (((y.1, ()), ()), ((y.2, ()), (), ())) }
theorem f102_eq (x : itemsD k102.its) : bodyOut (cxOf [k103]) (f102_A) (codeOf Try.f102) k102.its k102.lay Try.f102.ntmps k102.rs [.tmp 4] x = f102_tree x.1.1 x.2.1.1 := by kernel_rfl
theorem f102_okp (hr : ∀ x : (List (Int × Int × Int × Int × List Int × Unit) × Unit) × (Int × Unit) × Unit, itemsWF k102.its x → ∀ y, (k102.F x).eval = some y → (f102_tree x.1.1 x.2.1.1).eval = some y) : k102.Ok Try.prog :=
  con_fn [k103] ⟨k103_ok, trivial⟩ (by kernel_rfl) (codeOf_eq (by kernel_rfl)) (by kernel_rfl) (by kernel_rfl) (by kernel_rfl) f102_eq hr
theorem k102_ok : k102.Ok Try.prog := by
  refine f102_okp fun x hw y hy => ?_
  obtain ⟨⟨a0, _⟩, ⟨k, _⟩, _⟩ := x
  change (Out.get (markEffSV a0 k) fun y => Out.ret (((y.1, ()), ()), ((y.2, ()), (), ()))).eval = some y at hy
  obtain ⟨h0, h1, hy⟩ := mkP_get hy
  refine Eq.trans ?_ hy
  show (f102_tree a0 k).eval = _
  unfold f102_tree
  have ha : a0.length ≤ BIG := hw.1.1.1
  have := mk_loop (f := f102_L0) a0 mkcEff mkdEff (fun k l i => ((k, (((i : Nat) : Int), ())), (l, ()))) (fun k l => ((k, ()), (l, ())))
    (fun i hi k l hl h3 h0 hk => by
      have h1 := wrap_succ (i := i) (by omega)
      have h2 : i < l.length := by omega
      have h4 : l[i] = a0[i] := by rw [List.getElem?_eq_getElem h2] at h3; exact Option.some.inj h3
      unfold mkcEff at hk
      have w1 : IntKind.i64.wrap (k + 1) = k + 1 := wrap1 (by omega) (by omega)
      have w2 : IntKind.i64.wrap (k + 1 + 1) = k + 1 + 1 := wrap1 (by omega) (by omega)
      have w3 : IntKind.i64.wrap (k + 1 + 1 + 1) = k + 1 + 1 + 1 := wrap1 (by omega) (by omega)
      have w4 : IntKind.i64.wrap (k + 1 + 1 + 1 + 1) = k + 1 + 1 + 1 + 1 := wrap1 (by omega) (by omega)
      have w5 : markIntSV a0[i].2.2.2.2.1 (k + 1 + 1 + 1 + 1) = some (k + 1 + 1 + 1 + 1 + (mkcIntS a0[i].2.2.2.2.1 : Nat), mkdIntS (k + 1 + 1 + 1 + 1) a0[i].2.2.2.2.1) := mkP_in (by omega) (by omega)
      simp [f102_L0, Out.eval, h1, h2, h3, h4, hl, hi, mkcEff, mkdEff, w1, w2, w3, w4, w5] <;> omega)
    (fun k l hl => by simp [f102_L0, Out.eval, hl]) ha h0 h1
  refine (eval_get_some this).trans ?_
  rfl

end Go.Proofs.Ytjcinikojcfebaa.Dm
