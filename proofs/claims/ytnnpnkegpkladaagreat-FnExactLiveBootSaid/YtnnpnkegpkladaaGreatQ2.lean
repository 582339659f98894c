/- f -/
import Derived.Test.YtnnpnkegpkladaaGreatQ1
namespace Go.Proofs.YtnnpnkegpkladaaGreat.Dm
set_option linter.all false
open Go Go.ChangeShapes Go.WideShapes Go.ChangeAt Go.RowKit
instance dqIns : DecidableEq InsD := (@instDecidableEqProd _ _ inferInstance (@instDecidableEqProd _ _ inferInstance (@instDecidableEqProd _ _ inferInstance (@instDecidableEqProd _ _ inferInstance inferInstance))))
def szcIns (x : InsD) : Nat := 0
def mkcIns (x : InsD) : Nat := 1 + 1 + 1 + 1
def mkdIns (k : Int) (x : InsD) : InsD := (mkdInt k x.1, mkdInt (k + 1) x.2.1, mkdInt (k + 1 + 1) x.2.2.1, mkdInt (k + 1 + 1 + 1) x.2.2.2.1, ())
theorem mkcIns_d (k : Int) (x : InsD) : mkcIns (mkdIns k x) = mkcIns x := by simp only [mkcIns, mkdIns]
theorem mkdIns_d (j k : Int) (x : InsD) : mkdIns j (mkdIns k x) = mkdIns j x := by simp only [mkdIns, mkdInt]
def szcInsS (a : List InsD) : Nat := a.length
def mkcInsS (a : List InsD) : Nat := sumBy mkcIns a
def mkdInsS (k : Int) (a : List InsD) : List InsD := mkdL mkcIns mkdIns k a
theorem mkcInsS_d (k : Int) (a : List InsD) : mkcInsS (mkdInsS k a) = mkcInsS a := mkcL_d mkcIns_d k a
theorem mkdInsS_d (j k : Int) (a : List InsD) : mkdInsS j (mkdInsS k a) = mkdInsS j a := mkdL_d mkcIns_d mkdIns_d j k a
theorem mkcInsS_le (a : List InsD) : mkcInsS a ≤ 64 * szcInsS a := mkcL_le0 (fun x => by unfold mkcIns; omega) a
def f43_tree (a0 : List InsD) (a1 : Int) : Out (((Int × Unit) × Unit) × XI) :=
 .ite (decide ((IntKind.i64.wrap (a1 - ((List.length a0 : Nat) : Int))) < (0 : Int)))
 (.ret ((((-1 : Int), ()), ()), ((), (), ())))
 (.ret ((((IntKind.i64.wrap (a1 - ((List.length a0 : Nat) : Int))), ()), ()), ((), (), ())))
def szInsSV (a0 : List InsD) (l : Int) : Option Int := szP (szcInsS a0) l
def k43 : Con := { f := 43, lend := true, its := [⟨false, false, [.ro tyN]⟩, ⟨false, false, [.i .i64]⟩], lay := [none, none], rs := [⟨false, false, [.i .i64]⟩], F := fun x => .get (szInsSV x.1.1 x.2.1.1) fun y => .ret (((y, ()), ()), ((), (), ())) }
theorem f43_eq (x : itemsD k43.its) : bo [] (fun _ => none) Tryz.f43 k43 [.tmp 4] x = f43_tree x.1.1 x.2.1.1 := by kernel_rfl
theorem f43_okp (hr : ∀ x : (List InsD × Unit) × (Int × Unit) × Unit, itemsWF k43.its x → ∀ y, (k43.F x).eval = some y → (f43_tree x.1.1 x.2.1.1).eval = some y) : k43.Ok Tryz.prog := con_fn [] trivial f43_eq hr
theorem k43_ok : k43.Ok Tryz.prog := by
 refine f43_okp fun x hw y hy => ?_
 obtain ⟨⟨a0, _⟩, ⟨l, _⟩, _⟩ := x
 change (Out.get (szInsSV a0 l) fun y => Out.ret (((y, ()), ()), ((), ((), ())))).eval = some y at hy
 obtain ⟨⟨h0, h1⟩, hy⟩ := szP_get hy
 refine Eq.trans ?_ hy
 show (f43_tree a0 l).eval = _
 unfold f43_tree
 have ha : a0.length ≤ BIG := hw.1.1.1
 have hb : a0.length ≤ 9223372036854775807 := ha
 have w : IntKind.i64.wrap (l - ((a0.length : Nat) : Int)) = l - ((a0.length : Nat) : Int) := wrap_le (by omega) (by omega)
 rw [w]
 unfold szcInsS
 by_cases q : l - ((a0.length : Nat) : Int) < 0
 . rw [eval_ite_t (decide_eq_true q), if_neg (by omega)]; try rfl
 . rw [eval_ite_f (decide_eq_false q), if_pos (by omega)]; try rfl
def szcInsSS (a : List (List InsD)) : Nat := a.length + sumBy (fun x => szcInsS x) a
def mkcInsSS (a : List (List InsD)) : Nat := sumBy mkcInsS a
def mkdInsSS (k : Int) (a : List (List InsD)) : List (List InsD) := mkdL mkcInsS mkdInsS k a
theorem mkcInsSS_d (k : Int) (a : List (List InsD)) : mkcInsSS (mkdInsSS k a) = mkcInsSS a := mkcL_d mkcInsS_d k a
theorem mkdInsSS_d (j k : Int) (a : List (List InsD)) : mkdInsSS j (mkdInsSS k a) = mkdInsSS j a := mkdL_d mkcInsS_d mkdInsS_d j k a
theorem mkcInsSS_le (a : List (List InsD)) : mkcInsSS a ≤ 64 * szcInsSS a := mkcL_le (s := fun x => szcInsS x) (fun x => by have := mkcInsS_le x; omega) a
abbrev f13_S0 := (List (List InsD) × Int × Int × Unit) × (Unit)
def f13_L0 : f13_S0 → Out (Round f13_S0 ((Int × Unit) × (Unit)) ((Int × Unit) × (Unit)))
| ((p0, p1, p2, _), _) =>
 .ite (decide (p2 < ((List.length p0 : Nat) : Int)))
 (.ite (decide (0 ≤ p2))
 (.get (nth p0 (Int.toNat p2)) fun y1 =>
 .get (szInsSV y1 p1) fun y2 =>
 .ite (decide (y2 < (0 : Int)))
 (.ret (.ret (((-1 : Int), ()), ())))
 (.ret (.again ((p0, y2, (IntKind.i64.wrap (p2 + (1 : Int))), ()), ()))))
 .fail)
 (.ret (.out ((p1, ()), ())))
def f13_tree (a0 : List (List InsD)) (a1 : Int) : Out (((Int × Unit) × Unit) × XI) :=
 .ite (decide ((IntKind.i64.wrap (a1 - ((List.length a0 : Nat) : Int))) < (0 : Int)))
 (.ret ((((-1 : Int), ()), ()), ((), (), ())))
 (.get (iter f13_L0 FUEL ((a0, (IntKind.i64.wrap (a1 - ((List.length a0 : Nat) : Int))), (0 : Int), ()), ())) fun y1 => .alt y1 (fun y2 =>
 .ret (((y2.1.1, ()), ()), ((), (), ()))) (fun y3 =>
 .ret (((y3.1.1, ()), ()), ((), (), ()))))
def f13_A : Nat → Option LoopAnn := fun n => annOf [(0, ⟨⟨[.ro (.sl tyN) (some 0), .i .i64, .dead, .dead, .dead, .i .i64] ++ dd 21, []⟩, ⟨[.dead, .i .i64] ++ dd 25, []⟩, some ⟨dd 4 ++ [.i .i64] ++ dd 22, []⟩, false⟩)] n
def szInsSSV (a0 : List (List InsD)) (l : Int) : Option Int := szP (szcInsSS a0) l
def k13 : Con := { f := 13, lend := true, its := [⟨false, false, [.ro (.sl tyN)]⟩, ⟨false, false, [.i .i64]⟩], lay := [none, none], rs := [⟨false, false, [.i .i64]⟩], F := fun x => .get (szInsSSV x.1.1 x.2.1.1) fun y => .ret (((y, ()), ()), ((), (), ())) }
theorem f13_eq (x : itemsD k13.its) : bo [k43] f13_A Tryz.f13 k13 [.tmp 4] x = f13_tree x.1.1 x.2.1.1 := by kernel_rfl
theorem f13_okp (hr : ∀ x : (List (List InsD) × Unit) × (Int × Unit) × Unit, itemsWF k13.its x → ∀ y, (k13.F x).eval = some y → (f13_tree x.1.1 x.2.1.1).eval = some y) : k13.Ok Tryz.prog := con_fn [k43] ⟨k43_ok, trivial⟩ f13_eq hr
theorem k13_ok : k13.Ok Tryz.prog := by
 refine f13_okp fun x hw y hy => ?_
 obtain ⟨⟨a0, _⟩, ⟨l, _⟩, _⟩ := x
 change (Out.get (szInsSSV a0 l) fun y => Out.ret (((y, ()), ()), ((), ((), ())))).eval = some y at hy
 obtain ⟨⟨h0, h1⟩, hy⟩ := szP_get hy
 refine Eq.trans ?_ hy
 show (f13_tree a0 l).eval = _
 unfold f13_tree
 have ha : a0.length ≤ BIG := hw.1.1.1
 have hb : a0.length ≤ 9223372036854775807 := ha
 have w : IntKind.i64.wrap (l - ((a0.length : Nat) : Int)) = l - ((a0.length : Nat) : Int) := wrap_le (by omega) (by omega)
 rw [w]
 unfold szcInsSS
 by_cases q : l - ((a0.length : Nat) : Int) < 0
 . rw [eval_ite_t (decide_eq_true q), if_neg (by omega)]; try rfl
 . rw [eval_ite_f (decide_eq_false q)]
   have := sz_loop (f := f13_L0) a0 (fun x : List InsD => szcInsS x) (fun l i => ((a0, (l, (((i : Nat) : Int), ()))), ())) (y := fun l => ((l, ()), ())) (z := ((-1, ()), ()))
    (fun i hi l h0 h1 => by
     have h2 := wrap_succ (i := i) (by omega)
     have e : szInsSV a0[i] l = some (if ((szcInsS a0[i] : Nat) : Int) ≤ l then l - ((szcInsS a0[i] : Nat) : Int) else -1) := szP_in h0 h1
     by_cases q : ((szcInsS a0[i] : Nat) : Int) ≤ l
     . have q2 : ¬ l - ((szcInsS a0[i] : Nat) : Int) < 0 := by omega
       rw [if_pos q] at e
       simp [f13_L0, Out.eval, hi, h2, e, q, q2]
     . rw [if_neg q] at e
       simp [f13_L0, Out.eval, hi, e, q])
    (fun l => by simp [f13_L0, Out.eval]) ha (l := l - ((a0.length : Nat) : Int)) (by omega) (by omega)
   refine (eval_get_some this).trans ?_
   by_cases q2 : ((sumBy (fun x : List InsD => szcInsS x) a0 : Nat) : Int) ≤ l - ((a0.length : Nat) : Int)
   . have e3 : l - ((a0.length : Nat) : Int) - ((sumBy (fun x : List InsD => szcInsS x) a0 : Nat) : Int) = l - ((a0.length + sumBy (fun x : List InsD => szcInsS x) a0 : Nat) : Int) := by omega
     rw [if_pos q2, if_pos (by omega), ← e3]; rfl
   . rw [if_neg q2, if_neg (by omega)]; rfl
def f104_tree (a0 : Int) (a1 : Int) (a2 : Int) (a3 : Int) : Out ((InsD × Unit) × (Unit × Unit)) :=
 .ret (((a0, a1, a2, a3, ()), ()), ((), ()))
def toInsV (a0 : Int) (a1 : Int) (a2 : Int) (a3 : Int) : Option (Int × Int × Int × Int) := toP (szcIns (a0, a1, a2, a3, ())) (a0, a1, a2, a3)
def k104 : Con := { f := 104, lend := true, its := [⟨false, true, [.i .i64, .i .i64, .i .i64, .i .i64]⟩], lay := [none], rs := [⟨false, true, [.i .i64, .i .i64, .i .i64, .i .i64]⟩], F := fun x => .get (toInsV x.1.1 x.1.2.1 x.1.2.2.1 x.1.2.2.2.1) fun y => .ret (((y.1, y.2.1, y.2.2.1, y.2.2.2, ()), ()), ((), ())) }
theorem f104_eq (x : itemsD k104.its) : bo [] (fun _ => none) Tryz.f104 k104 [.cell 2 71] x = f104_tree x.1.1 x.1.2.1 x.1.2.2.1 x.1.2.2.2.1 := by kernel_rfl
theorem f104_okp (hr : ∀ x : InsD × Unit, itemsWF k104.its x → ∀ y, (k104.F x).eval = some y → (f104_tree x.1.1 x.1.2.1 x.1.2.2.1 x.1.2.2.2.1).eval = some y) : k104.Ok Tryz.prog := con_fn [] trivial f104_eq hr
theorem k104_ok : k104.Ok Tryz.prog := by
 refine f104_okp fun x hw y hy => ?_
 obtain ⟨⟨a0, a1, a2, a3, _⟩, _⟩ := x
 change (Out.get (toInsV a0 a1 a2 a3) fun y => Out.ret (((y.1, y.2.1, y.2.2.1, y.2.2.2, ()), ()), ((), ()))).eval = some y at hy
 obtain ⟨h, hy⟩ := toP_get hy
 refine Eq.trans ?_ hy
 show (f104_tree a0 a1 a2 a3).eval = _
 unfold f104_tree
 rfl
abbrev f45_S0 := (List InsD × Int × Unit) × (List InsD × Unit)
def f45_L0 : f45_S0 → Out (Round f45_S0 ((Unit) × (List InsD × Unit)) Empty)
| ((p0, p1, _), p2, _) =>
 .ite (decide (p1 < ((List.length p0 : Nat) : Int)))
 (.ite (decide (0 ≤ p1))
 (.get (nth p0 (Int.toNat p1)) fun y1 =>
 .get (toInsV y1.1 y1.2.1 y1.2.2.1 y1.2.2.2.1) fun y2 =>
 .ite (decide (0 ≤ p1 ∧ p1 < ((List.length p2 : Nat) : Int)))
 (.get (nth p2 (Int.toNat p1)) fun y3 =>
 .ret (.again ((p0, (IntKind.i64.wrap (p1 + (1 : Int))), ()), ((List.set p2 (Int.toNat p1) (y2.1, y2.2.1, y2.2.2.1, y2.2.2.2, ())), ()))))
 .fail)
 .fail)
 (.ret (.out ((), (p2, ()))))
def f45_tree (a0 : List InsD) : Out (((List InsD × Unit) × Unit) × (Unit × Unit)) :=
 .ite (decide (0 ≤ ((List.length a0 : Nat) : Int) ∧ ((List.length a0 : Nat) : Int) ≤ ((List.length a0 : Nat) : Int) ∧ ((List.length a0 : Nat) : Int) ≤ (LIM : Int)))
 (.get (iter1 f45_L0 FUEL ((a0, (0 : Int), ()), ((List.replicate (Int.toNat ((List.length a0 : Nat) : Int)) ((0 : Int), ((0 : Int), ((0 : Int), ((0 : Int), ()))))), ()))) fun y1 =>
 .ret (((y1.2.1, ()), ()), ((), ())))
 .fail
def f45_A : Nat → Option LoopAnn := fun n => annOf [(0, ⟨⟨[.ro tyN (some 0), .dead, .dead, .srf 64000000, .i .i64] ++ dd 18, [(64000000, .arr tyN)]⟩, ⟨[.dead, .dead, .dead, .srf 64000000] ++ dd 19, [(64000000, .arr tyN)]⟩, none, false⟩)] n
def toInsSV (a0 : List InsD) : Option ((List InsD)) := toP (szcInsS a0) a0
def k45 : Con := { f := 45, lend := true, its := [⟨false, false, [.ro tyN]⟩], lay := [none], rs := [⟨false, false, [.own tyN]⟩], F := fun x => .get (toInsSV x.1.1) fun y => .ret (((y, ()), ()), ((), ())) }
theorem f45_eq (x : itemsD k45.its) : bo [k104] f45_A Tryz.f45 k45 [.tmp 2] x = f45_tree x.1.1 := by kernel_rfl
theorem f45_okp (hr : ∀ x : (List InsD × Unit) × Unit, itemsWF k45.its x → ∀ y, (k45.F x).eval = some y → (f45_tree x.1.1).eval = some y) : k45.Ok Tryz.prog := con_fn [k104] ⟨k104_ok, trivial⟩ f45_eq hr
theorem k45_ok : k45.Ok Tryz.prog := by
 refine f45_okp fun x hw y hy => ?_
 obtain ⟨⟨a0, _⟩, _⟩ := x
 change (Out.get (toInsSV a0) fun y => Out.ret (((y, ()), ()), ((), ()))).eval = some y at hy
 obtain ⟨h, hy⟩ := toP_get hy
 refine Eq.trans ?_ hy
 show (f45_tree a0).eval = _
 unfold f45_tree
 have ha : a0.length ≤ BIG := hw.1.1.1
 unfold szcInsS at h
 have hl : a0.length ≤ LIM := by rw [LIM_eq]; omega
 rw [eval_ite_t (lim_cond hl), Int.toNat_natCast]
 have := copy_loop (f := f45_L0) a0 (fun x : InsD => x) (List.replicate a0.length ((0 : Int), ((0 : Int), ((0 : Int), ((0 : Int), ()))))) (fun i l => ((a0, (((i : Nat) : Int), ())), (l, ()))) (by simp) ha
  (fun i hi l hl' => by
   have h1 := wrap_succ (i := i) (by omega)
   have h2 : i < l.length := by omega
   have h4 : toInsV a0[i].1 a0[i].2.1 a0[i].2.2.1 a0[i].2.2.2.1 = some (a0[i].1, a0[i].2.1, a0[i].2.2.1, a0[i].2.2.2.1) := toP_in (by simp [szcIns])
   simp [f45_L0, Out.eval, hi, h1, h2, h4])
  (fun l => by simp [f45_L0, Out.eval])
 refine (eval_get_some this).trans ?_
 rw [List.map_id']
 try rfl
abbrev f15_S0 := (List (List InsD) × Int × Unit) × (List (List InsD) × Unit)
def f15_L0 : f15_S0 → Out (Round f15_S0 ((Unit) × (List (List InsD) × Unit)) Empty)
| ((p0, p1, _), p2, _) =>
 .ite (decide (p1 < ((List.length p0 : Nat) : Int)))
 (.ite (decide (0 ≤ p1))
 (.get (nth p0 (Int.toNat p1)) fun y1 =>
 .get (toInsSV y1) fun y2 =>
 .ite (decide (0 ≤ p1 ∧ p1 < ((List.length p2 : Nat) : Int)))
 (.get (nth p2 (Int.toNat p1)) fun y3 =>
 .ret (.again ((p0, (IntKind.i64.wrap (p1 + (1 : Int))), ()), ((List.set p2 (Int.toNat p1) y2), ()))))
 .fail)
 .fail)
 (.ret (.out ((), (p2, ()))))
def f15_tree (a0 : List (List InsD)) : Out (((List (List InsD) × Unit) × Unit) × (Unit × Unit)) :=
 .ite (decide (0 ≤ ((List.length a0 : Nat) : Int) ∧ ((List.length a0 : Nat) : Int) ≤ ((List.length a0 : Nat) : Int) ∧ ((List.length a0 : Nat) : Int) ≤ (LIM : Int)))
 (.get (iter1 f15_L0 FUEL ((a0, (0 : Int), ()), ((List.replicate (Int.toNat ((List.length a0 : Nat) : Int)) ([] : List InsD)), ()))) fun y1 =>
 .ret (((y1.2.1, ()), ()), ((), ())))
 .fail
abbrev f15_s0 : List (Nat × VSlot) := [(64000000, .arr (.sl tyN))]
def f15_A : Nat → Option LoopAnn := fun n => annOf [(0, ⟨⟨[.ro (.sl tyN) (some 0), .dead, .dead, .srf 64000000, .i .i64] ++ dd 18, f15_s0⟩, ⟨[.dead, .dead, .dead, .srf 64000000] ++ dd 19, f15_s0⟩, none, false⟩)] n
def toInsSSV (a0 : List (List InsD)) : Option ((List (List InsD))) := toP (szcInsSS a0) a0
def k15 : Con := { f := 15, lend := true, its := [⟨false, false, [.ro (.sl tyN)]⟩], lay := [none], rs := [⟨false, false, [.own (.sl tyN)]⟩], F := fun x => .get (toInsSSV x.1.1) fun y => .ret (((y, ()), ()), ((), ())) }
theorem f15_eq (x : itemsD k15.its) : bo [k45] f15_A Tryz.f15 k15 [.tmp 2] x = f15_tree x.1.1 := by kernel_rfl
theorem f15_okp (hr : ∀ x : (List (List InsD) × Unit) × Unit, itemsWF k15.its x → ∀ y, (k15.F x).eval = some y → (f15_tree x.1.1).eval = some y) : k15.Ok Tryz.prog := con_fn [k45] ⟨k45_ok, trivial⟩ f15_eq hr
theorem k15_ok : k15.Ok Tryz.prog := by
 refine f15_okp fun x hw y hy => ?_
 obtain ⟨⟨a0, _⟩, _⟩ := x
 change (Out.get (toInsSSV a0) fun y => Out.ret (((y, ()), ()), ((), ()))).eval = some y at hy
 obtain ⟨h, hy⟩ := toP_get hy
 refine Eq.trans ?_ hy
 show (f15_tree a0).eval = _
 unfold f15_tree
 have ha : a0.length ≤ BIG := hw.1.1.1
 unfold szcInsSS at h
 have hl : a0.length ≤ LIM := by rw [LIM_eq]; omega
 rw [eval_ite_t (lim_cond hl), Int.toNat_natCast]
 have := copy_loop (f := f15_L0) a0 (fun x : List InsD => x) (List.replicate a0.length ([] : List InsD)) (fun i l => ((a0, (((i : Nat) : Int), ())), (l, ()))) (by simp) ha
  (fun i hi l hl' => by
   have h1 := wrap_succ (i := i) (by omega)
   have h2 : i < l.length := by omega
   have h3 : szcInsS a0[i] ≤ sumBy (fun x : List InsD => szcInsS x) a0 := sumBy_mem (c := fun x : List InsD => szcInsS x) (List.getElem_mem hi)
   have h4 : toInsSV a0[i] = some a0[i] := toP_in (show szcInsS a0[i] ≤ 1048576 by omega)
   simp [f15_L0, Out.eval, hi, h1, h2, h4])
  (fun l => by simp [f15_L0, Out.eval])
 refine (eval_get_some this).trans ?_
 rw [List.map_id']
 try rfl
def mkcIntS (a : List Int) : Nat := sumBy mkcInt a
def mkdIntS (k : Int) (a : List Int) : List Int := mkdL mkcInt mkdInt k a
theorem mkcIntS_d (k : Int) (a : List Int) : mkcIntS (mkdIntS k a) = mkcIntS a := mkcL_d mkcInt_d k a
theorem mkdIntS_d (j k : Int) (a : List Int) : mkdIntS j (mkdIntS k a) = mkdIntS j a := mkdL_d mkcInt_d mkdInt_d j k a
abbrev f106_S0 := (List Int × List Int × Int × Unit) × (Unit)
def f106_L0 : f106_S0 → Out (Round f106_S0 ((Unit) × (Unit)) ((Bool × Unit) × (Unit)))
| ((p0, p1, p2, _), _) =>
 .ite (decide (p2 < ((List.length p0 : Nat) : Int)))
 (.ite (decide (0 ≤ p2))
 (.get (nth p0 (Int.toNat p2)) fun y1 =>
 .ite (decide (0 ≤ p2))
 (.get (nth p1 (Int.toNat p2)) fun y2 =>
 .ite ((y1 != y2))
 (.ret (.ret ((false, ()), ())))
 (.ret (.again ((p0, p1, (IntKind.i64.wrap (p2 + (1 : Int))), ()), ()))))
 .fail)
 .fail)
 (.ret (.out ((), ())))
def f106_tree (a0 : List Int) (a1 : List Int) : Out (((Bool × Unit) × Unit) × XI) :=
 .ite ((((List.length a0 : Nat) : Int) != ((List.length a1 : Nat) : Int)))
 (.ret (((false, ()), ()), ((), (), ())))
 (.get (iter f106_L0 FUEL ((a0, a1, (0 : Int), ()), ())) fun y1 => .alt y1 (fun y2 =>
 .ret (((true, ()), ()), ((), (), ()))) (fun y3 =>
 .ret (((y3.1.1, ()), ()), ((), (), ()))))
def f106_A : Nat → Option LoopAnn := fun n => annOf [(0, ⟨⟨[.ro (.int .i64) (some 0), .ro (.int .i64) (some 1), .dead, .dead, .dead, .i .i64] ++ dd 20, []⟩, ⟨dd 26, []⟩, some ⟨dd 4 ++ [.b] ++ dd 21, []⟩, false⟩)] n
def eqIntSV (a0 : List Int) (b0 : List Int) : Bool := decide ((a0 : List Int) = b0)
def k106 : Con := { f := 106, lend := true, its := [⟨false, false, [.ro (.int .i64)]⟩, ⟨false, false, [.ro (.int .i64)]⟩], lay := [none, none], rs := [⟨false, false, [.b]⟩], F := fun x => .ret ((((eqIntSV x.1.1 x.2.1.1), ()), ()), ((), (), ())) }
theorem f106_eq (x : itemsD k106.its) : bo [] f106_A Tryz.f106 k106 [.tmp 4] x = f106_tree x.1.1 x.2.1.1 := by kernel_rfl
theorem f106_ok (hr : ∀ x : (List Int × Unit) × (List Int × Unit) × Unit, itemsWF k106.its x → (f106_tree x.1.1 x.2.1.1).eval = (k106.F x).eval) : k106.Ok Tryz.prog := con_fn [] trivial f106_eq fun x hw _ hy => (hr x hw).trans hy
theorem k106_ok : k106.Ok Tryz.prog := by
 refine f106_ok fun x hw => ?_
 obtain ⟨⟨a0, _⟩, ⟨b0, _⟩, _⟩ := x
 show (f106_tree a0 b0).eval = some (((eqIntSV a0 b0, ()), ()), ((), ((), ())))
 unfold f106_tree
 have ha : a0.length ≤ BIG := hw.1.1.1
 by_cases hl : a0.length = b0.length
 . rw [eval_ite_f (len_eq hl)]
   have := eq_loop (f := f106_L0) a0 b0 (fun i => ((a0, (b0, (((i : Nat) : Int), ()))), ())) (y := ((), ())) (z := ((false, ()), ())) hl ha
    (fun i hi hi' he => by
     have := wrap_succ (i := i) (by omega)
     simp [f106_L0, Out.eval, hi, hi', he, this])
    (fun i hi hi' he => by
     simp [f106_L0, Out.eval, hi, hi', he, cond_eq_ite])
    (by simp [f106_L0, Out.eval])
   refine (eval_get_some this).trans ?_
   unfold eqIntSV
   by_cases hab : a0 = b0
   . simp only [if_pos hab, decide_eq_true hab]; rfl
   . simp only [if_neg hab, decide_eq_false hab]; rfl
 . rw [eval_ite_t (len_ne hl)]
   have : eqIntSV a0 b0 = false := decide_eq_false fun e => hl (by rw [e])
   rw [this]
   rfl
def f117_tree (a0 : Int) (a1 : Int) (a2 : Int) (a3 : Int) (a4 : Int) (a5 : Int) (a6 : Int) (a7 : Int) : Out (((Bool × Unit) × Unit) × XI) :=
 .ite ((a0 != a4))
 (.ret (((false, ()), ()), ((), (), ())))
 (.ite ((a1 != a5))
 (.ret (((false, ()), ()), ((), (), ())))
 (.ite ((a2 != a6))
 (.ret (((false, ()), ()), ((), (), ())))
 (.ite ((a3 != a7))
 (.ret (((false, ()), ()), ((), (), ())))
 (.ret (((true, ()), ()), ((), (), ()))))))
def eqInsV (a0 : Int) (a1 : Int) (a2 : Int) (a3 : Int) (b0 : Int) (b1 : Int) (b2 : Int) (b3 : Int) : Bool := decide (((a0, a1, a2, a3, ()) : InsD) = (b0, b1, b2, b3, ()))
def k117 : Con := { f := 117, lend := true, its := [⟨false, true, [.i .i64, .i .i64, .i .i64, .i .i64]⟩, ⟨false, true, [.i .i64, .i .i64, .i .i64, .i .i64]⟩], lay := [none, none], rs := [⟨false, false, [.b]⟩], F := fun x => .ret ((((eqInsV x.1.1 x.1.2.1 x.1.2.2.1 x.1.2.2.2.1 x.2.1.1 x.2.1.2.1 x.2.1.2.2.1 x.2.1.2.2.2.1), ()), ()), ((), (), ())) }
theorem f117_eq (x : itemsD k117.its) : bo [] (fun _ => none) Tryz.f117 k117 [.tmp 4] x = f117_tree x.1.1 x.1.2.1 x.1.2.2.1 x.1.2.2.2.1 x.2.1.1 x.2.1.2.1 x.2.1.2.2.1 x.2.1.2.2.2.1 := by kernel_rfl
theorem f117_ok (hr : ∀ x : InsD × InsD × Unit, itemsWF k117.its x → (f117_tree x.1.1 x.1.2.1 x.1.2.2.1 x.1.2.2.2.1 x.2.1.1 x.2.1.2.1 x.2.1.2.2.1 x.2.1.2.2.2.1).eval = (k117.F x).eval) : k117.Ok Tryz.prog := con_fn [] trivial f117_eq fun x hw _ hy => (hr x hw).trans hy
theorem k117_ok : k117.Ok Tryz.prog := by
 refine f117_ok fun x hw => ?_
 obtain ⟨⟨a0, a1, a2, a3, _⟩, ⟨b0, b1, b2, b3, _⟩, _⟩ := x
 show (f117_tree a0 a1 a2 a3 b0 b1 b2 b3).eval = some (((eqInsV a0 a1 a2 a3 b0 b1 b2 b3, ()), ()), ((), ((), ())))
 unfold f117_tree
 unfold eqInsV
 by_cases h0 : a0 = b0
 case neg => simp [Out.eval, h0, cond_eq_ite]
 subst h0
 by_cases h1 : a1 = b1
 case neg => simp [Out.eval, h1, cond_eq_ite]
 subst h1
 by_cases h2 : a2 = b2
 case neg => simp [Out.eval, h2, cond_eq_ite]
 subst h2
 by_cases h3 : a3 = b3
 case neg => simp [Out.eval, h3, cond_eq_ite]
 subst h3
 simp [Out.eval, cond_eq_ite]
abbrev f48_S0 := (List InsD × List InsD × Int × Unit) × (Unit)
def f48_L0 : f48_S0 → Out (Round f48_S0 ((Unit) × (Unit)) ((Bool × Unit) × (Unit)))
| ((p0, p1, p2, _), _) =>
 .ite (decide (p2 < ((List.length p0 : Nat) : Int)))
 (.ite (decide (0 ≤ p2))
 (.get (nth p0 (Int.toNat p2)) fun y1 =>
 .ite (decide (0 ≤ p2))
 (.get (nth p1 (Int.toNat p2)) fun y2 =>
 .ite (!(eqInsV y1.1 y1.2.1 y1.2.2.1 y1.2.2.2.1 y2.1 y2.2.1 y2.2.2.1 y2.2.2.2.1))
 (.ret (.ret ((false, ()), ())))
 (.ret (.again ((p0, p1, (IntKind.i64.wrap (p2 + (1 : Int))), ()), ()))))
 .fail)
 .fail)
 (.ret (.out ((), ())))
def f48_tree (a0 : List InsD) (a1 : List InsD) : Out (((Bool × Unit) × Unit) × XI) :=
 .ite ((((List.length a0 : Nat) : Int) != ((List.length a1 : Nat) : Int)))
 (.ret (((false, ()), ()), ((), (), ())))
 (.get (iter f48_L0 FUEL ((a0, a1, (0 : Int), ()), ())) fun y1 => .alt y1 (fun y2 =>
 .ret (((true, ()), ()), ((), (), ()))) (fun y3 =>
 .ret (((y3.1.1, ()), ()), ((), (), ()))))
def f48_A : Nat → Option LoopAnn := fun n => annOf [(0, ⟨⟨[.ro tyN (some 0), .ro tyN (some 1), .dead, .dead, .dead, .i .i64] ++ dd 21, []⟩, ⟨dd 27, []⟩, some ⟨dd 4 ++ [.b] ++ dd 22, []⟩, false⟩)] n
def eqInsSV (a0 : List InsD) (b0 : List InsD) : Bool := decide ((a0 : List InsD) = b0)
def k48 : Con := { f := 48, lend := true, its := [⟨false, false, [.ro tyN]⟩, ⟨false, false, [.ro tyN]⟩], lay := [none, none], rs := [⟨false, false, [.b]⟩], F := fun x => .ret ((((eqInsSV x.1.1 x.2.1.1), ()), ()), ((), (), ())) }
theorem f48_eq (x : itemsD k48.its) : bo [k117] f48_A Tryz.f48 k48 [.tmp 4] x = f48_tree x.1.1 x.2.1.1 := by kernel_rfl
theorem f48_ok (hr : ∀ x : (List InsD × Unit) × (List InsD × Unit) × Unit, itemsWF k48.its x → (f48_tree x.1.1 x.2.1.1).eval = (k48.F x).eval) : k48.Ok Tryz.prog := con_fn [k117] ⟨k117_ok, trivial⟩ f48_eq fun x hw _ hy => (hr x hw).trans hy
theorem k48_ok : k48.Ok Tryz.prog := by
 refine f48_ok fun x hw => ?_
 obtain ⟨⟨a0, _⟩, ⟨b0, _⟩, _⟩ := x
 show (f48_tree a0 b0).eval = some (((eqInsSV a0 b0, ()), ()), ((), ((), ())))
 unfold f48_tree
 have ha : a0.length ≤ BIG := hw.1.1.1
 by_cases hl : a0.length = b0.length
 . rw [eval_ite_f (len_eq hl)]
   have := eq_loop (f := f48_L0) a0 b0 (fun i => ((a0, (b0, (((i : Nat) : Int), ()))), ())) (y := ((), ())) (z := ((false, ()), ())) hl ha
    (fun i hi hi' he => by
     have := wrap_succ (i := i) (by omega)
     have h3 : ∀ x y : InsD, eqInsV x.1 x.2.1 x.2.2.1 x.2.2.2.1 y.1 y.2.1 y.2.2.1 y.2.2.2.1 = decide (x = y) := fun _ _ => rfl
     simp [f48_L0, Out.eval, hi, hi', he, this, h3])
    (fun i hi hi' he => by
     have h3 : ∀ x y : InsD, eqInsV x.1 x.2.1 x.2.2.1 x.2.2.2.1 y.1 y.2.1 y.2.2.1 y.2.2.2.1 = decide (x = y) := fun _ _ => rfl
     simp [f48_L0, Out.eval, hi, hi', he, cond_eq_ite, h3])
    (by simp [f48_L0, Out.eval])
   refine (eval_get_some this).trans ?_
   unfold eqInsSV
   by_cases hab : a0 = b0
   . simp only [if_pos hab, decide_eq_true hab]; rfl
   . simp only [if_neg hab, decide_eq_false hab]; rfl
 . rw [eval_ite_t (len_ne hl)]
   have : eqInsSV a0 b0 = false := decide_eq_false fun e => hl (by rw [e])
   rw [this]
   rfl
abbrev f17_S0 := (List (List InsD) × List (List InsD) × Int × Unit) × (Unit)
def f17_L0 : f17_S0 → Out (Round f17_S0 ((Unit) × (Unit)) ((Bool × Unit) × (Unit)))
| ((p0, p1, p2, _), _) =>
 .ite (decide (p2 < ((List.length p0 : Nat) : Int)))
 (.ite (decide (0 ≤ p2))
 (.get (nth p0 (Int.toNat p2)) fun y1 =>
 .ite (decide (0 ≤ p2))
 (.get (nth p1 (Int.toNat p2)) fun y2 =>
 .ite (!(eqInsSV y1 y2))
 (.ret (.ret ((false, ()), ())))
 (.ret (.again ((p0, p1, (IntKind.i64.wrap (p2 + (1 : Int))), ()), ()))))
 .fail)
 .fail)
 (.ret (.out ((), ())))
def f17_tree (a0 : List (List InsD)) (a1 : List (List InsD)) : Out (((Bool × Unit) × Unit) × XI) :=
 .ite ((((List.length a0 : Nat) : Int) != ((List.length a1 : Nat) : Int)))
 (.ret (((false, ()), ()), ((), (), ())))
 (.get (iter f17_L0 FUEL ((a0, a1, (0 : Int), ()), ())) fun y1 => .alt y1 (fun y2 =>
 .ret (((true, ()), ()), ((), (), ()))) (fun y3 =>
 .ret (((y3.1.1, ()), ()), ((), (), ()))))
def f17_A : Nat → Option LoopAnn := fun n => annOf [(0, ⟨⟨[.ro (.sl tyN) (some 0), .ro (.sl tyN) (some 1), .dead, .dead, .dead, .i .i64] ++ dd 21, []⟩, ⟨dd 27, []⟩, some ⟨dd 4 ++ [.b] ++ dd 22, []⟩, false⟩)] n
def eqInsSSV (a0 : List (List InsD)) (b0 : List (List InsD)) : Bool := decide ((a0 : List (List InsD)) = b0)
def k17 : Con := { f := 17, lend := true, its := [⟨false, false, [.ro (.sl tyN)]⟩, ⟨false, false, [.ro (.sl tyN)]⟩], lay := [none, none], rs := [⟨false, false, [.b]⟩], F := fun x => .ret ((((eqInsSSV x.1.1 x.2.1.1), ()), ()), ((), (), ())) }
theorem f17_eq (x : itemsD k17.its) : bo [k48] f17_A Tryz.f17 k17 [.tmp 4] x = f17_tree x.1.1 x.2.1.1 := by kernel_rfl
theorem f17_ok (hr : ∀ x : (List (List InsD) × Unit) × (List (List InsD) × Unit) × Unit, itemsWF k17.its x → (f17_tree x.1.1 x.2.1.1).eval = (k17.F x).eval) : k17.Ok Tryz.prog := con_fn [k48] ⟨k48_ok, trivial⟩ f17_eq fun x hw _ hy => (hr x hw).trans hy
theorem k17_ok : k17.Ok Tryz.prog := by
 refine f17_ok fun x hw => ?_
 obtain ⟨⟨a0, _⟩, ⟨b0, _⟩, _⟩ := x
 show (f17_tree a0 b0).eval = some (((eqInsSSV a0 b0, ()), ()), ((), ((), ())))
 unfold f17_tree
 have ha : a0.length ≤ BIG := hw.1.1.1
 by_cases hl : a0.length = b0.length
 . rw [eval_ite_f (len_eq hl)]
   have := eq_loop (f := f17_L0) a0 b0 (fun i => ((a0, (b0, (((i : Nat) : Int), ()))), ())) (y := ((), ())) (z := ((false, ()), ())) hl ha
    (fun i hi hi' he => by
     have := wrap_succ (i := i) (by omega)
     have h3 : ∀ x y : List InsD, eqInsSV x y = decide (x = y) := fun _ _ => rfl
     simp [f17_L0, Out.eval, hi, hi', he, this, h3])
    (fun i hi hi' he => by
     have h3 : ∀ x y : List InsD, eqInsSV x y = decide (x = y) := fun _ _ => rfl
     simp [f17_L0, Out.eval, hi, hi', he, cond_eq_ite, h3])
    (by simp [f17_L0, Out.eval])
   refine (eval_get_some this).trans ?_
   unfold eqInsSSV
   by_cases hab : a0 = b0
   . simp only [if_pos hab, decide_eq_true hab]; rfl
   . simp only [if_neg hab, decide_eq_false hab]; rfl
 . rw [eval_ite_t (len_ne hl)]
   have : eqInsSSV a0 b0 = false := decide_eq_false fun e => hl (by rw [e])
   rw [this]
   rfl
abbrev CpuD := Int × (List Int × Unit)
instance dqCpu : DecidableEq CpuD := (@instDecidableEqProd _ _ inferInstance (@instDecidableEqProd _ _ inferInstance inferInstance))
def mkcCpu (x : CpuD) : Nat := 1 + mkcIntS x.2.1
def mkdCpu (k : Int) (x : CpuD) : CpuD := (mkdInt k x.1, mkdIntS (k + 1) x.2.1, ())
theorem mkcCpu_d (k : Int) (x : CpuD) : mkcCpu (mkdCpu k x) = mkcCpu x := by simp only [mkcCpu, mkdCpu, mkcIntS_d]
theorem mkdCpu_d (j k : Int) (x : CpuD) : mkdCpu j (mkdCpu k x) = mkdCpu j x := by simp only [mkdCpu, mkcIntS_d, mkdIntS_d]
def f263_tree (a0 : Int) (a1 : List Int) (a2 : Int) (a3 : List Int) : Out (((Bool × Unit) × Unit) × XI) :=
 .ite ((a0 != a2))
 (.ret (((false, ()), ()), ((), (), ())))
 (.ite (!(eqIntSV a1 a3))
 (.ret (((false, ()), ()), ((), (), ())))
 (.ret (((true, ()), ()), ((), (), ()))))
def eqCpuV (a0 : Int) (a1 : List Int) (b0 : Int) (b1 : List Int) : Bool := decide (((a0, a1, ()) : CpuD) = (b0, b1, ()))
def k263 : Con := { f := 263, lend := true, its := [⟨false, true, [.i .i64, .ro (.int .i64)]⟩, ⟨false, true, [.i .i64, .ro (.int .i64)]⟩], lay := [none, none], rs := [⟨false, false, [.b]⟩], F := fun x => .ret ((((eqCpuV x.1.1 x.1.2.1 x.2.1.1 x.2.1.2.1), ()), ()), ((), (), ())) }
theorem f263_eq (x : itemsD k263.its) : bo [k106] (fun _ => none) Tryz.f263 k263 [.tmp 4] x = f263_tree x.1.1 x.1.2.1 x.2.1.1 x.2.1.2.1 := by kernel_rfl
theorem f263_ok (hr : ∀ x : CpuD × CpuD × Unit, itemsWF k263.its x → (f263_tree x.1.1 x.1.2.1 x.2.1.1 x.2.1.2.1).eval = (k263.F x).eval) : k263.Ok Tryz.prog := con_fn [k106] ⟨k106_ok, trivial⟩ f263_eq fun x hw _ hy => (hr x hw).trans hy
theorem k263_ok : k263.Ok Tryz.prog := by
 refine f263_ok fun x hw => ?_
 obtain ⟨⟨a0, a1, _⟩, ⟨b0, b1, _⟩, _⟩ := x
 show (f263_tree a0 a1 b0 b1).eval = some (((eqCpuV a0 a1 b0 b1, ()), ()), ((), ((), ())))
 unfold f263_tree
 unfold eqCpuV eqIntSV
 by_cases h0 : a0 = b0
 case neg => simp [Out.eval, h0, cond_eq_ite]
 subst h0
 by_cases h1 : a1 = b1
 case neg => simp [Out.eval, h1, cond_eq_ite]
 subst h1
 simp [Out.eval, cond_eq_ite]
abbrev OpenD := Int × (Int × (Int × (Int × (Int × Unit))))
instance dqOpen : DecidableEq OpenD := (@instDecidableEqProd _ _ inferInstance (@instDecidableEqProd _ _ inferInstance (@instDecidableEqProd _ _ inferInstance (@instDecidableEqProd _ _ inferInstance (@instDecidableEqProd _ _ inferInstance inferInstance)))))
def mkcOpen (x : OpenD) : Nat := 1 + 1 + 1 + 1 + 1
def mkdOpen (k : Int) (x : OpenD) : OpenD := (mkdInt k x.1, mkdInt (k + 1) x.2.1, mkdInt (k + 1 + 1) x.2.2.1, mkdInt (k + 1 + 1 + 1) x.2.2.2.1, mkdInt (k + 1 + 1 + 1 + 1) x.2.2.2.2.1, ())
theorem mkcOpen_d (k : Int) (x : OpenD) : mkcOpen (mkdOpen k x) = mkcOpen x := by simp only [mkcOpen, mkdOpen]
theorem mkdOpen_d (j k : Int) (x : OpenD) : mkdOpen j (mkdOpen k x) = mkdOpen j x := by simp only [mkdOpen, mkdInt]
def f214_tree (a0 : Int) (a1 : Int) (a2 : Int) (a3 : Int) (a4 : Int) (a5 : Int) (a6 : Int) (a7 : Int) (a8 : Int) (a9 : Int) : Out (((Bool × Unit) × Unit) × XI) :=
 .ite ((a0 != a5))
 (.ret (((false, ()), ()), ((), (), ())))
 (.ite ((a1 != a6))
 (.ret (((false, ()), ()), ((), (), ())))
 (.ite ((a2 != a7))
 (.ret (((false, ()), ()), ((), (), ())))
 (.ite ((a3 != a8))
 (.ret (((false, ()), ()), ((), (), ())))
 (.ite ((a4 != a9))
 (.ret (((false, ()), ()), ((), (), ())))
 (.ret (((true, ()), ()), ((), (), ())))))))
def eqOpenV (a0 : Int) (a1 : Int) (a2 : Int) (a3 : Int) (a4 : Int) (b0 : Int) (b1 : Int) (b2 : Int) (b3 : Int) (b4 : Int) : Bool := decide (((a0, a1, a2, a3, a4, ()) : OpenD) = (b0, b1, b2, b3, b4, ()))
def k214 : Con := { f := 214, lend := true, its := [⟨false, true, [.i .i64, .i .i64, .i .i64, .i .i64, .i .i64]⟩, ⟨false, true, [.i .i64, .i .i64, .i .i64, .i .i64, .i .i64]⟩], lay := [none, none], rs := [⟨false, false, [.b]⟩], F := fun x => .ret ((((eqOpenV x.1.1 x.1.2.1 x.1.2.2.1 x.1.2.2.2.1 x.1.2.2.2.2.1 x.2.1.1 x.2.1.2.1 x.2.1.2.2.1 x.2.1.2.2.2.1 x.2.1.2.2.2.2.1), ()), ()), ((), (), ())) }
theorem f214_eq (x : itemsD k214.its) : bo [] (fun _ => none) Tryz.f214 k214 [.tmp 4] x = f214_tree x.1.1 x.1.2.1 x.1.2.2.1 x.1.2.2.2.1 x.1.2.2.2.2.1 x.2.1.1 x.2.1.2.1 x.2.1.2.2.1 x.2.1.2.2.2.1 x.2.1.2.2.2.2.1 := by kernel_rfl
theorem f214_ok (hr : ∀ x : OpenD × OpenD × Unit, itemsWF k214.its x → (f214_tree x.1.1 x.1.2.1 x.1.2.2.1 x.1.2.2.2.1 x.1.2.2.2.2.1 x.2.1.1 x.2.1.2.1 x.2.1.2.2.1 x.2.1.2.2.2.1 x.2.1.2.2.2.2.1).eval = (k214.F x).eval) : k214.Ok Tryz.prog := con_fn [] trivial f214_eq fun x hw _ hy => (hr x hw).trans hy
theorem k214_ok : k214.Ok Tryz.prog := by
 refine f214_ok fun x hw => ?_
 obtain ⟨⟨a0, a1, a2, a3, a4, _⟩, ⟨b0, b1, b2, b3, b4, _⟩, _⟩ := x
 show (f214_tree a0 a1 a2 a3 a4 b0 b1 b2 b3 b4).eval = some (((eqOpenV a0 a1 a2 a3 a4 b0 b1 b2 b3 b4, ()), ()), ((), ((), ())))
 unfold f214_tree
 unfold eqOpenV
 by_cases h0 : a0 = b0
 case neg => simp [Out.eval, h0, cond_eq_ite]
 subst h0
 by_cases h1 : a1 = b1
 case neg => simp [Out.eval, h1, cond_eq_ite]
 subst h1
 by_cases h2 : a2 = b2
 case neg => simp [Out.eval, h2, cond_eq_ite]
 subst h2
 by_cases h3 : a3 = b3
 case neg => simp [Out.eval, h3, cond_eq_ite]
 subst h3
 by_cases h4 : a4 = b4
 case neg => simp [Out.eval, h4, cond_eq_ite]
 subst h4
 simp [Out.eval, cond_eq_ite]
def mkcOpenS (a : List OpenD) : Nat := sumBy mkcOpen a
def mkdOpenS (k : Int) (a : List OpenD) : List OpenD := mkdL mkcOpen mkdOpen k a
theorem mkcOpenS_d (k : Int) (a : List OpenD) : mkcOpenS (mkdOpenS k a) = mkcOpenS a := mkcL_d mkcOpen_d k a
theorem mkdOpenS_d (j k : Int) (a : List OpenD) : mkdOpenS j (mkdOpenS k a) = mkdOpenS j a := mkdL_d mkcOpen_d mkdOpen_d j k a
abbrev f114_S0 := (List OpenD × List OpenD × Int × Unit) × (Unit)
def f114_L0 : f114_S0 → Out (Round f114_S0 ((Unit) × (Unit)) ((Bool × Unit) × (Unit)))
| ((p0, p1, p2, _), _) =>
 .ite (decide (p2 < ((List.length p0 : Nat) : Int)))
 (.ite (decide (0 ≤ p2))
 (.get (nth p0 (Int.toNat p2)) fun y1 =>
 .ite (decide (0 ≤ p2))
 (.get (nth p1 (Int.toNat p2)) fun y2 =>
 .ite (!(eqOpenV y1.1 y1.2.1 y1.2.2.1 y1.2.2.2.1 y1.2.2.2.2.1 y2.1 y2.2.1 y2.2.2.1 y2.2.2.2.1 y2.2.2.2.2.1))
 (.ret (.ret ((false, ()), ())))
 (.ret (.again ((p0, p1, (IntKind.i64.wrap (p2 + (1 : Int))), ()), ()))))
 .fail)
 .fail)
 (.ret (.out ((), ())))
def f114_tree (a0 : List OpenD) (a1 : List OpenD) : Out (((Bool × Unit) × Unit) × XI) :=
 .ite ((((List.length a0 : Nat) : Int) != ((List.length a1 : Nat) : Int)))
 (.ret (((false, ()), ()), ((), (), ())))
 (.get (iter f114_L0 FUEL ((a0, a1, (0 : Int), ()), ())) fun y1 => .alt y1 (fun y2 =>
 .ret (((true, ()), ()), ((), (), ()))) (fun y3 =>
 .ret (((y3.1.1, ()), ()), ((), (), ()))))
def f114_A : Nat → Option LoopAnn := fun n => annOf [(0, ⟨⟨[.ro tyO (some 0), .ro tyO (some 1), .dead, .dead, .dead, .i .i64] ++ dd 21, []⟩, ⟨dd 27, []⟩, some ⟨dd 4 ++ [.b] ++ dd 22, []⟩, false⟩)] n
def eqOpenSV (a0 : List OpenD) (b0 : List OpenD) : Bool := decide ((a0 : List OpenD) = b0)
def k114 : Con := { f := 114, lend := true, its := [⟨false, false, [.ro tyO]⟩, ⟨false, false, [.ro tyO]⟩], lay := [none, none], rs := [⟨false, false, [.b]⟩], F := fun x => .ret ((((eqOpenSV x.1.1 x.2.1.1), ()), ()), ((), (), ())) }
theorem f114_eq (x : itemsD k114.its) : bo [k214] f114_A Tryz.f114 k114 [.tmp 4] x = f114_tree x.1.1 x.2.1.1 := by kernel_rfl
theorem f114_ok (hr : ∀ x : (List OpenD × Unit) × (List OpenD × Unit) × Unit, itemsWF k114.its x → (f114_tree x.1.1 x.2.1.1).eval = (k114.F x).eval) : k114.Ok Tryz.prog := con_fn [k214] ⟨k214_ok, trivial⟩ f114_eq fun x hw _ hy => (hr x hw).trans hy
theorem k114_ok : k114.Ok Tryz.prog := by
 refine f114_ok fun x hw => ?_
 obtain ⟨⟨a0, _⟩, ⟨b0, _⟩, _⟩ := x
 show (f114_tree a0 b0).eval = some (((eqOpenSV a0 b0, ()), ()), ((), ((), ())))
 unfold f114_tree
 have ha : a0.length ≤ BIG := hw.1.1.1
 by_cases hl : a0.length = b0.length
 . rw [eval_ite_f (len_eq hl)]
   have := eq_loop (f := f114_L0) a0 b0 (fun i => ((a0, (b0, (((i : Nat) : Int), ()))), ())) (y := ((), ())) (z := ((false, ()), ())) hl ha
    (fun i hi hi' he => by
     have := wrap_succ (i := i) (by omega)
     have h3 : ∀ x y : OpenD, eqOpenV x.1 x.2.1 x.2.2.1 x.2.2.2.1 x.2.2.2.2.1 y.1 y.2.1 y.2.2.1 y.2.2.2.1 y.2.2.2.2.1 = decide (x = y) := fun _ _ => rfl
     simp [f114_L0, Out.eval, hi, hi', he, this, h3])
    (fun i hi hi' he => by
     have h3 : ∀ x y : OpenD, eqOpenV x.1 x.2.1 x.2.2.1 x.2.2.2.1 x.2.2.2.2.1 y.1 y.2.1 y.2.2.1 y.2.2.2.1 y.2.2.2.2.1 = decide (x = y) := fun _ _ => rfl
     simp [f114_L0, Out.eval, hi, hi', he, cond_eq_ite, h3])
    (by simp [f114_L0, Out.eval])
   refine (eval_get_some this).trans ?_
   unfold eqOpenSV
   by_cases hab : a0 = b0
   . simp only [if_pos hab, decide_eq_true hab]; rfl
   . simp only [if_neg hab, decide_eq_false hab]; rfl
 . rw [eval_ite_t (len_ne hl)]
   have : eqOpenSV a0 b0 = false := decide_eq_false fun e => hl (by rw [e])
   rw [this]
   rfl
def f216_tree (a0 : Int) (a1 : List Int) (a2 : Int) (a3 : List Int) : Out (((Bool × Unit) × Unit) × XI) :=
 .ite ((a0 != a2))
 (.ret (((false, ()), ()), ((), (), ())))
 (.ite (!(eqIntSV a1 a3))
 (.ret (((false, ()), ()), ((), (), ())))
 (.ret (((true, ()), ()), ((), (), ()))))
def k216 : Con := { f := 216, lend := true, its := [⟨false, true, [.i .i64, .ro (.int .i64)]⟩, ⟨false, true, [.i .i64, .ro (.int .i64)]⟩], lay := [none, none], rs := [⟨false, false, [.b]⟩], F := fun x => .ret ((((eqCpuV x.1.1 x.1.2.1 x.2.1.1 x.2.1.2.1), ()), ()), ((), (), ())) }
theorem f216_eq (x : itemsD k216.its) : bo [k106] (fun _ => none) Tryz.f216 k216 [.tmp 4] x = f216_tree x.1.1 x.1.2.1 x.2.1.1 x.2.1.2.1 := by kernel_rfl
theorem f216_ok (hr : ∀ x : CpuD × CpuD × Unit, itemsWF k216.its x → (f216_tree x.1.1 x.1.2.1 x.2.1.1 x.2.1.2.1).eval = (k216.F x).eval) : k216.Ok Tryz.prog := con_fn [k106] ⟨k106_ok, trivial⟩ f216_eq fun x hw _ hy => (hr x hw).trans hy
theorem k216_ok : k216.Ok Tryz.prog := by
 refine f216_ok fun x hw => ?_
 obtain ⟨⟨a0, a1, _⟩, ⟨b0, b1, _⟩, _⟩ := x
 show (f216_tree a0 a1 b0 b1).eval = some (((eqCpuV a0 a1 b0 b1, ()), ()), ((), ((), ())))
 unfold f216_tree
 unfold eqCpuV eqIntSV
 by_cases h0 : a0 = b0
 case neg => simp [Out.eval, h0, cond_eq_ite]
 subst h0
 by_cases h1 : a1 = b1
 case neg => simp [Out.eval, h1, cond_eq_ite]
 subst h1
 simp [Out.eval, cond_eq_ite]
def mkcCpuS (a : List CpuD) : Nat := sumBy mkcCpu a
def mkdCpuS (k : Int) (a : List CpuD) : List CpuD := mkdL mkcCpu mkdCpu k a
theorem mkcCpuS_d (k : Int) (a : List CpuD) : mkcCpuS (mkdCpuS k a) = mkcCpuS a := mkcL_d mkcCpu_d k a
theorem mkdCpuS_d (j k : Int) (a : List CpuD) : mkdCpuS j (mkdCpuS k a) = mkdCpuS j a := mkdL_d mkcCpu_d mkdCpu_d j k a
abbrev f116_S0 := (List CpuD × List CpuD × Int × Unit) × (Unit)
def f116_L0 : f116_S0 → Out (Round f116_S0 ((Unit) × (Unit)) ((Bool × Unit) × (Unit)))
| ((p0, p1, p2, _), _) =>
 .ite (decide (p2 < ((List.length p0 : Nat) : Int)))
 (.ite (decide (0 ≤ p2))
 (.get (nth p0 (Int.toNat p2)) fun y1 =>
 .ite (decide (0 ≤ p2))
 (.get (nth p1 (Int.toNat p2)) fun y2 =>
 .ite (!(eqCpuV y1.1 y1.2.1 y2.1 y2.2.1))
 (.ret (.ret ((false, ()), ())))
 (.ret (.again ((p0, p1, (IntKind.i64.wrap (p2 + (1 : Int))), ()), ()))))
 .fail)
 .fail)
 (.ret (.out ((), ())))
def f116_tree (a0 : List CpuD) (a1 : List CpuD) : Out (((Bool × Unit) × Unit) × XI) :=
 .ite ((((List.length a0 : Nat) : Int) != ((List.length a1 : Nat) : Int)))
 (.ret (((false, ()), ()), ((), (), ())))
 (.get (iter f116_L0 FUEL ((a0, a1, (0 : Int), ()), ())) fun y1 => .alt y1 (fun y2 =>
 .ret (((true, ()), ()), ((), (), ()))) (fun y3 =>
 .ret (((y3.1.1, ()), ()), ((), (), ()))))
def f116_A : Nat → Option LoopAnn := fun n => annOf [(0, ⟨⟨[.ro tyF (some 0), .ro tyF (some 1), .dead, .dead, .dead, .i .i64] ++ dd 21, []⟩, ⟨dd 27, []⟩, some ⟨dd 4 ++ [.b] ++ dd 22, []⟩, false⟩)] n
def eqCpuSV (a0 : List CpuD) (b0 : List CpuD) : Bool := decide ((a0 : List CpuD) = b0)
def k116 : Con := { f := 116, lend := true, its := [⟨false, false, [.ro tyF]⟩, ⟨false, false, [.ro tyF]⟩], lay := [none, none], rs := [⟨false, false, [.b]⟩], F := fun x => .ret ((((eqCpuSV x.1.1 x.2.1.1), ()), ()), ((), (), ())) }
theorem f116_eq (x : itemsD k116.its) : bo [k216] f116_A Tryz.f116 k116 [.tmp 4] x = f116_tree x.1.1 x.2.1.1 := by kernel_rfl
theorem f116_ok (hr : ∀ x : (List CpuD × Unit) × (List CpuD × Unit) × Unit, itemsWF k116.its x → (f116_tree x.1.1 x.2.1.1).eval = (k116.F x).eval) : k116.Ok Tryz.prog := con_fn [k216] ⟨k216_ok, trivial⟩ f116_eq fun x hw _ hy => (hr x hw).trans hy
theorem k116_ok : k116.Ok Tryz.prog := by
 refine f116_ok fun x hw => ?_
 obtain ⟨⟨a0, _⟩, ⟨b0, _⟩, _⟩ := x
 show (f116_tree a0 b0).eval = some (((eqCpuSV a0 b0, ()), ()), ((), ((), ())))
 unfold f116_tree
 have ha : a0.length ≤ BIG := hw.1.1.1
 by_cases hl : a0.length = b0.length
 . rw [eval_ite_f (len_eq hl)]
   have := eq_loop (f := f116_L0) a0 b0 (fun i => ((a0, (b0, (((i : Nat) : Int), ()))), ())) (y := ((), ())) (z := ((false, ()), ())) hl ha
    (fun i hi hi' he => by
     have := wrap_succ (i := i) (by omega)
     have h3 : ∀ x y : CpuD, eqCpuV x.1 x.2.1 y.1 y.2.1 = decide (x = y) := fun _ _ => rfl
     simp [f116_L0, Out.eval, hi, hi', he, this, h3])
    (fun i hi hi' he => by
     have h3 : ∀ x y : CpuD, eqCpuV x.1 x.2.1 y.1 y.2.1 = decide (x = y) := fun _ _ => rfl
     simp [f116_L0, Out.eval, hi, hi', he, cond_eq_ite, h3])
    (by simp [f116_L0, Out.eval])
   refine (eval_get_some this).trans ?_
   unfold eqCpuSV
   by_cases hab : a0 = b0
   . simp only [if_pos hab, decide_eq_true hab]; rfl
   . simp only [if_neg hab, decide_eq_false hab]; rfl
 . rw [eval_ite_t (len_ne hl)]
   have : eqCpuSV a0 b0 = false := decide_eq_false fun e => hl (by rw [e])
   rw [this]
   rfl
abbrev ProcD := Int × (Int × (Int × (Int × (CpuD × (List Int × (List Int × (Int × (Int × Unit))))))))
instance dqProc : DecidableEq ProcD := (@instDecidableEqProd _ _ inferInstance (@instDecidableEqProd _ _ inferInstance (@instDecidableEqProd _ _ inferInstance (@instDecidableEqProd _ _ inferInstance (@instDecidableEqProd _ _ inferInstance (@instDecidableEqProd _ _ inferInstance (@instDecidableEqProd _ _ inferInstance (@instDecidableEqProd _ _ inferInstance (@instDecidableEqProd _ _ inferInstance inferInstance)))))))))
def mkcProc (x : ProcD) : Nat := 1 + 1 + 1 + 1 + 1 + mkcIntS x.2.2.2.2.1.2.1 + mkcIntS x.2.2.2.2.2.1 + mkcIntS x.2.2.2.2.2.2.1 + 1 + 1
def mkdProc (k : Int) (x : ProcD) : ProcD := (mkdInt k x.1, mkdInt (k + 1) x.2.1, mkdInt (k + 1 + 1) x.2.2.1, mkdInt (k + 1 + 1 + 1) x.2.2.2.1, (mkdInt (k + 1 + 1 + 1 + 1) x.2.2.2.2.1.1, mkdIntS (k + 1 + 1 + 1 + 1 + 1) x.2.2.2.2.1.2.1, ()), mkdIntS (k + 1 + 1 + 1 + 1 + 1 + (mkcIntS x.2.2.2.2.1.2.1 : Nat)) x.2.2.2.2.2.1, mkdIntS (k + 1 + 1 + 1 + 1 + 1 + (mkcIntS x.2.2.2.2.1.2.1 : Nat) + (mkcIntS x.2.2.2.2.2.1 : Nat)) x.2.2.2.2.2.2.1, mkdInt (k + 1 + 1 + 1 + 1 + 1 + (mkcIntS x.2.2.2.2.1.2.1 : Nat) + (mkcIntS x.2.2.2.2.2.1 : Nat) + (mkcIntS x.2.2.2.2.2.2.1 : Nat)) x.2.2.2.2.2.2.2.1, mkdInt (k + 1 + 1 + 1 + 1 + 1 + (mkcIntS x.2.2.2.2.1.2.1 : Nat) + (mkcIntS x.2.2.2.2.2.1 : Nat) + (mkcIntS x.2.2.2.2.2.2.1 : Nat) + 1) x.2.2.2.2.2.2.2.2.1, ())
theorem mkcProc_d (k : Int) (x : ProcD) : mkcProc (mkdProc k x) = mkcProc x := by simp only [mkcProc, mkdProc, mkcIntS_d]
theorem mkdProc_d (j k : Int) (x : ProcD) : mkdProc j (mkdProc k x) = mkdProc j x := by simp only [mkdProc, mkcIntS_d, mkdIntS_d]
def f212_tree (a0 : Int) (a1 : Int) (a2 : Int) (a3 : Int) (a4 : Int) (a5 : List Int) (a6 : List Int) (a7 : List Int) (a8 : Int) (a9 : Int) (a10 : Int) (a11 : Int) (a12 : Int) (a13 : Int) (a14 : Int) (a15 : List Int) (a16 : List Int) (a17 : List Int) (a18 : Int) (a19 : Int) : Out (((Bool × Unit) × Unit) × XI) :=
 .ite ((a0 != a10))
 (.ret (((false, ()), ()), ((), (), ())))
 (.ite ((a1 != a11))
 (.ret (((false, ()), ()), ((), (), ())))
 (.ite ((a2 != a12))
 (.ret (((false, ()), ()), ((), (), ())))
 (.ite ((a3 != a13))
 (.ret (((false, ()), ()), ((), (), ())))
 (.ite (!(eqCpuV a4 a5 a14 a15))
 (.ret (((false, ()), ()), ((), (), ())))
 (.ite (!(eqIntSV a6 a16))
 (.ret (((false, ()), ()), ((), (), ())))
 (.ite (!(eqIntSV a7 a17))
 (.ret (((false, ()), ()), ((), (), ())))
 (.ite ((a8 != a18))
 (.ret (((false, ()), ()), ((), (), ())))
 (.ite ((a9 != a19))
 (.ret (((false, ()), ()), ((), (), ())))
 (.ret (((true, ()), ()), ((), (), ())))))))))))
def eqProcV (a0 : Int) (a1 : Int) (a2 : Int) (a3 : Int) (a4 : Int) (a5 : List Int) (a6 : List Int) (a7 : List Int) (a8 : Int) (a9 : Int) (b0 : Int) (b1 : Int) (b2 : Int) (b3 : Int) (b4 : Int) (b5 : List Int) (b6 : List Int) (b7 : List Int) (b8 : Int) (b9 : Int) : Bool := decide (((a0, a1, a2, a3, (a4, a5, ()), a6, a7, a8, a9, ()) : ProcD) = (b0, b1, b2, b3, (b4, b5, ()), b6, b7, b8, b9, ()))
def k212 : Con := { f := 212, lend := true, its := [⟨false, true, [.i .i64, .i .i64, .i .i64, .i .i64, .i .i64, .ro (.int .i64), .ro (.int .i64), .ro (.int .i64), .i .i64, .i .i64]⟩, ⟨false, true, [.i .i64, .i .i64, .i .i64, .i .i64, .i .i64, .ro (.int .i64), .ro (.int .i64), .ro (.int .i64), .i .i64, .i .i64]⟩], lay := [none, none], rs := [⟨false, false, [.b]⟩], F := fun x => .ret ((((eqProcV x.1.1 x.1.2.1 x.1.2.2.1 x.1.2.2.2.1 x.1.2.2.2.2.1 x.1.2.2.2.2.2.1 x.1.2.2.2.2.2.2.1 x.1.2.2.2.2.2.2.2.1 x.1.2.2.2.2.2.2.2.2.1 x.1.2.2.2.2.2.2.2.2.2.1 x.2.1.1 x.2.1.2.1 x.2.1.2.2.1 x.2.1.2.2.2.1 x.2.1.2.2.2.2.1 x.2.1.2.2.2.2.2.1 x.2.1.2.2.2.2.2.2.1 x.2.1.2.2.2.2.2.2.2.1 x.2.1.2.2.2.2.2.2.2.2.1 x.2.1.2.2.2.2.2.2.2.2.2.1), ()), ()), ((), (), ())) }
theorem f212_eq (x : itemsD k212.its) : bo [k263, k106] (fun _ => none) Tryz.f212 k212 [.tmp 4] x = f212_tree x.1.1 x.1.2.1 x.1.2.2.1 x.1.2.2.2.1 x.1.2.2.2.2.1 x.1.2.2.2.2.2.1 x.1.2.2.2.2.2.2.1 x.1.2.2.2.2.2.2.2.1 x.1.2.2.2.2.2.2.2.2.1 x.1.2.2.2.2.2.2.2.2.2.1 x.2.1.1 x.2.1.2.1 x.2.1.2.2.1 x.2.1.2.2.2.1 x.2.1.2.2.2.2.1 x.2.1.2.2.2.2.2.1 x.2.1.2.2.2.2.2.2.1 x.2.1.2.2.2.2.2.2.2.1 x.2.1.2.2.2.2.2.2.2.2.1 x.2.1.2.2.2.2.2.2.2.2.2.1 := by kernel_rfl
theorem f212_ok (hr : ∀ x : XM × XM × Unit, itemsWF k212.its x → (f212_tree x.1.1 x.1.2.1 x.1.2.2.1 x.1.2.2.2.1 x.1.2.2.2.2.1 x.1.2.2.2.2.2.1 x.1.2.2.2.2.2.2.1 x.1.2.2.2.2.2.2.2.1 x.1.2.2.2.2.2.2.2.2.1 x.1.2.2.2.2.2.2.2.2.2.1 x.2.1.1 x.2.1.2.1 x.2.1.2.2.1 x.2.1.2.2.2.1 x.2.1.2.2.2.2.1 x.2.1.2.2.2.2.2.1 x.2.1.2.2.2.2.2.2.1 x.2.1.2.2.2.2.2.2.2.1 x.2.1.2.2.2.2.2.2.2.2.1 x.2.1.2.2.2.2.2.2.2.2.2.1).eval = (k212.F x).eval) : k212.Ok Tryz.prog := con_fn [k263, k106] ⟨k263_ok, k106_ok, trivial⟩ f212_eq fun x hw _ hy => (hr x hw).trans hy
theorem k212_ok : k212.Ok Tryz.prog := by
 refine f212_ok fun x hw => ?_
 obtain ⟨⟨a0, a1, a2, a3, a4, a5, a6, a7, a8, a9, _⟩, ⟨b0, b1, b2, b3, b4, b5, b6, b7, b8, b9, _⟩, _⟩ := x
 show (f212_tree a0 a1 a2 a3 a4 a5 a6 a7 a8 a9 b0 b1 b2 b3 b4 b5 b6 b7 b8 b9).eval = some (((eqProcV a0 a1 a2 a3 a4 a5 a6 a7 a8 a9 b0 b1 b2 b3 b4 b5 b6 b7 b8 b9, ()), ()), ((), ((), ())))
 unfold f212_tree
 unfold eqProcV eqCpuV eqIntSV
 by_cases h0 : a0 = b0
 case neg => simp [Out.eval, h0, cond_eq_ite]
 subst h0
 by_cases h1 : a1 = b1
 case neg => simp [Out.eval, h1, cond_eq_ite]
 subst h1
 by_cases h2 : a2 = b2
 case neg => simp [Out.eval, h2, cond_eq_ite]
 subst h2
 by_cases h3 : a3 = b3
 case neg => simp [Out.eval, h3, cond_eq_ite]
 subst h3
 by_cases h4 : a4 = b4
 case neg => simp [Out.eval, h4, cond_eq_ite]
 subst h4
 by_cases h5 : a5 = b5
 case neg => simp [Out.eval, h5, cond_eq_ite]
 subst h5
 by_cases h6 : a6 = b6
 case neg => simp [Out.eval, h6, cond_eq_ite]
 subst h6
 by_cases h7 : a7 = b7
 case neg => simp [Out.eval, h7, cond_eq_ite]
 subst h7
 by_cases h8 : a8 = b8
 case neg => simp [Out.eval, h8, cond_eq_ite]
 subst h8
 by_cases h9 : a9 = b9
 case neg => simp [Out.eval, h9, cond_eq_ite]
 subst h9
 simp [Out.eval, cond_eq_ite]
abbrev f119_S0 := (Int × Int × Unit) × (List Int × Unit)
def f119_L0 : f119_S0 → Out (Round f119_S0 ((Int × Unit) × (List Int × Unit)) Empty)
| ((p0, p1, _), p2, _) =>
 .ite (decide (p1 < ((List.length p2 : Nat) : Int)))
 (.ite (decide (0 ≤ p1 ∧ p1 < ((List.length p2 : Nat) : Int)))
 (.get (nth p2 (Int.toNat p1)) fun y1 =>
 .ret (.again (((IntKind.i64.wrap (p0 + (1 : Int))), (IntKind.i64.wrap (p1 + (1 : Int))), ()), ((List.set p2 (Int.toNat p1) p0), ()))))
 .fail)
 (.ret (.out ((p0, ()), (p2, ()))))
def f119_tree (a0 : List Int) (a1 : Int) : Out (((Int × Unit) × Unit) × ((List Int × Unit) × Unit × Unit)) :=
 .get (iter1 f119_L0 FUEL ((a1, (0 : Int), ()), (a0, ()))) fun y1 =>
 .ret (((y1.1.1, ()), ()), ((y1.2.1, ()), (), ()))
def f119_A : Nat → Option LoopAnn := fun n => annOf [(0, ⟨⟨[.srf 0, .i .i64, .dead, .dead, .dead, .i .i64] ++ dd 13, [(0, .arr (.int .i64))]⟩, ⟨[.srf 0, .i .i64] ++ dd 17, [(0, .arr (.int .i64))]⟩, none, false⟩)] n
def markIntSV (a0 : List Int) (k : Int) : Option (Int × (List Int)) := mkP (mkcIntS a0) k (mkdIntS (k) a0)
def k119 : Con := { f := 119, lend := true, its := [⟨false, false, [.mut (.int .i64)]⟩, ⟨false, false, [.i .i64]⟩], lay := [none, none], rs := [⟨false, false, [.i .i64]⟩], F := fun x => .get (markIntSV x.1.1 x.2.1.1) fun y => .ret (((y.1, ()), ()), ((y.2, ()), (), ())) }
theorem f119_eq (x : itemsD k119.its) : bo [] f119_A Tryz.f119 k119 [.tmp 4] x = f119_tree x.1.1 x.2.1.1 := by kernel_rfl
theorem f119_okp (hr : ∀ x : (List Int × Unit) × (Int × Unit) × Unit, itemsWF k119.its x → ∀ y, (k119.F x).eval = some y → (f119_tree x.1.1 x.2.1.1).eval = some y) : k119.Ok Tryz.prog := con_fn [] trivial f119_eq hr
theorem k119_ok : k119.Ok Tryz.prog := by
 refine f119_okp fun x hw y hy => ?_
 obtain ⟨⟨a0, _⟩, ⟨k, _⟩, _⟩ := x
 change (Out.get (markIntSV a0 k) fun y => Out.ret (((y.1, ()), ()), ((y.2, ()), (), ()))).eval = some y at hy
 obtain ⟨h0, h1, hy⟩ := mkP_get hy
 refine Eq.trans ?_ hy
 show (f119_tree a0 k).eval = _
 unfold f119_tree
 have ha : a0.length ≤ BIG := hw.1.1.1
 have := mk_loop (f := f119_L0) a0 mkcInt mkdInt (fun k l i => ((k, (((i : Nat) : Int), ())), (l, ()))) (fun k l => ((k, ()), (l, ())))
  (fun i hi k l hl h3 h0 hk => by
   have h1 := wrap_succ (i := i) (by omega)
   have h2 : i < l.length := by omega
   have h4 : l[i] = a0[i] := by rw [List.getElem?_eq_getElem h2] at h3; exact Option.some.inj h3
   have w1 : IntKind.i64.wrap (k + 1) = k + 1 := wrap1 (by omega) (by omega)
   simp [f119_L0, Out.eval, h1, h2, h3, h4, hl, hi, mkcInt, mkdInt, w1] <;> omega)
  (fun k l hl => by simp [f119_L0, Out.eval, hl]) ha h0 h1
 refine (eval_get_some this).trans ?_
 rfl
abbrev f49_S0 := (Int × Int × Unit) × (List InsD × Unit)
def f49_L0 : f49_S0 → Out (Round f49_S0 ((Int × Unit) × (List InsD × Unit)) Empty)
| ((p0, p1, _), p2, _) =>
 .ite (decide (p1 < ((List.length p2 : Nat) : Int)))
 (.ite (decide (0 ≤ p1 ∧ p1 < ((List.length p2 : Nat) : Int)))
 (.get (nth p2 (Int.toNat p1)) fun y1 =>
 .ite (decide (0 ≤ p1 ∧ p1 < ((List.length (List.set p2 (Int.toNat p1) (p0, y1.2)) : Nat) : Int)))
 (.get (nth (List.set p2 (Int.toNat p1) (p0, y1.2)) (Int.toNat p1)) fun y2 =>
 .ite (decide (0 ≤ p1 ∧ p1 < ((List.length (List.set (List.set p2 (Int.toNat p1) (p0, y1.2)) (Int.toNat p1) (y2.1, ((IntKind.i64.wrap (p0 + (1 : Int))), y2.2.2))) : Nat) : Int)))
 (.get (nth (List.set (List.set p2 (Int.toNat p1) (p0, y1.2)) (Int.toNat p1) (y2.1, ((IntKind.i64.wrap (p0 + (1 : Int))), y2.2.2))) (Int.toNat p1)) fun y3 =>
 .ite (decide (0 ≤ p1 ∧ p1 < ((List.length (List.set (List.set (List.set p2 (Int.toNat p1) (p0, y1.2)) (Int.toNat p1) (y2.1, ((IntKind.i64.wrap (p0 + (1 : Int))), y2.2.2))) (Int.toNat p1) (y3.1, (y3.2.1, ((IntKind.i64.wrap ((IntKind.i64.wrap (p0 + (1 : Int))) + (1 : Int))), y3.2.2.2)))) : Nat) : Int)))
 (.get (nth (List.set (List.set (List.set p2 (Int.toNat p1) (p0, y1.2)) (Int.toNat p1) (y2.1, ((IntKind.i64.wrap (p0 + (1 : Int))), y2.2.2))) (Int.toNat p1) (y3.1, (y3.2.1, ((IntKind.i64.wrap ((IntKind.i64.wrap (p0 + (1 : Int))) + (1 : Int))), y3.2.2.2)))) (Int.toNat p1)) fun y4 =>
 .ret (.again (((IntKind.i64.wrap ((IntKind.i64.wrap ((IntKind.i64.wrap ((IntKind.i64.wrap (p0 + (1 : Int))) + (1 : Int))) + (1 : Int))) + (1 : Int))), (IntKind.i64.wrap (p1 + (1 : Int))), ()), ((List.set (List.set (List.set (List.set p2 (Int.toNat p1) (p0, y1.2)) (Int.toNat p1) (y2.1, ((IntKind.i64.wrap (p0 + (1 : Int))), y2.2.2))) (Int.toNat p1) (y3.1, (y3.2.1, ((IntKind.i64.wrap ((IntKind.i64.wrap (p0 + (1 : Int))) + (1 : Int))), y3.2.2.2)))) (Int.toNat p1) (y4.1, (y4.2.1, (y4.2.2.1, ((IntKind.i64.wrap ((IntKind.i64.wrap ((IntKind.i64.wrap (p0 + (1 : Int))) + (1 : Int))) + (1 : Int))), y4.2.2.2.2))))), ()))))
 .fail)
 .fail)
 .fail)
 .fail)
 (.ret (.out ((p0, ()), (p2, ()))))
def f49_tree (a0 : List InsD) (a1 : Int) : Out (((Int × Unit) × Unit) × ((List InsD × Unit) × Unit × Unit)) :=
 .get (iter1 f49_L0 FUEL ((a1, (0 : Int), ()), (a0, ()))) fun y1 =>
 .ret (((y1.1.1, ()), ()), ((y1.2.1, ()), (), ()))
def f49_A : Nat → Option LoopAnn := fun n => annOf [(0, ⟨⟨[.srf 0, .i .i64, .dead, .dead, .dead, .i .i64] ++ dd 35, [(0, .arr tyN)]⟩, ⟨[.srf 0, .i .i64] ++ dd 39, [(0, .arr tyN)]⟩, none, false⟩)] n
def markInsSV (a0 : List InsD) (k : Int) : Option (Int × (List InsD)) := mkP (mkcInsS a0) k (mkdInsS (k) a0)
def k49 : Con := { f := 49, lend := true, its := [⟨false, false, [.mut tyN]⟩, ⟨false, false, [.i .i64]⟩], lay := [none, none], rs := [⟨false, false, [.i .i64]⟩], F := fun x => .get (markInsSV x.1.1 x.2.1.1) fun y => .ret (((y.1, ()), ()), ((y.2, ()), (), ())) }
theorem f49_eq (x : itemsD k49.its) : bo [] f49_A Tryz.f49 k49 [.tmp 4] x = f49_tree x.1.1 x.2.1.1 := by kernel_rfl
theorem f49_okp (hr : ∀ x : (List InsD × Unit) × (Int × Unit) × Unit, itemsWF k49.its x → ∀ y, (k49.F x).eval = some y → (f49_tree x.1.1 x.2.1.1).eval = some y) : k49.Ok Tryz.prog := con_fn [] trivial f49_eq hr
theorem k49_ok : k49.Ok Tryz.prog := by
 refine f49_okp fun x hw y hy => ?_
 obtain ⟨⟨a0, _⟩, ⟨k, _⟩, _⟩ := x
 change (Out.get (markInsSV a0 k) fun y => Out.ret (((y.1, ()), ()), ((y.2, ()), (), ()))).eval = some y at hy
 obtain ⟨h0, h1, hy⟩ := mkP_get hy
 refine Eq.trans ?_ hy
 show (f49_tree a0 k).eval = _
 unfold f49_tree
 have ha : a0.length ≤ BIG := hw.1.1.1
 have := mk_loop (f := f49_L0) a0 mkcIns mkdIns (fun k l i => ((k, (((i : Nat) : Int), ())), (l, ()))) (fun k l => ((k, ()), (l, ())))
  (fun i hi k l hl h3 h0 hk => by
   have h1 := wrap_succ (i := i) (by omega)
   have h2 : i < l.length := by omega
   have h4 : l[i] = a0[i] := by rw [List.getElem?_eq_getElem h2] at h3; exact Option.some.inj h3
   unfold mkcIns at hk
   have w1 : IntKind.i64.wrap (k + 1) = k + 1 := wrap1 (by omega) (by omega)
   have w2 : IntKind.i64.wrap (k + 1 + 1) = k + 1 + 1 := wrap1 (by omega) (by omega)
   have w3 : IntKind.i64.wrap (k + 1 + 1 + 1) = k + 1 + 1 + 1 := wrap1 (by omega) (by omega)
   have w4 : IntKind.i64.wrap (k + 1 + 1 + 1 + 1) = k + 1 + 1 + 1 + 1 := wrap1 (by omega) (by omega)
   simp [f49_L0, Out.eval, h1, h2, h3, h4, hl, hi, mkcIns, mkdIns, w1, w2, w3, w4] <;> omega)
  (fun k l hl => by simp [f49_L0, Out.eval, hl]) ha h0 h1
 refine (eval_get_some this).trans ?_
 rfl
abbrev f18_S0 := (Int × Int × Unit) × (List (List InsD) × Unit)
def f18_L0 : f18_S0 → Out (Round f18_S0 ((Int × Unit) × (List (List InsD) × Unit)) Empty)
| ((p0, p1, _), p2, _) =>
 .ite (decide (p1 < ((List.length p2 : Nat) : Int)))
 (.ite (decide (0 ≤ p1 ∧ p1 < ((List.length p2 : Nat) : Int)))
 (.get (nth p2 (Int.toNat p1)) fun y1 =>
 .get (markInsSV y1 p0) fun y2 =>
 .ret (.again ((y2.1, (IntKind.i64.wrap (p1 + (1 : Int))), ()), ((List.set p2 (Int.toNat p1) y2.2), ()))))
 .fail)
 (.ret (.out ((p0, ()), (p2, ()))))
def f18_tree (a0 : List (List InsD)) (a1 : Int) : Out (((Int × Unit) × Unit) × ((List (List InsD) × Unit) × Unit × Unit)) :=
 .get (iter1 f18_L0 FUEL ((a1, (0 : Int), ()), (a0, ()))) fun y1 =>
 .ret (((y1.1.1, ()), ()), ((y1.2.1, ()), (), ()))
def f18_A : Nat → Option LoopAnn := fun n => annOf [(0, ⟨⟨[.srf 0, .i .i64, .dead, .dead, .dead, .i .i64] ++ dd 13, [(0, .arr (.sl tyN))]⟩, ⟨[.srf 0, .i .i64] ++ dd 17, [(0, .arr (.sl tyN))]⟩, none, false⟩)] n
def markInsSSV (a0 : List (List InsD)) (k : Int) : Option (Int × (List (List InsD))) := mkP (mkcInsSS a0) k (mkdInsSS (k) a0)
def k18 : Con := { f := 18, lend := true, its := [⟨false, false, [.mut (.sl tyN)]⟩, ⟨false, false, [.i .i64]⟩], lay := [none, none], rs := [⟨false, false, [.i .i64]⟩], F := fun x => .get (markInsSSV x.1.1 x.2.1.1) fun y => .ret (((y.1, ()), ()), ((y.2, ()), (), ())) }
theorem f18_eq (x : itemsD k18.its) : bo [k49] f18_A Tryz.f18 k18 [.tmp 4] x = f18_tree x.1.1 x.2.1.1 := by kernel_rfl
theorem f18_okp (hr : ∀ x : (List (List InsD) × Unit) × (Int × Unit) × Unit, itemsWF k18.its x → ∀ y, (k18.F x).eval = some y → (f18_tree x.1.1 x.2.1.1).eval = some y) : k18.Ok Tryz.prog := con_fn [k49] ⟨k49_ok, trivial⟩ f18_eq hr
theorem k18_ok : k18.Ok Tryz.prog := by
 refine f18_okp fun x hw y hy => ?_
 obtain ⟨⟨a0, _⟩, ⟨k, _⟩, _⟩ := x
 change (Out.get (markInsSSV a0 k) fun y => Out.ret (((y.1, ()), ()), ((y.2, ()), (), ()))).eval = some y at hy
 obtain ⟨h0, h1, hy⟩ := mkP_get hy
 refine Eq.trans ?_ hy
 show (f18_tree a0 k).eval = _
 unfold f18_tree
 have ha : a0.length ≤ BIG := hw.1.1.1
 have := mk_loop (f := f18_L0) a0 mkcInsS mkdInsS (fun k l i => ((k, (((i : Nat) : Int), ())), (l, ()))) (fun k l => ((k, ()), (l, ())))
  (fun i hi k l hl h3 h0 hk => by
   have h1 := wrap_succ (i := i) (by omega)
   have h2 : i < l.length := by omega
   have h4 : l[i] = a0[i] := by rw [List.getElem?_eq_getElem h2] at h3; exact Option.some.inj h3
   have w1 : markInsSV a0[i] (k) = some (k + (mkcInsS a0[i] : Nat), mkdInsS (k) a0[i]) := mkP_in (by omega) (by omega)
   simp [f18_L0, Out.eval, h1, h2, h3, h4, hl, hi, w1] <;> omega)
  (fun k l hl => by simp [f18_L0, Out.eval, hl]) ha h0 h1
 refine (eval_get_some this).trans ?_
 rfl
abbrev f127_S0 := (Int × Int × Unit) × (List OpenD × Unit)
def f127_L0 : f127_S0 → Out (Round f127_S0 ((Int × Unit) × (List OpenD × Unit)) Empty)
| ((p0, p1, _), p2, _) =>
 .ite (decide (p1 < ((List.length p2 : Nat) : Int)))
 (.ite (decide (0 ≤ p1 ∧ p1 < ((List.length p2 : Nat) : Int)))
 (.get (nth p2 (Int.toNat p1)) fun y1 =>
 .ite (decide (0 ≤ p1 ∧ p1 < ((List.length (List.set p2 (Int.toNat p1) (p0, y1.2)) : Nat) : Int)))
 (.get (nth (List.set p2 (Int.toNat p1) (p0, y1.2)) (Int.toNat p1)) fun y2 =>
 .ite (decide (0 ≤ p1 ∧ p1 < ((List.length (List.set (List.set p2 (Int.toNat p1) (p0, y1.2)) (Int.toNat p1) (y2.1, ((IntKind.i64.wrap (p0 + (1 : Int))), y2.2.2))) : Nat) : Int)))
 (.get (nth (List.set (List.set p2 (Int.toNat p1) (p0, y1.2)) (Int.toNat p1) (y2.1, ((IntKind.i64.wrap (p0 + (1 : Int))), y2.2.2))) (Int.toNat p1)) fun y3 =>
 .ite (decide (0 ≤ p1 ∧ p1 < ((List.length (List.set (List.set (List.set p2 (Int.toNat p1) (p0, y1.2)) (Int.toNat p1) (y2.1, ((IntKind.i64.wrap (p0 + (1 : Int))), y2.2.2))) (Int.toNat p1) (y3.1, (y3.2.1, ((IntKind.i64.wrap ((IntKind.i64.wrap (p0 + (1 : Int))) + (1 : Int))), y3.2.2.2)))) : Nat) : Int)))
 (.get (nth (List.set (List.set (List.set p2 (Int.toNat p1) (p0, y1.2)) (Int.toNat p1) (y2.1, ((IntKind.i64.wrap (p0 + (1 : Int))), y2.2.2))) (Int.toNat p1) (y3.1, (y3.2.1, ((IntKind.i64.wrap ((IntKind.i64.wrap (p0 + (1 : Int))) + (1 : Int))), y3.2.2.2)))) (Int.toNat p1)) fun y4 =>
 .ite (decide (0 ≤ p1 ∧ p1 < ((List.length (List.set (List.set (List.set (List.set p2 (Int.toNat p1) (p0, y1.2)) (Int.toNat p1) (y2.1, ((IntKind.i64.wrap (p0 + (1 : Int))), y2.2.2))) (Int.toNat p1) (y3.1, (y3.2.1, ((IntKind.i64.wrap ((IntKind.i64.wrap (p0 + (1 : Int))) + (1 : Int))), y3.2.2.2)))) (Int.toNat p1) (y4.1, (y4.2.1, (y4.2.2.1, ((IntKind.i64.wrap ((IntKind.i64.wrap ((IntKind.i64.wrap (p0 + (1 : Int))) + (1 : Int))) + (1 : Int))), y4.2.2.2.2))))) : Nat) : Int)))
 (.get (nth (List.set (List.set (List.set (List.set p2 (Int.toNat p1) (p0, y1.2)) (Int.toNat p1) (y2.1, ((IntKind.i64.wrap (p0 + (1 : Int))), y2.2.2))) (Int.toNat p1) (y3.1, (y3.2.1, ((IntKind.i64.wrap ((IntKind.i64.wrap (p0 + (1 : Int))) + (1 : Int))), y3.2.2.2)))) (Int.toNat p1) (y4.1, (y4.2.1, (y4.2.2.1, ((IntKind.i64.wrap ((IntKind.i64.wrap ((IntKind.i64.wrap (p0 + (1 : Int))) + (1 : Int))) + (1 : Int))), y4.2.2.2.2))))) (Int.toNat p1)) fun y5 =>
 .ret (.again (((IntKind.i64.wrap ((IntKind.i64.wrap ((IntKind.i64.wrap ((IntKind.i64.wrap ((IntKind.i64.wrap (p0 + (1 : Int))) + (1 : Int))) + (1 : Int))) + (1 : Int))) + (1 : Int))), (IntKind.i64.wrap (p1 + (1 : Int))), ()), ((List.set (List.set (List.set (List.set (List.set p2 (Int.toNat p1) (p0, y1.2)) (Int.toNat p1) (y2.1, ((IntKind.i64.wrap (p0 + (1 : Int))), y2.2.2))) (Int.toNat p1) (y3.1, (y3.2.1, ((IntKind.i64.wrap ((IntKind.i64.wrap (p0 + (1 : Int))) + (1 : Int))), y3.2.2.2)))) (Int.toNat p1) (y4.1, (y4.2.1, (y4.2.2.1, ((IntKind.i64.wrap ((IntKind.i64.wrap ((IntKind.i64.wrap (p0 + (1 : Int))) + (1 : Int))) + (1 : Int))), y4.2.2.2.2))))) (Int.toNat p1) (y5.1, (y5.2.1, (y5.2.2.1, (y5.2.2.2.1, ((IntKind.i64.wrap ((IntKind.i64.wrap ((IntKind.i64.wrap ((IntKind.i64.wrap (p0 + (1 : Int))) + (1 : Int))) + (1 : Int))) + (1 : Int))), y5.2.2.2.2.2)))))), ()))))
 .fail)
 .fail)
 .fail)
 .fail)
 .fail)
 (.ret (.out ((p0, ()), (p2, ()))))
def f127_tree (a0 : List OpenD) (a1 : Int) : Out (((Int × Unit) × Unit) × ((List OpenD × Unit) × Unit × Unit)) :=
 .get (iter1 f127_L0 FUEL ((a1, (0 : Int), ()), (a0, ()))) fun y1 =>
 .ret (((y1.1.1, ()), ()), ((y1.2.1, ()), (), ()))
def f127_A : Nat → Option LoopAnn := fun n => annOf [(0, ⟨⟨[.srf 0, .i .i64, .dead, .dead, .dead, .i .i64] ++ dd 42, [(0, .arr tyO)]⟩, ⟨[.srf 0, .i .i64] ++ dd 46, [(0, .arr tyO)]⟩, none, false⟩)] n
def markOpenSV (a0 : List OpenD) (k : Int) : Option (Int × (List OpenD)) := mkP (mkcOpenS a0) k (mkdOpenS (k) a0)
def k127 : Con := { f := 127, lend := true, its := [⟨false, false, [.mut tyO]⟩, ⟨false, false, [.i .i64]⟩], lay := [none, none], rs := [⟨false, false, [.i .i64]⟩], F := fun x => .get (markOpenSV x.1.1 x.2.1.1) fun y => .ret (((y.1, ()), ()), ((y.2, ()), (), ())) }
theorem f127_eq (x : itemsD k127.its) : bo [] f127_A Tryz.f127 k127 [.tmp 4] x = f127_tree x.1.1 x.2.1.1 := by kernel_rfl
theorem f127_okp (hr : ∀ x : (List OpenD × Unit) × (Int × Unit) × Unit, itemsWF k127.its x → ∀ y, (k127.F x).eval = some y → (f127_tree x.1.1 x.2.1.1).eval = some y) : k127.Ok Tryz.prog := con_fn [] trivial f127_eq hr
theorem k127_ok : k127.Ok Tryz.prog := by
 refine f127_okp fun x hw y hy => ?_
 obtain ⟨⟨a0, _⟩, ⟨k, _⟩, _⟩ := x
 change (Out.get (markOpenSV a0 k) fun y => Out.ret (((y.1, ()), ()), ((y.2, ()), (), ()))).eval = some y at hy
 obtain ⟨h0, h1, hy⟩ := mkP_get hy
 refine Eq.trans ?_ hy
 show (f127_tree a0 k).eval = _
 unfold f127_tree
 have ha : a0.length ≤ BIG := hw.1.1.1
 have := mk_loop (f := f127_L0) a0 mkcOpen mkdOpen (fun k l i => ((k, (((i : Nat) : Int), ())), (l, ()))) (fun k l => ((k, ()), (l, ())))
  (fun i hi k l hl h3 h0 hk => by
   have h1 := wrap_succ (i := i) (by omega)
   have h2 : i < l.length := by omega
   have h4 : l[i] = a0[i] := by rw [List.getElem?_eq_getElem h2] at h3; exact Option.some.inj h3
   unfold mkcOpen at hk
   have w1 : IntKind.i64.wrap (k + 1) = k + 1 := wrap1 (by omega) (by omega)
   have w2 : IntKind.i64.wrap (k + 1 + 1) = k + 1 + 1 := wrap1 (by omega) (by omega)
   have w3 : IntKind.i64.wrap (k + 1 + 1 + 1) = k + 1 + 1 + 1 := wrap1 (by omega) (by omega)
   have w4 : IntKind.i64.wrap (k + 1 + 1 + 1 + 1) = k + 1 + 1 + 1 + 1 := wrap1 (by omega) (by omega)
   have w5 : IntKind.i64.wrap (k + 1 + 1 + 1 + 1 + 1) = k + 1 + 1 + 1 + 1 + 1 := wrap1 (by omega) (by omega)
   simp [f127_L0, Out.eval, h1, h2, h3, h4, hl, hi, mkcOpen, mkdOpen, w1, w2, w3, w4, w5] <;> omega)
  (fun k l hl => by simp [f127_L0, Out.eval, hl]) ha h0 h1
 refine (eval_get_some this).trans ?_
 rfl
abbrev f129_S0 := (Int × Int × Unit) × (List CpuD × Unit)
def f129_L0 : f129_S0 → Out (Round f129_S0 ((Int × Unit) × (List CpuD × Unit)) Empty)
| ((p0, p1, _), p2, _) =>
 .ite (decide (p1 < ((List.length p2 : Nat) : Int)))
 (.ite (decide (0 ≤ p1 ∧ p1 < ((List.length p2 : Nat) : Int)))
 (.get (nth p2 (Int.toNat p1)) fun y1 =>
 .ite (decide (0 ≤ p1 ∧ p1 < ((List.length (List.set p2 (Int.toNat p1) (p0, y1.2)) : Nat) : Int)))
 (.get (nth (List.set p2 (Int.toNat p1) (p0, y1.2)) (Int.toNat p1)) fun y2 =>
 .get (markIntSV y2.2.1 (IntKind.i64.wrap (p0 + (1 : Int)))) fun y3 =>
 .ret (.again ((y3.1, (IntKind.i64.wrap (p1 + (1 : Int))), ()), ((List.set (List.set p2 (Int.toNat p1) (p0, y1.2)) (Int.toNat p1) (y2.1, (y3.2, y2.2.2))), ()))))
 .fail)
 .fail)
 (.ret (.out ((p0, ()), (p2, ()))))
def f129_tree (a0 : List CpuD) (a1 : Int) : Out (((Int × Unit) × Unit) × ((List CpuD × Unit) × Unit × Unit)) :=
 .get (iter1 f129_L0 FUEL ((a1, (0 : Int), ()), (a0, ()))) fun y1 =>
 .ret (((y1.1.1, ()), ()), ((y1.2.1, ()), (), ()))
def f129_A : Nat → Option LoopAnn := fun n => annOf [(0, ⟨⟨[.srf 0, .i .i64, .dead, .dead, .dead, .i .i64] ++ dd 21, [(0, .arr tyF)]⟩, ⟨[.srf 0, .i .i64] ++ dd 25, [(0, .arr tyF)]⟩, none, false⟩)] n
def markCpuSV (a0 : List CpuD) (k : Int) : Option (Int × (List CpuD)) := mkP (mkcCpuS a0) k (mkdCpuS (k) a0)
def k129 : Con := { f := 129, lend := true, its := [⟨false, false, [.mut tyF]⟩, ⟨false, false, [.i .i64]⟩], lay := [none, none], rs := [⟨false, false, [.i .i64]⟩], F := fun x => .get (markCpuSV x.1.1 x.2.1.1) fun y => .ret (((y.1, ()), ()), ((y.2, ()), (), ())) }
theorem f129_eq (x : itemsD k129.its) : bo [k119] f129_A Tryz.f129 k129 [.tmp 4] x = f129_tree x.1.1 x.2.1.1 := by kernel_rfl
theorem f129_okp (hr : ∀ x : (List CpuD × Unit) × (Int × Unit) × Unit, itemsWF k129.its x → ∀ y, (k129.F x).eval = some y → (f129_tree x.1.1 x.2.1.1).eval = some y) : k129.Ok Tryz.prog := con_fn [k119] ⟨k119_ok, trivial⟩ f129_eq hr
theorem k129_ok : k129.Ok Tryz.prog := by
 refine f129_okp fun x hw y hy => ?_
 obtain ⟨⟨a0, _⟩, ⟨k, _⟩, _⟩ := x
 change (Out.get (markCpuSV a0 k) fun y => Out.ret (((y.1, ()), ()), ((y.2, ()), (), ()))).eval = some y at hy
 obtain ⟨h0, h1, hy⟩ := mkP_get hy
 refine Eq.trans ?_ hy
 show (f129_tree a0 k).eval = _
 unfold f129_tree
 have ha : a0.length ≤ BIG := hw.1.1.1
 have := mk_loop (f := f129_L0) a0 mkcCpu mkdCpu (fun k l i => ((k, (((i : Nat) : Int), ())), (l, ()))) (fun k l => ((k, ()), (l, ())))
  (fun i hi k l hl h3 h0 hk => by
   have h1 := wrap_succ (i := i) (by omega)
   have h2 : i < l.length := by omega
   have h4 : l[i] = a0[i] := by rw [List.getElem?_eq_getElem h2] at h3; exact Option.some.inj h3
   unfold mkcCpu at hk
   have w1 : IntKind.i64.wrap (k + 1) = k + 1 := wrap1 (by omega) (by omega)
   have w2 : markIntSV a0[i].2.1 (k + 1) = some (k + 1 + (mkcIntS a0[i].2.1 : Nat), mkdIntS (k + 1) a0[i].2.1) := mkP_in (by omega) (by omega)
   simp [f129_L0, Out.eval, h1, h2, h3, h4, hl, hi, mkcCpu, mkdCpu, w1, w2] <;> omega)
  (fun k l hl => by simp [f129_L0, Out.eval, hl]) ha h0 h1
 refine (eval_get_some this).trans ?_
 rfl
end Go.Proofs.YtnnpnkegpkladaaGreat.Dm
