/- Functions of the program, and what they compute. -/
import Derived.Test.YtnnpnkegpkladaaGreatQ52
import Derived.Test.YtnnpnkegpkladaaGreatShelf
namespace Go.Proofs.YtnnpnkegpkladaaGreat.Dm
open Go Go.ChangeShapes Go.WideShapes Go.ChangeAt Go.RowKit
def k277 : Con := { f := 277, lend := true, its := [⟨false, false, [.mut (.int .i64)]⟩], lay := [none], rs := [], F := fun x => .get (sortP x.1.1) fun y => .ret ((), ((y, ()), ())) }
theorem k277_ok : k277.Ok Tryz.prog := con_sort ⟨⟨_, Tryz.func277, by kernel_rfl, by kernel_rfl⟩⟩ (fun b o c z w h1 h2 h3 => Tryz.slices_Sort_int b o c z w h1 h2 h3) fun p c w => Tryz.slices_Sort_int_none p c w
abbrev f230_S0 := XS × (List Int × List Int × Unit)
def f230_L0 : f230_S0 → Out (Round f230_S0 ((Unit) × (List Int × List Int × Unit)) Empty)
| ((p0, p1, p2, _), p3, p4, _) =>
 .ite (decide (p2 < p1))
 (.ite (decide (0 ≤ p2))
 (.get (nth p0 (Int.toNat p2)) fun y1 =>
 .ite ((y1.2.2.1 == (1 : Int)))
 (.ite (decide (List.length p4 + List.length ([y1.1] : List Int) ≤ LIM))
 (.ret (.again ((p0, p1, (IntKind.i64.wrap (p2 + (1 : Int))), ()), (p3, (p4 ++ ([y1.1] : List Int)), ()))))
 .fail)
 (.ret (.again ((p0, p1, (IntKind.i64.wrap (p2 + (1 : Int))), ()), (p3, p4, ())))))
 .fail)
 (.ret (.out ((), (p3, p4, ()))))
def f230_tree (a0 : Int) (a1 : Int) (a2 : List (List InsD)) (a3 : List ProcD) (a4 : List OpenD) (a5 : List CpuD) (a6 : List CpuD) (a7 : List Int) (a8 : List Int) : Out (((Bool × Unit) × Unit) × (Unit × Unit)) :=
 .get (cloneV a7) fun y1 =>
 .get (sortP y1) fun y2 =>
 .get (iter1 f230_L0 FUEL ((a3, ((List.length a3 : Nat) : Int), (0 : Int), ()), (y2, ([] : List Int), ()))) fun y3 =>
 .ret ((((eqIntsV y3.2.1 y3.2.2.1), ()), ()), ((), ()))
abbrev f230_s0 : List (Nat × VSlot) := [(64000000, .arr (.int .i64)), (64000001, .arr (.int .i64))]
def f230_A : Nat → Option LoopAnn := fun n => annOf [(0, ⟨⟨[.dead, .dead, .dead, .srf 64000000, .srf 64000001] ++ dd 9 ++ [.ro tyP (some 1), .i .i64, .i .i64] ++ dd 15, f230_s0⟩, ⟨[.dead, .dead, .dead, .srf 64000000, .srf 64000001] ++ dd 27, f230_s0⟩, none, false⟩)] n
def readyP (ps : List ProcD) (rd : List Int) : Option Bool := if rd.length ≤ LIM ∧ ps.length ≤ LIM then some (decide (sortV rd = readyPids ps)) else none
def k230 : Con := { f := 230, lend := true, its := [⟨false, true, [.i .i64, .i .i64, .ro (.sl tyN), .ro tyP, .ro tyO, .ro tyF, .ro tyF, .ro (.int .i64), .ro (.int .i64)]⟩], lay := [none], rs := [⟨false, false, [.b]⟩], F := fun x => .get (readyP x.1.2.2.2.1 x.1.2.2.2.2.2.2.2.1) fun y => .ret (((y, ()), ()), ((), ())) }
theorem f230_eq (x : itemsD k230.its) : bo [k84, k277, k278] f230_A Tryz.f230 k230 [.tmp 2] x = f230_tree x.1.1 x.1.2.1 x.1.2.2.1 x.1.2.2.2.1 x.1.2.2.2.2.1 x.1.2.2.2.2.2.1 x.1.2.2.2.2.2.2.1 x.1.2.2.2.2.2.2.2.1 x.1.2.2.2.2.2.2.2.2.1 := by kernel_rfl
theorem f230_okp (hr : ∀ x : UnixD × Unit, itemsWF k230.its x → ∀ y, (k230.F x).eval = some y → (f230_tree x.1.1 x.1.2.1 x.1.2.2.1 x.1.2.2.2.1 x.1.2.2.2.2.1 x.1.2.2.2.2.2.1 x.1.2.2.2.2.2.2.1 x.1.2.2.2.2.2.2.2.1 x.1.2.2.2.2.2.2.2.2.1).eval = some y) : k230.Ok Tryz.prog := con_fn [k84, k277, k278] ⟨k84_ok, k277_ok, k278_ok, trivial⟩ f230_eq hr
theorem want_fold : ∀ (a : List ProcD) (l : List Int), a.foldl (fun (l : List Int) p => if p.2.2.1 = 1 then l ++ [p.1] else l) l = l ++ readyPids a
  | [], l => by simp [readyPids]
  | p :: r, l => by
    rw [List.foldl_cons]
    by_cases hp : p.2.2.1 = 1
    · rw [if_pos hp, want_fold r]
      simp [readyPids, isReadyV, hp, procKey]
    · rw [if_neg hp, want_fold r]
      simp [readyPids, isReadyV, hp]
theorem k230_ok : k230.Ok Tryz.prog := by
  refine f230_okp fun x hw y hy => ?_
  obtain ⟨⟨a0, a1, a2, a3, a4, a5, a6, a7, a8, _⟩, _⟩ := x
  have l2 : List.length a2 ≤ BIG := hw.1.1.1
  have l3 : List.length a3 ≤ BIG := hw.1.2.1.1
  have l4 : List.length a4 ≤ BIG := hw.1.2.2.1.1
  have l5 : List.length a5 ≤ BIG := hw.1.2.2.2.1.1
  have l6 : List.length a6 ≤ BIG := hw.1.2.2.2.2.1.1
  have l7 : List.length a7 ≤ BIG := hw.1.2.2.2.2.2.1.1
  have l8 : List.length a8 ≤ BIG := hw.1.2.2.2.2.2.2.1.1
  change (Out.get (readyP a3 a7) fun y => Out.ret (((y, ()), ()), ((), ()))).eval = some y at hy
  show (f230_tree a0 a1 a2 a3 a4 a5 a6 a7 a8).eval = some y
  unfold readyP at hy
  by_cases hb : List.length a7 ≤ LIM ∧ List.length a3 ≤ LIM
  case neg => rw [if_neg hb] at hy; exact nomatch hy
  rw [if_pos hb] at hy
  refine Eq.trans ?_ hy
  obtain ⟨hl, hq⟩ := hb
  unfold f230_tree
  have e1 : cloneV a7 = some a7 := lim_some hl
  have e2 : sortP a7 = some (sortV a7) := if_pos (by rw [LIM_eq] at hl; omega)
  refine (eval_get_some e1).trans ((eval_get_some e2).trans ?_)
  have h := foldl_loop (f := f230_L0) (fun (d : List Int) i => d.length ≤ i) (fun (l : List Int) (p : ProcD) => if p.2.2.1 = 1 then l ++ [p.1] else l) a3 (fun d i => ((a3, ((List.length a3 : Nat) : Int), ((i : Nat) : Int), ()), (sortV a7, d, ()))) (fun d => ((), (sortV a7, d, ())))
    (fun i hi d hd => by
      have h1 := wrap_succ (i := i) (by omega)
      have h2 : d.length + 1 ≤ LIM := by omega
      by_cases q : a3[i].2.2.1 = 1 <;> simp [f230_L0, Out.eval, hi, h1, cond_eq_ite, q, h2])
    (fun d _ => by simp [f230_L0, Out.eval])
    (fun i hi d hd => by
      split
      · simp; omega
      · omega) l3 [] (by simp)
  rw [want_fold a3 [], List.nil_append] at h
  refine (eval_get_some h).trans ?_
  rfl
def notProgV (p : List InsD) : Bool := !progOkV p
def f224_tree (a0 : List InsD) : Out (((Bool × Unit) × Unit) × (Unit × Unit)) :=
 .ret ((((!(progOkV a0)), ()), ()), ((), ()))
def k224 : Con := { f := 224, lend := true, its := [⟨false, false, [.ro tyN]⟩], lay := [none], rs := [⟨false, false, [.b]⟩], F := fun x => .ret ((((notProgV x.1.1), ()), ()), ((), ())) }
theorem f224_eq (x : itemsD k224.its) : bo [k28] (fun _ => none) Tryz.f224 k224 [.tmp 2] x = f224_tree x.1.1 := by kernel_rfl
theorem f224_ok (hr : ∀ x : (List InsD × Unit) × Unit, itemsWF k224.its x → (f224_tree x.1.1).eval = (k224.F x).eval) : k224.Ok Tryz.prog := con_fn [k28] ⟨k28_ok, trivial⟩ f224_eq fun x hw _ hy => (hr x hw).trans hy
theorem k224_ok : k224.Ok Tryz.prog := by
  refine f224_ok fun x hw => ?_
  obtain ⟨⟨a0, _⟩, _⟩ := x
  have l0 : List.length a0 ≤ BIG := hw.1.1.1
  show (f224_tree a0).eval = some ((((notProgV a0), ()), ()), ((), ()))
  unfold f224_tree notProgV
  simp only [Out.eval, cond_eq_ite]
  all_goals ((repeat' split) <;> simp_all)
def notProgIdxV (a : List (List InsD)) : Int := idxV (a.findIdx? notProgV)
abbrev f59n_S0 := (List (List InsD) × Int × Int × Unit) × (Unit)
def f59n_L0 : f59n_S0 → Out (Round f59n_S0 ((Unit) × (Unit)) ((Int × Unit) × (Unit)))
| ((p0, p1, p2, _), _) =>
 .ite (decide (p2 < p1))
 (.ite (decide (0 ≤ p2))
 (.get (nth p0 (Int.toNat p2)) fun y1 =>
 .ite (notProgV y1)
 (.ret (.ret ((p2, ()), ())))
 (.ret (.again ((p0, p1, (IntKind.i64.wrap (p2 + (1 : Int))), ()), ()))))
 .fail)
 (.ret (.out ((), ())))
def f59n_tree (a0 : List (List InsD)) : Out (((Int × Unit) × Unit) × (Unit × Unit)) :=
 .get (iter f59n_L0 FUEL ((a0, ((List.length a0 : Nat) : Int), (0 : Int), ()), ())) fun y1 => .alt y1 (fun y2 =>
 .ret ((((-1 : Int), ()), ()), ((), ()))) (fun y3 =>
 .ret (((y3.1.1, ()), ()), ((), ())))
def f59n_A : Nat → Option LoopAnn := fun n => annOf [(0, ⟨⟨[.ro (.sl tyN) (some 0), .fn 224 []] ++ dd 5 ++ [.i .i64, .i .i64] ++ dd 10, []⟩, ⟨dd 19, []⟩, some ⟨dd 4 ++ [.i .i64] ++ dd 14, []⟩, false⟩)] n
def k59n : Con := { f := 59, lend := true, its := [⟨false, false, [.ro (.sl tyN)]⟩], lay := [none, some (224, 0)], rs := [⟨false, false, [.i .i64]⟩], F := fun x => .ret ((((notProgIdxV x.1.1), ()), ()), ((), ())) }
theorem f59n_eq (x : itemsD k59n.its) : bo [k224] f59n_A Tryz.f59 k59n [.tmp 4] x = f59n_tree x.1.1 := by kernel_rfl
theorem f59n_ok (hr : ∀ x : (List (List InsD) × Unit) × Unit, itemsWF k59n.its x → (f59n_tree x.1.1).eval = (k59n.F x).eval) : k59n.Ok Tryz.prog := con_fn [k224] ⟨k224_ok, trivial⟩ f59n_eq fun x hw _ hy => (hr x hw).trans hy
theorem k59n_ok : k59n.Ok Tryz.prog := by
  refine f59n_ok fun x hw => ?_
  obtain ⟨⟨a0, _⟩, _⟩ := x
  have l0 : List.length a0 ≤ BIG := hw.1.1.1
  show (f59n_tree a0).eval = some ((((notProgIdxV a0), ()), ()), ((), ()))
  unfold f59n_tree notProgIdxV
  have h : iter f59n_L0 FUEL ((a0, ((List.length a0 : Nat) : Int), (0 : Int), ()), ()) = some (match List.findIdx? notProgV a0 with | some i => .inr ((((i : Nat) : Int), ()), ()) | none => .inl ((), ())) := idx_loop (f := f59n_L0) a0 notProgV (fun i => ((a0, ((List.length a0 : Nat) : Int), ((i : Nat) : Int), ()), ())) (y := ((), ())) (z := fun i => ((((i : Nat) : Int), ()), ()))
      (fun i hi hp => by
        have h1 := wrap_succ (i := i) (by omega)
        simp [f59n_L0, Out.eval, hi, h1, cond_eq_ite] at hp ⊢ <;> (try simp_all) <;> (try (rcases hp with h | h <;> simp_all)))
      (fun i hi hp => by simp [f59n_L0, Out.eval, hi, cond_eq_ite] at hp ⊢ <;> (try simp_all) <;> (try (rcases hp with h | h <;> simp_all)))
      (by simp [f59n_L0, Out.eval]) l0
  refine (eval_get_some h).trans ?_
  cases List.findIdx? notProgV a0 <;> rfl
def anyNotProgV (a : List (List InsD)) : Bool := a.any notProgV
def f26n_tree (a0 : List (List InsD)) : Out (((Bool × Unit) × Unit) × (Unit × Unit)) :=
 .ret ((((decide ((notProgIdxV a0) ≥ (0 : Int))), ()), ()), ((), ()))
def k26n : Con := { f := 26, lend := true, its := [⟨false, false, [.ro (.sl tyN)]⟩], lay := [none, some (224, 0)], rs := [⟨false, false, [.b]⟩], F := fun x => .ret ((((anyNotProgV x.1.1), ()), ()), ((), ())) }
theorem f26n_eq (x : itemsD k26n.its) : bo [k59n] (fun _ => none) Tryz.f26 k26n [.tmp 4] x = f26n_tree x.1.1 := by kernel_rfl
theorem f26n_ok (hr : ∀ x : (List (List InsD) × Unit) × Unit, itemsWF k26n.its x → (f26n_tree x.1.1).eval = (k26n.F x).eval) : k26n.Ok Tryz.prog := con_fn [k59n] ⟨k59n_ok, trivial⟩ f26n_eq fun x hw _ hy => (hr x hw).trans hy
theorem k26n_ok : k26n.Ok Tryz.prog := by
  refine f26n_ok fun x hw => ?_
  obtain ⟨⟨a0, _⟩, _⟩ := x
  have l0 : List.length a0 ≤ BIG := hw.1.1.1
  show (f26n_tree a0).eval = some ((((anyNotProgV a0), ()), ()), ((), ()))
  unfold f26n_tree anyNotProgV notProgIdxV
  rw [idxV_ge]
  rfl
abbrev f149_S0 := XS × (UnixD × Unit)
def f149_L0 : f149_S0 → Out (Round f149_S0 ((Unit) × (UnixD × Unit)) ((Bool × Unit) × (Unit)))
| ((p0, p1, p2, _), (p3, p4, p5, p6, p7, p8, p9, p10, p11, _), _) =>
 .ite (decide (p2 < p1))
 (.ite (decide (0 ≤ p2))
 (.get (nth p0 (Int.toNat p2)) fun y1 =>
 .ite ((decide (p2 > (0 : Int))) == true)
 (.ite (decide (0 ≤ (IntKind.i64.wrap (p2 - (1 : Int)))))
 (.get (nth p6 (Int.toNat (IntKind.i64.wrap (p2 - (1 : Int))))) fun y2 =>
 .ite ((decide (y2.1 ≥ y1.1)) == false)
 (.ite (!(procOkI p3 p4 p5 p6 p7 y1.1 y1.2.1 y1.2.2.1 y1.2.2.2.1 y1.2.2.2.2.1.1 y1.2.2.2.2.1.2.1 y1.2.2.2.2.2.1 y1.2.2.2.2.2.2.1 y1.2.2.2.2.2.2.2.1 y1.2.2.2.2.2.2.2.2.1))
 (.ret (.ret ((false, ()), ())))
 (.ret (.again ((p0, p1, (IntKind.i64.wrap (p2 + (1 : Int))), ()), ((p3, p4, p5, p6, p7, p8, p9, p10, p11, ()), ())))))
 (.ret (.ret ((false, ()), ()))))
 .fail)
 (.ite (!(procOkI p3 p4 p5 p6 p7 y1.1 y1.2.1 y1.2.2.1 y1.2.2.2.1 y1.2.2.2.2.1.1 y1.2.2.2.2.1.2.1 y1.2.2.2.2.2.1 y1.2.2.2.2.2.2.1 y1.2.2.2.2.2.2.2.1 y1.2.2.2.2.2.2.2.2.1))
 (.ret (.ret ((false, ()), ())))
 (.ret (.again ((p0, p1, (IntKind.i64.wrap (p2 + (1 : Int))), ()), ((p3, p4, p5, p6, p7, p8, p9, p10, p11, ()), ()))))))
 .fail)
 (.ret (.out ((), ((p3, p4, p5, p6, p7, p8, p9, p10, p11, ()), ()))))
abbrev f149_S2 := (List OpenD × Int × Int × Unit) × (UnixD × Unit)
def f149_L2 : f149_S2 → Out (Round f149_S2 ((Unit) × (UnixD × Unit)) ((Bool × Unit) × (Unit)))
| ((p0, p1, p2, _), (p3, p4, p5, p6, p7, p8, p9, p10, p11, _), _) =>
 .ite (decide (p2 < p1))
 (.ite (decide (0 ≤ p2))
 (.get (nth p0 (Int.toNat p2)) fun y1 =>
 .ite ((decide (p2 > (0 : Int))) == true)
 (.ite (decide (0 ≤ (IntKind.i64.wrap (p2 - (1 : Int)))))
 (.get (nth p7 (Int.toNat (IntKind.i64.wrap (p2 - (1 : Int))))) fun y2 =>
 .ite ((decide (y2.1 ≥ y1.1)) == false)
 (.ite (!(openOkV p6 p8 p9 y1.1 y1.2.1 y1.2.2.1 y1.2.2.2.1 y1.2.2.2.2.1))
 (.ret (.ret ((false, ()), ())))
 (.ret (.again ((p0, p1, (IntKind.i64.wrap (p2 + (1 : Int))), ()), ((p3, p4, p5, p6, p7, p8, p9, p10, p11, ()), ())))))
 (.ret (.ret ((false, ()), ()))))
 .fail)
 (.ite (!(openOkV p6 p8 p9 y1.1 y1.2.1 y1.2.2.1 y1.2.2.2.1 y1.2.2.2.2.1))
 (.ret (.ret ((false, ()), ())))
 (.ret (.again ((p0, p1, (IntKind.i64.wrap (p2 + (1 : Int))), ()), ((p3, p4, p5, p6, p7, p8, p9, p10, p11, ()), ()))))))
 .fail)
 (.ret (.out ((), ((p3, p4, p5, p6, p7, p8, p9, p10, p11, ()), ()))))
def f149_tree (a0 : Int) (a1 : Int) (a2 : List (List InsD)) (a3 : List ProcD) (a4 : List OpenD) (a5 : List CpuD) (a6 : List CpuD) (a7 : List Int) (a8 : List Int) : Out (((Bool × Unit) × Unit) × (Unit × Unit)) :=
 .ite ((!(inV a0 (1 : Int) (100000 : Int))) == false)
 (.ite ((!(inV a1 (0 : Int) (1000000 : Int))) == false)
 (.ite ((!(inV ((List.length a2 : Nat) : Int) (1 : Int) (4 : Int))) == false)
 (.ite ((decide (((List.length a8 : Nat) : Int) > (60 : Int))) == false)
 (.ite (!(wordsOkV a8))
 (.ret (((false, ()), ()), ((), ())))
 (.ite ((anyNotProgV a2) == false)
 (.ite ((decide (((List.length a3 : Nat) : Int) > (6 : Int))) == false)
 (.ite (decide (((List.length a4 : Nat) : Int) > (8 : Int)))
 (.ret (((false, ()), ()), ((), ())))
 (.get (iter f149_L0 FUEL ((a3, ((List.length a3 : Nat) : Int), (0 : Int), ()), ((a0, a1, a2, a3, a4, a5, a6, a7, a8, ()), ()))) fun y1 => .alt y1 (fun y2 =>
 .get (iter f149_L2 FUEL ((y2.2.1.2.2.2.2.1, ((List.length y2.2.1.2.2.2.2.1 : Nat) : Int), (0 : Int), ()), ((y2.2.1.1, y2.2.1.2.1, y2.2.1.2.2.1, y2.2.1.2.2.2.1, y2.2.1.2.2.2.2.1, y2.2.1.2.2.2.2.2.1, y2.2.1.2.2.2.2.2.2.1, y2.2.1.2.2.2.2.2.2.2.1, y2.2.1.2.2.2.2.2.2.2.2.1, ()), ()))) fun y4 => .alt y4 (fun y5 =>
 .ite ((decide ((wordsV y5.2.1.2.2.2.1) ≤ (64 : Int))) == true)
 (.ite ((pipesOkV y5.2.1.2.2.2.2.1 y5.2.1.2.2.2.2.2.1) == true)
 (.ite ((filesOkV y5.2.1.2.2.2.2.2.2.1) == true)
 (.get (readyP y5.2.1.2.2.2.1 y5.2.1.2.2.2.2.2.2.2.1) fun y7 =>
 .ret (((y7, ()), ()), ((), ())))
 (.ret (((false, ()), ()), ((), ()))))
 (.ret (((false, ()), ()), ((), ()))))
 (.ret (((false, ()), ()), ((), ())))) (fun y6 =>
 .ret (((y6.1.1, ()), ()), ((), ())))) (fun y3 =>
 .ret (((y3.1.1, ()), ()), ((), ())))))
 (.ret (((false, ()), ()), ((), ()))))
 (.ret (((false, ()), ()), ((), ())))))
 (.ret (((false, ()), ()), ((), ()))))
 (.ret (((false, ()), ()), ((), ()))))
 (.ret (((false, ()), ()), ((), ()))))
 (.ret (((false, ()), ()), ((), ())))
abbrev f149_s1 : List (Nat × VSlot) := [(64000000, .var [.i .i64, .i .i64, .ro (.sl tyN) (some 0), .ro tyP (some 1), .ro tyO (some 2), .ro tyF (some 3), .ro tyF (some 4), .ro (.int .i64) (some 5), .ro (.int .i64) (some 6)])]
def f149_A : Nat → Option LoopAnn := fun n => annOf [(0, ⟨⟨[.dead, .vptr 64000000 0] ++ dd 50 ++ [.ro tyP (some 1), .i .i64, .i .i64] ++ dd 70, f149_s1⟩, ⟨[.dead, .vptr 64000000 0] ++ dd 123, f149_s1⟩, some ⟨[.dead, .dead, .b] ++ dd 122, []⟩, false⟩), (2, ⟨⟨[.dead, .vptr 64000000 0] ++ dd 79 ++ [.ro tyO (some 2), .i .i64, .i .i64] ++ dd 41, f149_s1⟩, ⟨[.dead, .vptr 64000000 0] ++ dd 123, f149_s1⟩, some ⟨[.dead, .dead, .b] ++ dd 122, []⟩, false⟩)] n
def unixOkP (next tick : Int) (progs : List (List InsD)) (ps : List ProcD) (os : List OpenD) (pipes : List PipeD) (files : List FileD) (rd out : List Int) : Option Bool :=
  if rd.length ≤ LIM then some (unixOkI next tick progs ps os pipes files rd out) else none
def k149 : Con := { f := 149, lend := true, its := [⟨false, true, [.i .i64, .i .i64, .ro (.sl tyN), .ro tyP, .ro tyO, .ro tyF, .ro tyF, .ro (.int .i64), .ro (.int .i64)]⟩], lay := [none], rs := [⟨false, false, [.b]⟩], F := fun x => .get (unixOkP x.1.1 x.1.2.1 x.1.2.2.1 x.1.2.2.2.1 x.1.2.2.2.2.1 x.1.2.2.2.2.2.1 x.1.2.2.2.2.2.2.1 x.1.2.2.2.2.2.2.2.1 x.1.2.2.2.2.2.2.2.2.1) fun y => .ret (((y, ()), ()), ((), ())) }
theorem f149_eq (x : itemsD k149.its) : bo [k25, k223, k26n, k225, k226, k227, k228, k229, k230] f149_A Tryz.f149 k149 [.tmp 2] x = f149_tree x.1.1 x.1.2.1 x.1.2.2.1 x.1.2.2.2.1 x.1.2.2.2.2.1 x.1.2.2.2.2.2.1 x.1.2.2.2.2.2.2.1 x.1.2.2.2.2.2.2.2.1 x.1.2.2.2.2.2.2.2.2.1 := by kernel_rfl
theorem f149_okp (hr : ∀ x : UnixD × Unit, itemsWF k149.its x → ∀ y, (k149.F x).eval = some y → (f149_tree x.1.1 x.1.2.1 x.1.2.2.1 x.1.2.2.2.1 x.1.2.2.2.2.1 x.1.2.2.2.2.2.1 x.1.2.2.2.2.2.2.1 x.1.2.2.2.2.2.2.2.1 x.1.2.2.2.2.2.2.2.2.1).eval = some y) : k149.Ok Tryz.prog := con_fn [k25, k223, k26n, k225, k226, k227, k228, k229, k230] ⟨k25_ok, k223_ok, k26n_ok, k225_ok, k226_ok, k227_ok, k228_ok, k229_ok, k230_ok, trivial⟩ f149_eq hr
theorem k149_ok : k149.Ok Tryz.prog := by
  refine f149_okp fun x hw y hy => ?_
  obtain ⟨⟨a0, a1, a2, a3, a4, a5, a6, a7, a8, _⟩, _⟩ := x
  have l2 : List.length a2 ≤ BIG := hw.1.1.1
  have l3 : List.length a3 ≤ BIG := hw.1.2.1.1
  have l4 : List.length a4 ≤ BIG := hw.1.2.2.1.1
  have l5 : List.length a5 ≤ BIG := hw.1.2.2.2.1.1
  have l6 : List.length a6 ≤ BIG := hw.1.2.2.2.2.1.1
  have l7 : List.length a7 ≤ BIG := hw.1.2.2.2.2.2.1.1
  have l8 : List.length a8 ≤ BIG := hw.1.2.2.2.2.2.2.1.1
  change (Out.get (unixOkP a0 a1 a2 a3 a4 a5 a6 a7 a8) fun y => Out.ret (((y, ()), ()), ((), ()))).eval = some y at hy
  show (f149_tree a0 a1 a2 a3 a4 a5 a6 a7 a8).eval = some y
  unfold unixOkP at hy
  by_cases hl : List.length a7 ≤ LIM
  case neg => rw [if_neg hl] at hy; exact nomatch hy
  rw [if_pos hl] at hy
  refine Eq.trans ?_ hy
  unfold f149_tree
  change _ = some (((unixOkI a0 a1 a2 a3 a4 a5 a6 a7 a8, ()), ()), ((), ()))
  rw [gt60, gt6, gt8]
  by_cases c1 : inV a0 1 100000 = true
  case neg => rw [eval_ite_f (by first | (simp [c1]; done) | (rw [decide_eq_true (by omega)]; done) | (rw [decide_eq_false (by omega)]; done) | (rw [decide_eq_true (by omega)]; rfl) | (rw [decide_eq_false (by omega)]; rfl) | (rw [c1]; rfl) | (rw [Bool.eq_false_iff.2 c1]; rfl))]; simp [Out.eval, unixOkI, c1]
  rw [eval_ite_t (by first | (simp [c1]; done) | (rw [decide_eq_true (by omega)]; done) | (rw [decide_eq_false (by omega)]; done) | (rw [decide_eq_true (by omega)]; rfl) | (rw [decide_eq_false (by omega)]; rfl) | (rw [c1]; rfl) | (rw [Bool.eq_false_iff.2 c1]; rfl))]
  by_cases c2 : inV a1 0 1000000 = true
  case neg => rw [eval_ite_f (by first | (simp [c2]; done) | (rw [decide_eq_true (by omega)]; done) | (rw [decide_eq_false (by omega)]; done) | (rw [decide_eq_true (by omega)]; rfl) | (rw [decide_eq_false (by omega)]; rfl) | (rw [c2]; rfl) | (rw [Bool.eq_false_iff.2 c2]; rfl))]; simp [Out.eval, unixOkI, c2]
  rw [eval_ite_t (by first | (simp [c2]; done) | (rw [decide_eq_true (by omega)]; done) | (rw [decide_eq_false (by omega)]; done) | (rw [decide_eq_true (by omega)]; rfl) | (rw [decide_eq_false (by omega)]; rfl) | (rw [c2]; rfl) | (rw [Bool.eq_false_iff.2 c2]; rfl))]
  by_cases c3 : inV ((List.length a2 : Nat) : Int) 1 4 = true
  case neg => rw [eval_ite_f (by first | (simp [c3]; done) | (rw [decide_eq_true (by omega)]; done) | (rw [decide_eq_false (by omega)]; done) | (rw [decide_eq_true (by omega)]; rfl) | (rw [decide_eq_false (by omega)]; rfl) | (rw [c3]; rfl) | (rw [Bool.eq_false_iff.2 c3]; rfl))]; simp [Out.eval, unixOkI, c3]
  rw [eval_ite_t (by first | (simp [c3]; done) | (rw [decide_eq_true (by omega)]; done) | (rw [decide_eq_false (by omega)]; done) | (rw [decide_eq_true (by omega)]; rfl) | (rw [decide_eq_false (by omega)]; rfl) | (rw [c3]; rfl) | (rw [Bool.eq_false_iff.2 c3]; rfl))]
  by_cases c4 : List.length a8 ≤ 60
  case neg => rw [eval_ite_f (by first | (simp [c4]; done) | (rw [decide_eq_true (by omega)]; done) | (rw [decide_eq_false (by omega)]; done) | (rw [decide_eq_true (by omega)]; rfl) | (rw [decide_eq_false (by omega)]; rfl) | (rw [c4]; rfl) | (rw [Bool.eq_false_iff.2 c4]; rfl))]; simp [Out.eval, unixOkI, c4]
  rw [eval_ite_t (by first | (simp [c4]; done) | (rw [decide_eq_true (by omega)]; done) | (rw [decide_eq_false (by omega)]; done) | (rw [decide_eq_true (by omega)]; rfl) | (rw [decide_eq_false (by omega)]; rfl) | (rw [c4]; rfl) | (rw [Bool.eq_false_iff.2 c4]; rfl))]
  by_cases c5 : wordsOkV a8 = true
  case neg => rw [eval_ite_t (by first | (simp [c5]; done) | (rw [decide_eq_true (by omega)]; done) | (rw [decide_eq_false (by omega)]; done) | (rw [decide_eq_true (by omega)]; rfl) | (rw [decide_eq_false (by omega)]; rfl) | (rw [c5]; rfl) | (rw [Bool.eq_false_iff.2 c5]; rfl))]; simp [Out.eval, unixOkI, c5]
  rw [eval_ite_f (by first | (simp [c5]; done) | (rw [decide_eq_true (by omega)]; done) | (rw [decide_eq_false (by omega)]; done) | (rw [decide_eq_true (by omega)]; rfl) | (rw [decide_eq_false (by omega)]; rfl) | (rw [c5]; rfl) | (rw [Bool.eq_false_iff.2 c5]; rfl))]
  have e6 : anyNotProgV a2 = !List.all a2 progOkV := by
    unfold anyNotProgV notProgV
    rw [Bool.eq_iff_iff]; simp
  rw [e6]
  by_cases c6 : List.all a2 progOkV = true
  case neg => rw [eval_ite_f (by first | (simp [c6]; done) | (rw [decide_eq_true (by omega)]; done) | (rw [decide_eq_false (by omega)]; done) | (rw [decide_eq_true (by omega)]; rfl) | (rw [decide_eq_false (by omega)]; rfl) | (rw [c6]; rfl) | (rw [Bool.eq_false_iff.2 c6]; rfl))]; simp [Out.eval, unixOkI, c6]
  rw [eval_ite_t (by first | (simp [c6]; done) | (rw [decide_eq_true (by omega)]; done) | (rw [decide_eq_false (by omega)]; done) | (rw [decide_eq_true (by omega)]; rfl) | (rw [decide_eq_false (by omega)]; rfl) | (rw [c6]; rfl) | (rw [Bool.eq_false_iff.2 c6]; rfl))]
  by_cases c7 : List.length a3 ≤ 6
  case neg => rw [eval_ite_f (by first | (simp [c7]; done) | (rw [decide_eq_true (by omega)]; done) | (rw [decide_eq_false (by omega)]; done) | (rw [decide_eq_true (by omega)]; rfl) | (rw [decide_eq_false (by omega)]; rfl) | (rw [c7]; rfl) | (rw [Bool.eq_false_iff.2 c7]; rfl))]; simp [Out.eval, unixOkI, c7]
  rw [eval_ite_t (by first | (simp [c7]; done) | (rw [decide_eq_true (by omega)]; done) | (rw [decide_eq_false (by omega)]; done) | (rw [decide_eq_true (by omega)]; rfl) | (rw [decide_eq_false (by omega)]; rfl) | (rw [c7]; rfl) | (rw [Bool.eq_false_iff.2 c7]; rfl))]
  by_cases c8 : List.length a4 ≤ 8
  case neg => rw [eval_ite_t (by first | (simp [c8]; done) | (rw [decide_eq_true (by omega)]; done) | (rw [decide_eq_false (by omega)]; done) | (rw [decide_eq_true (by omega)]; rfl) | (rw [decide_eq_false (by omega)]; rfl) | (rw [c8]; rfl) | (rw [Bool.eq_false_iff.2 c8]; rfl))]; simp [Out.eval, unixOkI, c8]
  rw [eval_ite_f (by first | (simp [c8]; done) | (rw [decide_eq_true (by omega)]; done) | (rw [decide_eq_false (by omega)]; done) | (rw [decide_eq_true (by omega)]; rfl) | (rw [decide_eq_false (by omega)]; rfl) | (rw [c8]; rfl) | (rw [Bool.eq_false_iff.2 c8]; rfl))]
  have h1 : iter f149_L0 FUEL ((a3, ((List.length a3 : Nat) : Int), (0 : Int), ()), ((a0, a1, a2, a3, a4, a5, a6, a7, a8, ()), ())) = some (if rowsV procKey (procInV a0 a1 (List.length a2) a3 a4) a3 = true then .inl ((), ((a0, a1, a2, a3, a4, a5, a6, a7, a8, ()), ())) else .inr ((false, ()), ())) := allI_loop (f := f149_L0) (List.length a3) (rowV procKey (procInV a0 a1 (List.length a2) a3 a4) a3) (fun i => ((a3, ((List.length a3 : Nat) : Int), ((i : Nat) : Int), ()), ((a0, a1, a2, a3, a4, a5, a6, a7, a8, ()), ()))) (y := ((), ((a0, a1, a2, a3, a4, a5, a6, a7, a8, ()), ()))) (z := ((false, ()), ()))
      (fun i hi => by
        have w1 := wrap_succ (i := i) (by omega)
        cases i with
        | zero =>
          rw [rowV_zero hi]
          have w3 : decide (((0 : Nat) : Int) > 0) = false := rfl
          try unfold procInV
          try unfold proc1V
          try unfold procKey
          simp only [f149_L0, Out.eval, lt_t hi, ge0, nth_get hi, Option.bind_some, cond_true, cond_false, w1, w3, procOkI]
          cases p0 : inV a3[0].1 1 (IntKind.i64.wrap (a0 - 1)) <;> cases p2 : procOkV a1 (List.length a2) a3 a4 a3[0].1 a3[0].2.1 a3[0].2.2.1 a3[0].2.2.2.1 a3[0].2.2.2.2.1.1 a3[0].2.2.2.2.1.2.1 a3[0].2.2.2.2.2.1 a3[0].2.2.2.2.2.2.1 a3[0].2.2.2.2.2.2.2.1 a3[0].2.2.2.2.2.2.2.2.1 <;> rfl
        | succ i =>
          rw [rowV_succ hi]
          have w2 := wrap_pred i (by omega)
          have w3 : decide (((i + 1 : Nat) : Int) > 0) = true := decide_eq_true (by omega)
          try unfold procInV
          try unfold proc1V
          try unfold procKey
          simp only [f149_L0, Out.eval, lt_t hi, ge0, nth_get hi, Option.bind_some, cond_true, cond_false, w1, w3, procOkI, nth_get (show i < List.length a3 by omega), w2, not_ge]
          cases p0 : inV a3[i + 1].1 1 (IntKind.i64.wrap (a0 - 1)) <;> cases p1 : decide (a3[i].1 < a3[i + 1].1) <;> cases p2 : procOkV a1 (List.length a2) a3 a4 a3[i + 1].1 a3[i + 1].2.1 a3[i + 1].2.2.1 a3[i + 1].2.2.2.1 a3[i + 1].2.2.2.2.1.1 a3[i + 1].2.2.2.2.1.2.1 a3[i + 1].2.2.2.2.2.1 a3[i + 1].2.2.2.2.2.2.1 a3[i + 1].2.2.2.2.2.2.2.1 a3[i + 1].2.2.2.2.2.2.2.2.1 <;> rfl)
      (by simp [f149_L0, Out.eval]) l3
  refine (eval_get_some h1).trans ?_
  by_cases q1 : rowsV procKey (procInV a0 a1 (List.length a2) a3 a4) a3 = true
  case neg => rw [if_neg q1]; simp [Out.eval, unixOkI, q1]
  rw [if_pos q1]
  refine (eval_alt_l _).trans ?_
  dsimp only
  have h2 : iter f149_L2 FUEL ((a4, ((List.length a4 : Nat) : Int), (0 : Int), ()), ((a0, a1, a2, a3, a4, a5, a6, a7, a8, ()), ())) = some (if rowsV openKey (open1V a3 a5 a6) a4 = true then .inl ((), ((a0, a1, a2, a3, a4, a5, a6, a7, a8, ()), ())) else .inr ((false, ()), ())) := allI_loop (f := f149_L2) (List.length a4) (rowV openKey (open1V a3 a5 a6) a4) (fun i => ((a4, ((List.length a4 : Nat) : Int), ((i : Nat) : Int), ()), ((a0, a1, a2, a3, a4, a5, a6, a7, a8, ()), ()))) (y := ((), ((a0, a1, a2, a3, a4, a5, a6, a7, a8, ()), ()))) (z := ((false, ()), ()))
      (fun i hi => by
        have w1 := wrap_succ (i := i) (by omega)
        cases i with
        | zero =>
          rw [rowV_zero hi]
          have w3 : decide (((0 : Nat) : Int) > 0) = false := rfl
          try unfold open1V
          try unfold openKey
          simp only [f149_L2, Out.eval, lt_t hi, ge0, nth_get hi, Option.bind_some, cond_true, cond_false, w1, w3]
          cases p0 : openOkV a3 a5 a6 a4[0].1 a4[0].2.1 a4[0].2.2.1 a4[0].2.2.2.1 a4[0].2.2.2.2.1 <;> rfl
        | succ i =>
          rw [rowV_succ hi]
          have w2 := wrap_pred i (by omega)
          have w3 : decide (((i + 1 : Nat) : Int) > 0) = true := decide_eq_true (by omega)
          try unfold open1V
          try unfold openKey
          simp only [f149_L2, Out.eval, lt_t hi, ge0, nth_get hi, Option.bind_some, cond_true, cond_false, w1, w3, nth_get (show i < List.length a4 by omega), w2, not_ge]
          cases p0 : openOkV a3 a5 a6 a4[i + 1].1 a4[i + 1].2.1 a4[i + 1].2.2.1 a4[i + 1].2.2.2.1 a4[i + 1].2.2.2.2.1 <;> cases p1 : decide (a4[i].1 < a4[i + 1].1) <;> rfl)
      (by simp [f149_L2, Out.eval]) l4
  refine (eval_get_some h2).trans ?_
  by_cases q2 : rowsV openKey (open1V a3 a5 a6) a4 = true
  case neg => rw [if_neg q2]; simp [Out.eval, unixOkI, q2]
  rw [if_pos q2]
  refine (eval_alt_l _).trans ?_
  dsimp only
  have e9 : readyP a3 a7 = some (decide (sortV a7 = readyPids a3)) := if_pos ⟨hl, by rw [LIM_eq]; omega⟩
  unfold unixOkI
  rw [c1, c2, c3, decide_eq_true c4, c5, c6, decide_eq_true c7, decide_eq_true c8, q1, q2, e9]
  cases decide (wordsV a3 ≤ 64) <;> cases pipesOkV a4 a5 <;> cases filesOkV a6 <;> rfl
end Go.Proofs.YtnnpnkegpkladaaGreat.Dm
