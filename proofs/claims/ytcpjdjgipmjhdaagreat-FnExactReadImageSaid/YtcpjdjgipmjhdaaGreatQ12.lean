/- Functions of the program, and what they compute. -/
import Derived.Test.YtcpjdjgipmjhdaaGreatQ11
namespace Go.Proofs.YtcpjdjgipmjhdaaGreat.Dm
open Go Go.ChangeShapes Go.WideShapes Go.ChangeAt Go.RowKit
abbrev f15_S0 := (Int × Int × Unit) × ((Int × Int × Int × Int × Int × Int × Int × Unit) × List Int × (Int × Int × Int × Int × Int × Int × Int × Unit) × List Int × List Int × List Int × List Int × List Int × List Int × Unit)
def f15_L0 : f15_S0 → Out (Round f15_S0 ((Int × Unit) × ((Int × Int × Int × Int × Int × Int × Int × Unit) × (Int × Int × Int × Int × Int × Int × Int × Unit) × List Int × List Int × List Int × List Int × List Int × List Int × Unit)) Empty)
| ((p0, p1, _), (p2, p3, p4, p5, p6, p7, p8, _), p9, (p10, p11, p12, p13, p14, p15, p16, _), p17, p18, p19, p20, p21, p22, _) =>
 .ite (decide (p1 < ((List.length p9 : Nat) : Int)))
 (.ite (decide (0 ≤ p1 ∧ p1 < ((List.length p9 : Nat) : Int)))
 (.get (nth p9 (Int.toNat p1)) fun y1 =>
 .ite (decide (List.length p22 + List.length ([(IntKind.i64.wrap (y1 - (1 : Int)))] : List Int) ≤ LIM))
 (.ret (.again ((p0, (IntKind.i64.wrap (p1 + (1 : Int))), ()), ((p2, p3, p4, p5, p6, p7, p8, ()), p9, (p10, p11, p12, p13, p14, p15, p16, ()), p17, p18, p19, p20, p21, (p22 ++ ([(IntKind.i64.wrap (y1 - (1 : Int)))] : List Int)), ()))))
 .fail)
 .fail)
 (.ret (.out ((p0, ()), ((p2, p3, p4, p5, p6, p7, p8, ()), (p10, p11, p12, p13, p14, p15, p16, ()), p17, p18, p19, p20, p21, p22, ()))))
def f15_tree (a0 : List UInt8) (a1 : Int) : Out (((Int × Int × Int × Int × Int × List Int × List Int × List Int × Int × Int × Unit) × (Int × Unit) × Unit) × (Unit × Unit × Unit)) :=
 .get (l3VarsV a0 a1 (5 : Int)) fun y1 =>
 .get (l20ListV a0 y1.2 (4 : Int)) fun y2 =>
 .get (l20ListV a0 y2.2 (12 : Int)) fun y3 =>
 .get (l20ListV a0 y3.2 (4 : Int)) fun y4 =>
 .get (l3VarsV a0 y4.2 (1 : Int)) fun y5 =>
 .get (l20ListV a0 y5.2 (1 : Int)) fun y6 =>
 .ite ((decide (y6.2 < (0 : Int))) == false)
 (.ite ((((List.length y6.1 : Nat) : Int) != (1 : Int)))
 (.ret ((((0 : Int), (0 : Int), (0 : Int), (0 : Int), (0 : Int), ([] : List Int), ([] : List Int), ([] : List Int), (0 : Int), (0 : Int), ()), ((-1 : Int), ()), ()), ((), (), ())))
 (.ite (decide (0 ≤ (0 : Int) ∧ (0 : Int) < ((List.length y1.1 : Nat) : Int)))
 (.get (nth y1.1 (Int.toNat (0 : Int))) fun y7 =>
 .ite (decide (0 ≤ (1 : Int) ∧ (1 : Int) < ((List.length y1.1 : Nat) : Int)))
 (.get (nth y1.1 (Int.toNat (1 : Int))) fun y8 =>
 .ite (decide (0 ≤ (2 : Int) ∧ (2 : Int) < ((List.length y1.1 : Nat) : Int)))
 (.get (nth y1.1 (Int.toNat (2 : Int))) fun y9 =>
 .ite (decide (0 ≤ (3 : Int) ∧ (3 : Int) < ((List.length y1.1 : Nat) : Int)))
 (.get (nth y1.1 (Int.toNat (3 : Int))) fun y10 =>
 .ite (decide (0 ≤ (4 : Int) ∧ (4 : Int) < ((List.length y1.1 : Nat) : Int)))
 (.get (nth y1.1 (Int.toNat (4 : Int))) fun y11 =>
 .get (zagsV y2.1) fun y12 =>
 .get (zagsV y3.1) fun y13 =>
 .ite (decide (0 ≤ (0 : Int) ∧ (0 : Int) < ((List.length y5.1 : Nat) : Int)))
 (.get (nth y5.1 (Int.toNat (0 : Int))) fun y14 =>
 .ite (decide (0 ≤ (0 : Int) ∧ (0 : Int) < ((List.length y6.1 : Nat) : Int)))
 (.get (nth y6.1 (Int.toNat (0 : Int))) fun y15 =>
 .get (iter1 f15_L0 FUEL ((y6.2, (0 : Int), ()), (((0 : Int), (0 : Int), (0 : Int), (0 : Int), (0 : Int), (0 : Int), (0 : Int), ()), y4.1, (y7, y8, y9, y10, y11, y14, (zagV y15), ()), ([] : List Int), ([] : List Int), ([] : List Int), y12, y13, ([] : List Int), ()))) fun y16 =>
 .ret (((y16.2.2.1.1, y16.2.2.1.2.1, y16.2.2.1.2.2.1, y16.2.2.1.2.2.2.1, y16.2.2.1.2.2.2.2.1, y16.2.2.2.2.2.2.1, y16.2.2.2.2.2.2.2.1, y16.2.2.2.2.2.2.2.2.1, y16.2.2.1.2.2.2.2.2.1, y16.2.2.1.2.2.2.2.2.2.1, ()), (y16.1.1, ()), ()), ((), (), ())))
 .fail)
 .fail)
 .fail)
 .fail)
 .fail)
 .fail)
 .fail))
 (.ret ((((0 : Int), (0 : Int), (0 : Int), (0 : Int), (0 : Int), ([] : List Int), ([] : List Int), ([] : List Int), (0 : Int), (0 : Int), ()), ((-1 : Int), ()), ()), ((), (), ())))
def f15_A : Nat → Option LoopAnn := fun n => annOf [(0, { head := { t := [.dead, .i .i64, .dead, .dead, .vptr 64000000 0] ++ dd 4 ++ [.srf 64000001, .dead, .dead, .vptr 64000002 0, .i .i64] ++ dd 90, v := [(64000000, .var [.i .i64, .i .i64, .i .i64, .i .i64, .i .i64, .srf 64000003, .srf 64000004, .srf 64000005, .i .i64, .i .i64]), (64000001, .arr (.int .i64)), (64000002, .var [.i .i64, .i .i64, .i .i64, .i .i64, .i .i64, .srf 64000006, .srf 64000007, .srf 64000008, .i .i64, .i .i64]), (64000003, .arr (.int .i64)), (64000004, .arr (.int .i64)), (64000005, .arr (.int .i64)), (64000006, .arr (.int .i64)), (64000007, .arr (.int .i64)), (64000008, .arr (.int .i64))] }, out := { t := [.dead, .i .i64, .dead, .dead, .vptr 64000256 0] ++ dd 7 ++ [.vptr 64000257 0] ++ dd 91, v := [(64000256, .var [.i .i64, .i .i64, .i .i64, .i .i64, .i .i64, .srf 64000258, .srf 64000259, .srf 64000260, .i .i64, .i .i64]), (64000257, .var [.i .i64, .i .i64, .i .i64, .i .i64, .i .i64, .srf 64000261, .srf 64000262, .srf 64000263, .i .i64, .i .i64]), (64000258, .arr (.int .i64)), (64000259, .arr (.int .i64)), (64000260, .arr (.int .i64)), (64000261, .arr (.int .i64)), (64000262, .arr (.int .i64)), (64000263, .arr (.int .i64))] }, ret := none })] n
def k15_V (a0 : List UInt8) (a1 : Int) : Option (((Int × Int × Int × Int × Int × List Int × List Int × List Int × Int × Int × Unit) × (Int × Unit) × Unit) × (Unit × Unit × Unit)) := (f15_tree a0 a1).eval
def k15 : Con := { f := 15, lend := true, its := [⟨false, false, [.s]⟩, ⟨false, false, [.i .i64]⟩], lay := [none, none], rs := [⟨false, true, [.i .i64, .i .i64, .i .i64, .i .i64, .i .i64, .own (.int .i64), .own (.int .i64), .own (.int .i64), .i .i64, .i .i64]⟩, ⟨false, false, [.i .i64]⟩], F := fun x => .get (k15_V x.1.1 x.2.1.1) fun y => .ret y }
theorem f15_eq (x : itemsD k15.its) : bo [k12, k17, k18, k45] f15_A Tryz.f15 k15 [.cell 4 47, .tmp 5] x = f15_tree x.1.1 x.2.1.1 := by kernel_rfl
theorem f15_ok (hr : ∀ x : (List UInt8 × Unit) × (Int × Unit) × Unit, itemsWF k15.its x → (f15_tree x.1.1 x.2.1.1).eval = (k15.F x).eval) : k15.Ok Tryz.prog := con_fn [k12, k17, k18, k45] ⟨k12_ok, k17_ok, k18_ok, k45_ok, trivial⟩ f15_eq fun x hw _ hy => (hr x hw).trans hy
theorem k15_ok : k15.Ok Tryz.prog := f15_ok fun x _ => (eval_get_ret _).symm
def procOf (y : Int × Int × Int × Int × Int × List Int × List Int × List Int × Int × Int × Unit) : ProcD :=
  (y.1, (y.2.1, (y.2.2.1, (y.2.2.2.1, ((y.2.2.2.2.1, (y.2.2.2.2.2.1, ())), (y.2.2.2.2.2.2.1, (y.2.2.2.2.2.2.2.1, (y.2.2.2.2.2.2.2.2.1, (y.2.2.2.2.2.2.2.2.2.1, ())))))))))
def procA (s : Str) (p : Int) : Option (ProcD × Int) := (k15_V s p).map fun y => (procOf y.1.1, y.1.2.1.1)
def rawQ : Str → Option ((List Int × List Int × List Int × List Int × List Int × List Int) × Nat) := seqP (numsP 5) (seqP (listP 4) (seqP (listP 12) (seqP (listP 4) (seqP (numsP 1) (listP 1)))))
def chainA (s : Str) : Int → Option ((List Int × List Int × List Int × List Int × List Int × List Int) × Int) :=
  seqA (fun p => l3VarsV s p ((5 : Nat) : Int)) (seqA (fun p => l20ListV s p ((4 : Nat) : Int)) (seqA (fun p => l20ListV s p ((12 : Nat) : Int)) (seqA (fun p => l20ListV s p ((4 : Nat) : Int)) (seqA (fun p => l3VarsV s p ((1 : Nat) : Int)) (fun p => l20ListV s p ((1 : Nat) : Int))))))
theorem chain_ats (s : Str) : Ats (chainA s) rawQ s :=
  seqA_ats (vars_ats s (by decide) (by decide)) (seqA_ats (list_ats s (by decide)) (seqA_ats (list_ats s (by decide)) (seqA_ats (list_ats s (by decide)) (seqA_ats (vars_ats s (by decide) (by decide)) (list_ats s (by decide))))))
def rawO : (List Int × List Int × List Int × List Int × List Int × List Int) → Option ProcD
  | ([a, b, c, d, e], regs, mem, fds, u :: _, [x]) => some (a, (b, (c, (d, ((e, (regs.map zagV, ())), (mem.map zagV, (fds.map downV, (u, (zagV x, ())))))))))
  | _ => none
theorem procQ_raw : procQ = mapP rawO rawQ := by
  unfold procQ zagsP downsP codeP zagsP
  simp only [oneP_nums, mapP_mapP, seqP_map2, seqP_mapO]
  unfold rawQ
  congr 1
  funext x
  obtain ⟨n, regs, mem, fds, u, code⟩ := x
  rcases n with _ | ⟨a, _ | ⟨b, _ | ⟨c, _ | ⟨d, _ | ⟨e, _ | ⟨f, r⟩⟩⟩⟩⟩⟩ <;> rcases u with _ | ⟨u, ur⟩ <;> rcases code with _ | ⟨x, _ | ⟨y, r⟩⟩ <;> rfl
theorem raw_parts {s : Str} {n regs mem fds u code : List Int} {k : Nat} (h : rawQ s = some ((n, regs, mem, fds, u, code), k)) :
    (∃ a b c d e, n = [a, b, c, d, e]) ∧ regs.length ≤ 4 ∧ mem.length ≤ 12 ∧ fds.length ≤ 4 ∧ (∃ x, u = [x]) ∧ code.length ≤ 1 := by
  obtain ⟨i1, j1, h1, h, _⟩ := seqP_some h
  obtain ⟨i2, j2, h2, h, _⟩ := seqP_some h
  obtain ⟨i3, j3, h3, h, _⟩ := seqP_some h
  obtain ⟨i4, j4, h4, h, _⟩ := seqP_some h
  obtain ⟨i5, j5, h5, h6, _⟩ := seqP_some h
  refine ⟨five_of (numsP_le h1).2.1, (listP_le h2).2.1, (listP_le h3).2.1, (listP_le h4).2.1, ?_, (listP_le h6).2.1⟩
  have := (numsP_le h5).2.1
  exact List.length_eq_one_iff.1 this
theorem proc_bad {s : Str} {p : Int} {z : List Int × List Int × List Int × List Int × List Int × List Int} (h : chainA s p = some (z, -1)) : ∃ r, procA s p = some (r, -1) := by
  obtain ⟨q1, h1, h⟩ := seqA_some h
  obtain ⟨q2, h2, h⟩ := seqA_some h
  obtain ⟨q3, h3, h⟩ := seqA_some h
  obtain ⟨q4, h4, h⟩ := seqA_some h
  obtain ⟨q5, h5, h6⟩ := seqA_some h
  have ht : (f15_tree s p).eval = some (((0, 0, 0, 0, 0, [], [], [], 0, 0, ()), (-1, ()), ()), ((), (), ())) := by
    unfold f15_tree
    refine (eval_get_some h1).trans ((eval_get_some h2).trans ((eval_get_some h3).trans ((eval_get_some h4).trans ((eval_get_some h5).trans ((eval_get_some h6).trans ?_)))))
    exact (eval_ite_f rfl).trans rfl
  exact ⟨procZ, by unfold procA k15_V; rw [ht]; rfl⟩
theorem proc_good {s : Str} {p : Int} {a b c w x u : Int} {regs mem fds code : List Int} {e : Int} (he : 0 ≤ e) (h : chainA s p = some (([a, b, c, w, x], regs, mem, fds, [u], code), e)) (hr : regs.length ≤ 4) (hm : mem.length ≤ 12) (hf : fds.length ≤ 4) :
    match code with
    | [y] => procA s p = some ((a, (b, (c, (w, ((x, (regs.map zagV, ())), (mem.map zagV, (fds.map downV, (u, (zagV y, ()))))))))), e)
    | _ => ∃ r, procA s p = some (r, -1) := by
  obtain ⟨q1, h1, h⟩ := seqA_some h
  obtain ⟨q2, h2, h⟩ := seqA_some h
  obtain ⟨q3, h3, h⟩ := seqA_some h
  obtain ⟨q4, h4, h⟩ := seqA_some h
  obtain ⟨q5, h5, h6⟩ := seqA_some h
  simp only at h1 h2 h3 h4 h5 h6
  have lds : List.length fds ≤ BIG := by unfold BIG; omega
  have g0 : (decide (e < (0 : Int)) == false) = true := by rw [decide_eq_false (by omega)]; rfl
  have z1 : zagsV regs = some (regs.map zagV) := lim_some (by rw [LIM_eq]; omega)
  have z2 : zagsV mem = some (mem.map zagV) := lim_some (by rw [LIM_eq]; omega)
  have bad : ∀ {l : List Int}, l.length ≠ 1 → l20ListV s q5 ((1 : Nat) : Int) = some (l, e) → ∃ r, procA s p = some (r, -1) := fun {l} hl h6 => by
    have g1 : (((List.length l : Nat) : Int) != (1 : Int)) = true := by simp; omega
    have ht : (f15_tree s p).eval = some (((0, 0, 0, 0, 0, [], [], [], 0, 0, ()), (-1, ()), ()), ((), (), ())) := by
      unfold f15_tree
      refine (eval_get_some h1).trans ((eval_get_some h2).trans ((eval_get_some h3).trans ((eval_get_some h4).trans ((eval_get_some h5).trans ((eval_get_some h6).trans ?_)))))
      exact (eval_ite_t g0).trans ((eval_ite_t g1).trans rfl)
    exact ⟨procZ, by unfold procA k15_V; rw [ht]; rfl⟩
  rcases code with _ | ⟨y, _ | ⟨y2, r⟩⟩
  · exact bad (by simp) h6
  · show procA s p = _
    have ht : (f15_tree s p).eval = some (((a, b, c, w, x, regs.map zagV, mem.map zagV, fds.map downV, u, zagV y, ()), (e, ()), ()), ((), (), ())) := by
      unfold f15_tree
      refine (eval_get_some h1).trans ((eval_get_some h2).trans ((eval_get_some h3).trans ((eval_get_some h4).trans ((eval_get_some h5).trans ((eval_get_some h6).trans ?_)))))
      refine (eval_ite_t g0).trans ((eval_ite_f rfl).trans ?_)
      refine (eval_ite_t rfl).trans ((eval_get_some (x := a) rfl).trans ((eval_ite_t rfl).trans ((eval_get_some (x := b) rfl).trans ((eval_ite_t rfl).trans ((eval_get_some (x := c) rfl).trans ((eval_ite_t rfl).trans ((eval_get_some (x := w) rfl).trans ((eval_ite_t rfl).trans ((eval_get_some (x := x) rfl).trans ?_)))))))))
      refine (eval_get_some z1).trans ((eval_get_some z2).trans ((eval_ite_t rfl).trans ((eval_get_some (x := u) rfl).trans ((eval_ite_t rfl).trans ((eval_get_some (x := y) rfl).trans ?_)))))
      dsimp only
      skip
      skip
      skip
      skip
      skip
      skip
      skip
      skip
      skip
      skip
      skip
      skip
      have hl : iter1 f15_L0 FUEL ((e, (0 : Int), ()), (((0 : Int), (0 : Int), (0 : Int), (0 : Int), (0 : Int), (0 : Int), (0 : Int), ()), fds, (a, b, c, w, x, u, (zagV y), ()), ([] : List Int), ([] : List Int), ([] : List Int), (List.map zagV regs), (List.map zagV mem), ([] : List Int), ())) = some ((e, ()), (((0 : Int), (0 : Int), (0 : Int), (0 : Int), (0 : Int), (0 : Int), (0 : Int), ()), (a, b, c, w, x, u, (zagV y), ()), ([] : List Int), ([] : List Int), ([] : List Int), (List.map zagV regs), (List.map zagV mem), (([] : List Int) ++ List.flatMap (fun n => [downV n]) fds), ())) := flat_loop (f := f15_L0) (fun n => [downV n]) fds (fun d i => ((e, ((i : Nat) : Int), ()), (((0 : Int), (0 : Int), (0 : Int), (0 : Int), (0 : Int), (0 : Int), (0 : Int), ()), fds, (a, b, c, w, x, u, (zagV y), ()), ([] : List Int), ([] : List Int), ([] : List Int), (List.map zagV regs), (List.map zagV mem), d, ()))) (fun d => ((e, ()), (((0 : Int), (0 : Int), (0 : Int), (0 : Int), (0 : Int), (0 : Int), (0 : Int), ()), (a, b, c, w, x, u, (zagV y), ()), ([] : List Int), ([] : List Int), ([] : List Int), (List.map zagV regs), (List.map zagV mem), d, ()))) 1000000
          (fun i hi d hd => by
            have h1 := wrap_succ (i := i) (by omega)
            have h2 : decide (0 ≤ ((i : Nat) : Int) ∧ ((i : Nat) : Int) < ((List.length fds : Nat) : Int)) = true := decide_eq_true (by omega)
            all_goals (try simp only [List.length_append, List.length_cons, List.length_nil] at hd)
            all_goals (simp only [f15_L0, Out.eval, lt_t hi, ge0, nth_get hi, Option.bind_some, cond_true, cond_false, h1, h2])
            all_goals (repeat rw [cond_lim (by (try simp only [List.length_append, List.length_cons, List.length_nil]); omega)])
            all_goals (try simp only [List.append_assoc])
            all_goals (try rfl))
          (fun d => by simp [f15_L0, Out.eval]) lds ([] : List Int) (by rw [flat_one]; simp; omega)
      rw [flat_one] at hl
      exact (eval_get_some hl).trans rfl
    unfold procA k15_V
    rw [ht]; rfl
  · exact bad (by simp) h6
theorem proc_ats (s : Str) : Ats (procA s) procQ s := by
  rw [procQ_raw]
  have hc := chain_ats s
  refine ⟨fun p hp r k h => ?_, fun p hp h => ?_, ?_⟩
  · obtain ⟨⟨n, regs, mem, fds, u, code⟩, hx, hr⟩ := mapP_some h
    obtain ⟨⟨a, b, c, d, e, rfl⟩, r1, r2, r3, ⟨u, rfl⟩, r4⟩ := raw_parts hx
    have h1 := hc.1 p hp _ _ hx
    refine ⟨?_, h1.2⟩
    have h2 := proc_good (by omega) h1.1 r1 r2 r3
    rcases code with _ | ⟨y, _ | ⟨y2, r⟩⟩
    · exact nomatch hr
    · obtain rfl := Option.some.inj hr; exact h2
    · exact nomatch hr
  · rcases mapP_none h with h | ⟨⟨n, regs, mem, fds, u, code⟩, k, hx, hr⟩
    · obtain ⟨z, hz⟩ := hc.2.1 p hp h
      exact proc_bad hz
    · obtain ⟨⟨a, b, c, d, e, rfl⟩, r1, r2, r3, ⟨u, rfl⟩, r4⟩ := raw_parts hx
      have h1 := hc.1 p hp _ _ hx
      have h2 := proc_good (by omega) h1.1 r1 r2 r3
      rcases code with _ | ⟨y, _ | ⟨y2, r⟩⟩
      · exact h2
      · exact nomatch hr
      · exact h2
  · obtain ⟨z, hz⟩ := hc.2.2
    exact proc_bad hz
end Go.Proofs.YtcpjdjgipmjhdaaGreat.Dm
