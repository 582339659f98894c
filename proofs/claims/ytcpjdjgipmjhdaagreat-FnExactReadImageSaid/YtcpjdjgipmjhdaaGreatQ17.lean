/- Functions of the program, and what they compute. -/
import Derived.Test.YtcpjdjgipmjhdaaGreatQ16
namespace Go.Proofs.YtcpjdjgipmjhdaaGreat.Dm
open Go Go.ChangeShapes Go.WideShapes Go.ChangeAt Go.RowKit
theorem unixRV_good {s : Str} {n t : Int} {pg : List (List InsD)} {ps : List ProcD} {os : List OpenD} {pp : List PipeD} {fl : List FileD} {rd ou : List Int} {k : Nat} (h : unixQ s = some (([n, t], pg, ps, os, pp, fl, rd, ou), k)) :
    unixRV s false = (n, t, pg, ps, os, pp, fl, rd, ou, s.drop k, false) := by
  have h1 := unixR_reads.good h
  have e : unixRV s false = ((unixR s false).1.1.headD 0, (unixR s false).1.1.getD 1 0, (unixR s false).1.2.1, (unixR s false).1.2.2.1, (unixR s false).1.2.2.2.1, (unixR s false).1.2.2.2.2.1, (unixR s false).1.2.2.2.2.2.1, (unixR s false).1.2.2.2.2.2.2.1, (unixR s false).1.2.2.2.2.2.2.2, (unixR s false).2.1, (unixR s false).2.2) := rfl
  rw [e, h1]; rfl
theorem unixRV_bad {s : Str} {b : Bool} (h : (unixR s b).2.2 = true) : (unixRV s b).2.2.2.2.2.2.2.2.2.2 = true := h
theorem showUV_faith {s : Str} {n t : Int} {pg : List (List InsD)} {ps : List ProcD} {os : List OpenD} {pp : List PipeD} {fl : List FileD} {rd ou : List Int} {k : Nat} (h : unixQ (s.drop 1) = some (([n, t], pg, ps, os, pp, fl, rd, ou), k))
    (hs : showUV n t pg ps os pp fl rd ou = s) : s = 117 :: s.drop 1 ∧ (s.drop 1).drop k = [] := by
  obtain ⟨h1, h2⟩ := unixQ_faith h
  unfold showUV at hs
  split at hs
  · rw [← h2] at hs
    have hl := congrArg List.length hs
    rw [List.length_cons, List.length_take, List.length_drop] at hl
    have hk : k = (s.drop 1).length := by rw [List.length_drop] at h1 ⊢; omega
    refine ⟨?_, by rw [hk, List.drop_length]⟩
    conv => lhs; rw [← hs]
    rw [hk, List.take_length]
  · subst hs
    exact nomatch h
def f6_tree (a0 : List UInt8) : Out ((UnixD × (Bool × Unit) × Unit) × (Unit × Unit)) :=
 .ite ((unixRV (cutPrefixV a0 ([117] : List UInt8)).1 (!(cutPrefixV a0 ([117] : List UInt8)).2)).2.2.2.2.2.2.2.2.2.2 == false)
 (.ite (((unixRV (cutPrefixV a0 ([117] : List UInt8)).1 (!(cutPrefixV a0 ([117] : List UInt8)).2)).2.2.2.2.2.2.2.2.2.1 != ([] : List UInt8)) == false)
 (.get (showUnixP (unixRV (cutPrefixV a0 ([117] : List UInt8)).1 (!(cutPrefixV a0 ([117] : List UInt8)).2)).1 (unixRV (cutPrefixV a0 ([117] : List UInt8)).1 (!(cutPrefixV a0 ([117] : List UInt8)).2)).2.1 (unixRV (cutPrefixV a0 ([117] : List UInt8)).1 (!(cutPrefixV a0 ([117] : List UInt8)).2)).2.2.1 (unixRV (cutPrefixV a0 ([117] : List UInt8)).1 (!(cutPrefixV a0 ([117] : List UInt8)).2)).2.2.2.1 (unixRV (cutPrefixV a0 ([117] : List UInt8)).1 (!(cutPrefixV a0 ([117] : List UInt8)).2)).2.2.2.2.1 (unixRV (cutPrefixV a0 ([117] : List UInt8)).1 (!(cutPrefixV a0 ([117] : List UInt8)).2)).2.2.2.2.2.1 (unixRV (cutPrefixV a0 ([117] : List UInt8)).1 (!(cutPrefixV a0 ([117] : List UInt8)).2)).2.2.2.2.2.2.1 (unixRV (cutPrefixV a0 ([117] : List UInt8)).1 (!(cutPrefixV a0 ([117] : List UInt8)).2)).2.2.2.2.2.2.2.1 (unixRV (cutPrefixV a0 ([117] : List UInt8)).1 (!(cutPrefixV a0 ([117] : List UInt8)).2)).2.2.2.2.2.2.2.2.1) fun y1 =>
 .ite (y1 != a0)
 (.ret ((((0 : Int), (0 : Int), ([] : List (List InsD)), ([] : List ProcD), ([] : List OpenD), ([] : List CpuD), ([] : List CpuD), ([] : List Int), ([] : List Int), ()), (false, ()), ()), ((), ())))
 (.ret ((((unixRV (cutPrefixV a0 ([117] : List UInt8)).1 (!(cutPrefixV a0 ([117] : List UInt8)).2)).1, (unixRV (cutPrefixV a0 ([117] : List UInt8)).1 (!(cutPrefixV a0 ([117] : List UInt8)).2)).2.1, (unixRV (cutPrefixV a0 ([117] : List UInt8)).1 (!(cutPrefixV a0 ([117] : List UInt8)).2)).2.2.1, (unixRV (cutPrefixV a0 ([117] : List UInt8)).1 (!(cutPrefixV a0 ([117] : List UInt8)).2)).2.2.2.1, (unixRV (cutPrefixV a0 ([117] : List UInt8)).1 (!(cutPrefixV a0 ([117] : List UInt8)).2)).2.2.2.2.1, (unixRV (cutPrefixV a0 ([117] : List UInt8)).1 (!(cutPrefixV a0 ([117] : List UInt8)).2)).2.2.2.2.2.1, (unixRV (cutPrefixV a0 ([117] : List UInt8)).1 (!(cutPrefixV a0 ([117] : List UInt8)).2)).2.2.2.2.2.2.1, (unixRV (cutPrefixV a0 ([117] : List UInt8)).1 (!(cutPrefixV a0 ([117] : List UInt8)).2)).2.2.2.2.2.2.2.1, (unixRV (cutPrefixV a0 ([117] : List UInt8)).1 (!(cutPrefixV a0 ([117] : List UInt8)).2)).2.2.2.2.2.2.2.2.1, ()), (true, ()), ()), ((), ()))))
 (.ret ((((0 : Int), (0 : Int), ([] : List (List InsD)), ([] : List ProcD), ([] : List OpenD), ([] : List CpuD), ([] : List CpuD), ([] : List Int), ([] : List Int), ()), (false, ()), ()), ((), ()))))
 (.ret ((((0 : Int), (0 : Int), ([] : List (List InsD)), ([] : List ProcD), ([] : List OpenD), ([] : List CpuD), ([] : List CpuD), ([] : List Int), ([] : List Int), ()), (false, ()), ()), ((), ())))
def k6 : Con := { f := 6, lend := true, its := [⟨false, false, [.s]⟩], lay := [none], rs := [⟨false, true, [.i .i64, .i .i64, .own (.sl tyN), .own tyP, .own tyO, .own tyF, .own tyF, .own (.int .i64), .own (.int .i64)]⟩, ⟨false, false, [.b]⟩], F := fun x => .ret ((((readUnixV x.1.1).1, (readUnixV x.1.1).2.1, (readUnixV x.1.1).2.2.1, (readUnixV x.1.1).2.2.2.1, (readUnixV x.1.1).2.2.2.2.1, (readUnixV x.1.1).2.2.2.2.2.1, (readUnixV x.1.1).2.2.2.2.2.2.1, (readUnixV x.1.1).2.2.2.2.2.2.2.1, (readUnixV x.1.1).2.2.2.2.2.2.2.2.1, ()), ((readUnixV x.1.1).2.2.2.2.2.2.2.2.2, ()), ()), ((), ())) }
theorem f6_eq (x : itemsD k6.its) : bo [k20, k21, k22] (fun _ => none) Tryz.f6 k6 [.cell 2 29, .tmp 3] x = f6_tree x.1.1 := by kernel_rfl
theorem f6_ok (hr : ∀ x : (List UInt8 × Unit) × Unit, itemsWF k6.its x → (f6_tree x.1.1).eval = (k6.F x).eval) : k6.Ok Tryz.prog := con_fn [k20, k21, k22] ⟨k20_ok, k21_ok, k22_ok, trivial⟩ f6_eq fun x hw _ hy => (hr x hw).trans hy
theorem k6_ok : k6.Ok Tryz.prog := by
  refine f6_ok fun x hw => ?_
  obtain ⟨⟨a0, _⟩, _⟩ := x
  show (f6_tree a0).eval = some ((((readUnixV a0).1, (readUnixV a0).2.1, (readUnixV a0).2.2.1, (readUnixV a0).2.2.2.1, (readUnixV a0).2.2.2.2.1, (readUnixV a0).2.2.2.2.2.1, (readUnixV a0).2.2.2.2.2.2.1, (readUnixV a0).2.2.2.2.2.2.2.1, (readUnixV a0).2.2.2.2.2.2.2.2.1, ()), ((readUnixV a0).2.2.2.2.2.2.2.2.2, ()), ()), ((), ()))
  unfold f6_tree
  have none_z : unixQ (List.drop 1 a0) = none → readUnixV a0 = unixZ := fun h => by unfold readUnixV; rw [h]; rfl
  by_cases hp : hasPrefixV a0 [117] = true
  · have ec : cutPrefixV a0 [117] = (List.drop 1 a0, true) := by unfold cutPrefixV; rw [hp]; rfl
    simp only [ec, Bool.not_true]
    cases e : unixQ (List.drop 1 a0) with
    | none =>
      rw [none_z e]
      have hb := unixRV_bad (unixR_reads.fail e)
      exact (eval_ite_f (by rw [hb]; rfl)).trans rfl
    | some x =>
      obtain ⟨⟨h0, pg, ps, os, pp, fl, rd, ou⟩, k⟩ := x
      obtain ⟨n, t, h⟩ := unixQ_two e
      simp only at h
      subst h
      rw [unixRV_good e]
      have hu : readUnixV a0 = if showUV n t pg ps os pp fl rd ou = a0 then (n, t, pg, ps, os, pp, fl, rd, ou, true) else unixZ := by unfold readUnixV; rw [e]; rfl
      rw [hu]
      refine (eval_ite_t rfl).trans ?_
      by_cases hr : List.drop k (List.drop 1 a0) = []
      · rw [hr]
        refine (eval_ite_t rfl).trans ?_
        have hl : rd.length ≤ 6 := by
          unfold unixQ at e
          obtain ⟨_, _, _, e, _⟩ := seqP_some e
          obtain ⟨_, _, _, e, _⟩ := seqP_some e
          obtain ⟨_, _, _, e, _⟩ := seqP_some e
          obtain ⟨_, _, _, e, _⟩ := seqP_some e
          obtain ⟨_, _, _, e, _⟩ := seqP_some e
          obtain ⟨_, _, _, e, _⟩ := seqP_some e
          obtain ⟨_, _, e, _, _⟩ := seqP_some e
          exact (listP_le e).2.1
        have s1 : showUnixP n t pg ps os pp fl rd ou = some (showUV n t pg ps os pp fl rd ou) := if_pos (by rw [LIM_eq]; omega)
        refine (eval_get_some s1).trans ?_
        by_cases hs : showUV n t pg ps os pp fl rd ou = a0
        · rw [if_pos hs]
          exact (eval_ite_f (by simp [hs])).trans rfl
        · rw [if_neg hs]
          exact (eval_ite_t (by simp [hs])).trans rfl
      · rw [if_neg fun hs => hr (showUV_faith e hs).2]
        have hne : (List.drop k (List.drop 1 a0) != ([] : Str)) = true := by rw [bne_iff_ne]; exact hr
        exact (eval_ite_f (by rw [hne]; rfl)).trans rfl
  · have ec : cutPrefixV a0 [117] = (a0, false) := by unfold cutPrefixV; rw [Bool.eq_false_iff.2 hp]; rfl
    simp only [ec, Bool.not_false]
    have hb := unixRV_bad (unixR_reads.2.2 a0)
    have hz : readUnixV a0 = unixZ := by
      cases e : unixQ (List.drop 1 a0) with
      | none => exact none_z e
      | some x =>
        obtain ⟨⟨h0, pg, ps, os, pp, fl, rd, ou⟩, k⟩ := x
        obtain ⟨n, t, h⟩ := unixQ_two e
        simp only at h
        subst h
        have hu : readUnixV a0 = if showUV n t pg ps os pp fl rd ou = a0 then (n, t, pg, ps, os, pp, fl, rd, ou, true) else unixZ := by unfold readUnixV; rw [e]; rfl
        rw [hu, if_neg]
        intro hs
        have h3 := (showUV_faith e hs).1
        rw [h3] at hp
        exact hp rfl
    rw [hz]
    exact (eval_ite_f (by rw [hb]; rfl)).trans rfl
theorem sumBy_bound {α : Type} {c : α → Nat} {m : Nat} : ∀ {a : List α}, (∀ x ∈ a, c x ≤ m) → sumBy c a ≤ m * a.length
  | [], _ => Nat.zero_le _
  | x :: r, h => by
    have h1 := h x (by simp)
    have h2 := sumBy_bound (a := r) fun y hy => h y (by simp [hy])
    rw [sumBy, List.length_cons, Nat.mul_add, Nat.mul_one]
    omega
theorem unix_szc {next tick : Int} {progs : List (List InsD)} {ps : List ProcD} {os : List OpenD} {pipes : List PipeD} {files : List FileD} {rd out : List Int} (h : unixOkV next tick progs ps os pipes files rd out = true) :
    szcInsSS progs ≤ 1000 ∧ szcProcS ps ≤ 1000 ∧ szcOpenS os ≤ 1000 ∧ szcCpuS pipes ≤ 1000 ∧ szcCpuS files ≤ 1000 ∧ szcIntS rd ≤ 1000 ∧ szcIntS out ≤ 1000 := by
  obtain ⟨p1, p2, q1, k1, k2, k4, k3, k6, r1, o1, _⟩ := unix_parts h
  have g1 := sumBy_bound (c := fun x => szcInsS x) (m := 40) (a := progs) fun x hx => prog_len (p2 x hx)
  have g2 := sumBy_bound (c := fun x => szcProc x) (m := 40) (a := ps) fun x hx => by
    have := proc_small h hx
    have e : szcProc x = x.2.2.2.2.1.2.1.length + x.2.2.2.2.2.1.length + x.2.2.2.2.2.2.1.length := rfl
    rw [e]; omega
  have g3 := sumBy_bound (c := fun x => szcCpu x) (m := 40) (a := pipes) fun x hx => by
    have := k4 x hx
    have e : szcCpu x = x.2.1.length := rfl
    rw [e]; omega
  have g4 := sumBy_bound (c := fun x => szcCpu x) (m := 40) (a := files) fun x hx => by
    have := k6 x hx
    have e : szcCpu x = x.2.1.length := rfl
    rw [e]; omega
  have e1 : szcInsSS progs = progs.length + sumBy (fun x => szcInsS x) progs := rfl
  have e2 : szcProcS ps = ps.length + sumBy (fun x => szcProc x) ps := rfl
  have e3 : szcOpenS os = os.length := rfl
  have e4 : ∀ a, szcCpuS a = a.length + sumBy (fun x => szcCpu x) a := fun _ => rfl
  have e6 : ∀ a, szcIntS a = a.length := fun _ => rfl
  refine ⟨by omega, by omega, by omega, ?_, ?_, ?_, ?_⟩
  · rw [e4]; omega
  · rw [e4]; omega
  · rw [e6]; omega
  · rw [e6]; omega
theorem read_szc (s : Str) : szcInsSS (readUnixV s).2.2.1 ≤ 1000 ∧ szcProcS (readUnixV s).2.2.2.1 ≤ 1000 ∧ szcOpenS (readUnixV s).2.2.2.2.1 ≤ 1000 ∧ szcCpuS (readUnixV s).2.2.2.2.2.1 ≤ 1000 ∧ szcCpuS (readUnixV s).2.2.2.2.2.2.1 ≤ 1000 ∧ szcIntS (readUnixV s).2.2.2.2.2.2.2.1 ≤ 1000 ∧ szcIntS (readUnixV s).2.2.2.2.2.2.2.2.1 ≤ 1000 := by
  have z : szcInsSS unixZ.2.2.1 ≤ 1000 ∧ szcProcS unixZ.2.2.2.1 ≤ 1000 ∧ szcOpenS unixZ.2.2.2.2.1 ≤ 1000 ∧ szcCpuS unixZ.2.2.2.2.2.1 ≤ 1000 ∧ szcCpuS unixZ.2.2.2.2.2.2.1 ≤ 1000 ∧ szcIntS unixZ.2.2.2.2.2.2.2.1 ≤ 1000 ∧ szcIntS unixZ.2.2.2.2.2.2.2.2.1 ≤ 1000 := by decide
  unfold readUnixV
  cases e : unixQ (s.drop 1) with
  | none => exact z
  | some x =>
    obtain ⟨⟨h0, pg, ps, os, pp, fl, rd, ou⟩, k⟩ := x
    obtain ⟨n, t, h⟩ := unixQ_two e
    simp only at h
    subst h
    show szcInsSS (if showUV n t pg ps os pp fl rd ou = s then (n, t, pg, ps, os, pp, fl, rd, ou, true) else unixZ).2.2.1 ≤ 1000 ∧ _
    simp only [unixOf]
    by_cases hs : showUV n t pg ps os pp fl rd ou = s
    · rw [if_pos hs]
      by_cases hu : unixOkV n t pg ps os pp fl rd ou = true
      · exact unix_szc hu
      · unfold showUV at hs
        rw [if_neg hu] at hs
        subst hs
        exact nomatch e
    · rw [if_neg hs]; exact z
end Go.Proofs.YtcpjdjgipmjhdaaGreat.Dm
