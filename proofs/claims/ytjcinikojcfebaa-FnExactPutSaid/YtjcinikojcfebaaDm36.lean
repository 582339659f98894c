/- The data machine, part 36: what is told of a function holds when its body computes it. -/
import Derived.Test.YtjcinikojcfebaaDm35
namespace Go.Proofs.Ytjcinikojcfebaa.Dm
open Go

/-! ## No list and no text is too long -/
mutual
def Ty.WF : (t : Ty) → t.D → Prop
  | .str, x => List.length x ≤ BIG
  | .sl e, xs => List.length xs ≤ BIG ∧ ∀ (i : Nat) (y : e.D), nth (α := e.D) xs i = some y → e.WF y
  | .st fs, x => fs.WF x
  | .bool, _ => True
  | .int _, _ => True
def Tys.WF : (ts : Tys) → ts.D → Prop
  | .nil, _ => True
  | .cons t ts, x => t.WF x.1 ∧ ts.WF x.2
end
mutual
theorem Ty.repS_WF {S : Nat → Prop} {w : World} : (t : Ty) → {cs : List Value} → {x : t.D} → t.repS S w cs x → t.WF x
  | .bool, _, _, _ => by simp [Ty.WF]
  | .int _, _, _, _ => by simp [Ty.WF]
  | .str, _, _, h => by simp only [Ty.repS] at h; simp only [Ty.WF]; exact h.2
  | .sl e, _, xs, h => by
    simp only [Ty.repS] at h
    obtain ⟨a, cap, _, hc, h⟩ := h
    simp only [Ty.WF]
    refine ⟨hc.2, fun i y hy => ?_⟩
    rcases h with h | ⟨b, o, _, _, hi⟩
    · subst h; simp [nth] at hy
    · exact Ty.repS_WF e (hi i y hy)
  | .st fs, _, _, h => by simp only [Ty.repS] at h; simp only [Ty.WF]; exact Tys.repS_WF fs h
theorem Tys.repS_WF {S : Nat → Prop} {w : World} : (t : Tys) → {cs : List Value} → {x : t.D} → t.repS S w cs x → t.WF x
  | .nil, _, _, _ => by simp [Tys.WF]
  | .cons t ts, _, _, h => by
    simp only [Tys.repS] at h; obtain ⟨c1, c2, _, h1, h2⟩ := h
    simp only [Tys.WF]; exact ⟨Ty.repS_WF t h1, Tys.repS_WF ts h2⟩
end
theorem repO_WF {w : World} {t : Ty} {cs : List Value} {x : t.D} {f : List Nat} (h : t.repO w cs x f) : t.WF x := Ty.repS_WF t (Ty.repO_repS (S := fun _ => True) t h fun _ _ => trivial)
def cmWF : (l : List Cm) → cmD l → Prop
  | [], _ => True
  | .b :: r, x => cmWF r x.2
  | .i _ :: r, x => cmWF r x.2
  | .s :: r, x => List.length x.1 ≤ BIG ∧ cmWF r x.2
  | .ro e :: r, x => (Ty.sl e).WF x.1 ∧ cmWF r x.2
  | .own e :: r, x => (Ty.sl e).WF x.1 ∧ cmWF r x.2
  | .mut e :: r, x => (Ty.sl e).WF x.1 ∧ cmWF r x.2
def itemsWF : (l : List Item) → itemsD l → Prop
  | [], _ => True
  | it :: r, x => cmWF it.cs x.1 ∧ itemsWF r x.2
theorem cmRep_WF {S : Nat → Prop} {w : World} : (l : List Cm) → {vs : List Value} → {x : cmD l} → {f : List Nat} → cmRep S w l vs x f → cmWF l x
  | [], _, _, _, _ => by simp [cmWF]
  | .b :: r, _, _, _, h => by simp only [cmRep] at h; obtain ⟨vs', rfl, h⟩ := h; exact cmRep_WF r h
  | .i _ :: r, _, _, _, h => by simp only [cmRep] at h; obtain ⟨vs', rfl, h⟩ := h; exact cmRep_WF r h
  | .s :: r, _, _, _, h => by simp only [cmRep] at h; obtain ⟨vs', rfl, hl, h⟩ := h; exact ⟨hl, cmRep_WF r h⟩
  | .ro e :: r, _, _, _, h => by simp only [cmRep] at h; obtain ⟨v, vs', rfl, h1, h⟩ := h; exact ⟨Ty.repS_WF _ h1, cmRep_WF r h⟩
  | .own e :: r, _, _, _, h => by simp only [cmRep] at h; obtain ⟨v, vs', f1, f2, rfl, rfl, h1, h⟩ := h; exact ⟨repO_WF h1, cmRep_WF r h⟩
  | .mut e :: r, _, _, _, h => by simp only [cmRep] at h; obtain ⟨v, vs', f1, f2, rfl, rfl, h1, h⟩ := h; exact ⟨repO_WF h1, cmRep_WF r h⟩
theorem ItemsRep_WF {S : Nat → Prop} {w : World} : (l : List Item) → {vs : List Value} → {x : itemsD l} → {f : List Nat} → {g : List (Nat × Nat × Nat)} → ItemsRep S w l vs x f g → itemsWF l x
  | [], _, _, _, _, _ => by simp [itemsWF]
  | it :: r, _, _, _, _, h => by
    simp only [ItemsRep] at h; obtain ⟨v, vs', f1, f2, g1, g2, rfl, rfl, rfl, h1, h⟩ := h
    refine ⟨?_, ItemsRep_WF r h⟩
    obtain ⟨p, a, cs⟩ := it
    cases p with
    | false => simp only [ItemRep] at h1; exact cmRep_WF cs h1.2.1
    | true => simp only [ItemRep] at h1; obtain ⟨_, _, _, _, _, _, _, _, h1⟩ := h1; exact cmRep_WF cs h1

theorem layD_rel {c : Ctx} {μ : Nat → Loc} : (l : Lay) → {vs : List Value} → {ds : List DVal} → VsRel c μ vs ds → VsRel c μ (layV l vs) (layD l ds)
  | [], _, _, _ => by simp [layV, layD, VsRel]
  | none :: l, vs, ds, h => by
    cases ds with
    | nil => simp only [VsRel] at h; subst h; exact layD_rel l (by simp [VsRel])
    | cons d ds =>
      simp only [VsRel] at h
      obtain ⟨v, vs', rfl, h1, h2⟩ := h
      simp only [layV, layD, VsRel]
      exact ⟨v, _, rfl, h1, layD_rel l h2⟩
  | some (g, k) :: l, vs, ds, h => by
    simp only [layV, layD, VsRel, VRel]
    exact ⟨_, _, rfl, ⟨_, rfl, h.take k⟩, layD_rel l (h.drop k)⟩
theorem layD_ids : (l : Lay) → {ds : List DVal} → ∀ id ∈ DVal.idsL (layD l ds), id ∈ DVal.idsL ds
  | [], _ => by intro id h; cases h
  | none :: l, [] => fun id h => layD_ids l id h
  | none :: l, d :: ds => by
    intro id h
    simp only [layD, DVal.idsL, List.mem_append] at h ⊢
    exact h.imp (fun h => h) (layD_ids l id)
  | some (g, k) :: l, ds => by
    intro id h
    simp only [layD, DVal.idsL, DVal.ids, List.mem_append] at h
    rcases h with h | h
    · obtain ⟨d, hd, hi⟩ := mem_idsL.1 h
      exact mem_idsL.2 ⟨d, List.mem_of_mem_take hd, hi⟩
    · obtain ⟨d, hd, hi⟩ := mem_idsL.1 (layD_ids l id h)
      exact mem_idsL.2 ⟨d, List.mem_of_mem_drop hd, hi⟩

/-- The values behind the tokens. -/
def tokC : List Cm → List Value → Nat → Nat → Value
  | .b :: r, _ :: vs, n => tokC r vs n
  | .i _ :: r, _ :: vs, n => tokC r vs n
  | .s :: r, _ :: vs, n => tokC r vs n
  | .ro _ :: r, v :: vs, n => fun k => if k = n then v else tokC r vs (n + 1) k
  | .own _ :: r, _ :: vs, n => tokC r vs (n + 1)
  | .mut _ :: r, _ :: vs, n => tokC r vs (n + 1)
  | _, _, _ => fun _ => Go.undef
def tokI (w : World) : Item → Value → Nat → Nat → Value
  | ⟨false, _, cs⟩, v, n => tokC cs v.cells.toList n
  | ⟨true, _, cs⟩, .pointer (some a), n => tokC cs (cellsAt w a.block a.off cs.length) (n + 1)
  | ⟨true, _, _⟩, _, _ => fun _ => Go.undef
def tokIs (w : World) : List Item → List Value → Nat → Nat → Value
  | it :: r, v :: vs, n => fun k => if k < itN it n then tokI w it v n k else tokIs w r vs (itN it n) k
  | _, _, _ => fun _ => Go.undef

theorem Toks_of {c : Ctx} {tk : Bool} : (l : List Cm) → {vs : List Value} → {n : Nat} → (∀ k, n ≤ k → k < cmN l n → c.tok k = tokC l vs n k) → Toks c tk l vs n
  | [], _, _, _ => by simp [Toks]
  | .b :: r, [], _, _ => by simp [Toks]
  | .i _ :: r, [], _, _ => by simp [Toks]
  | .s :: r, [], _, _ => by simp [Toks]
  | .ro _ :: r, [], _, _ => by simp [Toks]
  | .own _ :: r, [], _, _ => by simp [Toks]
  | .mut _ :: r, [], _, _ => by simp [Toks]
  | .b :: r, _ :: vs, n, h => Toks_of r h
  | .i _ :: r, _ :: vs, n, h => Toks_of r h
  | .s :: r, _ :: vs, n, h => Toks_of r h
  | .ro _ :: r, v :: vs, n, h => by
    have l1 := cmN_le r (n + 1)
    have h : ∀ k, n ≤ k → k < cmN r (n + 1) → c.tok k = if k = n then v else tokC r vs (n + 1) k := h
    refine ⟨fun _ => ?_, Toks_of r fun k h1 h2 => ?_⟩
    · rw [h n (Nat.le_refl n) (by omega), if_pos rfl]
    · rw [h k (by omega) h2, if_neg (by omega)]
  | .own _ :: r, _ :: vs, n, h => Toks_of r fun k h1 h2 => h k (by omega) h2
  | .mut _ :: r, _ :: vs, n, h => Toks_of r fun k h1 h2 => h k (by omega) h2
theorem ToksIs_of {c : Ctx} {tk : Bool} {w : World} : (l : List Item) → {vs : List Value} → {n : Nat} → (∀ k, n ≤ k → k < itsN l n → c.tok k = tokIs w l vs n k) → ToksIs c tk w l vs n
  | [], _, _, _ => by simp [ToksIs]
  | it :: r, [], _, _ => by simp [ToksIs]
  | it :: r, v :: vs, n, h => by
    have h : ∀ k, n ≤ k → k < itsN r (itN it n) → c.tok k = if k < itN it n then tokI w it v n k else tokIs w r vs (itN it n) k := h
    have l1 := itN_le it n
    have l2 := itsN_le r (itN it n)
    refine ⟨?_, ToksIs_of r fun k h1 h2 => ?_⟩
    · obtain ⟨p, a, cs⟩ := it
      cases p with
      | false =>
        refine Toks_of cs fun k h1 h2 => ?_
        have h2 : k < itN ⟨false, a, cs⟩ n := h2
        rw [h k h1 (by omega), if_pos h2]; rfl
      | true =>
        intro B o e
        subst e
        refine Toks_of cs fun k h1 h2 => ?_
        have h2 : k < itN ⟨true, a, cs⟩ n := h2
        rw [h k (by omega) (by omega), if_pos h2]; rfl
    · rw [h k (by omega) h2, if_neg (by omega)]

def resGet (tmps : Array Value) : ResultVar → Sem Value
  | .tmp t => pure (tmps.getD t Go.undef)
  | .cell a t => do loadVar t (← asAddr (tmps.getD a Go.undef))

theorem results_list {fn : Func} {rl : List ResultVar} (h : fn.results = rl.toArray) (hl : rl.length ≤ 6) {tmps : Array Value} {P : Program} {w : World} {vals : List Value}
    (hv : rl.map (fun r => (resGet tmps r).run P w) = vals.map fun v => .ok v w) : (results fn tmps).run P w = .ok (retV vals) w := by
  have he : results fn tmps = (do
      let vs ← fn.results.mapM (resGet tmps)
      pure (if h : vs.size = 1 then vs[0] else .tuple vs)) := by
    unfold results
    congr 1
  rw [he, h]
  clear he h
  rcases rl with _ | ⟨a, _ | ⟨b, _ | ⟨c, _ | ⟨d, _ | ⟨e, _ | ⟨f, _ | ⟨g, l⟩⟩⟩⟩⟩⟩⟩ <;> rcases vals with _ | ⟨u1, _ | ⟨u2, _ | ⟨u3, _ | ⟨u4, _ | ⟨u5, _ | ⟨u6, _ | ⟨u7, m⟩⟩⟩⟩⟩⟩⟩ <;>
    first
      | (simp at hv; done)
      | (exfalso; simp only [List.length_cons] at hl; omega)
      | (simp at hv; simp [hv, retV]; done)
      | simp [retV]

theorem resDs_rel {c : Ctx} {C : Cx} (hC : CxOk C c.P) {μ : Nat → Loc} {fp : Nat → List Nat} {s : DSt} {n : Nat} {a : Act} {w : World} (h : RelX c μ fp s.f n a w) :
    ∀ (rl : List ResultVar) {ds : List DVal}, resDs C s rl = some ds → ∃ vals, VsRel c μ vals ds ∧ rl.map (fun r => (resGet a.tmps r).run c.P w) = vals.map fun v => .ok v w
  | [], ds, hd => by
    cases hd
    exact ⟨[], by simp [VsRel], rfl⟩
  | r :: l, ds, hd => by
    simp only [resDs] at hd
    obtain ⟨d, h1, hd⟩ := Option.bind_eq_some_iff.1 hd
    obtain ⟨q, h2, rfl⟩ := Option.map_eq_some_iff.1 hd
    obtain ⟨vals, g1, g2⟩ := resDs_rel hC h l h2
    have hone : ∃ v, VRel c μ v d ∧ (resGet a.tmps r).run c.P w = .ok v w := by
      cases r with
      | tmp j =>
        obtain rfl := Option.some.inj h1
        exact ⟨_, h.tm j, by simp [resGet]⟩
      | cell j t =>
        simp only [resD] at h1
        split at h1
        case h_2 => cases h1
        rename_i id off hj
        split at h1
        case h_2 => cases h1
        rename_i cs hcs
        obtain ⟨ty, hty, h1⟩ := Option.bind_eq_some_iff.1 h1
        split at h1
        case isFalse => cases h1
        rename_i hle
        obtain rfl := Option.some.inj h1
        have hv := h.tm j
        have hj : s.f.t j = .vptr id off := hj
        rw [hj] at hv
        simp only [VRel] at hv
        obtain ⟨B, o, e1, e2⟩ := hv
        have hcs : s.f.v id = some (.var cs) := hcs
        obtain ⟨B', o', D, T, e3, e4, e5, e6, e7, e8, _⟩ := h.vs.rel id _ hcs
        rw [e1] at e3; cases e3
        have hsub : cellsAt w B (o + off) ty.size = ((cellsAt w B o cs.length).drop off).take ty.size := cellsAt_sub hle
        have hr : VsRel c μ (cellsAt w B (o + off) ty.size) ((cs.drop off).take ty.size) := by rw [hsub]; exact (e7.drop off).take ty.size
        have hlen : ((cs.drop off).take ty.size).length = ty.size := by simp; omega
        refine ⟨_, mkVal_rel hr hlen, ?_⟩
        simp only [resGet, e2]
        have := loadVar_run (w := w) (hC.ty t ty hty) (B := B) (o' := o + off) rfl (hr.length.trans hlen)
        simpa [asAddr] using this
    obtain ⟨v, hv, hrun⟩ := hone
    exact ⟨v :: vals, by simp only [VsRel]; exact ⟨v, vals, rfl, hv, g1⟩, by simp only [List.map_cons, hrun, g2]⟩

theorem enterIs_ids (tk : Bool) : (l : List Item) → (x : itemsD l) → (n : Nat) → ∀ id ∈ DVal.idsL (enterIs tk l x n).1, n ≤ id ∧ id < itsN l n
  | [], _, _ => by intro id h; cases h
  | it :: r, x, n => by
    intro id h
    have h : id ∈ (enterI tk it x.1 n).1.ids ++ DVal.idsL (enterIs tk r x.2 (enterI tk it x.1 n).2.2).1 := h
    rw [enterI_N] at h
    have l1 := itN_le it n
    have l2 := itsN_le r (itN it n)
    simp only [itsN]
    rcases List.mem_append.1 h with h | h
    · have := enterI_ids tk it x.1 n id h; omega
    · have := enterIs_ids tk r x.2 _ id h; omega

theorem gpos {S : Nat → Prop} {w : World} : (l : List Item) → {vs : List Value} → {x : itemsD l} → {f : List Nat} → {g : List (Nat × Nat × Nat)} → (l.all fun it => decide (0 < it.cs.length)) = true → ItemsRep S w l vs x f g → ∀ B o m, (B, o, m) ∈ g → 0 < m
  | [], _, _, _, _, _, h => by simp only [ItemsRep] at h; obtain ⟨_, rfl, rfl⟩ := h; simp
  | it :: r, _, _, _, _, hp, h => by
    simp only [ItemsRep] at h; obtain ⟨v, vs', f1, f2, g1, g2, rfl, rfl, rfl, h1, h⟩ := h
    simp only [List.all_cons, Bool.and_eq_true, decide_eq_true_eq] at hp
    intro B o m hm
    rcases List.mem_append.1 hm with hm | hm
    · obtain ⟨p, a, cs⟩ := it
      cases p with
      | false => simp only [ItemRep] at h1; rw [h1.1] at hm; cases hm
      | true =>
        simp only [ItemRep] at h1
        obtain ⟨B', o', C, T, rfl, _, hb, _⟩ := h1
        simp only [List.mem_singleton, Prod.mk.injEq] at hm
        obtain ⟨rfl, _, rfl⟩ := hm
        exact hp.1
    · exact gpos r hp.2 h B o m hm

mutual
theorem VRel.setLoc {c : Ctx} {l μ : Nat → Loc} : {v : Value} → (d : DVal) → VRel c μ v d → VRel { c with loc := l } μ v d
  | _, .dead, h => h
  | _, .deadc, h => h
  | _, .undef, h => h
  | _, .b _, h => h
  | _, .i _ _, h => h
  | _, .s _, h => h
  | _, .ro _ _ _, h => h
  | _, .nilS, h => h
  | _, .sref id none, h => h
  | _, .sref id (some (o, l)), h => h
  | _, .vptr id off, h => h
  | _, .eptr id i off, h => h
  | _, .rop _ _ _, h => h
  | _, .agg ds, h => by simp only [VRel] at h ⊢; obtain ⟨vs, e, h⟩ := h; exact ⟨vs, e, VsRel.setLoc ds h⟩
  | _, .tup ds, h => by simp only [VRel] at h ⊢; obtain ⟨vs, e, h⟩ := h; exact ⟨vs, e, VsRel.setLoc ds h⟩
  | _, .fn f ds, h => by simp only [VRel] at h ⊢; obtain ⟨vs, e, h⟩ := h; exact ⟨vs, e, VsRel.setLoc ds h⟩
theorem VsRel.setLoc {c : Ctx} {l μ : Nat → Loc} : {vs : List Value} → (ds : List DVal) → VsRel c μ vs ds → VsRel { c with loc := l } μ vs ds
  | _, [], h => h
  | _, d :: ds, h => by
    simp only [VsRel] at h ⊢; obtain ⟨v, vs', e, h1, h2⟩ := h
    exact ⟨v, vs', e, VRel.setLoc d h1, VsRel.setLoc ds h2⟩
end
theorem RelV.setLoc {c : Ctx} {l μ : Nat → Loc} {fp : Nat → List Nat} {v : Env} {w : World} (h : RelV c μ fp v w) : RelV { c with loc := l } μ fp v w := by
  refine ⟨fun id x hx => ?_, h.nodup, h.sep, h.notS, h.lt⟩
  have := h.rel id x hx
  cases x with
  | var cs =>
    obtain ⟨B, o, C, E, h1, h2, h3, h4, h5, h6, h7⟩ := this
    exact ⟨B, o, C, E, h1, h2, h3, h4, VsRel.setLoc cs h5, h6, h7⟩
  | arr e xs => exact this
  | foc e xs x i off u id' => exact this

/-- What is told of a function, by its body. -/
structure BodyOk (P : Program) (C : Cx) (K : Con) (fn : Func) (code : Code) (rtm : List ResultVar) (A : Nat → Option LoopAnn) : Prop where
  func : P.funcs[K.f]? = some fn
  body : fn.body = some code
  name : (fn.name == "runtime.NumGoroutine") = false
  res : fn.results = rtm.toArray
  few : rtm.length ≤ 6
  cnt : itsN K.its 0 ≤ 64
  pos : (K.rs.all fun it => decide (0 < it.cs.length)) = true
  run : ∀ x y, itemsWF K.its x → (K.F x).eval = some y → (bodyOut C A code K.its K.lay fn.ntmps K.rs rtm x).eval = some y

theorem con_of_body {P : Program} {C : Cx} {K : Con} {fn : Func} {code : Code} {rtm : List ResultVar} {A : Nat → Option LoopAnn} (hC : CxOk C P) (hF : CallsOk C P) (hm : P.follows .mixedOrders = true) (h : BodyOk P C K fn code rtm A) : K.Ok P := by
  intro x y hy S w hS ivs f g hrep hnd hns
  refine ⟨⟨fn, h.func, h.name, by rw [h.body]; rfl⟩, calls_of_wp h.func h.body ?_⟩
  have hev0 : ∀ tok loc, Ev (ctxOf P S w f g tok loc hS) w := fun tok loc => ⟨Nat.le_refl _, rfl, rfl, fun _ _ => rfl, fun _ _ => .inl rfl, fun _ => rfl⟩
  have hlt := ItemsRep_lt K.its hrep
  -- the variables at the start
  have hen : ∃ μ fp, VsRel (ctxOf P S w f g (tokIs w K.its ivs 0) μ hS) μ ivs (enterIs true K.its x 0).1 ∧
      Pool (ctxOf P S w f g (tokIs w K.its ivs 0) μ hS) (fun id => False ∨ (0 ≤ id ∧ id < itsN K.its 0)) μ fp (updF (fun _ => none) (news (enterIs true K.its x 0).2.1)) w [] := by
    let c0 := ctxOf P S w f g (tokIs w K.its ivs 0) default hS
    have hpool : Pool c0 (fun _ => False) default (fun _ => []) (fun _ => none) w (f ++ g.map (·.1) ++ []) := by
      rw [List.append_nil]
      refine ⟨⟨by simp, by simp, by simp, by simp, by simp⟩, by simp, hnd, by simp, fun b hb => ⟨hns b hb, hlt b hb⟩⟩
    obtain ⟨μ, fp, h1, h2, _⟩ := enterIs_rel true (S := S) (fun b hb => ⟨hb, rfl⟩) K.its hpool hrep (ToksIs_of K.its fun k _ _ => rfl) (fun b hb _ j => .inl hb)
      (fun B o m hb _ j hj => .inr ⟨o, m, hb, by omega, by omega⟩) (fun _ _ _ h => h)
    refine ⟨μ, fp, VsRel.setLoc (c := c0) _ h1, ⟨RelV.setLoc (c := c0) h2.rel, h2.known, h2.nodup, h2.far, h2.ok⟩⟩
  obtain ⟨μ, fp, hvs, hpool⟩ := hen
  let c := ctxOf P S w f g (tokIs w K.its ivs 0) μ hS
  have hids : ∀ id ∈ DVal.idsL (enterIs true K.its x 0).1, id < 64 := fun id hi => Nat.lt_of_lt_of_le (enterIs_ids true K.its x 0 id hi).2 h.cnt
  have hlay := layD_rel K.lay hvs
  have hsz : (layV K.lay ivs).length = (layD K.lay (enterIs true K.its x 0).1).length := hlay.length
  have hk64 : ∀ id, id < 64 → id / 64 ∈ [0] := fun id hi => by rw [Nat.div_eq_of_lt hi]; simp
  have hund : ∀ m, VsRel c μ (List.replicate m Go.undef) (List.replicate m .undef) := fun m => by
    induction m with
    | zero => simp [VsRel]
    | succ m ih => simp only [List.replicate_succ, VsRel]; exact ⟨_, _, rfl, by simp [VRel], ih⟩
  let n := (entry K.its K.lay fn.ntmps x).t.length
  have htm : VsRel c μ ((layV K.lay ivs).toArray ++ Array.replicate (fn.ntmps - (layV K.lay ivs).toArray.size) Go.undef).toList (entry K.its K.lay fn.ntmps x).t := by
    simp only [Array.toList_append, Array.toList_replicate, List.size_toArray]
    rw [hsz]
    exact hlay.append (hund _)
  have hD : DRel c n (entry K.its K.lay fn.ntmps x) { tmps := (layV K.lay ivs).toArray ++ Array.replicate (fn.ntmps - (layV K.lay ivs).toArray.size) Go.undef, defers := [] } w := by
    refine ⟨⟨μ, fp, ?_, ?_, rfl, ?_, ⟨?_, ?_⟩, hev0 _ _, fun id hi => ⟨hk64 id hi, rfl⟩⟩, fun d b hf => (by cases hf), rfl⟩
    · intro j
      show VRel c μ _ ((entry K.its K.lay fn.ntmps x).t.getD j .dead)
      rw [List.getD_eq_getElem?_getD]
      cases hj : (entry K.its K.lay fn.ntmps x).t[j]? with
      | none => simp [VRel]
      | some d =>
        obtain ⟨u, hu, hr⟩ := htm.get hj
        rw [Array.getD_eq_getD_getElem?, ← Array.getElem?_toList, hu]
        exact hr
    · show (entry K.its K.lay fn.ntmps x).t.length ≤ Array.size _
      rw [← htm.length, Array.length_toList]
      exact Nat.le_refl _
    · show RelV c μ fp (lookV (updV [] (news (enterIs true K.its x 0).2.1))) w
      rw [lookV_upd]
      exact hpool.rel
    · intro j id hi
      have hi : id ∈ ((entry K.its K.lay fn.ntmps x).t.getD j .dead).ids := hi
      rw [List.getD_eq_getElem?_getD] at hi
      cases hj : (entry K.its K.lay fn.ntmps x).t[j]? with
      | none => rw [hj] at hi; cases hi
      | some d =>
        rw [hj] at hi
        have hm := List.mem_of_getElem? hj
        simp only [entry, List.mem_append, List.mem_replicate] at hm
        refine hk64 id (hids id (layD_ids K.lay id ?_))
        rcases hm with hm | ⟨_, rfl⟩
        · exact mem_idsL.2 ⟨d, hm, hi⟩
        · cases hi
    · intro id z hz
      have hz : lookV (updV [] (news (enterIs true K.its x 0).2.1)) id = some z := hz
      rw [lookV_upd] at hz
      have := hpool.known id z hz
      have hh : ∀ i, (False ∨ 0 ≤ i ∧ i < itsN K.its 0) → i / 64 ∈ [0] := fun i hi => hk64 i (by have := h.cnt; rcases hi with hi | hi; exact hi.elim; omega)
      exact ⟨hh id this.1, fun i hi => hh i (this.2 i hi)⟩
  -- the run
  have hrun := h.run x y (ItemsRep_WF K.its hrep) hy
  obtain ⟨r, hr, hrun⟩ := bind_eval hrun
  refine wp_mono (dexec_sound (c := c) (n := n) hC hF hm A code (entry K.its K.lay fn.ntmps x) r _ w hr hD) fun e a' w' he => ?_
  obtain ⟨rfl, he⟩ := he
  obtain ⟨ex, s'⟩ := r
  have hfin : (Out.of (leave C K.its K.rs rtm s') Out.ret).eval = some y → a'.defers = [] ∧ ∃ v, (results fn a'.tmps).run P w' = .ok v w' ∧ Done P S w hS K ivs f g y v w' := by
    intro hrun
    obtain ⟨z, hz, hrun⟩ := of_eval hrun
    obtain rfl := Option.some.inj hrun
    obtain ⟨⟨μ', fp', hx⟩, _, _⟩ := he
    unfold leave at hz
    obtain ⟨dr, hdr, hz⟩ := Option.bind_eq_some_iff.1 hz
    obtain ⟨rvs, hvs', hrun'⟩ := resDs_rel hC hx rtm hdr
    refine ⟨hx.defers, _, results_list h.res h.few hrun', ?_⟩
    obtain ⟨p, hp, hz⟩ := Option.bind_eq_some_iff.1 hz
    obtain ⟨q, hq, hz⟩ := Option.bind_eq_some_iff.1 hz
    split at hz
    case isFalse => cases hz
    rename_i hn
    obtain rfl := Option.some.inj hz
    have hn := nodupB_iff _ hn
    have hna := List.nodup_append.1 hn
    obtain ⟨f1, g1, h1, h2⟩ := takeIs_rel (EL := noEnv) hx.vs hx.ev (fun _ _ h => h) (fun _ _ h => by cases h) (S' := S) (fun _ h => h) (fun _ h => absurd rfl h) K.rs hvs' hp hna.1
    have hag : ∀ id, id < 64 → μ' id = μ id := fun id hi => (hx.fix id hi).2
    have hivs : VsRel c μ' ivs (enterIs true K.its x 0).1 := VsRel.mono _ (fun id hi => hag id (hids id hi)) hvs
    obtain ⟨f2, h3, h4⟩ := takeBs_rel hx.vs (fun _ _ h => h) K.its hrep (ToksIs_of K.its fun k _ _ => rfl) hivs hq hna.2.1
    have h5 := h2.toGoneB.append hx.vs h4 hn
    have hperm : (f1 ++ f2 ++ (g1 ++ g).map (·.1)).Perm (f1 ++ g1.map (·.1) ++ (f2 ++ g.map (·.1))) := by rw [List.map_append]; exact perm_items _ _ _ _
    have hnd' := hperm.nodup_iff.1 h5.nodup
    refine ⟨⟨_, f1, g1, f2, rfl, h1, h3, hnd', fun b hb => ?_⟩, ⟨hx.ev.size, hx.ev.os, hx.ev.output, hx.ev.S, hx.ev.old, hx.ev.frozen⟩⟩
    rcases Nat.lt_or_ge b w.heap.size with hlt' | hge
    · left
      have hM : ∀ j, c.M b j ∨ ∃ o m, (b, o, m) ∈ g1 := by
        intro j
        simp only [List.mem_append, List.mem_map] at hb
        rcases hb with (hb | ⟨⟨B, o, m⟩, hb, rfl⟩) | hb
        · exact .inl (h2.may b hb hlt' j)
        · exact .inr ⟨o, m, hb⟩
        · exact .inl (h4.may b hb hlt' j)
      have hng : b ∉ g.map (·.1) := fun hg => by
        simp only [List.nodup_append] at hnd'
        simp only [List.mem_append] at hb
        rcases hb with hb | hb
        · exact hnd'.2.2 b (by simpa using hb) b (by simp only [List.mem_append]; exact .inr hg) rfl
        · exact hnd'.2.1.2.2 b hb b hg rfl
      have hnm : ∀ j, c.M b j → b ∈ f := fun j hj => by
        rcases hj with hj | ⟨o, m, hj, _⟩
        · exact hj
        · exact absurd (List.mem_map.2 ⟨_, hj, rfl⟩) hng
      rcases hM 0 with hm | ⟨o, m, hm⟩
      · exact hnm 0 hm
      · exact hnm _ (h2.mayG b o m hm hlt' 0 (gpos K.rs h.pos h1 b o m hm))
    · exact .inr hge
  cases ex with
  | normal => exact hfin hrun
  | ret => exact hfin hrun
  | exit m => cases hrun
end Go.Proofs.Ytjcinikojcfebaa.Dm
