/- The data machine, part 41: what is told of a function whose run is shown otherwise; a function that first asks whether a list is nil. -/
import Derived.Test.YtjcinikojcfebaaDm40
import Derived.Lib.SliceRun
namespace Go.Proofs.Ytjcinikojcfebaa.Dm
open Go

/-- What is told of a function, by its body, however that is run. -/
structure BodySim (P : Program) (C : Cx) (K : Con) (fn : Func) (code : Code) (rtm : List ResultVar) : Prop where
  func : P.funcs[K.f]? = some fn
  body : fn.body = some code
  name : (fn.name == "runtime.NumGoroutine") = false
  res : fn.results = rtm.toArray
  few : rtm.length ≤ 6
  cnt : itsN K.its 0 ≤ 64
  pos : (K.rs.all fun it => decide (0 < it.cs.length)) = true
  run : ∀ x y, itemsWF K.its x → (K.F x).eval = some y → ∀ (c : Ctx) (n : Nat) (a : Act) (w : World), c.P = P → DRel c n (entry K.its K.lay fn.ntmps x) a w →
    code.wp P (fun e a' w' => ∃ ex s', e = exOf ex ∧ DRel c n s' a' w' ∧ (∀ m, ex ≠ .exit m) ∧ leave C K.its K.rs rtm s' = some y) a w

theorem con_of_sim {P : Program} {C : Cx} {K : Con} {fn : Func} {code : Code} {rtm : List ResultVar} (hC : CxOk C P) (h : BodySim P C K fn code rtm) : K.Ok P := by
  intro x y hy S w hS ivs f g hrep hnd hns
  refine ⟨⟨fn, h.func, h.name, by rw [h.body]; rfl⟩, calls_of_wp h.func h.body ?_⟩
  have hev0 : ∀ tok loc, Ev (ctxOf P S w f g tok loc hS) w := fun tok loc => ⟨Nat.le_refl _, rfl, rfl, fun _ _ => rfl, fun _ _ => .inl rfl, fun _ => rfl⟩
  have hlt := ItemsRep_lt K.its hrep
  -- the variables at the start
  have hen : ∃ μ fp, VsRel (ctxOf P S w f g (tokIs w K.its ivs 0) μ hS) μ ivs (enterIs true K.its x 0).1 ∧
      Pool (ctxOf P S w f g (tokIs w K.its ivs 0) μ hS) (fun id => False ∨ (0 ≤ id ∧ id < itsN K.its 0)) μ fp (updF (fun _ => none) (news (enterIs true K.its x 0).2.1)) w [] := by
    let c0 := ctxOf P S w f g (tokIs w K.its ivs 0) default hS
    have hpool : Pool c0 (fun _ => False) default (fun _ => []) (fun _ => none) w (f ++ g.map (·.1) ++ []) := by
      rw [List.append_nil]
      refine ⟨⟨by simp, by simp, by simp, by simp, by simp⟩, by simp, hnd, by simp, fun b hb => ⟨hns b hb, hlt b hb⟩⟩
    obtain ⟨μ, fp, h1, h2, _⟩ := enterIs_rel true (S := S) (fun b hb => ⟨hb, rfl⟩) K.its hpool hrep (ToksIs_of K.its fun k _ _ => rfl) (fun b hb _ j => .inl hb)
      (fun B o m hb _ j hj => .inr ⟨o, m, hb, by omega, by omega⟩) (fun _ _ _ h => h)
    refine ⟨μ, fp, VsRel.setLoc (c := c0) _ h1, ⟨RelV.setLoc (c := c0) h2.rel, h2.known, h2.nodup, h2.far, h2.ok⟩⟩
  obtain ⟨μ, fp, hvs, hpool⟩ := hen
  let c := ctxOf P S w f g (tokIs w K.its ivs 0) μ hS
  have hids : ∀ id ∈ DVal.idsL (enterIs true K.its x 0).1, id < 64 := fun id hi => Nat.lt_of_lt_of_le (enterIs_ids true K.its x 0 id hi).2 h.cnt
  have hlay := layD_rel K.lay hvs
  have hsz : (layV K.lay ivs).length = (layD K.lay (enterIs true K.its x 0).1).length := hlay.length
  have hk64 : ∀ id, id < 64 → id / 64 ∈ [0] := fun id hi => by rw [Nat.div_eq_of_lt hi]; simp
  have hund : ∀ m, VsRel c μ (List.replicate m Go.undef) (List.replicate m .undef) := fun m => by
    induction m with
    | zero => simp [VsRel]
    | succ m ih => simp only [List.replicate_succ, VsRel]; exact ⟨_, _, rfl, by simp [VRel], ih⟩
  let n := (entry K.its K.lay fn.ntmps x).t.length
  have htm : VsRel c μ ((layV K.lay ivs).toArray ++ Array.replicate (fn.ntmps - (layV K.lay ivs).toArray.size) Go.undef).toList (entry K.its K.lay fn.ntmps x).t := by
    simp only [Array.toList_append, Array.toList_replicate, List.size_toArray]
    rw [hsz]
    exact hlay.append (hund _)
  have hD : DRel c n (entry K.its K.lay fn.ntmps x) { tmps := (layV K.lay ivs).toArray ++ Array.replicate (fn.ntmps - (layV K.lay ivs).toArray.size) Go.undef, defers := [] } w := by
    refine ⟨⟨μ, fp, ?_, ?_, rfl, ?_, ⟨?_, ?_⟩, hev0 _ _, fun id hi => ⟨hk64 id hi, rfl⟩⟩, fun d b hf => (by cases hf), rfl⟩
    · intro j
      show VRel c μ _ ((entry K.its K.lay fn.ntmps x).t.getD j .dead)
      rw [List.getD_eq_getElem?_getD]
      cases hj : (entry K.its K.lay fn.ntmps x).t[j]? with
      | none => simp [VRel]
      | some d =>
        obtain ⟨u, hu, hr⟩ := htm.get hj
        rw [Array.getD_eq_getD_getElem?, ← Array.getElem?_toList, hu]
        exact hr
    · show (entry K.its K.lay fn.ntmps x).t.length ≤ Array.size _
      rw [← htm.length, Array.length_toList]
      exact Nat.le_refl _
    · show RelV c μ fp (lookV (updV [] (news (enterIs true K.its x 0).2.1))) w
      rw [lookV_upd]
      exact hpool.rel
    · intro j id hi
      have hi : id ∈ ((entry K.its K.lay fn.ntmps x).t.getD j .dead).ids := hi
      rw [List.getD_eq_getElem?_getD] at hi
      cases hj : (entry K.its K.lay fn.ntmps x).t[j]? with
      | none => rw [hj] at hi; cases hi
      | some d =>
        rw [hj] at hi
        have hm := List.mem_of_getElem? hj
        simp only [entry, List.mem_append, List.mem_replicate] at hm
        refine hk64 id (hids id (layD_ids K.lay id ?_))
        rcases hm with hm | ⟨_, rfl⟩
        · exact mem_idsL.2 ⟨d, hm, hi⟩
        · cases hi
    · intro id z hz
      have hz : lookV (updV [] (news (enterIs true K.its x 0).2.1)) id = some z := hz
      rw [lookV_upd] at hz
      have := hpool.known id z hz
      have hh : ∀ i, (False ∨ 0 ≤ i ∧ i < itsN K.its 0) → i / 64 ∈ [0] := fun i hi => hk64 i (by have := h.cnt; rcases hi with hi | hi; exact hi.elim; omega)
      exact ⟨hh id this.1, fun i hi => hh i (this.2 i hi)⟩
  -- the run
  refine wp_mono (h.run x y (ItemsRep_WF K.its hrep) hy c n _ w rfl hD) fun e a' w' he => ?_
  obtain ⟨ex, s', rfl, he, hne, hlv⟩ := he
  have hfin : a'.defers = [] ∧ ∃ v, (results fn a'.tmps).run P w' = .ok v w' ∧ Done P S w hS K ivs f g y v w' := by
    have hz := hlv
    obtain ⟨⟨μ', fp', hx⟩, _, _⟩ := he
    unfold leave at hz
    obtain ⟨dr, hdr, hz⟩ := Option.bind_eq_some_iff.1 hz
    obtain ⟨rvs, hvs', hrun'⟩ := resDs_rel hC hx rtm hdr
    refine ⟨hx.defers, _, results_list h.res h.few hrun', ?_⟩
    obtain ⟨p, hp, hz⟩ := Option.bind_eq_some_iff.1 hz
    obtain ⟨q, hq, hz⟩ := Option.bind_eq_some_iff.1 hz
    split at hz
    case isFalse => cases hz
    rename_i hn
    obtain rfl := Option.some.inj hz
    have hn := nodupB_iff _ hn
    have hna := List.nodup_append.1 hn
    obtain ⟨f1, g1, h1, h2⟩ := takeIs_rel (EL := noEnv) hx.vs hx.ev (fun _ _ h => h) (fun _ _ h => by cases h) (S' := S) (fun _ h => h) (fun _ h => absurd rfl h) K.rs hvs' hp hna.1
    have hag : ∀ id, id < 64 → μ' id = μ id := fun id hi => (hx.fix id hi).2
    have hivs : VsRel c μ' ivs (enterIs true K.its x 0).1 := VsRel.mono _ (fun id hi => hag id (hids id hi)) hvs
    obtain ⟨f2, h3, h4⟩ := takeBs_rel hx.vs (fun _ _ h => h) K.its hrep (ToksIs_of K.its fun k _ _ => rfl) hivs hq hna.2.1
    have h5 := h2.toGoneB.append hx.vs h4 hn
    have hperm : (f1 ++ f2 ++ (g1 ++ g).map (·.1)).Perm (f1 ++ g1.map (·.1) ++ (f2 ++ g.map (·.1))) := by rw [List.map_append]; exact perm_items _ _ _ _
    have hnd' := hperm.nodup_iff.1 h5.nodup
    refine ⟨⟨_, f1, g1, f2, rfl, h1, h3, hnd', fun b hb => ?_⟩, ⟨hx.ev.size, hx.ev.os, hx.ev.output, hx.ev.S, hx.ev.old, hx.ev.frozen⟩⟩
    rcases Nat.lt_or_ge b w.heap.size with hlt' | hge
    · left
      have hM : ∀ j, c.M b j ∨ ∃ o m, (b, o, m) ∈ g1 := by
        intro j
        simp only [List.mem_append, List.mem_map] at hb
        rcases hb with (hb | ⟨⟨B, o, m⟩, hb, rfl⟩) | hb
        · exact .inl (h2.may b hb hlt' j)
        · exact .inr ⟨o, m, hb⟩
        · exact .inl (h4.may b hb hlt' j)
      have hng : b ∉ g.map (·.1) := fun hg => by
        simp only [List.nodup_append] at hnd'
        simp only [List.mem_append] at hb
        rcases hb with hb | hb
        · exact hnd'.2.2 b (by simpa using hb) b (by simp only [List.mem_append]; exact .inr hg) rfl
        · exact hnd'.2.1.2.2 b hb b hg rfl
      have hnm : ∀ j, c.M b j → b ∈ f := fun j hj => by
        rcases hj with hj | ⟨o, m, hj, _⟩
        · exact hj
        · exact absurd (List.mem_map.2 ⟨_, hj, rfl⟩) hng
      rcases hM 0 with hm | ⟨o, m, hm⟩
      · exact hnm 0 hm
      · exact hnm _ (h2.mayG b o m hm hlt' 0 (gpos K.rs h.pos h1 b o m hm))
    · exact .inr hge
  cases ex with
  | normal => exact hfin
  | ret => exact hfin
  | exit m => exact absurd rfl (hne m)

/-- What is no longer told of two places. -/
def DSt.drop2 (s : DSt) (i j : Nat) : DSt := { s with t := (s.t.set i .dead).set j .dead, kn := [] }
theorem DRel.drop2 {c : Ctx} {n : Nat} {s : DSt} {a : Act} {w : World} (h : DRel c n s a w) {i j : Nat} (hi : i < n) (hj : j < n) (u v : Value) : DRel c n (s.drop2 i j) ((a.put (some i) u).put (some j) v) w := by
  obtain ⟨⟨μ, fp, hx⟩, _, hl⟩ := h
  have hs : ∀ k, (s.drop2 i j).t.getD k .dead = if j = k ∨ i = k then .dead else s.t.getD k .dead := fun k => by
    unfold DSt.drop2
    simp only
    rw [getD_set (by simp; omega), getD_set (by omega)]
    by_cases e : j = k <;> by_cases e' : i = k <;> simp [e, e']
  refine ⟨⟨μ, fp, ⟨fun k => ?_, ?_, by rw [put_defers, put_defers]; exact hx.defers, hx.vs, ⟨fun k id hid => ?_, hx.known.2⟩, hx.ev, hx.fix⟩⟩, ?_, by simp [DSt.drop2, hl]⟩
  · show VRel c μ _ ((s.drop2 i j).t.getD k .dead)
    rw [hs]
    by_cases e : j = k ∨ i = k
    · rw [if_pos e]; simp [VRel]
    · rw [if_neg e, put_get (n := n) (by rw [put_size]; exact hx.n) (by intro d hd; cases hd; exact hj), if_neg (fun q => e (.inl (Option.some.inj q))), put_get (n := n) hx.n (by intro d hd; cases hd; exact hi), if_neg (fun q => e (.inr (Option.some.inj q)))]
      exact hx.tm k
  · rw [put_size, put_size]; exact hx.n
  · have hid : id ∈ ((s.drop2 i j).t.getD k .dead).ids := hid
    rw [hs] at hid
    split at hid
    · cases hid
    · exact hx.known.1 k id hid
  · intro d b hf; cases hf
theorem wpOp_value {P : Program} {ops : Array Oper} {Q : Exit → Act → World → Prop} {i : Nat} {K : Act → World → Prop} {a : Act} {w : World} {o : Oper} {v : Value} (ho : ops[i]? = some o) (hg : o.guard = none)
    (hr : (execOp a.eval o).run P w = .ok (.value v) w) (h : K (a.put o.dst v) w) : wpOp P ops Q i K a w := by
  unfold wpOp
  have hw : Region.wanted o (yielded ops a.tmps) = true := by simp [Region.wanted, hg]
  simp only [ho, hw, if_true]
  left
  unfold Oper.wp
  rw [hr]
  exact h

/-- The question whether a list is nil: where it is, it is empty. -/
theorem ask_nil {c : Ctx} {n : Nat} {s : DSt} {a : Act} {w : World} (h : DRel c n s a w) (hn : 5 ≤ n) {e : Ty} {x : List e.D} {tk : Option Nat} (h0 : s.t.getD 0 .dead = .ro e x tk) {tid te : TypeId} (hU : c.P.underlying tid = some (.slice te)) {rid : Nat} {o3 o4 : Oper} {A : Code} {Q : Exit → Act → World → Prop}
    (h3 : o3.op = .move (.tmp 0)) (g3 : o3.guard = none) (d3 : o3.dst = some 3) (h4 : o4.op = .binOp .eql tid (.tmp 3) (.const (.slice none 0 0)) tid) (g4 : o4.guard = none) (d4 : o4.dst = some 4)
    (hA : x = [] → ∀ a', DRel c n (s.drop2 3 4) a' w → A.wp c.P Q a' w) (hB : ∀ a', DRel c n (s.drop2 3 4) a' w → Q .normal a' w) :
    (Code.seq (.region rid #[o3, o4] false) (.cond (.tmp 4) A .skip)).wp c.P Q a w := by
  obtain ⟨⟨μ, fp, hx⟩, hk, hl⟩ := h
  have h : DRel c n s a w := ⟨⟨μ, fp, hx⟩, hk, hl⟩
  have hv := hx.tm 0
  rw [show s.f.t 0 = s.t.getD 0 .dead from rfl, h0] at hv
  simp only [VRel, Ty.repS] at hv
  obtain ⟨⟨ad, cap, hv, hc, hd⟩, _⟩ := hv
  generalize hva : a.tmps.getD 0 Go.undef = v at hv
  have hv : v = .slice ad x.length cap := by simpa using hv
  subst hv
  have hnil : ad.isNone = true → x = [] := fun e1 => by
    rcases hd with hd | ⟨b, o, hd, _⟩
    · exact hd
    · rw [hd] at e1; cases e1
  have hD := h.drop2 (i := 3) (j := 4) (by omega) (by omega) (.slice ad x.length cap) (.bool ad.isNone)
  have he4 : ((a.put (some 3) (.slice ad x.length cap)).put (some 4) (.bool ad.isNone)).eval (.tmp 4) = .bool ad.isNone := by
    show Array.getD _ 4 Go.undef = _
    rw [put_get (n := n) (dst := some 4) (by rw [put_size]; exact hx.n) (fun d hd => by rw [← Option.some.inj hd]; exact (show (4 : Nat) < n by omega)), if_pos rfl]
  refine wp_seq (wp_region ?_)
  show wpOps c.P #[o3, o4] _ [0, 1] a w
  rw [wpOps_cons]
  refine wpOp_value (o := o3) (v := .slice ad x.length cap) rfl g3 (by
    have : a.eval (.tmp 0) = .slice ad x.length cap := hva
    simp [execOp, h3, this]) ?_
  rw [wpOps_cons, d3]
  refine wpOp_value (o := o4) (v := .bool ad.isNone) rfl g4 (by
    have : (a.put (some 3) (.slice ad x.length cap)).eval (.tmp 3) = .slice ad x.length cap := by
      show Array.getD _ 3 Go.undef = _
      rw [put_get (n := n) (dst := some 3) hx.n (fun d hd => by rw [← Option.some.inj hd]; exact (show (3 : Nat) < n by omega)), if_pos rfl]
    have e2 : (a.put (some 3) (.slice ad x.length cap)).eval (.const (.slice none 0 0)) = .slice none 0 0 := rfl
    have hg : (eqGuard .eql tid (.tmp 3) (.const (.slice none 0 0)) (.slice ad x.length cap) (.slice none 0 0)).run c.P w = .ok () w := by simp [eqGuard]
    simp [execOp, h4, this, e2, hg, Go.Lib.run_eql_slice_nil w tid te ad x.length cap 0 0 hU]) ?_
  rw [d4]
  show Code.wp _ _ _ _ _
  cases hb : ad.isNone with
  | true =>
    rw [hb] at he4 hD
    exact wp_cond_true he4 (hA (hnil hb) _ hD)
  | false =>
    rw [hb] at he4 hD
    exact wp_cond_false he4 (wp_skip (hB _ hD))

/-- What a body comes to that begins with the question whether a list is nil: where it is, and where it is not. -/
def askOut (C : Cx) (An : Nat → Option LoopAnn) (R B : Code) (its : List Item) (lay : Lay) (ntmps : Nat) (rs : List Item) (rtm : List ResultVar) (x : itemsD its) : Out (itemsD rs × backD its) :=
  (dexec C An R (entry its lay ntmps x)).bind fun r =>
    match r.1 with
    | .normal => (dexec C An B (r.2.drop2 3 4)).bind fun r =>
      match r.1 with
      | .exit _ => .fail
      | _ => .of (leave C its rs rtm r.2) .ret
    | _ => .fail
theorem end_sound {c : Ctx} {n : Nat} {C : Cx} (hC : CxOk C c.P) (hF : CallsOk C c.P) (hm : c.P.follows .mixedOrders = true) {An : Nat → Option LoopAnn} {B : Code} {its rs : List Item} {rtm : List ResultVar} {s : DSt} {a : Act} {w : World} (h : DRel c n s a w) {y : itemsD rs × backD its}
    (hr : ((dexec C An B s).bind fun r => match r.1 with | .exit _ => Out.fail | _ => .of (leave C its rs rtm r.2) .ret).eval = some y) :
    B.wp c.P (fun e a' w' => ∃ ex s', e = exOf ex ∧ DRel c n s' a' w' ∧ (∀ m, ex ≠ .exit m) ∧ leave C its rs rtm s' = some y) a w := by
  obtain ⟨⟨ex, s'⟩, hq, hr⟩ := bind_eval hr
  refine wp_mono (dexec_sound hC hF hm An B s _ a w hq h) fun e a' w' he => ?_
  obtain ⟨rfl, he⟩ := he
  cases ex with
  | exit m => cases hr
  | normal =>
    obtain ⟨z, hz, hr⟩ := of_eval hr
    obtain rfl := Option.some.inj hr
    exact ⟨.normal, s', rfl, he, fun m => by simp, hz⟩
  | ret =>
    obtain ⟨z, hz, hr⟩ := of_eval hr
    obtain rfl := Option.some.inj hr
    exact ⟨.ret, s', rfl, he, fun m => by simp, hz⟩
/-- The contract of such a function. -/
theorem ask_run {C : Cx} {c : Ctx} {n : Nat} (hC : CxOk C c.P) (hF : CallsOk C c.P) (hm : c.P.follows .mixedOrders = true) {An : Nat → Option LoopAnn} {R A B : Code} {its rs : List Item} {lay : Lay} {ntmps : Nat} {rtm : List ResultVar} {x : itemsD its} {e : Ty} {l : List e.D} {tk : Option Nat}
    {tid te : TypeId} (hU : c.P.underlying tid = some (.slice te)) {rid : Nat} {o3 o4 : Oper}
    (h3 : o3.op = .move (.tmp 0)) (g3 : o3.guard = none) (d3 : o3.dst = some 3) (h4 : o4.op = .binOp .eql tid (.tmp 3) (.const (.slice none 0 0)) tid) (g4 : o4.guard = none) (d4 : o4.dst = some 4)
    (hs0 : ∀ s1, (dexec C An R (entry its lay ntmps x)).eval = some (.normal, s1) → s1.t.getD 0 .dead = .ro e l tk) (h5 : 5 ≤ n) {y : itemsD rs × backD its}
    (hB : (askOut C An R B its lay ntmps rs rtm x).eval = some y) (hA : l = [] → (askOut C An R A its lay ntmps rs rtm x).eval = some y) {a : Act} {w : World} (h : DRel c n (entry its lay ntmps x) a w)
    (hret : ∀ s r, (dexec C An A s).eval = some r → r.1 = .ret) :
    (Code.seq R (.seq (.seq (.region rid #[o3, o4] false) (.cond (.tmp 4) A .skip)) B)).wp c.P (fun e a' w' => ∃ ex s', e = exOf ex ∧ DRel c n s' a' w' ∧ (∀ m, ex ≠ .exit m) ∧ leave C its rs rtm s' = some y) a w := by
  unfold askOut at hB
  obtain ⟨⟨ex, s1⟩, hq, hB⟩ := bind_eval hB
  refine wp_seq (wp_mono (dexec_sound hC hF hm An R _ _ a w hq h) fun e a1 w1 he => ?_)
  obtain ⟨rfl, he⟩ := he
  cases ex with
  | exit m => cases hB
  | ret => cases hB
  | normal =>
    refine wp_seq (ask_nil he h5 (hs0 s1 hq) hU h3 g3 d3 h4 g4 d4 (fun hl a2 h2 => ?_) (fun a2 h2 => end_sound hC hF hm h2 hB))
    have hA := hA hl
    unfold askOut at hA
    obtain ⟨r2, hq2, hA⟩ := bind_eval hA
    rw [hq] at hq2
    obtain rfl := Option.some.inj hq2
    obtain ⟨r3, hq3, hA⟩ := bind_eval hA
    have hr3 := hret _ _ hq3
    obtain ⟨ex3, s3⟩ := r3
    obtain rfl : ex3 = .ret := hr3
    obtain ⟨z, hz, hA⟩ := of_eval hA
    obtain rfl := Option.some.inj hA
    refine wp_mono (dexec_sound hC hF hm An A _ _ a2 w1 hq3 h2) fun e a' w' he => ?_
    obtain ⟨rfl, he⟩ := he
    exact ⟨.ret, s3, rfl, he, fun m => by simp, hz⟩
theorem ret_last {C : Cx} {An : Nat → Option LoopAnn} {id : Nat} {ops : Array Oper} {d : Bool} {s : DSt} {r : Ex × DSt} (h : (dexec C An (.seq (.region id ops d) .ret) s).eval = some r) : r.1 = .ret := by
  simp only [dexec] at h
  obtain ⟨q, hq, h⟩ := bind_eval h
  obtain ⟨s', _, hq⟩ := bind_eval hq
  obtain rfl := Option.some.inj hq
  obtain rfl := Option.some.inj h
  rfl
def tmp0 : Out (Ex × DSt) → DVal
  | .ret r => r.2.t.getD 0 .dead
  | _ => .dead
/-- slices.Clone and its like. -/
theorem con_of_ask {P : Program} {C : Cx} {K : Con} {fn : Func} {code : Code} {rtm : List ResultVar} {An : Nat → Option LoopAnn} (hC : CxOk C P) (hF : CallsOk C P) (hm : P.follows .mixedOrders = true)
    {R B : Code} {rid ia : Nat} {oa : Array Oper} {da : Bool} {o3 o4 : Oper} {tid te : TypeId} {e : Ty} {tk : Option Nat} (l : itemsD K.its → List e.D) (func : P.funcs[K.f]? = some fn) (body : fn.body = some code) (name : (fn.name == "runtime.NumGoroutine") = false) (res : fn.results = rtm.toArray)
    (few : rtm.length ≤ 6) (cnt : itsN K.its 0 ≤ 64) (pos : (K.rs.all fun it => decide (0 < it.cs.length)) = true)
    (hcode : code = .seq R (.seq (.seq (.region rid #[o3, o4] false) (.cond (.tmp 4) (.seq (.region ia oa da) .ret) .skip)) B)) (hU : P.underlying tid = some (.slice te))
    (h3 : o3.op = .move (.tmp 0)) (g3 : o3.guard = none) (d3 : o3.dst = some 3) (h4 : o4.op = .binOp .eql tid (.tmp 3) (.const (.slice none 0 0)) tid) (g4 : o4.guard = none) (d4 : o4.dst = some 4)
    (hs0 : ∀ x, tmp0 (dexec C An R (entry K.its K.lay fn.ntmps x)) = .ro e (l x) tk) (h5 : ∀ x, 5 ≤ (entry K.its K.lay fn.ntmps x).t.length)
    (hB : ∀ x y, itemsWF K.its x → (K.F x).eval = some y → (askOut C An R B K.its K.lay fn.ntmps K.rs rtm x).eval = some y)
    (hA : ∀ x y, itemsWF K.its x → l x = [] → (K.F x).eval = some y → (askOut C An R (.seq (.region ia oa da) .ret) K.its K.lay fn.ntmps K.rs rtm x).eval = some y) : K.Ok P := by
  refine con_of_sim hC ⟨func, body, name, res, few, cnt, pos, fun x y hw hy c n a w hP hD => ?_⟩
  subst hP
  rw [hcode]
  refine ask_run (tk := tk) hC hF hm hU h3 g3 d3 h4 g4 d4 (fun s1 hs => ?_) (hD.len ▸ h5 x) (hB x y hw hy) (fun hl => hA x y hw hl hy) hD fun s r h => ret_last h
  have := hs0 x
  revert hs this
  generalize dexec C An R (entry K.its K.lay fn.ntmps x) = o
  intro hs this
  cases o with
  | ret r => obtain rfl := Option.some.inj hs; exact this
  | _ => cases this
/-- The parts of such a body. -/
def cSeqL : Code → Code
  | .seq a _ => a
  | _ => .skip
def cSeqR : Code → Code
  | .seq _ b => b
  | _ => .skip
def cThen : Code → Code
  | .cond _ a _ => a
  | _ => .skip
def cOps : Code → Array Oper
  | .region _ ops _ => ops
  | _ => #[]
def cOp (c : Code) (i : Nat) : Oper := (cOps c).getD i ⟨none, .move (.tmp 0), 0, "", #[], none⟩
end Go.Proofs.Ytjcinikojcfebaa.Dm
