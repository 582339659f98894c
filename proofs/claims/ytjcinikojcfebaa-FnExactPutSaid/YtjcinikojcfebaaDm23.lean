/- The data machine, part 23: operations on states change places. -/
import Derived.Test.YtjcinikojcfebaaDm22
namespace Go.Proofs.Ytjcinikojcfebaa.Dm
open Go

/-- An operation that was done: all that is to be known of it. -/
structure Did where
  i : Nat
  g : Nat
  o : Oper
  op : Op
  gd : Option (Nat × Bool)
  skip : Bool
  T : List Nat
  r : Res

def Did.mk' (l : Did) : Bool := makes l.g l.r.2
def Did.log (l : Did) : Log :=
  { i := l.i, g := l.g, mkd := l.mk', dst := l.o.dst, reads := (if l.skip then [] else tmpsOf (opnds l.o.op)) ++ (l.gd.map (·.1)).toList, T := l.T, U := l.r.2.map (·.1) }

/-- An operation and what may be done in its place. -/
def OpEq (t : Nat → DVal) (op op' : Op) : Prop :=
  op' = op ∨ ∃ x y z, op = .pick x y z ∧ ((evF t x = .b true ∧ op' = .move y) ∨ (evF t x = .b false ∧ op' = .move z))

def GuardOk (l : Did) (t : Nat → DVal) : Prop :=
  match l.gd with
  | none => l.skip = false
  | some (d, want) => if l.skip then t d = .b (!want) ∨ t d = .undef else t d = .b want

structure Pre (C : Cx) (n : Nat) (l : Did) (s : FSt) : Prop where
  guard : GuardOk l s.t
  dst : ∀ d, l.o.dst = some d → d < n
  skip : l.skip = true → l.r = (.undef, []) ∧ l.T = []
  eq : l.skip = false → OpEq s.t l.o.op l.op
  core : l.skip = false → (core C l.op l.o.type (evF s.t) (envR l.T s.v) (l.g * 64)).eval = some l.r
  res : okRes l.T l.g l.r = true
  known : ∀ id ∈ l.T, s.k id
  fresh : l.skip = false → ∀ id, id / 64 = l.g → ¬ s.k id

def post (l : Did) (s : FSt) : FSt where
  t := fun j => if l.o.dst = some j then l.r.1 else s.t j
  v := updF s.v l.r.2
  k := fun id => s.k id ∨ (l.mk' = true ∧ id / 64 = l.g)

theorem mem_tmpsOf {j : Nat} : {l : List Operand} → j ∈ tmpsOf l ↔ Operand.tmp j ∈ l
  | [] => by simp [tmpsOf]
  | x :: l => by
    cases x with
    | tmp k => simp [tmpsOf, mem_tmpsOf (l := l)]
    | _ => simp [tmpsOf, mem_tmpsOf (l := l)]

theorem evF_congr {t t' : Nat → DVal} {x : Operand} (h : ∀ j, x = .tmp j → t j = t' j) : evF t x = evF t' x := by
  cases x with
  | tmp j => exact h j rfl
  | _ => rfl

theorem updF_other (v : Env) : ∀ (u : Upd) {id : Nat}, id ∉ u.map (·.1) → updF v u id = v id
  | [], _, _ => rfl
  | (k, x) :: u, id, h => by
    simp only [List.map_cons, List.mem_cons, not_or] at h
    simp only [updF]
    rw [updF_other _ u h.2]
    exact if_neg h.1
theorem updF_same (v v' : Env) : ∀ (u : Upd) {id : Nat}, (v id = v' id ∨ id ∈ u.map (·.1)) → updF v u id = updF v' u id
  | [], _, h => by simpa [updF] using h
  | (k, x) :: u, id, h => by
    simp only [updF]
    apply updF_same _ _ u
    simp only [List.map_cons, List.mem_cons] at h
    by_cases hk : id = k
    · left; simp [hk]
    · simp only [hk, if_false]
      rcases h with h | h | h
      · exact .inl h
      · exact absurd h hk
      · exact .inr h
theorem updF_comm (v : Env) {a b : Upd} (h : ∀ id ∈ a.map (·.1), id ∉ b.map (·.1)) : updF (updF v a) b = updF (updF v b) a := by
  funext id
  by_cases ha : id ∈ a.map (·.1)
  · rw [updF_other _ b (h id ha)]
    exact updF_same _ _ a (.inr ha)
  · rw [updF_other _ a ha]
    exact updF_same _ _ b (.inl (updF_other _ a ha))

theorem disj_iff {a b : List Nat} (h : disj a b = true) : ∀ x ∈ a, x ∉ b := by
  intro x hx hb
  have := List.all_eq_true.1 h x hx
  simp_all

/-- What two operations that may change places are. -/
structure Indep (a b : Did) : Prop where
  d1 : ∀ d, a.o.dst = some d → d ∉ b.log.reads ∧ b.o.dst ≠ some d
  d2 : ∀ d, b.o.dst = some d → d ∉ a.log.reads
  u1 : ∀ id ∈ a.r.2.map (·.1), id ∉ b.T ∧ id ∉ b.r.2.map (·.1)
  u2 : ∀ id ∈ b.r.2.map (·.1), id ∉ a.T
  made : a.mk' = true → ∀ id ∈ b.T, id / 64 ≠ a.g

theorem Indep.of {a b : Did} (h : indep a.log b.log = true) : Indep a b := by
  simp only [indep, Bool.and_eq_true] at h
  obtain ⟨⟨⟨⟨h1, h2⟩, h3⟩, h4⟩, h5⟩ := h
  refine ⟨fun d hd => ?_, fun d hd => ?_, fun id hi => ?_, fun id hi => ?_, fun hm id hi => ?_⟩
  · have := disj_iff h1 d (by simp [Did.log, hd])
    simp only [List.mem_append, not_or] at this
    refine ⟨this.1, fun e => this.2 ?_⟩
    show d ∈ b.o.dst.toList
    rw [e]; simp
  · exact disj_iff h2 d (by simp [Did.log, hd])
  · have := disj_iff h3 id hi
    simp only [List.mem_append, not_or] at this
    exact this
  · exact disj_iff h4 id hi
  · have hm : a.log.mkd = true := hm
    rw [hm] at h5
    simp only [Bool.not_true, Bool.false_or, List.all_eq_true, bne_iff_ne] at h5
    exact h5 id hi

/-- What an operation looks at is not changed by one that writes elsewhere. -/
theorem Pre.congr {C : Cx} {n : Nat} {l : Did} {s s' : FSt} (h : Pre C n l s) (ht : ∀ j ∈ l.log.reads, s'.t j = s.t j) (hv : ∀ id ∈ l.T, s'.v id = s.v id)
    (hk : ∀ id ∈ l.T, s'.k id) (hf : l.skip = false → ∀ id, id / 64 = l.g → ¬ s'.k id) : Pre C n l s' := by
  have hx : l.skip = false → ∀ x ∈ opnds l.o.op, evF s'.t x = evF s.t x := fun hs x hx => evF_congr fun j e => ht j (by
    subst e
    simp only [Did.log, hs, Bool.false_eq_true, if_false, List.mem_append]
    exact .inl (mem_tmpsOf.2 hx))
  have hE : envR l.T s'.v = envR l.T s.v := by
    funext id
    unfold envR
    by_cases hi : l.T.contains id = true
    · rw [if_pos hi, if_pos hi]; exact hv id (by simpa using hi)
    · rw [if_neg hi, if_neg hi]
  have hsub : ∀ x ∈ opnds l.op, l.skip = false → evF s'.t x = evF s.t x := fun x hxo hs => by
    rcases h.eq hs with e | ⟨p, q, r, e, h1⟩
    · rw [e] at hxo; exact hx hs x hxo
    · rcases h1 with ⟨_, e2⟩ | ⟨_, e2⟩ <;> rw [e2] at hxo <;> simp only [opnds, List.mem_cons, List.not_mem_nil, or_false] at hxo <;> subst hxo <;> exact hx hs _ (by rw [e]; simp [opnds])
  refine ⟨?_, h.dst, h.skip, fun hs => ?_, fun hs => ?_, h.res, hk, hf⟩
  · have hg := h.guard
    unfold GuardOk at hg ⊢
    split
    · rename_i e; rw [e] at hg; exact hg
    · rename_i d want e
      simp only [e] at hg
      rw [ht d (by simp [Did.log, e])]
      exact hg
  · rcases h.eq hs with e | ⟨p, q, r, e, h1⟩
    · exact .inl e
    · refine .inr ⟨p, q, r, e, ?_⟩
      rw [hx hs p (by rw [e]; simp [opnds])]
      exact h1
  · rw [hE, core_congr C l.op l.o.type (envR l.T s.v) (l.g * 64) fun x hx' => hsub x hx' hs]
    exact h.core hs

theorem swap {C : Cx} {n : Nat} {a b : Did} {s : FSt} (ha : Pre C n a s) (hb : Pre C n b (post a s)) (hi : Indep a b) (hg : a.g ≠ b.g) :
    Pre C n b s ∧ Pre C n a (post b s) ∧ post a (post b s) = post b (post a s) := by
  refine ⟨?_, ?_, ?_⟩
  · refine hb.congr (fun j hj => ?_) (fun id hid => ?_) (fun id hid => ?_) (fun hs id hid hk => ?_)
    · simp only [post]
      rw [if_neg fun e => (hi.d1 j e).1 hj]
    · simp only [post]
      rw [updF_other _ _ fun hu => (hi.u1 id hu).1 hid]
    · rcases hb.known id hid with h | ⟨h1, h2⟩
      · exact h
      · exact absurd h2 (hi.made h1 id hid)
    · exact hb.fresh hs id hid (.inl hk)
  · refine ha.congr (fun j hj => ?_) (fun id hid => ?_) (fun id hid => .inl (ha.known id hid)) (fun hs id hid hk => ?_)
    · simp only [post]
      rw [if_neg fun e => hi.d2 j e hj]
    · simp only [post]
      rw [updF_other _ _ fun hu => hi.u2 id hu hid]
    · rcases hk with hk | ⟨_, h2⟩
      · exact ha.fresh hs id hid hk
      · exact hg (hid.symm.trans h2)
  · simp only [post, FSt.mk.injEq]
    refine ⟨?_, (updF_comm _ fun id h => (hi.u1 id h).2).symm, ?_⟩
    · funext j
      by_cases h1 : a.o.dst = some j
      · rw [if_pos h1, if_neg (hi.d1 j h1).2, if_pos h1]
      · rw [if_neg h1]
        by_cases h2 : b.o.dst = some j
        · rw [if_pos h2, if_pos h2]
        · rw [if_neg h2, if_neg h2, if_neg h1]
    · funext id
      apply propext
      constructor
      · rintro ((h | h) | h)
        · exact .inl (.inl h)
        · exact .inr h
        · exact .inl (.inr h)
      · rintro ((h | h) | h)
        · exact .inl (.inl h)
        · exact .inr h
        · exact .inl (.inr h)

/-- A run of operations, one behind the other. -/
def Seq (C : Cx) (n : Nat) : List Did → FSt → FSt → Prop
  | [], s, s' => s = s'
  | l :: L, s, s' => Pre C n l s ∧ Seq C n L (post l s) s'

/-- One that may change places with all ahead of it may come first. -/
theorem Seq.first {C : Cx} {n : Nat} {b : Did} : ∀ {A R : List Did} {s s' : FSt}, Seq C n (A ++ b :: R) s s' → (∀ a ∈ A, Indep a b ∧ a.g ≠ b.g) → Seq C n (b :: (A ++ R)) s s'
  | [], _, _, _, h, _ => h
  | a :: A, R, s, s', h, hi => by
    simp only [List.cons_append, Seq] at h
    have := Seq.first h.2 fun x hx => hi x (by simp [hx])
    simp only [Seq] at this
    obtain ⟨q1, q2, q3⟩ := swap h.1 this.1 (hi a (by simp)).1 (hi a (by simp)).2
    simp only [List.cons_append, Seq]
    exact ⟨q1, q2, by rw [q3]; exact this.2⟩

theorem Seq.append {C : Cx} {n : Nat} : ∀ {A B : List Did} {s s' s'' : FSt}, Seq C n A s s' → Seq C n B s' s'' → Seq C n (A ++ B) s s''
  | [], _, _, _, _, h, h' => by simp only [Seq] at h; subst h; exact h'
  | a :: A, B, _, _, _, h, h' => ⟨h.1, Seq.append h.2 h'⟩
end Go.Proofs.Ytjcinikojcfebaa.Dm
