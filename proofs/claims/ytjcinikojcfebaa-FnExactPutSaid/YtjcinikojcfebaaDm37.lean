/- The data machine, part 37: the table of types, checked by computing; what the printed texts use. -/
import Derived.Test.YtjcinikojcfebaaDm36
import Derived.KernelRfl
namespace Go.Proofs.Ytjcinikojcfebaa.Dm
open Go

mutual
def Ty.zeroB : Ty → List Value → Option (List Value)
  | .bool, .bool false :: r => some r
  | .int k, .int k' n :: r => if k = k' ∧ n = 0 then some r else none
  | .str, .string s :: r => if s.data.toList.isEmpty = true then some r else none
  | .sl _, .slice none 0 0 :: r => some r
  | .st fs, cs => fs.zeroB cs
  | _, _ => none
def Tys.zeroB : Tys → List Value → Option (List Value)
  | .nil, cs => some cs
  | .cons t ts, cs => (t.zeroB cs).bind fun r => ts.zeroB r
end
mutual
theorem Ty.zeroB_ok : (t : Ty) → {cs r : List Value} → t.zeroB cs = some r → cs = t.zeroV ++ r
  | .bool, cs, r, h => by
    cases cs with
    | nil => cases h
    | cons v q =>
      cases v <;> try (cases h; done)
      rename_i b
      cases b <;> cases h
      rfl
  | .int k, cs, r, h => by
    cases cs with
    | nil => cases h
    | cons v q =>
      cases v <;> try (cases h; done)
      rename_i k' n
      replace h : (if k = k' ∧ n = 0 then some q else none) = some r := h
      split at h
      · rename_i hc; obtain ⟨rfl, rfl⟩ := hc; cases h; rfl
      · cases h
  | .str, cs, r, h => by
    cases cs with
    | nil => cases h
    | cons v q =>
      cases v <;> try (cases h; done)
      rename_i s
      replace h : (if s.data.toList.isEmpty = true then some q else none) = some r := h
      split at h
      · rename_i hc
        cases h
        have : s = ⟨#[]⟩ := by
          have h1 := List.isEmpty_iff.1 hc
          apply ByteArray.ext
          apply Array.ext'
          exact h1
        rw [this]; rfl
      · cases h
  | .sl _, cs, r, h => by
    cases cs with
    | nil => cases h
    | cons v q =>
      cases v <;> try (cases h; done)
      rename_i a l c
      cases a <;> cases l <;> cases c <;> cases h
      rfl
  | .st fs, cs, r, h => by
    simp only [Ty.zeroV]
    exact Tys.zeroB_ok fs h
theorem Tys.zeroB_ok : (t : Tys) → {cs r : List Value} → t.zeroB cs = some r → cs = t.zeroV ++ r
  | .nil, cs, r, h => by cases h; rfl
  | .cons t ts, cs, r, h => by
    replace h : ((t.zeroB cs).bind fun r => ts.zeroB r) = some r := h
    obtain ⟨q, h1, h2⟩ := Option.bind_eq_some_iff.1 h
    rw [Ty.zeroB_ok t h1, Tys.zeroB_ok ts h2]
    simp [Tys.zeroV]
end

def baseB (P : Program) (t : Ty) (tid : TypeId) : Bool :=
  match P.info? tid with
  | some i =>
    match i.zero with
    | some z =>
      match t.zeroB z.cells.toList with
      | some [] => decide (i.size = t.size) && decide (i.bytes ≤ 1024) && decide (0 < t.size)
      | _ => false
    | none => false
  | none => false
theorem baseB_ok {P : Program} {t : Ty} {tid : TypeId} (h : baseB P t tid = true) : BaseOk P t tid := by
  unfold baseB at h
  split at h
  · rename_i i hi
    split at h
    · rename_i z hz
      split at h
      · rename_i hzb
        simp only [Bool.and_eq_true, decide_eq_true_eq] at h
        exact ⟨i, z, hi, h.1.1, h.1.2, hz, by have := Ty.zeroB_ok t hzb; simpa using this, h.2⟩
      · cases h
    · cases h
  · cases h

mutual
def Ty.okB (P : Program) : Ty → TypeId → Bool
  | .bool, tid => baseB P .bool tid && (match P.underlying tid with | some .bool => true | _ => false)
  | .int k, tid => baseB P (.int k) tid && (match P.underlying tid with | some (.int k') => decide (k = k') | _ => false)
  | .str, tid => baseB P .str tid && (match P.underlying tid with | some .string => true | _ => false)
  | .sl e, tid => baseB P (.sl e) tid && (match P.underlying tid with | some (.slice eid) => e.okB P eid | _ => false)
  | .st fs, tid => baseB P (.st fs) tid && (match P.underlying tid with | some (.struct fields) => fs.okFB P fields.toList 0 | _ => false)
def Tys.okFB (P : Program) : Tys → List Field → Nat → Bool
  | .nil, [], _ => true
  | .cons t ts, f :: r, off => decide (f.offset = off) && t.okB P f.type && ts.okFB P r (off + t.size)
  | _, _, _ => false
end
mutual
theorem Ty.okB_ok {P : Program} : (t : Ty) → {tid : TypeId} → t.okB P tid = true → t.Ok P tid
  | .bool, tid, h => by
    simp only [Ty.okB, Bool.and_eq_true] at h
    simp only [Ty.Ok]
    refine ⟨baseB_ok h.1, ?_⟩
    have h2 := h.2
    split at h2
    · assumption
    · cases h2
  | .int k, tid, h => by
    simp only [Ty.okB, Bool.and_eq_true] at h
    simp only [Ty.Ok]
    refine ⟨baseB_ok h.1, ?_⟩
    have h2 := h.2
    split at h2
    · rename_i e; rw [e, of_decide_eq_true h2]
    · cases h2
  | .str, tid, h => by
    simp only [Ty.okB, Bool.and_eq_true] at h
    simp only [Ty.Ok]
    refine ⟨baseB_ok h.1, ?_⟩
    have h2 := h.2
    split at h2
    · assumption
    · cases h2
  | .sl e, tid, h => by
    simp only [Ty.okB, Bool.and_eq_true] at h
    simp only [Ty.Ok]
    refine ⟨baseB_ok h.1, ?_⟩
    have h2 := h.2
    split at h2
    · rename_i eid he; exact ⟨eid, he, Ty.okB_ok e h2⟩
    · cases h2
  | .st fs, tid, h => by
    simp only [Ty.okB, Bool.and_eq_true] at h
    simp only [Ty.Ok]
    refine ⟨baseB_ok h.1, ?_⟩
    have h2 := h.2
    split at h2
    · rename_i fields he; exact ⟨fields, he, Tys.okFB_ok fs h2⟩
    · cases h2
theorem Tys.okFB_ok {P : Program} : (t : Tys) → {fs : List Field} → {off : Nat} → t.okFB P fs off = true → t.OkF P fs off
  | .nil, fs, off, h => by
    cases fs with
    | nil => simp [Tys.OkF]
    | cons f r => cases h
  | .cons t ts, fs, off, h => by
    cases fs with
    | nil => cases h
    | cons f r =>
      simp only [Tys.okFB, Bool.and_eq_true, decide_eq_true_eq] at h
      simp only [Tys.OkF]
      exact ⟨f, r, rfl, h.1.1, Ty.okB_ok t h.1.2, Tys.okFB_ok ts h.2⟩
end

def findT : List (Nat × Ty) → Nat → Option Ty
  | [], _ => none
  | (a, t) :: r, n => bif Nat.beq a n then some t else findT r n
theorem findT_mem {l : List (Nat × Ty)} {n : Nat} {t : Ty} (h : findT l n = some t) : (n, t) ∈ l := by
  induction l with
  | nil => cases h
  | cons a l ih =>
    obtain ⟨k, u⟩ := a
    simp only [findT] at h
    cases hb : Nat.beq k n with
    | true => rw [hb] at h; cases h; rw [Nat.eq_of_beq_eq_true hb]; simp
    | false => rw [hb] at h; simp [ih h]
def tabB (P : Program) (tab : List (Nat × Ty)) : Bool := tab.all fun x => x.2.okB P x.1
def eqvB (P : Program) (tid : TypeId) : Bool :=
  !P.stoodInHeld tid && !P.eqGuardType P.depth tid && (match P.underlying tid with | some (.struct fields) => fields.toList.all fun f => f.name != "_" | _ => false)
theorem eqvB_ok {P : Program} {tid : TypeId} (h : eqvB P tid = true) : StructEqOk P tid := by
  simp only [eqvB, Bool.and_eq_true, Bool.not_eq_true'] at h
  refine ⟨h.1.1, h.1.2, ?_⟩
  have h2 := h.2
  split at h2
  · rename_i fields he
    refine ⟨fields, he, fun f hf => ?_⟩
    have := List.all_eq_true.1 h2 f hf
    simpa using this
  · cases h2
def cxOf' (tab : List (Nat × Ty)) (eqT : List Nat) (l : List Con) : Cx := { ty := findT tab, eqv := fun n => eqT.any fun m => Nat.beq m n, call := callL l }
theorem cxOf'_ok {P : Program} {tab : List (Nat × Ty)} {eqT : List Nat} (h1 : tabB P tab = true) (h2 : eqT.all (eqvB P) = true) (l : List Con) : CxOk (cxOf' tab eqT l) P where
  ty tid t h := Ty.okB_ok t (List.all_eq_true.1 h1 _ (findT_mem h))
  eqv tid h := by
    obtain ⟨m, hm, e⟩ := List.any_eq_true.1 h
    rw [← Nat.eq_of_beq_eq_true e]
    exact eqvB_ok (List.all_eq_true.1 h2 m hm)
def annOf : List (Nat × LoopAnn) → Nat → Option LoopAnn
  | [], _ => none
  | (a, t) :: r, n => bif Nat.beq a n then some t else annOf r n
def codeOf (f : Func) : Code := f.body.getD .skip
theorem codeOf_eq {f : Func} (h : f.body.isSome = true) : f.body = some (codeOf f) := by
  unfold codeOf
  cases hb : f.body with
  | none => rw [hb] at h; cases h
  | some c => rfl
end Go.Proofs.Ytjcinikojcfebaa.Dm
