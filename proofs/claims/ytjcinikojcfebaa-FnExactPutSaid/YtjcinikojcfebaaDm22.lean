/- The data machine, part 22: operations on states, and which of them may change places. -/
import Derived.Test.YtjcinikojcfebaaDm21
import Derived.Orders
namespace Go.Proofs.Ytjcinikojcfebaa.Dm
open Go

theorem fillAt_congr {t : Ty} {ev ev' : Operand → DVal} : ∀ (ps : List (Nat × Operand)) (cs : List DVal), (∀ x ∈ ps, ev x.2 = ev' x.2) → fillAt t ev ps cs = fillAt t ev' ps cs
  | [], _, _ => rfl
  | (k, x) :: ps, cs, h => by
    simp only [fillAt, h (k, x) (by simp)]
    split
    · split
      · exact fillAt_congr ps _ fun y hy => h y (by simp [hy])
      · rfl
    · rfl
theorem fillList_congr {E : Env} {e : Ty} {ev ev' : Operand → DVal} : ∀ (ps : List (Nat × Operand)) (xs : List e.D) (g : List Nat), (∀ x ∈ ps, ev x.2 = ev' x.2) → fillList E e ev ps xs g = fillList E e ev' ps xs g
  | [], _, _, _ => rfl
  | (k, x) :: ps, xs, g, h => by
    simp only [fillList, h (k, x) (by simp)]
    split
    · rfl
    · congr 1
      funext y
      split
      · rfl
      · exact fillList_congr ps _ _ fun y hy => h y (by simp [hy])

theorem core_congr (C : Cx) (op : Op) (ty : Nat) {ev ev' : Operand → DVal} (E : Env) (fr : Nat) (h : ∀ x ∈ opnds op, ev x = ev' x) : core C op ty ev E fr = core C op ty ev' E fr := by
  have hm : ∀ l : List Operand, (∀ x ∈ l, ev x = ev' x) → l.map ev = l.map ev' := fun l hl => List.map_congr_left hl
  unfold core
  split <;> simp only [opnds, List.mem_cons, List.not_mem_nil, or_false, forall_eq_or_imp, forall_eq] at h <;> try (simp only [h]; done)
  · congr 1; funext t; split
    · rw [fillAt_congr _ _ fun x hx => h x.2 (List.mem_map.2 ⟨x, hx, rfl⟩)]
    · rfl
  · congr 1; funext t; congr 1; funext e; split
    · rw [fillList_congr _ _ _ fun x hx => h x.2 (List.mem_map.2 ⟨x, hx, rfl⟩)]
    · rfl
  · rename_i t x lo hi
    have hx := h x (by simp)
    have hl : lo.map (fun z => getI (ev z)) = lo.map fun z => getI (ev' z) := by cases lo with | none => rfl | some z => simp [h z (by simp)]
    have hh : hi.map (fun z => getI (ev z)) = hi.map fun z => getI (ev' z) := by cases hi with | none => rfl | some z => simp [h z (by simp)]
    rw [hx, hl, hh]
  · rw [hm _ h]
  · rename_i args argTypes
    simp only [Call.operands, Array.empty_append] at h
    split
    · rename_i x t e1 e2
      rw [e1] at h
      rw [h x (by simp)]
    · rfl
  · rename_i args argTypes
    simp only [Call.operands, Array.empty_append] at h
    split
    · rename_i x y t t' e1 e2
      rw [e1] at h
      rw [h x (by simp), h y (by simp)]
    · rfl
  · rename_i f args _
    rw [hm _ fun x hx => h x (by simp only [Call.operands, Array.toList_append]; simp [hx])]
  · rename_i f args _
    rw [hm _ fun x hx => h x (by simp only [Call.operands, Array.toList_append]; simp [hx]), h (.tmp f) (by simp [Call.operands])]
end Go.Proofs.Ytjcinikojcfebaa.Dm
