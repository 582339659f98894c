/- Functions of the program, and what they compute. -/
import Derived.Test.YtcpjdjgipmjhdaaGreatQ6
namespace Go.Proofs.YtcpjdjgipmjhdaaGreat.Dm
open Go Go.ChangeShapes Go.WideShapes Go.ChangeAt Go.RowKit
def insT (x : InsD) : Str := varV x.1 ++ (varV x.2.1 ++ (varV (if x.1 = 1 then zigV x.2.2.1 else x.2.2.1) ++ varV x.2.2.2.1))
def manyT {α : Type} (f : α → Str) (a : List α) : Str := varV ((a.length : Nat) : Int) ++ a.flatMap f
def progT (l : List InsD) : Str := manyT insT l
def plainT (more : Int) (l : List Int) : Str := manyT (fun n => varV (IntKind.i64.wrap (n + more))) l
def procT (p : ProcD) : Str := varV p.1 ++ (varV p.2.1 ++ (varV p.2.2.1 ++ (varV p.2.2.2.1 ++ (varV p.2.2.2.2.1.1 ++ (wordsS p.2.2.2.2.1.2.1 ++ (wordsS p.2.2.2.2.2.1 ++ (plainT 1 p.2.2.2.2.2.2.1 ++ (varV p.2.2.2.2.2.2.2.1 ++ wordsS [p.2.2.2.2.2.2.2.2.1]))))))))
def openT (o : OpenD) : Str := varV o.1 ++ (varV o.2.1 ++ (varV o.2.2.1 ++ (varV o.2.2.2.1 ++ varV o.2.2.2.2.1)))
def dataT (x : FileD) : Str := varV x.1 ++ wordsS x.2.1
def unixT (next tick : Int) (progs : List (List InsD)) (ps : List ProcD) (os : List OpenD) (pipes : List PipeD) (files : List FileD) (rd out : List Int) : Str :=
  117 :: (varV next ++ (varV tick ++ (manyT progT progs ++ (manyT procT ps ++ (manyT openT os ++ (manyT dataT pipes ++ (manyT dataT files ++ (plainT 0 rd ++ wordsS out))))))))
theorem manyT_len {α : Type} {f : α → Str} {m : Nat} {a : List α} (h : ∀ x ∈ a, (f x).length ≤ m) : (manyT f a).length ≤ 7 + m * a.length := by
  have h1 := flatMap_len f m a h
  have h2 := varV_len ((a.length : Nat) : Int)
  unfold manyT
  rw [List.length_append]
  omega
theorem insT_len (x : InsD) : (insT x).length ≤ 28 := by
  have h1 := varV_len x.1
  have h2 := varV_len x.2.1
  have h3 := varV_len (if x.1 = 1 then zigV x.2.2.1 else x.2.2.1)
  have h4 := varV_len x.2.2.2.1
  unfold insT
  simp only [List.length_append]
  omega
theorem progT_len {l : List InsD} (h : l.length ≤ 40) : (progT l).length ≤ 1127 := by
  have := manyT_len (f := insT) (m := 28) (a := l) fun x _ => insT_len x
  unfold progT
  omega
theorem wordsS_le (l : List Int) : (wordsS l).length ≤ 7 + 7 * l.length := by
  have := manyT_len (f := fun n => varV (zigV n)) (m := 7) (a := l) fun x _ => varV_len _
  exact this
theorem plainT_le (more : Int) (l : List Int) : (plainT more l).length ≤ 7 + 7 * l.length := manyT_len fun x _ => varV_len _
theorem procT_len {p : ProcD} (h1 : p.2.2.2.2.1.2.1.length = 4) (h2 : p.2.2.2.2.2.1.length ≤ 12) (h3 : p.2.2.2.2.2.2.1.length = 4) : (procT p).length ≤ 300 := by
  have v1 := varV_len p.1
  have v2 := varV_len p.2.1
  have v3 := varV_len p.2.2.1
  have v4 := varV_len p.2.2.2.1
  have v5 := varV_len p.2.2.2.2.1.1
  have v6 := wordsS_le p.2.2.2.2.1.2.1
  have v7 := wordsS_le p.2.2.2.2.2.1
  have v8 := plainT_le 1 p.2.2.2.2.2.2.1
  have v9 := varV_len p.2.2.2.2.2.2.2.1
  have v10 := wordsS_le [p.2.2.2.2.2.2.2.2.1]
  simp only [List.length_cons, List.length_nil] at v10
  unfold procT
  simp only [List.length_append]
  omega
theorem openT_len (o : OpenD) : (openT o).length ≤ 35 := by
  have v1 := varV_len o.1
  have v2 := varV_len o.2.1
  have v3 := varV_len o.2.2.1
  have v4 := varV_len o.2.2.2.1
  have v5 := varV_len o.2.2.2.2.1
  unfold openT
  simp only [List.length_append]
  omega
theorem dataT_len {x : FileD} (h : x.2.1.length ≤ 8) : (dataT x).length ≤ 70 := by
  have v1 := varV_len x.1
  have v2 := wordsS_le x.2.1
  unfold dataT
  rw [List.length_append]
  omega
def Faith {α : Type} (p : Str → Option (α × Nat)) (t : α → Str) (I : α → Prop) : Prop := ∀ s a k, p s = some (a, k) → k ≤ s.length ∧ s.take k = t a ∧ I a
def oneP (s : Str) : Option (Int × Nat) := match rvI s with
  | none => none
  | some i => some (((decB (s.take (i + 1)) : Nat) : Int), i + 1)
def seqP {α β : Type} (p : Str → Option (α × Nat)) (q : Str → Option (β × Nat)) (s : Str) : Option ((α × β) × Nat) := match p s with
  | none => none
  | some (a, k) => match q (s.drop k) with
    | none => none
    | some (b, j) => some ((a, b), k + j)
def repP {α : Type} (p : Str → Option (α × Nat)) : Nat → Str → Option (List α × Nat)
  | 0, _ => some ([], 0)
  | n + 1, s => match p s with
    | none => none
    | some (a, k) => match repP p n (s.drop k) with
      | none => none
      | some (l, j) => some (a :: l, k + j)
def cntP (most : Nat) (s : Str) : Option (Nat × Nat) := match rvI s with
  | none => none
  | some i => if most < decB (s.take (i + 1)) then none else some (decB (s.take (i + 1)), i + 1)
def manyP {α : Type} (most : Nat) (p : Str → Option (α × Nat)) (s : Str) : Option (List α × Nat) := match cntP most s with
  | none => none
  | some (n, k) => match repP p n (s.drop k) with
    | none => none
    | some (l, j) => some (l, k + j)
def mapP {α β : Type} (f : α → Option β) (p : Str → Option (α × Nat)) (s : Str) : Option (β × Nat) := match p s with
  | none => none
  | some (a, k) => match f a with
    | none => none
    | some b => some (b, k)
def InVar (x : Int) : Prop := 0 ≤ x ∧ x ≤ 562949953421311
theorem oneP_faith : Faith oneP varV InVar := fun s a k h => by
  unfold oneP at h
  split at h
  · exact nomatch h
  · rename_i i hi
    simp only [Option.some.injEq, Prod.mk.injEq] at h
    obtain ⟨rfl, rfl⟩ := h
    have h2 := rvI_lt hi
    have h3 := rvI_dec hi
    exact ⟨by omega, by rw [varV_nat h3, rvI_varB hi], by unfold InVar; omega⟩
theorem seqP_faith {α β : Type} {p : Str → Option (α × Nat)} {q : Str → Option (β × Nat)} {t : α → Str} {u : β → Str} {I : α → Prop} {J : β → Prop} (hp : Faith p t I) (hq : Faith q u J) :
    Faith (seqP p q) (fun x => t x.1 ++ u x.2) (fun x => I x.1 ∧ J x.2) := fun s x k h => by
  unfold seqP at h
  split at h
  · exact nomatch h
  · rename_i a i ha
    split at h
    · exact nomatch h
    · rename_i b j hb
      simp only [Option.some.injEq, Prod.mk.injEq] at h
      obtain ⟨rfl, rfl⟩ := h
      have h1 := hp _ _ _ ha
      have h2 := hq _ _ _ hb
      rw [List.length_drop] at h2
      exact ⟨by omega, by rw [List.take_add, h1.2.1, h2.2.1], h1.2.2, h2.2.2⟩
theorem repP_faith {α : Type} {p : Str → Option (α × Nat)} {t : α → Str} {I : α → Prop} (hp : Faith p t I) : ∀ {n : Nat} {s : Str} {l : List α} {k : Nat}, repP p n s = some (l, k) →
    k ≤ s.length ∧ s.take k = l.flatMap t ∧ l.length = n ∧ ∀ x ∈ l, I x
  | 0, s, l, k, h => by simp only [repP, Option.some.injEq, Prod.mk.injEq] at h; obtain ⟨rfl, rfl⟩ := h; simp
  | n + 1, s, l, k, h => by
    simp only [repP] at h
    split at h
    · exact nomatch h
    · rename_i a i ha
      split at h
      · exact nomatch h
      · rename_i l' j hr
        simp only [Option.some.injEq, Prod.mk.injEq] at h
        obtain ⟨rfl, rfl⟩ := h
        have h1 := hp _ _ _ ha
        have h2 := repP_faith hp hr
        rw [List.length_drop] at h2
        refine ⟨by omega, by rw [List.take_add, h1.2.1, h2.2.1, List.flatMap_cons], by rw [List.length_cons, h2.2.2.1], fun x hx => ?_⟩
        rcases List.mem_cons.1 hx with rfl | hx
        · exact h1.2.2
        · exact h2.2.2.2 x hx
theorem cntP_le {m : Nat} {s : Str} {n k : Nat} (h : cntP m s = some (n, k)) : n ≤ m ∧ n < 562949953421312 ∧ k ≤ s.length ∧ s.take k = varV ((n : Nat) : Int) := by
  unfold cntP at h
  split at h
  · exact nomatch h
  · rename_i i hi
    split at h
    · exact nomatch h
    · simp only [Option.some.injEq, Prod.mk.injEq] at h
      obtain ⟨rfl, rfl⟩ := h
      have h2 := rvI_lt hi
      have h3 := rvI_dec hi
      exact ⟨by omega, h3, by omega, by rw [varV_nat h3, rvI_varB hi]⟩
theorem manyP_faith {α : Type} {m : Nat} {p : Str → Option (α × Nat)} {t : α → Str} {I : α → Prop} (hp : Faith p t I) : Faith (manyP m p) (manyT t) (fun l => l.length ≤ m ∧ ∀ x ∈ l, I x) := fun s l k h => by
  unfold manyP at h
  split at h
  · exact nomatch h
  · rename_i n i hn
    split at h
    · exact nomatch h
    · rename_i l' j hr
      simp only [Option.some.injEq, Prod.mk.injEq] at h
      obtain ⟨rfl, rfl⟩ := h
      have h1 := cntP_le hn
      have h2 := repP_faith hp hr
      rw [List.length_drop] at h2
      refine ⟨by omega, ?_, by omega, h2.2.2.2⟩
      unfold manyT
      rw [List.take_add, h1.2.2.2, h2.2.1, h2.2.2.1]
theorem mapP_faith {α β : Type} {f : α → Option β} {p : Str → Option (α × Nat)} {t : α → Str} {t' : β → Str} {I : α → Prop} {J : β → Prop} (hp : Faith p t I) (hf : ∀ a b, I a → f a = some b → t a = t' b ∧ J b) : Faith (mapP f p) t' J := fun s b k h => by
  unfold mapP at h
  split at h
  · exact nomatch h
  · rename_i a i ha
    split at h
    · exact nomatch h
    · rename_i b' hb
      simp only [Option.some.injEq, Prod.mk.injEq] at h
      obtain ⟨rfl, rfl⟩ := h
      have h1 := hp _ _ _ ha
      have h2 := hf _ _ h1.2.2 hb
      exact ⟨h1.1, h1.2.1.trans h2.1, h2.2⟩
theorem numsP_faith (n : Nat) : Faith (numsP n) (fun l => l.flatMap varV) (fun l => l.length = n ∧ ∀ x ∈ l, InVar x) := fun s l k h => by
  have h1 := numsP_le h
  exact ⟨h1.1, h1.2.2.2, h1.2.1, h1.2.2.1⟩
theorem listP_faith (m : Nat) : Faith (listP m) (manyT varV) (fun l => l.length ≤ m ∧ ∀ x ∈ l, InVar x) := fun s l k h => by
  have h1 := listP_le h
  exact ⟨h1.1, h1.2.2.2, h1.2.1, h1.2.2.1⟩
def downV (n : Int) : Int := IntKind.i64.wrap (n - 1)
def insO : List Int → Option InsD
  | [a, b, c, d] => some (insD a b c d)
  | _ => none
def progO (l : List InsD) : Option (List InsD) := if progOkV l = true then some l else none
def progQ : Str → Option (List InsD × Nat) := mapP progO (manyP 40 (mapP insO (numsP 4)))
def zagsP (m : Nat) : Str → Option (List Int × Nat) := mapP (fun l => some (l.map zagV)) (listP m)
def downsP (m : Nat) : Str → Option (List Int × Nat) := mapP (fun l => some (l.map downV)) (listP m)
def oneO : List Int → Option Int
  | [x] => some x
  | _ => none
def codeP : Str → Option (Int × Nat) := mapP oneO (zagsP 1)
def procO : List Int × List Int × List Int × List Int × Int × Int → Option ProcD
  | ([a, b, c, d, e], regs, mem, fds, u, x) => some (a, (b, (c, (d, ((e, (regs, ())), (mem, (fds, (u, (x, ())))))))))
  | _ => none
def procQ : Str → Option (ProcD × Nat) := mapP procO (seqP (numsP 5) (seqP (zagsP 4) (seqP (zagsP 12) (seqP (downsP 4) (seqP oneP codeP)))))
def openO : List Int → Option OpenD
  | [a, b, c, d, e] => some (a, (b, (c, (d, (e, ())))))
  | _ => none
def openQ : Str → Option (OpenD × Nat) := mapP openO (numsP 5)
def dataO (x : Int × List Int) : Option FileD := some (x.1, (x.2, ()))
def dataQ (m : Nat) : Str → Option (FileD × Nat) := mapP dataO (seqP oneP (zagsP m))
abbrev UnixP := (List Int × List (List InsD) × List ProcD × List OpenD × List PipeD × List FileD × List Int × List Int)
def unixQ : Str → Option (UnixP × Nat) := seqP (numsP 2) (seqP (manyP 4 progQ) (seqP (manyP 6 procQ) (seqP (manyP 8 openQ) (seqP (manyP 3 (dataQ 4)) (seqP (manyP 6 (dataQ 8)) (seqP (listP 6) (zagsP 60)))))))
theorem zags_text {l : List Int} (h : ∀ x ∈ l, InVar x) : manyT varV l = wordsS (l.map zagV) := by
  have := zig_zags h
  unfold wordsS manyT
  rw [this, List.length_map]
theorem wrap_var {x : Int} (h : InVar x) : IntKind.i64.wrap (x + 0) = x := by
  unfold InVar at h
  rw [Int.add_zero]
  exact wrap_id (by omega) (by omega)
theorem down_text {l : List Int} (h : ∀ x ∈ l, InVar x) : manyT varV l = plainT 1 (l.map downV) := by
  unfold plainT manyT
  rw [List.length_map]
  congr 1
  induction l with
  | nil => rfl
  | cons x r ih =>
    have hx := h x (by simp)
    unfold InVar at hx
    rw [List.map_cons, List.flatMap_cons, List.flatMap_cons, ih fun y hy => h y (by simp [hy])]
    unfold downV
    rw [wrap_id (n := x - 1) (by omega) (by omega), wrap_id (n := x - 1 + 1) (by omega) (by omega), show x - 1 + 1 = x by omega]
theorem same_text {l : List Int} (h : ∀ x ∈ l, InVar x) : manyT varV l = plainT 0 l := by
  unfold plainT manyT
  congr 1
  induction l with
  | nil => rfl
  | cons x r ih => rw [List.flatMap_cons, List.flatMap_cons, ih fun y hy => h y (by simp [hy]), wrap_var (h x (by simp))]
theorem insQ_faith : Faith (mapP insO (numsP 4)) insT (fun _ => True) := mapP_faith (numsP_faith 4) fun l b hI hb => by
  obtain ⟨hl, hv⟩ := hI
  obtain ⟨a, b', c, d, rfl⟩ := four_of hl
  obtain rfl := Option.some.inj hb
  have hc := hv c (by simp)
  refine ⟨?_, trivial⟩
  unfold insD insT
  simp only [List.flatMap_cons, List.flatMap_nil, List.append_nil]
  by_cases h1 : a = 1
  · subst h1
    have e : (bif ((1 : Int) == 1) then zagV c else c) = zagV c := rfl
    rw [if_pos rfl, e, zig_zag hc.1 hc.2]
  · rw [if_neg h1, show (a == (1 : Int)) = false by simpa using h1]; rfl
theorem progQ_faith : Faith progQ progT (fun l => progOkV l = true) := mapP_faith (manyP_faith insQ_faith) fun l b _ hb => by
  unfold progO at hb
  split at hb
  · obtain rfl := Option.some.inj hb
    exact ⟨rfl, ‹_›⟩
  · exact nomatch hb
theorem five_of {l : List Int} (h : l.length = 5) : ∃ a b c d e, l = [a, b, c, d, e] := by
  rcases l with _ | ⟨a, r⟩
  · exact nomatch h
  · obtain ⟨b, c, d, e, rfl⟩ := four_of (l := r) (by simpa using h)
    exact ⟨a, b, c, d, e, rfl⟩
theorem zagsP_faith (m : Nat) : Faith (zagsP m) wordsS (fun _ => True) := mapP_faith (listP_faith m) fun l b hI hb => by
  obtain rfl := Option.some.inj hb
  exact ⟨zags_text hI.2, trivial⟩
theorem downsP_faith (m : Nat) : Faith (downsP m) (plainT 1) (fun _ => True) := mapP_faith (listP_faith m) fun l b hI hb => by
  obtain rfl := Option.some.inj hb
  exact ⟨down_text hI.2, trivial⟩
theorem codeP_faith : Faith codeP (fun x => wordsS [x]) (fun _ => True) := mapP_faith (zagsP_faith 1) fun l b hI hb => by
  rcases l with _ | ⟨x, _ | ⟨y, r⟩⟩
  · exact nomatch hb
  · obtain rfl := Option.some.inj hb
    exact ⟨rfl, trivial⟩
  · exact nomatch hb
theorem procQ_faith : Faith procQ procT (fun _ => True) :=
  mapP_faith (seqP_faith (numsP_faith 5) (seqP_faith (zagsP_faith 4) (seqP_faith (zagsP_faith 12) (seqP_faith (downsP_faith 4) (seqP_faith oneP_faith codeP_faith))))) fun x b hI hb => by
    obtain ⟨n, regs, mem, fds, u, c⟩ := x
    obtain ⟨⟨hl, _⟩, _⟩ := hI
    obtain ⟨a, b', c', d, e, rfl⟩ := five_of hl
    refine ⟨?_, trivial⟩
    obtain rfl := Option.some.inj hb
    unfold procT
    simp only [List.flatMap_cons, List.flatMap_nil, List.append_nil, List.append_assoc]
theorem openQ_faith : Faith openQ openT (fun _ => True) := mapP_faith (numsP_faith 5) fun l b hI hb => by
  obtain ⟨a, b', c, d, e, rfl⟩ := five_of hI.1
  obtain rfl := Option.some.inj hb
  refine ⟨?_, trivial⟩
  unfold openT
  simp
theorem dataQ_faith (m : Nat) : Faith (dataQ m) dataT (fun _ => True) := mapP_faith (seqP_faith oneP_faith (zagsP_faith m)) fun x b hI hb => by
  obtain rfl := Option.some.inj hb
  exact ⟨rfl, trivial⟩
theorem unixQ_faith {s : Str} {n t : Int} {pg : List (List InsD)} {ps : List ProcD} {os : List OpenD} {pp : List PipeD} {fl : List FileD} {rd ou : List Int} {k : Nat} (h : unixQ s = some (([n, t], pg, ps, os, pp, fl, rd, ou), k)) :
    k ≤ s.length ∧ 117 :: s.take k = unixT n t pg ps os pp fl rd ou := by
  have := seqP_faith (numsP_faith 2) (seqP_faith (manyP_faith (m := 4) progQ_faith) (seqP_faith (manyP_faith (m := 6) procQ_faith) (seqP_faith (manyP_faith (m := 8) openQ_faith) (seqP_faith (manyP_faith (m := 3) (dataQ_faith 4)) (seqP_faith (manyP_faith (m := 6) (dataQ_faith 8)) (seqP_faith (listP_faith 6) (zagsP_faith 60))))))) _ _ _ h
  refine ⟨this.1, ?_⟩
  have e := this.2.1
  have hr : ∀ x ∈ rd, InVar x := this.2.2.2.2.2.2.2.2.1.2
  simp only at e
  rw [e, same_text hr]
  unfold unixT
  simp only [List.flatMap_cons, List.flatMap_nil, List.append_nil, List.append_assoc]
theorem unixQ_two {s : Str} {x : UnixP} {k : Nat} (h : unixQ s = some (x, k)) : ∃ n t, x.1 = [n, t] := by
  unfold unixQ seqP at h
  split at h
  · exact nomatch h
  · rename_i a i ha
    split at h
    · exact nomatch h
    · rename_i b j hb
      simp only [Option.some.injEq, Prod.mk.injEq] at h
      obtain ⟨rfl, rfl⟩ := h
      have hl := (numsP_le ha).2.1
      rcases a with _ | ⟨n, _ | ⟨t, _ | ⟨z, r⟩⟩⟩
      · exact nomatch hl
      · exact nomatch hl
      · exact ⟨n, t, rfl⟩
      · simp at hl
end Go.Proofs.YtcpjdjgipmjhdaaGreat.Dm
