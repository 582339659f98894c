/- Functions of the program, and what they compute. -/
import Derived.Test.YtcinpcncclhejaaGreatQ6
namespace Go.Proofs.YtcinpcncclhejaaGreat.Dm
open Go Go.ChangeShapes Go.WideShapes Go.ChangeAt Go.RowKit

/-! ## A Unix as a text -/
def insT (x : InsD) : Str := varV x.1 ++ (varV x.2.1 ++ (varV (if x.1 = 1 then zigV x.2.2.1 else x.2.2.1) ++ varV x.2.2.2.1))
def manyT {α : Type} (f : α → Str) (a : List α) : Str := varV ((a.length : Nat) : Int) ++ a.flatMap f
def progT (l : List InsD) : Str := manyT insT l
def plainT (more : Int) (l : List Int) : Str := manyT (fun n => varV (IntKind.i64.wrap (n + more))) l
def procT (p : ProcD) : Str := varV p.1 ++ (varV p.2.1 ++ (varV p.2.2.1 ++ (varV p.2.2.2.1 ++ (varV p.2.2.2.2.1.1 ++ (wordsS p.2.2.2.2.1.2.1 ++ (wordsS p.2.2.2.2.2.1 ++ (plainT 1 p.2.2.2.2.2.2.1 ++ (varV p.2.2.2.2.2.2.2.1 ++ wordsS [p.2.2.2.2.2.2.2.2.1]))))))))
def openT (o : OpenD) : Str := varV o.1 ++ (varV o.2.1 ++ (varV o.2.2.1 ++ (varV o.2.2.2.1 ++ varV o.2.2.2.2.1)))
def dataT (x : FileD) : Str := varV x.1 ++ wordsS x.2.1
def unixT (next tick : Int) (progs : List (List InsD)) (ps : List ProcD) (os : List OpenD) (pipes : List PipeD) (files : List FileD) (rd out : List Int) : Str :=
  117 :: (varV next ++ (varV tick ++ (manyT progT progs ++ (manyT procT ps ++ (manyT openT os ++ (manyT dataT pipes ++ (manyT dataT files ++ (plainT 0 rd ++ wordsS out))))))))
theorem manyT_len {α : Type} {f : α → Str} {m : Nat} {a : List α} (h : ∀ x ∈ a, (f x).length ≤ m) : (manyT f a).length ≤ 7 + m * a.length := by
  have h1 := flatMap_len f m a h
  have h2 := varV_len ((a.length : Nat) : Int)
  unfold manyT
  rw [List.length_append]
  omega
theorem insT_len (x : InsD) : (insT x).length ≤ 28 := by
  have h1 := varV_len x.1
  have h2 := varV_len x.2.1
  have h3 := varV_len (if x.1 = 1 then zigV x.2.2.1 else x.2.2.1)
  have h4 := varV_len x.2.2.2.1
  unfold insT
  simp only [List.length_append]
  omega
theorem progT_len {l : List InsD} (h : l.length ≤ 40) : (progT l).length ≤ 1127 := by
  have := manyT_len (f := insT) (m := 28) (a := l) fun x _ => insT_len x
  unfold progT
  omega
theorem wordsS_le (l : List Int) : (wordsS l).length ≤ 7 + 7 * l.length := by
  have := manyT_len (f := fun n => varV (zigV n)) (m := 7) (a := l) fun x _ => varV_len _
  exact this
theorem plainT_le (more : Int) (l : List Int) : (plainT more l).length ≤ 7 + 7 * l.length := manyT_len fun x _ => varV_len _
theorem procT_len {p : ProcD} (h1 : p.2.2.2.2.1.2.1.length = 4) (h2 : p.2.2.2.2.2.1.length ≤ 12) (h3 : p.2.2.2.2.2.2.1.length = 4) : (procT p).length ≤ 300 := by
  have v1 := varV_len p.1
  have v2 := varV_len p.2.1
  have v3 := varV_len p.2.2.1
  have v4 := varV_len p.2.2.2.1
  have v5 := varV_len p.2.2.2.2.1.1
  have v6 := wordsS_le p.2.2.2.2.1.2.1
  have v7 := wordsS_le p.2.2.2.2.2.1
  have v8 := plainT_le 1 p.2.2.2.2.2.2.1
  have v9 := varV_len p.2.2.2.2.2.2.2.1
  have v10 := wordsS_le [p.2.2.2.2.2.2.2.2.1]
  simp only [List.length_cons, List.length_nil] at v10
  unfold procT
  simp only [List.length_append]
  omega
theorem openT_len (o : OpenD) : (openT o).length ≤ 35 := by
  have v1 := varV_len o.1
  have v2 := varV_len o.2.1
  have v3 := varV_len o.2.2.1
  have v4 := varV_len o.2.2.2.1
  have v5 := varV_len o.2.2.2.2.1
  unfold openT
  simp only [List.length_append]
  omega
theorem dataT_len {x : FileD} (h : x.2.1.length ≤ 8) : (dataT x).length ≤ 70 := by
  have v1 := varV_len x.1
  have v2 := wordsS_le x.2.1
  unfold dataT
  rw [List.length_append]
  omega
def InVar (x : Int) : Prop := 0 ≤ x ∧ x ≤ 562949953421311
abbrev UnixP := (List Int × List (List InsD) × List ProcD × List OpenD × List PipeD × List FileD × List Int × List Int)
theorem wrap_var {x : Int} (h : InVar x) : IntKind.i64.wrap (x + 0) = x := by
  unfold InVar at h
  rw [Int.add_zero]
  exact wrap_id (by omega) (by omega)
theorem same_text {l : List Int} (h : ∀ x ∈ l, InVar x) : manyT varV l = plainT 0 l := by
  unfold plainT manyT
  congr 1
  induction l with
  | nil => rfl
  | cons x r ih => rw [List.flatMap_cons, List.flatMap_cons, ih fun y hy => h y (by simp [hy]), wrap_var (h x (by simp))]
end Go.Proofs.YtcinpcncclhejaaGreat.Dm
