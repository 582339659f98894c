/- Functions of the program, and what they compute. -/
import Derived.Test.YtnnpnkegpkladaaGreatQ22
import Derived.Test.YtnnpnkegpkladaaGreatSo
import Derived.Test.YtnnpnkegpkladaaGreatShelf
namespace Go.Proofs.YtnnpnkegpkladaaGreat.Dm
open Go Go.ChangeShapes Go.WideShapes Go.ChangeAt Go.RowKit
abbrev UnixD := Int × (Int × (List (List InsD) × (List ProcD × (List OpenD × (List CpuD × (List CpuD × (List Int × (List Int × Unit))))))))
section
variable {α δ σ β γ : Type}
theorem allB_loop {f : σ → Out (Round σ β γ)} (a : List α) (p : α → Bool) (S : Nat → σ) {y : β} {z : γ} (hs : ∀ i (hi : i < a.length), (f (S i)).eval = some (if p a[i] = true then .again (S (i + 1)) else .ret z))
    (hy : (f (S a.length)).eval = some (.out y)) (ha : a.length ≤ BIG) : iter f FUEL (S 0) = some (if a.all p = true then .inl y else .inr z) := by
  rw [any_loop (f := f) a (fun x => !p x) S (y := y) (z := z) (fun i hi => by rw [hs i hi]; cases p a[i] <;> rfl) hy ha]
  have e : (a.any fun x => !p x) = !a.all p := by rw [Bool.eq_iff_iff]; simp
  rw [e]
  cases a.all p <;> rfl
theorem allI_loop {f : σ → Out (Round σ β γ)} (n : Nat) (p : Nat → Bool) (S : Nat → σ) {y : β} {z : γ} (hs : ∀ i (hi : i < n), (f (S i)).eval = some (if p i = true then .again (S (i + 1)) else .ret z))
    (hy : (f (S n)).eval = some (.out y)) (hn : n ≤ BIG) : iter f FUEL (S 0) = some (if (List.range n).all p = true then .inl y else .inr z) :=
  allB_loop (f := f) (List.range n) p S (fun i hi => by rw [List.getElem_range]; exact hs i (by simpa using hi)) (by rw [List.length_range]; exact hy) (by rw [List.length_range]; exact hn)
def foldO (g : δ → α → Option δ) : δ → List α → Option δ
  | d, [] => some d
  | d, x :: r => match g d x with | none => none | some d' => foldO g d' r
theorem scan_loop {f : σ → Out (Round σ β γ)} (a : List α) (g : δ → α → Option δ) (P : Nat → δ → Prop) (S : δ → Nat → σ) (y : δ → β) (z : γ) (hP : ∀ i (_ : i < a.length) d d', P i d → g d a[i] = some d' → P (i + 1) d')
    (hs : ∀ i (hi : i < a.length) d, P i d → (f (S d i)).eval = some (match g d a[i] with | none => .ret z | some d' => .again (S d' (i + 1)))) (hy : ∀ d, P a.length d → (f (S d a.length)).eval = some (.out (y d))) (ha : a.length ≤ BIG) {d : δ} (h0 : P 0 d) :
    iter f FUEL (S d 0) = some (match foldO g d a with | none => .inr z | some d' => .inl (y d')) := by
  have key : ∀ (m i : Nat) (d : δ) (n : Nat), i + m = a.length → m < n → P i d → iter f n (S d i) = some (match foldO g d (a.drop i) with | none => .inr z | some d' => .inl (y d')) := by
    intro m
    induction m with
    | zero =>
      intro i d n hi hn hp
      obtain rfl : i = a.length := by omega
      rw [iter_out' (hy d hp) hn, List.drop_length]; rfl
    | succ m ih =>
      intro i d n hi hn hp
      have hlt : i < a.length := by omega
      have hq := hs i hlt d hp
      rw [List.drop_eq_getElem_cons hlt]
      simp only [foldO]
      cases e : g d a[i] with
      | none => rw [e] at hq; rw [iter_ret' hq (by omega)]
      | some d' =>
        rw [e] at hq
        obtain ⟨n, rfl⟩ : ∃ n', n = n' + 1 := ⟨n - 1, by omega⟩
        rw [iter_again hq, ih (i + 1) _ n (by omega) (by omega) (hP i hlt d d' hp e)]
  simpa using key a.length 0 d FUEL (by omega) (lt_fuel ha) h0
end
abbrev U7T := List (List InsD) × List ProcD × List OpenD × List CpuD × List CpuD × List Int × List Int × Unit
def hasV (a : List Int) (x : Int) : Bool := a.any fun y => decide (y = x)
theorem hasV_iff {a : List Int} {x : Int} : hasV a x = true ↔ x ∈ a := by simp [hasV]
abbrev PipeD := CpuD
def idxBy {α : Type} (key : α → Int) (a : List α) (v : Int) : Option Nat := a.findIdx? fun x => key x == v
def placeBy {α : Type} (key : α → Int) (a : List α) (v : Int) : Int := idxV (idxBy key a v)
def procKey (x : ProcD) : Int := x.1
def openKey (x : OpenD) : Int := x.1
def pipeKey (x : PipeD) : Int := x.1
def fileKey (x : FileD) : Int := x.1
def procAtV (a : List ProcD) (v : Int) : Int := placeBy procKey a v
def openAtV (a : List OpenD) (v : Int) : Int := placeBy openKey a v
def pipeAtV (a : List PipeD) (v : Int) : Int := placeBy pipeKey a v
def fileAtV (a : List FileD) (v : Int) : Int := placeBy fileKey a v
def rowV {α : Type} (key : α → Int) (ok : α → Bool) (a : List α) (i : Nat) : Bool := match a[i]? with
  | none => true
  | some x => ok x && (match i with | 0 => true | j + 1 => match a[j]? with | none => true | some z => decide (key z < key x))
def rowsV {α : Type} (key : α → Int) (ok : α → Bool) (a : List α) : Bool := (List.range a.length).all (rowV key ok a)
theorem rowV_zero {α : Type} {key : α → Int} {ok : α → Bool} {a : List α} (h : 0 < a.length) : rowV key ok a 0 = ok a[0] := by
  unfold rowV
  rw [List.getElem?_eq_getElem h]
  simp
theorem rowV_succ {α : Type} {key : α → Int} {ok : α → Bool} {a : List α} {i : Nat} (h : i + 1 < a.length) : rowV key ok a (i + 1) = (ok a[i + 1] && decide (key a[i] < key a[i + 1])) := by
  unfold rowV
  rw [List.getElem?_eq_getElem h]
  simp only [List.getElem?_eq_getElem (show i < a.length by omega)]
def cpuOkV (pc : Int) (regs : List Int) : Bool := placeV pc && decide (regs.length = 4) && wordsOkV regs
def untilOkV (tick : Int) (os : List OpenD) (st : Int) (fds : List Int) (unt : Int) : Bool :=
  if st = 2 then decide (tick < unt) else if st = 4 ∨ st = 5 then hasV fds unt && decide (0 ≤ openAtV os unt) else unt == 0
def fdOkV (os : List OpenD) (st : Int) (f : Int) : Bool := f == -1 || (decide (0 ≤ openAtV os f) && !(st == 6))
def parentOkV (ps : List ProcD) (pid par : Int) : Bool := par == 0 || (!(par == pid) && match idxBy procKey ps par with
  | none => false
  | some i => match ps[i]? with | none => false | some q => !(q.2.2.1 == 6))
def endOkV (par st : Int) (mem : List Int) (code : Int) : Bool := if st = 6 then decide (mem.length = 0) && !(par == 0) else decide (0 < mem.length) && code == 0
def procOkV (tick : Int) (np : Nat) (ps : List ProcD) (os : List OpenD) (pid par st pg pc : Int) (regs mem fds : List Int) (unt code : Int) : Bool :=
  inV st 1 6 && (decide (0 ≤ pg) && decide (pg < (np : Int))) && cpuOkV pc regs && decide (mem.length ≤ 12) && decide (mem.length % 4 = 0) && wordsOkV mem && decide (fds.length = 4) && wordV code
    && fds.all (fdOkV os st) && parentOkV ps pid par && untilOkV tick os st fds unt && endOkV par st mem code
def cntV (f id n : Int) : Int := if f = id then IntKind.i64.wrap (n + 1) else n
def refsV (ps : List ProcD) (id : Int) : Int := ps.foldl (fun n p => p.2.2.2.2.2.2.1.foldl (fun n f => cntV f id n) n) 0
def kindOkV (pipes : List PipeD) (files : List FileD) (kind target off : Int) : Bool :=
  if kind = 1 then target == 0 && off == 0 else if kind = 2 then (match idxBy fileKey files target with
    | none => false
    | some i => match files[i]? with | none => false | some x => inV off 0 ((x.2.1.length : Nat) : Int))
  else if kind = 3 ∨ kind = 4 then decide (0 ≤ pipeAtV pipes target) && off == 0 else false
def openOkV (ps : List ProcD) (pipes : List PipeD) (files : List FileD) (id kind target off refs : Int) : Bool :=
  !(refsV ps id == 0) && refs == refsV ps id && inV id 0 7 && kindOkV pipes files kind target off
def endV (k pipe : Int) (o : OpenD) : Bool := o.2.1 == k && o.2.2.1 == pipe
def endsV (os : List OpenD) (pipe k : Int) : Int := os.foldl (fun n o => if endV k pipe o = true then IntKind.i64.wrap (n + 1) else n) 0
def isEndV (pipe : Int) (o : OpenD) : Bool := endV 3 pipe o || endV 4 pipe o
def pipe1V (os : List OpenD) (x : PipeD) : Bool := inV x.1 0 2 && decide (x.2.1.length ≤ 4) && wordsOkV x.2.1 && os.any (isEndV x.1)
def progsOkV (a : List (List InsD)) : Bool := decide (1 ≤ a.length) && decide (a.length ≤ 4) && a.all progOkV
def pagesV (ps : List ProcD) : Int := ps.foldl (fun n p => IntKind.i64.wrap (n + ((p.2.2.2.2.2.1.length / 4 : Nat) : Int))) 0
def wordsV (ps : List ProcD) : Int := ps.foldl (fun n p => IntKind.i64.wrap (n + ((p.2.2.2.2.2.1.length : Nat) : Int))) 0
def isReadyV (p : ProcD) : Bool := p.2.2.1 == 1
def readyPids (ps : List ProcD) : List Int := (ps.filter isReadyV).map procKey
def readyV (ps : List ProcD) (rd : List Int) : Bool := (readyPids ps).all (hasV rd) && decide ((readyPids ps).length = rd.length)
def proc1V (tick : Int) (np : Nat) (ps : List ProcD) (os : List OpenD) (p : ProcD) : Bool :=
  procOkV tick np ps os p.1 p.2.1 p.2.2.1 p.2.2.2.1 p.2.2.2.2.1.1 p.2.2.2.2.1.2.1 p.2.2.2.2.2.1 p.2.2.2.2.2.2.1 p.2.2.2.2.2.2.2.1 p.2.2.2.2.2.2.2.2.1
def procInV (next tick : Int) (np : Nat) (ps : List ProcD) (os : List OpenD) (p : ProcD) : Bool := inV p.1 1 (IntKind.i64.wrap (next - 1)) && proc1V tick np ps os p
def open1V (ps : List ProcD) (pipes : List PipeD) (files : List FileD) (o : OpenD) : Bool := openOkV ps pipes files o.1 o.2.1 o.2.2.1 o.2.2.2.1 o.2.2.2.2.1
def thingsV (ps : List ProcD) (os : List OpenD) (pipes : List PipeD) (files : List FileD) : Bool :=
  decide (os.length ≤ 8) && decide (pipes.length ≤ 3) && decide (files.length ≤ 6) && rowsV openKey (open1V ps pipes files) os && rowsV pipeKey (pipe1V os) pipes && rowsV fileKey file1V files
def unixOkV (next tick : Int) (progs : List (List InsD)) (ps : List ProcD) (os : List OpenD) (pipes : List PipeD) (files : List FileD) (rd out : List Int) : Bool :=
  inV next 1 100000 && inV tick 0 1000000 && progsOkV progs && decide (out.length ≤ 60) && wordsOkV out && decide (ps.length ≤ 6) && decide (pagesV ps ≤ 16)
    && rowsV procKey (procInV next tick progs.length ps os) ps && thingsV ps os pipes files && readyV ps rd
def pipesOkV (os : List OpenD) (pipes : List PipeD) : Bool := decide (pipes.length ≤ 3) && rowsV pipeKey (pipe1V os) pipes
def unixOkI (next tick : Int) (progs : List (List InsD)) (ps : List ProcD) (os : List OpenD) (pipes : List PipeD) (files : List FileD) (rd out : List Int) : Bool :=
  inV next 1 100000 && inV tick 0 1000000 && inV ((progs.length : Nat) : Int) 1 4 && decide (out.length ≤ 60) && wordsOkV out && progs.all progOkV && decide (ps.length ≤ 6) && decide (os.length ≤ 8)
    && rowsV procKey (procInV next tick progs.length ps os) ps && rowsV openKey (open1V ps pipes files) os && decide (wordsV ps ≤ 64) && pipesOkV os pipes && filesOkV files && decide (sortV rd = readyPids ps)
theorem perm_of_sub : ∀ {w r : List Int}, w.Nodup → (∀ x ∈ w, x ∈ r) → w.length = r.length → w.Perm r
  | [], r, _, _, h => by
    have : r = [] := List.eq_nil_of_length_eq_zero (by simpa using h.symm)
    subst this; exact List.Perm.nil
  | x :: w, r, hn, hs, hl => by
    have hx : x ∈ r := hs x (by simp)
    have hp := List.perm_cons_erase hx
    rw [List.nodup_cons] at hn
    refine List.Perm.trans (List.Perm.cons x ?_) hp.symm
    refine perm_of_sub hn.2 (fun y hy => ?_) ?_
    · have hne : y ≠ x := fun e => hn.1 (e ▸ hy)
      exact (List.mem_erase_of_ne hne).2 (hs y (by simp [hy]))
    · rw [List.length_erase_of_mem hx]
      simp only [List.length_cons] at hl
      omega
theorem sortV_le (a : List Int) : (sortV a).Pairwise (· ≤ ·) := by
  have := List.pairwise_mergeSort (le := fun (x y : Int) => decide (x ≤ y)) (fun a b c h1 h2 => decide_eq_true (Int.le_trans (of_decide_eq_true h1) (of_decide_eq_true h2))) (fun a b => by
    rcases Int.le_total a b with h | h <;> simp [h]) a
  exact this.imp fun h => of_decide_eq_true h
theorem rise_eq : ∀ {a b : List Int}, a.Pairwise (· < ·) → b.Pairwise (· < ·) → (∀ x, x ∈ a ↔ x ∈ b) → a = b
  | [], b, _, _, h => by
    cases b with
    | nil => rfl
    | cons y r => exact absurd ((h y).2 (by simp)) (by simp)
  | x :: a, [], _, _, h => absurd ((h x).1 (by simp)) (by simp)
  | x :: a, y :: b, ha, hb, h => by
    rw [List.pairwise_cons] at ha hb
    have hxy : x = y := by
      have h1 : x ∈ y :: b := (h x).1 (by simp)
      have h2 : y ∈ x :: a := (h y).2 (by simp)
      rcases List.mem_cons.1 h1 with e | h1
      · exact e
      · rcases List.mem_cons.1 h2 with e | h2
        · exact e.symm
        · have := hb.1 x h1; have := ha.1 y h2; omega
    subst hxy
    congr 1
    refine rise_eq ha.2 hb.2 fun z => ?_
    constructor
    · intro hz
      rcases List.mem_cons.1 ((h z).1 (by simp [hz])) with e | q
      · have := ha.1 z hz; omega
      · exact q
    · intro hz
      rcases List.mem_cons.1 ((h z).2 (by simp [hz])) with e | q
      · have := hb.1 z hz; omega
      · exact q
theorem sort_same {rd w : List Int} (hw : w.Pairwise (· < ·)) : sortV rd = w ↔ ((∀ x ∈ w, x ∈ rd) ∧ w.length = rd.length) := by
  constructor
  · rintro rfl
    exact ⟨fun x hx => List.mem_mergeSort.1 hx, List.length_mergeSort _⟩
  · rintro ⟨h1, h2⟩
    have hn : w.Nodup := hw.imp fun h e => by omega
    have hp : w.Perm rd := perm_of_sub hn h1 h2
    have hq : (sortV rd).Perm rd := List.mergeSort_perm _ _
    have hn2 : (sortV rd).Nodup := (hq.trans hp.symm).nodup_iff.2 hn
    refine rise_eq ?_ hw fun x => (hq.trans hp.symm).mem_iff
    exact (List.pairwise_and_iff.2 ⟨sortV_le rd, hn2⟩).imp fun ⟨a, b⟩ => by omega
theorem rows_all {α : Type} {key : α → Int} {ok : α → Bool} {a : List α} (h : rowsV key ok a = true) : a.all ok = true := by
  unfold rowsV at h
  rw [List.all_eq_true] at h ⊢
  intro x hx
  obtain ⟨i, hi, rfl⟩ := List.getElem_of_mem hx
  have := h i (List.mem_range.2 hi)
  cases i with
  | zero => rw [rowV_zero hi] at this; exact this
  | succ i => rw [rowV_succ hi, Bool.and_eq_true] at this; exact this.1
theorem rows_rise {α : Type} {key : α → Int} {ok : α → Bool} {a : List α} (h : rowsV key ok a = true) : (a.map key).Pairwise (· < ·) := by
  unfold rowsV at h
  rw [List.all_eq_true] at h
  have h1 : ∀ i (hi : i + 1 < a.length), key a[i] < key a[i + 1] := fun i hi => by
    have := h (i + 1) (List.mem_range.2 hi)
    rw [rowV_succ hi, Bool.and_eq_true] at this
    exact of_decide_eq_true this.2
  rw [List.pairwise_iff_getElem]
  have key2 : ∀ (m i : Nat) (hi : i + m + 1 < a.length), key a[i] < key a[i + m + 1] := by
    intro m
    induction m with
    | zero => intro i hi; exact h1 i hi
    | succ m ih => intro i hi; exact Int.lt_trans (ih i (by omega)) (h1 (i + m + 1) hi)
  intro i j hi hj hij
  simp only [List.length_map] at hi hj
  simp only [List.getElem_map]
  obtain ⟨m, rfl⟩ : ∃ m, j = i + m + 1 := ⟨j - i - 1, by omega⟩
  exact key2 m i hj
theorem readyPids_rise {ok : ProcD → Bool} {ps : List ProcD} (h : rowsV procKey ok ps = true) : (readyPids ps).Pairwise (· < ·) :=
  (rows_rise h).sublist (List.filter_sublist.map procKey)
theorem ready_same {ok : ProcD → Bool} {ps : List ProcD} {rd : List Int} (h : rowsV procKey ok ps = true) : decide (sortV rd = readyPids ps) = readyV ps rd := by
  rw [Bool.eq_iff_iff, decide_eq_true_iff, sort_same (readyPids_rise h)]
  unfold readyV
  rw [Bool.and_eq_true, List.all_eq_true, decide_eq_true_iff]
  simp only [hasV_iff]
theorem pages_words : ∀ (ps : List ProcD) (n : Nat), (∀ p ∈ ps, p.2.2.2.2.2.1.length ≤ 12 ∧ p.2.2.2.2.2.1.length % 4 = 0) → n + 12 * ps.length ≤ 1000 →
    ∃ m : Nat, ps.foldl (fun n (p : ProcD) => IntKind.i64.wrap (n + ((p.2.2.2.2.2.1.length / 4 : Nat) : Int))) ((n : Nat) : Int) = ((m : Nat) : Int) ∧
      ps.foldl (fun n (p : ProcD) => IntKind.i64.wrap (n + ((p.2.2.2.2.2.1.length : Nat) : Int))) ((4 * n : Nat) : Int) = ((4 * m : Nat) : Int)
  | [], n, _, _ => ⟨n, rfl, rfl⟩
  | p :: r, n, h, hn => by
    have hp := h p (by simp)
    simp only [List.length_cons] at hn
    obtain ⟨m, h1, h2⟩ := pages_words r (n + p.2.2.2.2.2.1.length / 4) (fun q hq => h q (by simp [hq])) (by omega)
    refine ⟨m, ?_, ?_⟩
    · rw [List.foldl_cons, wrap_le (by omega) (by omega), ← h1]; congr 1
    · rw [List.foldl_cons, wrap_le (by omega) (by omega), ← h2]; congr 1; omega
theorem pages_same {ps : List ProcD} (h : ∀ p ∈ ps, p.2.2.2.2.2.1.length ≤ 12 ∧ p.2.2.2.2.2.1.length % 4 = 0) (hl : ps.length ≤ 6) : decide (wordsV ps ≤ 64) = decide (pagesV ps ≤ 16) := by
  obtain ⟨m, h1, h2⟩ := pages_words ps 0 h (by omega)
  unfold wordsV pagesV
  have h1' : ps.foldl (fun n (p : ProcD) => IntKind.i64.wrap (n + ((p.2.2.2.2.2.1.length / 4 : Nat) : Int))) 0 = ((m : Nat) : Int) := h1
  have h2' : ps.foldl (fun n (p : ProcD) => IntKind.i64.wrap (n + ((p.2.2.2.2.2.1.length : Nat) : Int))) 0 = ((4 * m : Nat) : Int) := h2
  rw [h1', h2', Bool.eq_iff_iff, decide_eq_true_iff, decide_eq_true_iff]
  omega
theorem filesOkV_rows (a : List FileD) : filesOkV a = (decide (a.length ≤ 6) && rowsV fileKey file1V a) := by
  have e : fileRowV a = rowV fileKey file1V a := by
    funext i
    unfold fileRowV rowV
    cases a[i]? with
    | none => rfl
    | some x =>
      cases i with
      | zero => rfl
      | succ j => cases h : a[j]? <;> simp only [h] <;> rfl
  unfold filesOkV rowsV
  rw [e]
theorem procs_mem {next tick : Int} {np : Nat} {ps : List ProcD} {os : List OpenD} (h : rowsV procKey (procInV next tick np ps os) ps = true) : ∀ p ∈ ps, p.2.2.2.2.2.1.length ≤ 12 ∧ p.2.2.2.2.2.1.length % 4 = 0 := fun p hp => by
  have := List.all_eq_true.1 (rows_all h) p hp
  unfold procInV proc1V procOkV at this
  simp only [Bool.and_eq_true, decide_eq_true_eq] at this
  exact ⟨this.2.1.1.1.1.1.1.1.1.2, this.2.1.1.1.1.1.1.1.2⟩
theorem unix_same (next tick : Int) (progs : List (List InsD)) (ps : List ProcD) (os : List OpenD) (pipes : List PipeD) (files : List FileD) (rd out : List Int) :
    unixOkI next tick progs ps os pipes files rd out = unixOkV next tick progs ps os pipes files rd out := by
  unfold unixOkI unixOkV thingsV pipesOkV progsOkV
  rw [filesOkV_rows]
  have e1 : inV ((progs.length : Nat) : Int) 1 4 = (decide (1 ≤ progs.length) && decide (progs.length ≤ 4)) := by
    unfold inV
    congr 1 <;> (rw [Bool.eq_iff_iff]; simp; omega)
  rw [e1]
  by_cases hr : rowsV procKey (procInV next tick progs.length ps os) ps = true
  · by_cases hl : ps.length ≤ 6
    · rw [pages_same (procs_mem hr) hl, ready_same hr, hr]
      simp only [Bool.and_true, Bool.true_and]
      ac_rfl
    · simp [hl]
  · rw [Bool.eq_false_iff.2 hr]
    simp
theorem cnt_fold {α : Type} (p : α → Bool) : ∀ (a : List α) (n : Nat), n + a.length ≤ 9223372036854775807 →
    a.foldl (fun (n : Int) x => if p x = true then IntKind.i64.wrap (n + 1) else n) ((n : Nat) : Int) = ((n + a.countP p : Nat) : Int)
  | [], n, _ => rfl
  | x :: r, n, h => by
    rw [List.length_cons] at h
    rw [List.foldl_cons, List.countP_cons]
    cases hx : p x with
    | false =>
      rw [if_neg (by decide), cnt_fold p r n (by omega)]
      simp
    | true =>
      rw [if_pos rfl, wrap_le (by omega) (by omega)]
      have := cnt_fold p r (n + 1) (by omega)
      rw [show ((n : Nat) : Int) + 1 = ((n + 1 : Nat) : Int) by omega, this]
      simp only [if_true]
      omega
theorem endsV_cnt {os : List OpenD} (h : os.length ≤ BIG) (pipe k : Int) : endsV os pipe k = ((os.countP (endV k pipe) : Nat) : Int) := by
  have := cnt_fold (endV k pipe) os 0 (by have : os.length ≤ 9223372036854775807 := h; omega)
  unfold endsV
  refine this.trans ?_
  rw [Nat.zero_add]
theorem cnt_two {α : Type} {p q r : α → Bool} (h : ∀ x, r x = (p x || q x)) (hd : ∀ x, (p x && q x) = false) : ∀ a : List α, a.countP p + a.countP q = a.countP r
  | [] => rfl
  | x :: l => by
    have ih := cnt_two h hd l
    have h1 := h x
    have h2 := hd x
    rw [List.countP_cons, List.countP_cons, List.countP_cons]
    revert h1 h2
    cases p x <;> cases q x <;> intro h1 h2
    · rw [h1]; simp; omega
    · rw [h1]; simp; omega
    · rw [h1]; simp; omega
    · simp at h2
theorem ends_any {os : List OpenD} (h : os.length ≤ BIG) (pipe : Int) : (IntKind.i64.wrap (endsV os pipe 3 + endsV os pipe 4) == 0) = !os.any (isEndV pipe) := by
  have hb : os.length ≤ 9223372036854775807 := h
  have h2 := cnt_two (p := endV 3 pipe) (q := endV 4 pipe) (r := isEndV pipe) (fun _ => rfl) (fun x => by
    unfold endV
    by_cases q : x.2.1 = 3
    · simp [q]
    · simp [q]) os
  have h3 : os.countP (isEndV pipe) ≤ os.length := List.countP_le_length
  rw [endsV_cnt h, endsV_cnt h, wrap_le (by omega) (by omega)]
  rw [Bool.eq_iff_iff]
  simp only [beq_iff_eq, Bool.not_eq_true', List.any_eq_false]
  have h4 : os.countP (isEndV pipe) = 0 ↔ ∀ x ∈ os, ¬ isEndV pipe x = true := List.countP_eq_zero
  constructor
  · intro q; exact fun x hx => h4.1 (by omega) x hx
  · intro q
    have := h4.2 q
    omega
end Go.Proofs.YtnnpnkegpkladaaGreat.Dm
