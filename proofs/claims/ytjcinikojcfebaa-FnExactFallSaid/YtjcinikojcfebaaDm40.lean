/- The data machine, part 40: what a law's row asks of the program's table, where the table's first words are all that matters. -/
import Derived.Test.YtjcinikojcfebaaDm39
import Derived.JoinedOf
namespace Go.Proofs.Ytjcinikojcfebaa.Dm
open Go

/-- The blank. -/
abbrev sp : Char := Char.ofNat 32
theorem words_split : ∀ (w : List Char) (r : List Char), (∀ c ∈ w, c ≠ sp) → wordsSigns (w ++ sp :: r) = w :: wordsSigns r
  | [], r, _ => rfl
  | c :: w, r, h => by
    have hc : c ≠ sp := h c (by simp)
    have ih := words_split w r fun d hd => h d (by simp [hd])
    rw [List.cons_append]
    unfold wordsSigns
    split
    · rename_i e; cases e
    · rename_i e
      have : c = sp := (List.cons.inj e).1
      exact absurd this hc
    · rename_i c' r' _ e
      obtain ⟨rfl, rfl⟩ := List.cons.inj e
      rw [ih]
      exact congrArg (fun l => (c :: w) :: l) (wordsSigns.eq_def r)
def noSp (w : List Char) : Bool := w.all fun c => !decide (c = sp)
theorem noSp_ok {w : List Char} (h : noSp w = true) : ∀ c ∈ w, c ≠ sp := fun c hc e => by
  have := List.all_eq_true.1 h c hc
  simp [e] at this
/-- The words behind the harness' two. -/
theorem words_behind {s : String} {a b d r : List Char} (hs : s = String.ofList (a ++ sp :: (b ++ sp :: (d ++ sp :: r)))) (ha : noSp a = true) (hb : noSp b = true) (hd : noSp d = true) (hm : (a == "harness".toList) = true) (hsum : isSumSigns b = true) :
    behindMainWord (wordsSigns s.toList) = d :: wordsSigns r := by
  rw [hs, String.toList_ofList, words_split a _ (noSp_ok ha), words_split b _ (noSp_ok hb), words_split d _ (noSp_ok hd)]
  show (if ((a == "harness".toList || a == "ownmain".toList) && isSumSigns b) = true then d :: wordsSigns r else _) = _
  rw [hm, hsum]
  rfl
def ch (l : List Nat) : List Char := l.map Char.ofNat
/-! Of a program that was cut out. -/
section
variable {P : Program} {q : List (List Char)}
theorem make_cut (hr : behindMainWord (wordsSigns P.initOrder.toList) = ch [99, 117, 116] :: q) : P.make = some .cut := by
  unfold Program.make
  rw [hr]
  have h1 : (ch [99, 117, 116] == "gc".toList || ch [99, 117, 116] == "spec".toList) = false := by kernel_rfl
  have h2 : (ch [99, 117, 116] == "cut".toList) = true := by kernel_rfl
  simp only [h1, h2, Bool.true_or, if_true, Bool.false_eq_true, if_false]
theorem strip_cut : stripLifts liftWords (ch [99, 117, 116] :: q) = ([], ch [99, 117, 116] :: q) := by kernel_rfl
theorem lifts_cut (hr : behindMainWord (wordsSigns P.initOrder.toList) = ch [99, 117, 116] :: q) : P.liftsFinal = false := by
  unfold Program.liftsFinal Program.headLifts
  simp only [hr, strip_cut]
  kernel_rfl
theorem mayEnter_cut (hr : behindMainWord (wordsSigns P.initOrder.toList) = ch [99, 117, 116] :: q) (h1 : P.laysLater = false) (h2 : P.bearsReflect = false) (h3 : P.doorFits [] = true) : P.mayEnter = true := by
  unfold Program.mayEnter
  rw [hr]
  simp only [strip_cut, h1, h2, h3]
  kernel_rfl
end
end Go.Proofs.Ytjcinikojcfebaa.Dm
