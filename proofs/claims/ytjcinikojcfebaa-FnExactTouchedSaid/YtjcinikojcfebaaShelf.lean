/- The library's sort and compact at a list of numbers: what is proved of them for any program, laid at this one. -/
import Derived.Shelf.Sort.Plain
import Derived.Ground.Names2Prog
import Derived.Shelf.Slices.CompactI
import Derived.Shelf.Slices.In.SortNone
import Derived.Test.YtjcinikojcfebaaProg
namespace Go.Proofs
open Go.Shelf
def Try.lays189_ren : Go.Shelf.Ren := ⟨fun | 189 => 186 | 125 => 220 | 257 => 219 | 128 => 241 | 129 => 242 | 294 => 232 | 295 => 233 | 296 => 234 | 297 => 235 | 298 => 236 | 299 => 237 | 216 => 238 | 300 => 239 | 301 => 240 | 328 => 248 | 329 => 249 | 330 => 250 | 331 => 251 | 332 => 252 | 215 => 253 | 343 => 254 | n => n, fun | 28 => 30 | 3 => 3 | 46 => 64 | 0 => 0 | 51 => 232 | 53 => 234 | 4 => 4 | 183 => 224 | 182 => 223 | 131 => 229 | 5 => 5 | 9 => 9 | 218 => 236 | 222 => 240 | 228 => 242 | 229 => 211 | n => n, fun | n => n⟩
theorem Try.lays189 : Go.Proofs.Lays.n189 Try.prog Try.lays189_ren := {
  mixed := by kernel_rfl
  f125 := Try.func220.trans (congrArg some (by kernel_rfl))
  f128 := Try.func241.trans (congrArg some (by kernel_rfl))
  f129 := Try.func242.trans (congrArg some (by kernel_rfl))
  f189 := Try.func186.trans (congrArg some (by kernel_rfl))
  f215 := Try.func253.trans (congrArg some (by kernel_rfl))
  f216 := Try.func238.trans (congrArg some (by kernel_rfl))
  f257 := Try.func219.trans (congrArg some (by kernel_rfl))
  f294 := Try.func232.trans (congrArg some (by kernel_rfl))
  f295 := Try.func233.trans (congrArg some (by kernel_rfl))
  f296 := Try.func234.trans (congrArg some (by kernel_rfl))
  f297 := Try.func235.trans (congrArg some (by kernel_rfl))
  f298 := Try.func236.trans (congrArg some (by kernel_rfl))
  f299 := Try.func237.trans (congrArg some (by kernel_rfl))
  f300 := Try.func239.trans (congrArg some (by kernel_rfl))
  f301 := Try.func240.trans (congrArg some (by kernel_rfl))
  f328 := Try.func248.trans (congrArg some (by kernel_rfl))
  f329 := Try.func249.trans (congrArg some (by kernel_rfl))
  f330 := Try.func250.trans (congrArg some (by kernel_rfl))
  f331 := Try.func251.trans (congrArg some (by kernel_rfl))
  f332 := Try.func252.trans (congrArg some (by kernel_rfl))
  f343 := Try.func254.trans (congrArg some (by kernel_rfl))
  t0 := Try.underlying0
  a0 := Try.isAgg0
  z0 := Try.sizeOf0
  v0 := Try.zeroValue0
  t3 := Try.underlying3
  a3 := Try.isAgg3
  z3 := Try.sizeOf3
  v3 := Try.zeroValue3
  t4 := Try.underlying4
  a4 := Try.isAgg4
  z4 := Try.sizeOf4
  v4 := Try.zeroValue4
  t5 := Try.underlying5
  a5 := Try.isAgg5
  z5 := Try.sizeOf5
  v5 := Try.zeroValue5
  t9 := Try.underlying9
  a9 := Try.isAgg9
  z9 := Try.sizeOf9
  v9 := Try.zeroValue9
  t28 := Try.underlying30
  a28 := Try.isAgg30
  z28 := Try.sizeOf30
  v28 := Try.zeroValue30
  t46 := Try.underlying64
  a46 := Try.isAgg64
  z46 := Try.sizeOf64
  v46 := Try.zeroValue64
  t51 := Try.underlying232
  a51 := Try.isAgg232
  z51 := Try.sizeOf232
  v51 := Try.zeroValue232
  t53 := Try.underlying234
  a53 := Try.isAgg234
  z53 := Try.sizeOf234
  v53 := Try.zeroValue234
  t131 := Try.underlying229
  a131 := Try.isAgg229
  z131 := Try.sizeOf229
  v131 := Try.zeroValue229
  t182 := Try.underlying223
  a182 := Try.isAgg223
  z182 := Try.sizeOf223
  v182 := Try.zeroValue223
  t183 := Try.underlying224
  a183 := Try.isAgg224
  z183 := Try.sizeOf224
  v183 := Try.zeroValue224
  t218 := Try.underlying236
  a218 := Try.isAgg236
  z218 := Try.sizeOf236
  v218 := Try.zeroValue236
  t222 := Try.underlying240
  a222 := Try.isAgg240
  z222 := Try.sizeOf240
  v222 := Try.zeroValue240
  t228 := Try.underlying242
  a228 := Try.isAgg242
  z228 := Try.sizeOf242
  v228 := Try.zeroValue242
  t229 := Try.underlying211
  a229 := Try.isAgg211
  z229 := Try.sizeOf211
  v229 := Try.zeroValue211 }
open Go.Sort Go.RowKit in
theorem Try.slices_Sort_int (blk off cap : Nat) (zs : List Int) (w : World) (hH : Holds (Value.int .i64) w blk off zs.toArray) (hblk : blk < w.heap.size) (hsz : zs.length < 4611686018427387904) :
    Calls Try.prog 186 #[.slice (some ⟨blk, off, none⟩) zs.length cap] w fun e w' =>
      e = .returned (.tuple #[]) ∧ ∃ n os, w' = grow (putRow (Value.int .i64) (Sort.ahead w n) blk off (zs.mergeSort fun x y => decide (x ≤ y)).toArray) os := Any.slices_Sort_int Try.lays189 blk off cap zs w hH hblk hsz
def Try.laysNm220_ren : Go.Shelf.Ren := ⟨fun | 20 => 187 | n => n, fun | 22 => 30 | 3 => 3 | 4 => 4 | 0 => 0 | n => n, fun | n => n⟩
theorem Try.laysNm220 : Go.Proofs.Lays2.n20 Try.prog Try.laysNm220_ren := {
  mixed := by kernel_rfl
  f20 := Try.func187.trans (congrArg some (by kernel_rfl))
  t0 := Try.underlying0
  a0 := Try.isAgg0
  z0 := Try.sizeOf0
  v0 := Try.zeroValue0
  t3 := Try.underlying3
  a3 := Try.isAgg3
  z3 := Try.sizeOf3
  v3 := Try.zeroValue3
  t4 := Try.underlying4
  a4 := Try.isAgg4
  z4 := Try.sizeOf4
  v4 := Try.zeroValue4
  t22 := Try.underlying30
  a22 := Try.isAgg30
  z22 := Try.sizeOf30
  v22 := Try.zeroValue30
  i3 := by kernel_rfl }
open Go.RowKit Go.Lib Go.Sort in
/-- slices.Compact at []int: "Compact replaces consecutive runs of equal elements with a single copy. This is like the uniq command found on Unix. Compact modifies the contents of the slice s and returns the modified slice, which may have a smaller length. Compact zeroes the elements between the new length and the original length. The result preserves the nilness of s.": IT RETURNS THE SLICE CUT TO 'Lib.compact zs'; ITS CELLS HOLD 'Lib.compact zs', THEN ZERO VALUES up to the old length; all else is as it was, but for the count of draws. IN THE WORDS OF slices.Sort's CONTRACT ('Holds', 'putRow'): so the everyday 'slices.Sort(xs); xs = slices.Compact(xs)' goes from the one contract to the other. It asks 'zs.length ≤ cap' (every slice's: the reslicing 's[:k]' looks at it). Length 0, nil: '.._empty'. (LAID: no walk: one application.) -/
theorem Try.slices_Compact_int (blk off cap : Nat) (zs : List Int) (w : World) (hH : Holds (Value.int .i64) w blk off zs.toArray) (hsz : zs.length ≤ 9223372036854775807) (hcap : zs.length ≤ cap) :
    Calls Try.prog 187 #[.slice (some ⟨blk, off, none⟩) zs.length cap] w fun e w' => e = .returned (.slice (some ⟨blk, off, none⟩) (Lib.compact zs).length cap) ∧ ∃ q, w' = putRow (Value.int .i64) (Sort.ahead w q) blk off (Lib.compact zs ++ List.replicate (zs.length - (Lib.compact zs).length) 0).toArray := Any.slices_Compact_int Try.laysNm220 blk off cap zs w hH hsz hcap
open Go.RowKit Go.Lib Go.Sort in
/-- The same at a slice of length 0, a nil one too: it comes back as it is. (LAID: no walk: one application.) -/
theorem Try.slices_Compact_int_empty (a : Option Addr) (cap : Nat) (w : World) :
    Calls Try.prog 187 #[.slice a 0 cap] w fun e w' => e = .returned (.slice a 0 cap) ∧ w' = w := Any.slices_Compact_int_empty Try.laysNm220 a cap w
open Go.RowKit Go.Sort in
/-- .. and plain. (LAID: no walk: one application.) -/
theorem Try.slices_Sort_int_none (p : Option Addr) (cap : Nat) (w : World) :
    Calls Try.prog 186 #[.slice p 0 cap] w fun e w' => e = .returned (.tuple #[]) ∧ w' = w := Any.slices_Sort_int_none Try.lays189 p cap w
end Go.Proofs
