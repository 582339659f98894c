/- The data machine, part 19: append, run. -/
import Derived.Test.YtjcinikojcfebaaDm18
namespace Go.Proofs.Ytjcinikojcfebaa.Dm
open Go

section
variable {P : Program} {w : World}

theorem append_room (t ty e : TypeId) (i : TypeInfo) (ht : P.underlying t = some (.slice e)) (hi : P.info? e = some i)
    (g o sLen sCap : Nat) (cur : Array Value) (T : TypeId) (hg : w.heap[g]? = some (.cells cur T (0, 0)))
    (a : Addr) (m c : Nat) (news : List Value) (hl : news.length = m * i.size) (hnews : ∀ j u, news[j]? = some u → w.cell? (a.add j) = some u) (h1 : ∀ u ∈ news, u.oneCell' = true)
    (hroom : sLen + m ≤ sCap) (hfit : o + sLen * i.size + news.length ≤ cur.size) :
    (Builtin.append_ #[t, t] ty #[.slice (some ⟨g, o, none⟩) sLen sCap, .slice (some a) m c]).run P w =
      .ok (.slice (some ⟨g, o, none⟩) (sLen + m) sCap) (w.setRow g (spliced cur (o + sLen * i.size) news)) := by
  have hf := run_firstCells_some (P := P) w i.size m a m c news hl hnews
  have hst := run_storeCells_at P g (o + sLen * i.size) T news 0 cur w hg (by simpa using hfit) h1
  simp only [Nat.add_zero] at hst
  simp [Builtin.append_, run_underlying ht, sizeOf, typeInfo, hi, Builtin.lenOf, hroom, hf, Addr.add_lit, hst, spliced]

theorem append_none (t ty e : TypeId) (i : TypeInfo) (ht : P.underlying t = some (.slice e)) (hi : P.info? e = some i) (s a : Option Addr) (sLen sCap c : Nat) (h : sLen ≤ sCap) :
    (Builtin.append_ #[t, t] ty #[.slice s sLen sCap, .slice a 0 c]).run P w = .ok (.slice s sLen sCap) w := by
  cases s <;> cases a <;> simp [Builtin.append_, run_underlying ht, sizeOf, typeInfo, hi, Builtin.lenOf, h, Builtin.firstCells, loadCells, loadCellsFrom, storeCells]

theorem append_grow0 (t ty e : TypeId) (i : TypeInfo) (z : Value) (ht : P.underlying t = some (.slice e)) (hi : P.info? e = some i) (hz : i.zero = some z) (s : Option Addr)
    (a : Addr) (n c : Nat) (news : List Value) (hl : news.length = n * i.size) (hnews : ∀ j v, news[j]? = some v → w.cell? (a.add j) = some v)
    (h0 : 0 < n) (h63 : (n : Int) ≤ 9223372036854775807) (h48 : n * i.bytes ≤ 281474976710656) :
    (Builtin.append_ #[t, t] ty #[.slice s 0 0, .slice (some a) n c]).run P w =
      .ok (.slice (some ⟨w.heap.size, 0, none⟩) n (grownCap w n 0 e)) (w.drew.alloc (.cells (news.toArray ++ Builtin.zeroCells z.cells (grownCap w n 0 e - n)) e)) := by
  have hn : n ≠ 0 := by omega
  have h63' : ¬ (9223372036854775807 < (n : Int)) := by omega
  have h48' : ¬ (281474976710656 < Builtin.nextslicecap n 0 * i.bytes) := by rw [nextslicecap_zero h0]; omega
  have hf := run_firstCells_some (P := P) w.drew i.size n a n c news hl (by simpa using hnews)
  have hs : (Builtin.firstCells i.size 0 (.slice s 0 0)).run P w.drew = .ok #[] w.drew := by
    cases s <;> simp [Builtin.firstCells, loadCells, loadCellsFrom]
  simp [Builtin.append_, run_underlying ht, sizeOf, typeInfo, zeroValue, hi, hz, Builtin.lenOf, hn, h63', h48', Question.forced, hs, hf, newRow, grownCap]

/-- What 'append' comes to. -/
structure Appended (c : Ctx) (w : World) (e : Ty) (zs : List e.D) (fx gp : List Nat) (v' : Value) (w' : World) (f : List Nat) : Prop where
  rep : (Ty.sl e).repO w' [v'] zs f
  nodup : f.Nodup
  from_ : ∀ b ∈ f, (w.heap.size ≤ b ∧ b < w'.heap.size) ∨ b ∈ fx ∨ b ∈ gp
  size : w.heap.size ≤ w'.heap.size
  heap : ∀ b, b ∉ fx → b < w.heap.size → w'.heap[b]? = w.heap[b]?
  ev : Ev c w → (∀ b ∈ fx, ¬ c.S b) → (∀ b ∈ fx, b < c.w0.heap.size → ∀ j, c.M b j) → Ev c w'

theorem zeroCells_size (z : Array Value) (n : Nat) : (Builtin.zeroCells z n).size = n * z.size := by simp [Builtin.zeroCells]

theorem append_run (c : Ctx) {t ty eid : TypeId} {e : Ty} (hu : P.underlying t = some (.slice eid)) (hok : e.Ok P eid) {vx vy : Value} {xs ys : List e.D} {fx : List Nat} {gps : List (List Nat)}
    (hx : (Ty.sl e).repO w [vx] xs fx) (hy : Src w e vy ys gps) (hfx : fx.Nodup) (hg : gps.flatten.Nodup) (hd : ∀ b ∈ gps.flatten, b ∉ fx) (hgl : ∀ b ∈ gps.flatten, b < w.heap.size) (hn : xs.length + ys.length ≤ LIM) :
    ∃ v' w' f, (Builtin.append_ #[t, t] ty #[vx, vy]).run P w = .ok v' w' ∧ Appended c w e (xs ++ ys) fx gps.flatten v' w' f := by
  obtain ⟨i, z, hi, hs, hb, hz, hzc, hpos⟩ := hok.base
  obtain ⟨a, cy, rfl, hgl1, hy⟩ := hy
  have hx0 := hx
  simp only [Ty.repO] at hx
  obtain ⟨ax, cap, ex, ⟨hcap, _⟩, hx⟩ := hx
  obtain rfl : vx = .slice ax xs.length cap := by simpa using ex
  have hflt : ∀ b ∈ fx, b < w.heap.size := Ty.repO_lt _ hx0
  by_cases hne : ys = []
  · subst hne
    refine ⟨.slice ax xs.length cap, w, fx, append_none t ty eid i hu hi ax a xs.length cap cy hcap, by simpa using hx0, hfx, fun b hb => .inr (.inl hb), Nat.le_refl _, fun _ _ _ => rfl, fun h _ _ => h⟩
  · have hy : ∃ b o, a = some ⟨b, o, none⟩ ∧ ∀ (i : Nat) (y : e.D) (f : List Nat), ys[i]? = some y → gps[i]? = some f → e.repO w (cellsAt w b (o + i * e.size) e.size) y f := by
      rcases hy with h | h
      · exact absurd h hne
      · exact h
    obtain ⟨by', oy, ha, hy2⟩ := hy
    subst ha
    have hm : 0 < ys.length := List.length_pos_iff.2 hne
    obtain ⟨CY, TY, frY, q1, q2, q3, q4, q5⟩ := Src.cells hgl1 hpos hne hy2
    have hcell : ∀ j u, (cellsAt w by' oy (ys.length * e.size))[j]? = some u → w.cell? ((⟨by', oy, none⟩ : Addr).add j) = some u := fun j u hu => by
      rw [Addr.add_lit]; exact cell_of_cellsAt hu
    generalize cellsAt w by' oy (ys.length * e.size) = news at q3 q4 q5 hcell
    unfold LIM at hn
    have hbytes : ∀ k, k ≤ xs.length + ys.length → k * i.bytes ≤ 140737488355328 := fun k hk => by
      have : k * i.bytes ≤ 68719476736 * 1024 := Nat.mul_le_mul (by omega) hb
      omega
    have hzs : z.cells.size = e.size := by have := Ty.zeroV_length e; rw [← hzc] at this; simpa using this
    -- what a new row is
    have grown : ∀ (old : List Value) (fps : List (List Nat)) (C0 : Nat), old.length = xs.length * e.size → Items w e old xs fps → fps.flatten.Nodup → (∀ b ∈ fps.flatten, b ∈ fx) →
        Appended c w e (xs ++ ys) fx gps.flatten (.slice (some ⟨w.heap.size, 0, none⟩) (xs.length + ys.length) (grownCap w (xs.length + ys.length) C0 eid))
          (w.drew.alloc (.cells (old.toArray ++ news.toArray ++ Builtin.zeroCells z.cells (grownCap w (xs.length + ys.length) C0 eid - (xs.length + ys.length))) eid)) (w.heap.size :: (fps ++ gps).flatten) := by
      intro old fps C0 ho hio hfn hsub
      have hge := grownCap_ge w (xs.length + ys.length) C0 eid
      have hit := items_append hio q4 ho q3 (Builtin.zeroCells z.cells (grownCap w (xs.length + ys.length) C0 eid - (xs.length + ys.length))).toList
      have hlt : ∀ b ∈ (fps ++ gps).flatten, b < w.heap.size := fun b hb => by
        rw [List.flatten_append, List.mem_append] at hb
        rcases hb with hb | hb
        · exact hflt b (hsub b hb)
        · exact hgl b hb
      refine ⟨?_, ?_, ?_, by simp, ?_, fun h _ _ => h.drew.alloc _ _⟩
      · have := items_repO (w := w.drew) (T := eid) (cap := grownCap w (xs.length + ys.length) C0 eid) (A := old.toArray ++ news.toArray ++ Builtin.zeroCells z.cells (grownCap w (xs.length + ys.length) C0 eid - (xs.length + ys.length)))
          (xs := xs ++ ys) (fps := fps ++ gps) (e := e) (Items.congr (w := w) (by simpa using hit) (fun _ _ => rfl)) ⟨by simpa using hge, by rw [List.length_append]; exact Nat.le_trans hn (by decide)⟩ (by
            simp only [Array.size_append, List.size_toArray, zeroCells_size, hzs, ho, q3, ← Nat.add_mul]
            exact Nat.mul_le_mul_right _ (by omega)) hlt
        simpa using this
      · rw [List.nodup_cons, List.flatten_append, List.nodup_append]
        refine ⟨fun h => Nat.lt_irrefl _ (hlt _ (by rw [List.flatten_append]; exact h)), hfn, hg, fun x h1 y h2 e => hd y h2 (hsub y (e ▸ h1))⟩
      · intro b hb
        rcases List.mem_cons.1 hb with rfl | hb
        · exact .inl ⟨Nat.le_refl _, by simp⟩
        · rw [List.flatten_append, List.mem_append] at hb
          rcases hb with hb | hb
          · exact .inr (.inl (hsub b hb))
          · exact .inr (.inr hb)
      · intro b _ hb
        exact heap_alloc_old w.drew _ b hb
    rcases hx with ⟨rfl, rfl⟩ | ⟨b, o, C, T, fps, rfl, hbC, hC, hfl, rfl, hxi⟩
    · have hxn : xs = [] := List.eq_nil_of_length_eq_zero (by simpa using hcap)
      subst hxn
      have hr := append_grow0 (w := w) t ty eid i z hu hi hz ax ⟨by', oy, none⟩ ys.length cy news (by rw [hs]; exact q3) hcell hm (by simp at hn; omega) (by have := hbytes ys.length (by simp); omega)
      have := grown [] [] 0 (by simp) ⟨rfl, by simp⟩ (by simp) (by simp)
      simp only [List.length_nil, Nat.zero_add, List.nil_append, Array.empty_append] at this
      exact ⟨_, _, _, hr, this⟩
    · have hTe : Items w e ((C.toList.drop o).take (xs.length * e.size)) xs fps := by
        refine ⟨hfl, fun k y f hy hf => ?_⟩
        have := hxi k y f hy hf
        rwa [← cellsAt_of hbC, chunk_cellsAt (List.getElem?_eq_some_iff.1 hy).1]
      have hxc : xs.length * e.size ≤ cap * e.size := Nat.mul_le_mul_right _ hcap
      have hxl : ((C.toList.drop o).take (xs.length * e.size)).length = xs.length * e.size := by simp; omega
      have hbf : b ∉ fps.flatten := (List.nodup_cons.1 hfx).1
      by_cases hroom : xs.length + ys.length ≤ cap
      · have hrc : (xs.length + ys.length) * e.size ≤ cap * e.size := Nat.mul_le_mul_right _ hroom
        rw [Nat.add_mul] at hrc
        have hr := append_room (w := w) t ty eid i hu hi b o xs.length cap C T hbC ⟨by', oy, none⟩ ys.length cy news (by rw [hs]; exact q3) hcell q5 hroom (by rw [hs]; omega)
        rw [hs] at hr
        have hother : ∀ b', b' ≠ b → (w.setRow b (spliced C (o + xs.length * e.size) news)).heap[b']? = w.heap[b']? := fun b' hne => setRow_other w b b' _ hne
        have hgb : ∀ b' ∈ gps.flatten, b' ≠ b := fun b' hb' e => hd b' hb' (by simp [e])
        have hfb : ∀ b' ∈ fps.flatten, b' ≠ b := fun b' hb' e => hbf (e ▸ hb')
        have hit := items_append hTe q4 hxl q3 []
        have hrow : (((spliced C (o + xs.length * e.size) news).toList.drop o).take ((xs ++ ys).length * e.size)) = (C.toList.drop o).take (xs.length * e.size) ++ news ++ [] := by
          have := cellsAt_spliced (w := w) (B := b) (o' := o) (k := xs.length * e.size) (n := (xs.length + ys.length) * e.size) (vs := news) hbC (by rw [q3, Nat.add_mul]; omega) (by rw [Nat.add_mul]; omega)
          rw [cellsAt_of (setRow_heap w b C _ T _ hbC), cellsAt_of hbC] at this
          rw [List.length_append, this, List.append_nil, q3, List.drop_of_length_le (Nat.le_trans (List.length_take_le _ _) (by rw [Nat.add_mul]; exact Nat.le_refl _)), List.append_nil, List.take_take, Nat.min_eq_left (by rw [Nat.add_mul]; omega)]
        refine ⟨_, _, b :: (fps ++ gps).flatten, hr, ⟨?_, ?_, ?_, by simp, ?_, ?_⟩⟩
        · have := items_at (w := w.setRow b (spliced C (o + xs.length * e.size) news)) (e := e) (xs := xs ++ ys) (fps := fps ++ gps) (cap := cap) (o := o) (setRow_heap w b C _ T _ hbC) ⟨by simpa using hroom, by rw [List.length_append]; exact Nat.le_trans hn (by decide)⟩
            (by rw [spliced_size (by omega)]; exact hC) (by
              rw [hrow]
              refine Items.congr (w := w) hit fun b' hb' => hother b' ?_
              rw [List.flatten_append, List.mem_append] at hb'
              rcases hb' with hb' | hb'
              · exact hfb b' hb'
              · exact hgb b' hb')
          simpa using this
        · rw [List.nodup_cons, List.flatten_append, List.nodup_append]
          refine ⟨fun h => ?_, (List.nodup_cons.1 hfx).2, hg, fun x h1 y h2 e => hd y h2 (by simp only [List.mem_cons]; right; exact e ▸ h1)⟩
          rcases List.mem_append.1 h with h | h
          · exact hbf h
          · exact hgb b h rfl
        · intro b' hb'
          rw [List.flatten_append, List.mem_cons, List.mem_append] at hb'
          rcases hb' with rfl | hb' | hb'
          · exact .inr (.inl (by simp))
          · exact .inr (.inl (by simp only [List.mem_cons]; exact .inr hb'))
          · exact .inr (.inr hb')
        · intro b' hb' _
          exact hother b' fun e => hb' (by simp [e])
        · intro hev hS hM
          exact hev.setRow hbC (hS b (by simp)) (spliced_size (by omega)) fun hlt j hj => absurd (hM b (by simp) hlt j) hj
      · have hxcell : ∀ j u, ((C.toList.drop o).take (xs.length * e.size))[j]? = some u → w.cell? ((⟨b, o, none⟩ : Addr).add j) = some u := fun j u hu => by
          rw [Addr.add_lit]; rw [← cellsAt_of hbC] at hu; exact cell_of_cellsAt hu
        have hr := run_append_grow (P := P) w t ty eid i z hu hi hz ⟨b, o, none⟩ xs.length cap _ (by rw [hs]; exact hxl) hxcell ⟨by', oy, none⟩ ys.length cy news (by rw [hs]; exact q3) hcell (by omega) (by omega)
          (growslice_fits (by omega) (hbytes _ (Nat.le_refl _)))
        exact ⟨_, _, _, hr, grown _ fps cap hxl hTe (List.nodup_cons.1 hfx).2 fun b' hb' => by simp only [List.mem_cons]; exact .inr hb'⟩
end
end Go.Proofs.Ytjcinikojcfebaa.Dm
