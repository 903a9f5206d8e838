/- The struct type Grid of the laws, which holds a slice: how it lies in memory, how an argument of it is opened, and what the laws' own helpers of it return. -/
import Derived.Test.YthlgfmdlecdchaaBase
import Derived.Test.YthlgfmdlecdchaaMem
import Derived.Test.YthlgfmdlecdchaaTInt64
namespace Go.Proofs.Ythlgfmdlecdchaa
open Go.RowKit

structure Grid where
  rows : Int
  columns : Int
  size : Int
  heights : List Int
structure GridR where
  rows : Int
  columns : Int
  size : Int
  heightsA : Option Addr
  heightsN : Nat
  heightsC : Nat
  heights : List Int
def GridR.val (x : GridR) : Grid := ⟨x.rows, x.columns, x.size, x.heights⟩
def GridR.cells (x : GridR) : List Value := [.int .i64 x.rows, .int .i64 x.columns, .int .i64 x.size, .slice x.heightsA x.heightsN x.heightsC]
instance : Inhabited GridR := ⟨⟨0, 0, 0, none, 0, 0, []⟩⟩
theorem GridR.cells_len (x : GridR) : x.cells.length = 4 := rfl
theorem GridR.cells_one (x : GridR) : ∀ u ∈ x.cells, u.oneCell' = true := by intro u hu; simp [GridR.cells] at hu; rcases hu with rfl | rfl | rfl | rfl <;> rfl
def GridR.In (x : GridR) (w : World) : Prop := SliceOf w 1 i64cells x.heightsA x.heightsN x.heights ∧ x.heightsN ≤ x.heightsC ∧ x.heightsC ≤ maxLen
theorem GridR.In.below {x : GridR} {w w' : World} (h : x.In w) (hb : Below w.heap.size w w') : x.In w' := ⟨h.1.below hb, h.2⟩
def Grid.Good (x : Grid) : Prop := I64 x.rows ∧ I64 x.columns ∧ I64 x.size ∧ ∀ y ∈ x.heights, I64 y
def Grid.eqB (x y : Grid) : Bool := decide (x.rows = y.rows) && decide (x.columns = y.columns) && decide (x.size = y.size) && Int64.eqSB x.heights y.heights
theorem Grid.eqB_self (x : Grid) : x.eqB x = true := by simp [Grid.eqB, Int64.eqSB_self]
def Grid.Sl (w : World) (A : Option Addr) (n : Nat) (xs : List Grid) : Prop := ∃ ps : List GridR, SliceOf w 4 GridR.cells A n ps ∧ (∀ p ∈ ps, p.In w) ∧ xs = ps.map GridR.val
section
variable {w w' : World} {A : Option Addr} {n : Nat} {xs : List Grid}
theorem Grid.Sl.len (h : Grid.Sl w A n xs) : xs.length = n := by obtain ⟨ps, h1, _, rfl⟩ := h; rw [List.length_map]; exact h1.len
theorem Grid.Sl.le (h : Grid.Sl w A n xs) : n ≤ 9223372036854775807 := by obtain ⟨ps, h1, _, rfl⟩ := h; exact h1.le
theorem Grid.Sl.below (h : Grid.Sl w A n xs) (hb : Below w.heap.size w w') : Grid.Sl w' A n xs := by
  obtain ⟨ps, h1, h2, rfl⟩ := h
  exact ⟨ps, h1.below hb, fun p hp => (h2 p hp).below hb, rfl⟩
theorem Grid.Sl.at_ (h : Grid.Sl w A n xs) {k : Nat} (hk : k < n) :
    ∃ b off r, A = some ⟨b, off, none⟩ ∧ b < w.heap.size ∧ xs[k]? = some (r : GridR).val ∧ r.In w ∧ w.cell? ⟨b, off + k * 4, none⟩ = some (.int .i64 r.rows) ∧ w.cell? ⟨b, off + k * 4 + 1, none⟩ = some (.int .i64 r.columns) ∧ w.cell? ⟨b, off + k * 4 + 2, none⟩ = some (.int .i64 r.size) ∧ w.cell? ⟨b, off + k * 4 + 3, none⟩ = some (.slice r.heightsA r.heightsN r.heightsC) := by
  obtain ⟨ps, h1, h2, rfl⟩ := h
  obtain ⟨b, off, r, hA, hb, hx, hc⟩ := h1.at_ hk
  exact ⟨b, off, r, hA, hb, by rw [List.getElem?_map, hx]; rfl, h2 r (List.mem_of_getElem? hx), hc 0 _ rfl, hc 1 _ rfl, hc 2 _ rfl, hc 3 _ rfl⟩
end
def Grid.Own (w : World) (base : Nat) (v : Value) (xs : List Grid) : Prop := ∃ ps : List GridR, OwnsL w base 26 4 GridR.cells v ps ∧ (∀ p ∈ ps, OwnsL w base 2 1 i64cells (.slice p.heightsA p.heightsN p.heightsC) p.heights) ∧ xs = ps.map GridR.val
theorem GridR.in_of {w : World} {base : Nat} {e : TypeId} {p : GridR} (h : OwnsL w base e 1 i64cells (.slice p.heightsA p.heightsN p.heightsC) p.heights) : p.In w := by
  obtain ⟨A', c', h1, h2, h3, h4⟩ := h.slice i64cells_len
  injection h1 with e1 e2 e3
  unfold GridR.In
  rw [e1, e2, e3]
  exact ⟨h4, h2, h3⟩
section
variable {w w' : World} {base : Nat} {v : Value} {xs : List Grid}
theorem Grid.Own.slice (h : Grid.Own w base v xs) : ∃ A c, v = .slice A xs.length c ∧ xs.length ≤ c ∧ c ≤ maxLen ∧ Grid.Sl w A xs.length xs := by
  obtain ⟨ps, h1, h2, rfl⟩ := h
  obtain ⟨A, c, h3, h4, h5, h6⟩ := h1.slice GridR.cells_len
  rw [List.length_map]
  exact ⟨A, c, h3, h4, h5, ps, h6, fun p hp => GridR.in_of (h2 p hp), rfl⟩
theorem Grid.Own.sl {A : Option Addr} {n c : Nat} (h : Grid.Own w base (.slice A n c) xs) : Grid.Sl w A n xs := by
  obtain ⟨A', c', h1, _, _, h2⟩ := h.slice
  injection h1 with e1 e2 e3
  subst e1 e2 e3
  exact h2
theorem Grid.Own.below' (h : Grid.Own w base v xs) (hb : Below w.heap.size w w') : Grid.Own w' base v xs := by
  obtain ⟨ps, h1, h2, h3⟩ := h
  exact ⟨ps, h1.below' hb, fun p hp => (h2 p hp).below' hb, h3⟩
theorem Grid.Own.span {lo hi : Nat} (h : Grid.Own w base v xs) (hs : Span lo hi w w') (hb : hi ≤ base) : Grid.Own w' base v xs := by
  obtain ⟨ps, h1, h2, h3⟩ := h
  exact ⟨ps, h1.span hs (fun k hk => .inr (Nat.le_trans hb (h1.lt k hk).1)), fun p hp => (h2 p hp).span hs (fun k hk => .inr (Nat.le_trans hb ((h2 p hp).lt k hk).1)), h3⟩
end

section
variable {H : Type} {enc : TypeId × Value → H} {w : World} {spare : Nat → Bool} {held : Bool}
theorem GridR.of_trod (m : Nat) (cs : List Value) (y : DataW H × List MemPlace) (h : DataW.trod enc Try.prog w 0 spare held m 36 cs = some y) : ∃ x : GridR, x.cells = cs ∧ x.In w ∧ x.val.Good := by
  obtain ⟨ys, m', _, _, hlen, hyl, hg⟩ := DataW.trod_struct Try.underlying36 h
  have hC : Try.prog.cellsOf 36 = 4 := by kernel_rfl
  have hCx : Try.prog.cellsOf 24 = 1 := by kernel_rfl
  have hCi : Try.prog.cellsOf 2 = 1 := by kernel_rfl
  obtain ⟨c0, c1, c2, c3, rfl⟩ := list4 (hlen.trans hC)
  obtain ⟨y0, y1, y2, y3, rfl⟩ := list4 hyl
  have g0 : DataW.trod enc Try.prog w 0 spare held m' 2 (([c0, c1, c2, c3].drop 0).take (Try.prog.cellsOf 2)) = [y0, y1, y2, y3][0]? := hg 0 _ rfl
  rw [hCi] at g0
  have g1 : DataW.trod enc Try.prog w 0 spare held m' 2 (([c0, c1, c2, c3].drop 1).take (Try.prog.cellsOf 2)) = [y0, y1, y2, y3][1]? := hg 1 _ rfl
  rw [hCi] at g1
  have g2 : DataW.trod enc Try.prog w 0 spare held m' 2 (([c0, c1, c2, c3].drop 2).take (Try.prog.cellsOf 2)) = [y0, y1, y2, y3][2]? := hg 2 _ rfl
  rw [hCi] at g2
  have g3 : DataW.trod enc Try.prog w 0 spare held m' 24 (([c0, c1, c2, c3].drop 3).take (Try.prog.cellsOf 24)) = [y0, y1, y2, y3][3]? := hg 3 _ rfl
  rw [hCx] at g3
  obtain ⟨x0, e0, k0⟩ := trod_int64 (cs := [c0]) (y := y0) Try.underlying2 g0
  obtain ⟨x1, e1, k1⟩ := trod_int64 (cs := [c1]) (y := y1) Try.underlying2 g1
  obtain ⟨x2, e2, k2⟩ := trod_int64 (cs := [c2]) (y := y2) Try.underlying2 g2
  obtain ⟨A3, n3, d3, x3, e3, p3, q3, s3, k3⟩ := sliceOf_trod (cs := [c3]) (cells := i64cells) Try.underlying24 (show Try.prog.cellsOf 2 = 1 by kernel_rfl) (by decide) (fun _ _ _ h => trod_int64 Try.underlying2 h) g3
  injection e0 with e0 _
  injection e1 with e1 _
  injection e2 with e2 _
  injection e3 with e3 _
  exact ⟨⟨x0, x1, x2, A3, n3, d3, x3⟩, by simp [GridR.cells, e0, e1, e2, e3], ⟨s3, p3, q3⟩, k0, k1, k2, k3⟩
end

set_option maxHeartbeats 1000000 in
theorem szGrid_any (x : GridR) (left : Int) (w : World) (hin : x.In w) (hg : x.val.Good) (h0 : 0 ≤ left) (h1 : left ≤ 1048576) : Calls Try.prog 17 #[.agg #[.int .i64 x.rows, .int .i64 x.columns, .int .i64 x.size, .slice x.heightsA x.heightsN x.heightsC], .int .i64 left] w (RetP (fun v _ => ∃ r : Int, v = .int .i64 r ∧ (r < 0 ∨ 0 ≤ r ∧ r ≤ left ∧ (x.heightsN : Int) ≤ left)) w) := by
  have HG := Lib.hid hg
  have HI := Lib.hid hin
  have hle := hin.1.le
  clear hg hin
  go_enter Try.func17, Try.ntmps17
  go_wp2_with fail
  refine (szInt64S_any _ _ _ _ _ (HI.out.1.below (by repeat (first | exact Below.refl _ _ | refine Below.alloc ?_ (by simp <;> omega) _))).le (by omega) (by omega)).mono ?_
  rintro e w1 ⟨v, rfl, ⟨r, rfl, hr⟩, hb⟩
  have hbb := ((Below.refl w.heap.size w).alloc (Nat.le_refl _) (.cells #[.int .i64 x.rows, .int .i64 x.columns, .int .i64 x.size, .slice x.heightsA x.heightsN x.heightsC] 36)).trans (hb.mono (by simp))
  by_cases hr0 : r < 0
  · go_wp2
    go_ret
    exact RetP.mk ⟨_, rfl, by omega⟩ hbb
  · go_wp2
    go_ret
    exact RetP.mk ⟨_, rfl, by omega⟩ hbb


def GridR.Ret (y : Grid) (w : World) (e : Ending) (w' : World) : Prop := ∃ p : GridR, e = .returned (.agg #[.int .i64 p.rows, .int .i64 p.columns, .int .i64 p.size, .slice p.heightsA p.heightsN p.heightsC]) ∧ p.val = y ∧ OwnsL w' w.heap.size 2 1 i64cells (.slice p.heightsA p.heightsN p.heightsC) p.heights ∧ Below w.heap.size w w'
set_option maxHeartbeats 1000000 in
theorem toGrid_any (x : GridR) (w : World) (hin : x.In w) (hle : x.heightsN ≤ 1048576) : Calls Try.prog 20 #[.agg #[.int .i64 x.rows, .int .i64 x.columns, .int .i64 x.size, .slice x.heightsA x.heightsN x.heightsC]] w (GridR.Ret x.val w) := by
  have HI := Lib.hid hin
  have hlen := Lib.hid hin.1.len
  have hp : Own (((w.alloc (.cells #[.int .i64 x.rows, .int .i64 x.columns, .int .i64 x.size, .slice x.heightsA x.heightsN x.heightsC] 36)).alloc (.cells #[.int .i64 0, .int .i64 0, .int .i64 0, .slice none 0 0] 26)).alloc (.cells #[.int .i64 x.rows, .int .i64 x.columns, .int .i64 x.size, .slice none 0 0] 26)) w.heap.size 36 #[.int .i64 x.rows, .int .i64 x.columns, .int .i64 x.size, .slice x.heightsA x.heightsN x.heightsC] := ((Own.new w 36 _).alloc _).alloc _
  have hr : Own (((w.alloc (.cells #[.int .i64 x.rows, .int .i64 x.columns, .int .i64 x.size, .slice x.heightsA x.heightsN x.heightsC] 36)).alloc (.cells #[.int .i64 0, .int .i64 0, .int .i64 0, .slice none 0 0] 26)).alloc (.cells #[.int .i64 x.rows, .int .i64 x.columns, .int .i64 x.size, .slice none 0 0] 26)) (w.heap.size + 1) 26 #[.int .i64 0, .int .i64 0, .int .i64 0, .slice none 0 0] := by
    have := (Own.new (w.alloc (.cells #[.int .i64 x.rows, .int .i64 x.columns, .int .i64 x.size, .slice x.heightsA x.heightsN x.heightsC] 36)) 26 #[.int .i64 0, .int .i64 0, .int .i64 0, .slice none 0 0]).alloc (.cells #[.int .i64 x.rows, .int .i64 x.columns, .int .i64 x.size, .slice none 0 0] 26)
    simpa using this
  have ho : Own (((w.alloc (.cells #[.int .i64 x.rows, .int .i64 x.columns, .int .i64 x.size, .slice x.heightsA x.heightsN x.heightsC] 36)).alloc (.cells #[.int .i64 0, .int .i64 0, .int .i64 0, .slice none 0 0] 26)).alloc (.cells #[.int .i64 x.rows, .int .i64 x.columns, .int .i64 x.size, .slice none 0 0] 26)) (w.heap.size + 2) 26 #[.int .i64 x.rows, .int .i64 x.columns, .int .i64 x.size, .slice none 0 0] := by
    have := Own.new ((w.alloc (.cells #[.int .i64 x.rows, .int .i64 x.columns, .int .i64 x.size, .slice x.heightsA x.heightsN x.heightsC] 36)).alloc (.cells #[.int .i64 0, .int .i64 0, .int .i64 0, .slice none 0 0] 26)) 26 #[.int .i64 x.rows, .int .i64 x.columns, .int .i64 x.size, .slice none 0 0]
    simpa using this
  have hB : Below w.heap.size w (((w.alloc (.cells #[.int .i64 x.rows, .int .i64 x.columns, .int .i64 x.size, .slice x.heightsA x.heightsN x.heightsC] 36)).alloc (.cells #[.int .i64 0, .int .i64 0, .int .i64 0, .slice none 0 0] 26)).alloc (.cells #[.int .i64 x.rows, .int .i64 x.columns, .int .i64 x.size, .slice none 0 0] 26)) := (((Below.refl _ _).alloc (Nat.le_refl _) _).alloc (by simp) _).alloc (by simp; omega) _
  clear hin
  go_enter Try.func20, Try.ntmps20
  go_wp2_with fail
  refine (toInt64S_any _ _ _ _ _ (HI.out.1.below hB) hle).mono ?_
  rintro e w1 ⟨v, rfl, hv, hb⟩
  obtain ⟨A', c', rfl, _, _, _⟩ := hv.slice i64cells_len
  obtain ⟨n', hn'⟩ : ∃ n', x.heights.length = n' := ⟨_, rfl⟩
  rw [hn'] at hv ⊢
  have HN := Lib.hid hn'
  have HV := Lib.hid hv
  have hp1 := hp.below' hb
  have hr1 := hr.below' hb
  have ho1 := ho.below' hb
  have hBb := hB.trans (hb.mono hB.size)
  have c0 : w1.cell? ⟨w.heap.size, 0, none⟩ = some (.int .i64 x.rows) := hp1.cell 0
  have c1 : w1.cell? ⟨w.heap.size, 1, none⟩ = some (.int .i64 x.columns) := hp1.cell 1
  have c2 : w1.cell? ⟨w.heap.size, 2, none⟩ = some (.int .i64 x.size) := hp1.cell 2
  have c3 : w1.cell? ⟨w.heap.size, 3, none⟩ = some (.slice x.heightsA x.heightsN x.heightsC) := hp1.cell 3
  have d0 : w1.cell? ⟨w.heap.size + 1, 0, none⟩ = some (.int .i64 0) := hr1.cell 0
  have d1 : w1.cell? ⟨w.heap.size + 1, 1, none⟩ = some (.int .i64 0) := hr1.cell 1
  have d2 : w1.cell? ⟨w.heap.size + 1, 2, none⟩ = some (.int .i64 0) := hr1.cell 2
  have d3 : w1.cell? ⟨w.heap.size + 1, 3, none⟩ = some (.slice none 0 0) := hr1.cell 3
  have p0 : w1.cell? ⟨w.heap.size + 2, 0, none⟩ = some (.int .i64 x.rows) := ho1.cell 0
  have p1 : w1.cell? ⟨w.heap.size + 2, 1, none⟩ = some (.int .i64 x.columns) := ho1.cell 1
  have p2 : w1.cell? ⟨w.heap.size + 2, 2, none⟩ = some (.int .i64 x.size) := ho1.cell 2
  have p3 : w1.cell? ⟨w.heap.size + 2, 3, none⟩ = some (.slice none 0 0) := ho1.cell 3
  have f1 : ∀ o, w1.frozen? ⟨w.heap.size + 1, o, none⟩ = false := hr1.frozen
  have f2 : ∀ o, w1.frozen? ⟨w.heap.size + 2, o, none⟩ = false := ho1.frozen
  have HB := Lib.hid hBb
  have hlt1 : w.heap.size + 2 < w1.heap.size := ho1.lt
  have Hb := Lib.hid hb
  clear hv hb hp hr ho hp1 hr1 ho1 hBb hB hn'
  go_wp2
  refine bodyPost_ret (v := .agg #[.int .i64 x.rows, .int .i64 x.columns, .int .i64 x.size, .slice A' n' c']) (by simp [results, Try.results20, go_sem, d0, d1, d2, d3]) rfl ⟨⟨x.rows, x.columns, x.size, A', n', c', x.heights⟩, rfl, rfl, ?_, ?_⟩
  · refine ((HV.out.rebase (by simp <;> omega)).span (lo := w.heap.size + 1) (hi := w.heap.size + 3) ?_ (fun k hk => .inr (by have := (HV.out.lt k hk).1; simp at this; omega)))
    repeat (first | (with_reducible exact Span.refl _ _ _) | (with_reducible refine Span.setCell ?_ (by simp <;> omega) (by simp <;> omega) _))
  · repeat (first | (with_reducible exact HB.out) | (with_reducible refine Below.setCell ?_ (by simp <;> omega) _))


set_option maxHeartbeats 1000000 in
theorem eqGrid_any (x y : GridR) (w : World) (hx : x.In w) (hy : y.In w) : Calls Try.prog 24 #[.agg #[.int .i64 x.rows, .int .i64 x.columns, .int .i64 x.size, .slice x.heightsA x.heightsN x.heightsC], .agg #[.int .i64 y.rows, .int .i64 y.columns, .int .i64 y.size, .slice y.heightsA y.heightsN y.heightsC]] w (Ret (.bool (Grid.eqB x.val y.val)) w) := by
  have HX := Lib.hid hx
  have HY := Lib.hid hy
  clear hx hy
  have hp : Own ((w.alloc (.cells #[.int .i64 x.rows, .int .i64 x.columns, .int .i64 x.size, .slice x.heightsA x.heightsN x.heightsC] 26)).alloc (.cells #[.int .i64 y.rows, .int .i64 y.columns, .int .i64 y.size, .slice y.heightsA y.heightsN y.heightsC] 26)) w.heap.size 26 #[.int .i64 x.rows, .int .i64 x.columns, .int .i64 x.size, .slice x.heightsA x.heightsN x.heightsC] := (Own.new w 26 _).alloc _
  have hr : Own ((w.alloc (.cells #[.int .i64 x.rows, .int .i64 x.columns, .int .i64 x.size, .slice x.heightsA x.heightsN x.heightsC] 26)).alloc (.cells #[.int .i64 y.rows, .int .i64 y.columns, .int .i64 y.size, .slice y.heightsA y.heightsN y.heightsC] 26)) (w.heap.size + 1) 26 #[.int .i64 y.rows, .int .i64 y.columns, .int .i64 y.size, .slice y.heightsA y.heightsN y.heightsC] := by
    have := Own.new (w.alloc (.cells #[.int .i64 x.rows, .int .i64 x.columns, .int .i64 x.size, .slice x.heightsA x.heightsN x.heightsC] 26)) 26 #[.int .i64 y.rows, .int .i64 y.columns, .int .i64 y.size, .slice y.heightsA y.heightsN y.heightsC]
    simpa using this
  have hB : Below w.heap.size w ((w.alloc (.cells #[.int .i64 x.rows, .int .i64 x.columns, .int .i64 x.size, .slice x.heightsA x.heightsN x.heightsC] 26)).alloc (.cells #[.int .i64 y.rows, .int .i64 y.columns, .int .i64 y.size, .slice y.heightsA y.heightsN y.heightsC] 26)) := ((Below.refl _ _).alloc (Nat.le_refl _) _).alloc (by simp) _
  obtain ⟨ib, hib⟩ : ∃ ib, Int64.eqSB x.heights y.heights = ib := ⟨_, rfl⟩
  have HIB := Lib.hid hib
  clear hib
  go_enter Try.func24, Try.ntmps24
  go_wp2_with (refine (eqInt64S_any _ _ _ _ _ _ _ _ _ (HX.out.1.below hB) (HY.out.1.below hB)).mono ?_; rintro e w1 ⟨rfl, hb1⟩; rw [HIB.out])
  all_goals (go_ret; refine Ret.b ?_ (by first | exact hB | exact hB.trans ((by assumption : Below _ ((w.alloc (.cells #[.int .i64 x.rows, .int .i64 x.columns, .int .i64 x.size, .slice x.heightsA x.heightsN x.heightsC] 26)).alloc (.cells #[.int .i64 y.rows, .int .i64 y.columns, .int .i64 y.size, .slice y.heightsA y.heightsN y.heightsC] 26)) _).mono hB.size)))
  all_goals (simp_all [Grid.eqB, GridR.val, HIB.out])

def Grid.eqSB (xs ys : List Grid) : Bool := xs.length == ys.length && (xs.zip ys).all fun p => p.1.eqB p.2
theorem Grid.eqSB_self (xs : List Grid) : Grid.eqSB xs xs = true := by
  unfold Grid.eqSB
  rw [Bool.and_eq_true]
  refine ⟨by simp, List.all_eq_true.2 fun p hp => ?_⟩
  obtain ⟨k, hk⟩ := List.mem_iff_getElem?.1 hp
  rw [List.getElem?_zip_eq_some] at hk
  have e : p.1 = p.2 := by have := hk.1.symm.trans hk.2; injection this
  rw [e]; exact Grid.eqB_self _
theorem Grid.eqSB_no {xs ys : List Grid} {k : Nat} {x y : Grid} (hx : xs[k]? = some x) (hy : ys[k]? = some y) (h : x.eqB y = false) : Grid.eqSB xs ys = false := by
  unfold Grid.eqSB
  rw [Bool.and_eq_false_iff]; right
  rw [List.all_eq_false]
  exact ⟨(x, y), List.mem_iff_getElem?.2 ⟨k, by rw [List.getElem?_zip_eq_some]; exact ⟨hx, hy⟩⟩, by simp [h]⟩
theorem Grid.eqSB_len {xs ys : List Grid} (h : xs.length ≠ ys.length) : Grid.eqSB xs ys = false := by simp [Grid.eqSB, h]
theorem Grid.eqSB_yes {xs ys : List Grid} (h : xs.length = ys.length) (ha : ∀ (j : Nat) (x y : Grid), xs[j]? = some x → ys[j]? = some y → x.eqB y = true) : Grid.eqSB xs ys = true := by
  unfold Grid.eqSB
  rw [Bool.and_eq_true]
  refine ⟨by simp [h], List.all_eq_true.2 fun p hp => ?_⟩
  obtain ⟨k, hk⟩ := List.mem_iff_getElem?.1 hp
  rw [List.getElem?_zip_eq_some] at hk
  exact ha k _ _ hk.1 hk.2
theorem Grid.eqSB_step {xs ys : List Grid} {k : Nat} {x y : Grid} (h : ∀ (j : Nat) (x y : Grid), j < k → xs[j]? = some x → ys[j]? = some y → x.eqB y = true) (hx : xs[k]? = some x) (hy : ys[k]? = some y) (he : x.eqB y = true) :
    ∀ (j : Nat) (x y : Grid), j < k + 1 → xs[j]? = some x → ys[j]? = some y → x.eqB y = true := fun j x' y' hj h1 h2 => by
  by_cases e : j = k
  · subst e; rw [hx] at h1; rw [hy] at h2; cases h1; cases h2; exact he
  · exact h j x' y' (by omega) h1 h2


end Go.Proofs.Ythlgfmdlecdchaa
