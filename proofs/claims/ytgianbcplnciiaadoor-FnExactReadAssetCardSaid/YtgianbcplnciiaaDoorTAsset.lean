/- The struct type Asset of the laws, which holds a slice: how it lies in memory, how an argument of it is opened, and what the laws' own helpers of it return. -/
import Derived.Test.YtgianbcplnciiaaDoorBase
import Derived.Test.YtgianbcplnciiaaDoorMem
import Derived.Test.YtgianbcplnciiaaDoorTInt64
namespace Go.Proofs.YtgianbcplnciiaaDoor
open Go.RowKit

structure Asset where
  id : ByteArray
  spots : List Int
  worth : Int
structure AssetR where
  id : ByteArray
  spotsA : Option Addr
  spotsN : Nat
  spotsC : Nat
  spots : List Int
  worth : Int
def AssetR.val (x : AssetR) : Asset := ⟨x.id, x.spots, x.worth⟩
def AssetR.cells (x : AssetR) : List Value := [.string x.id, .slice x.spotsA x.spotsN x.spotsC, .int .i64 x.worth]
instance : Inhabited AssetR := ⟨⟨ByteArray.empty, none, 0, 0, [], 0⟩⟩
theorem AssetR.cells_len (x : AssetR) : x.cells.length = 3 := rfl
theorem AssetR.cells_one (x : AssetR) : ∀ u ∈ x.cells, u.oneCell' = true := by intro u hu; simp [AssetR.cells] at hu; rcases hu with rfl | rfl | rfl <;> rfl
def AssetR.In (x : AssetR) (w : World) : Prop := SliceOf w 1 i64cells x.spotsA x.spotsN x.spots ∧ x.spotsN ≤ x.spotsC ∧ x.spotsC ≤ maxLen
theorem AssetR.In.below {x : AssetR} {w w' : World} (h : x.In w) (hb : Below w.heap.size w w') : x.In w' := ⟨h.1.below hb, h.2⟩
def Asset.Good (x : Asset) : Prop := I64 x.worth ∧ x.id.size ≤ maxLen ∧ ∀ y ∈ x.spots, I64 y
def Asset.eqB (x y : Asset) : Bool := decide (x.id.toList = y.id.toList) && Int64.eqSB x.spots y.spots && decide (x.worth = y.worth)
theorem Asset.eqB_self (x : Asset) : x.eqB x = true := by simp [Asset.eqB, Int64.eqSB_self]
def Asset.Sl (w : World) (A : Option Addr) (n : Nat) (xs : List Asset) : Prop := ∃ ps : List AssetR, SliceOf w 3 AssetR.cells A n ps ∧ (∀ p ∈ ps, p.In w) ∧ xs = ps.map AssetR.val
section
variable {w w' : World} {A : Option Addr} {n : Nat} {xs : List Asset}
theorem Asset.Sl.len (h : Asset.Sl w A n xs) : xs.length = n := by obtain ⟨ps, h1, _, rfl⟩ := h; rw [List.length_map]; exact h1.len
theorem Asset.Sl.le (h : Asset.Sl w A n xs) : n ≤ 9223372036854775807 := by obtain ⟨ps, h1, _, rfl⟩ := h; exact h1.le
theorem Asset.Sl.below (h : Asset.Sl w A n xs) (hb : Below w.heap.size w w') : Asset.Sl w' A n xs := by
  obtain ⟨ps, h1, h2, rfl⟩ := h
  exact ⟨ps, h1.below hb, fun p hp => (h2 p hp).below hb, rfl⟩
theorem Asset.Sl.at_ (h : Asset.Sl w A n xs) {k : Nat} (hk : k < n) :
    ∃ b off r, A = some ⟨b, off, none⟩ ∧ b < w.heap.size ∧ xs[k]? = some (r : AssetR).val ∧ r.In w ∧ w.cell? ⟨b, off + k * 3, none⟩ = some (.string r.id) ∧ w.cell? ⟨b, off + k * 3 + 1, none⟩ = some (.slice r.spotsA r.spotsN r.spotsC) ∧ w.cell? ⟨b, off + k * 3 + 2, none⟩ = some (.int .i64 r.worth) := by
  obtain ⟨ps, h1, h2, rfl⟩ := h
  obtain ⟨b, off, r, hA, hb, hx, hc⟩ := h1.at_ hk
  exact ⟨b, off, r, hA, hb, by rw [List.getElem?_map, hx]; rfl, h2 r (List.mem_of_getElem? hx), hc 0 _ rfl, hc 1 _ rfl, hc 2 _ rfl⟩
end
def AssetR.own (p : AssetR) : Option Nat := (Value.slice p.spotsA p.spotsN p.spotsC).ownBlock
/-- The inner slices lie in blocks of their own, apart from the outer one's. -/
def AssetR.Apart (v : Value) (ps : List AssetR) : Prop := (∀ p ∈ ps, ∀ b, p.own = some b → v.ownBlock ≠ some b) ∧ ps.Pairwise fun p q => ∀ b, p.own = some b → q.own ≠ some b
def Asset.Own (w : World) (base : Nat) (v : Value) (xs : List Asset) : Prop := ∃ ps : List AssetR, OwnsL w base 33 3 AssetR.cells v ps ∧ (∀ p ∈ ps, OwnsL w base 2 1 i64cells (.slice p.spotsA p.spotsN p.spotsC) p.spots) ∧ AssetR.Apart v ps ∧ xs = ps.map AssetR.val
theorem AssetR.in_of {w : World} {base : Nat} {e : TypeId} {p : AssetR} (h : OwnsL w base e 1 i64cells (.slice p.spotsA p.spotsN p.spotsC) p.spots) : p.In w := by
  obtain ⟨A', c', h1, h2, h3, h4⟩ := h.slice i64cells_len
  injection h1 with e1 e2 e3
  unfold AssetR.In
  rw [e1, e2, e3]
  exact ⟨h4, h2, h3⟩
section
variable {w w' : World} {base : Nat} {v : Value} {xs : List Asset}
theorem Asset.Own.slice (h : Asset.Own w base v xs) : ∃ A c, v = .slice A xs.length c ∧ xs.length ≤ c ∧ c ≤ maxLen ∧ Asset.Sl w A xs.length xs := by
  obtain ⟨ps, h1, h2, _, rfl⟩ := h
  obtain ⟨A, c, h3, h4, h5, h6⟩ := h1.slice AssetR.cells_len
  rw [List.length_map]
  exact ⟨A, c, h3, h4, h5, ps, h6, fun p hp => AssetR.in_of (h2 p hp), rfl⟩
theorem Asset.Own.sl {A : Option Addr} {n c : Nat} (h : Asset.Own w base (.slice A n c) xs) : Asset.Sl w A n xs := by
  obtain ⟨A', c', h1, _, _, h2⟩ := h.slice
  injection h1 with e1 e2 e3
  subst e1 e2 e3
  exact h2
theorem Asset.Own.below' (h : Asset.Own w base v xs) (hb : Below w.heap.size w w') : Asset.Own w' base v xs := by
  obtain ⟨ps, h1, h2, h3⟩ := h
  exact ⟨ps, h1.below' hb, fun p hp => (h2 p hp).below' hb, h3⟩
theorem Asset.Own.span {lo hi : Nat} (h : Asset.Own w base v xs) (hs : Span lo hi w w') (hb : hi ≤ base) : Asset.Own w' base v xs := by
  obtain ⟨ps, h1, h2, h3⟩ := h
  exact ⟨ps, h1.span hs (fun k hk => .inr (Nat.le_trans hb (h1.lt k hk).1)), fun p hp => (h2 p hp).span hs (fun k hk => .inr (Nat.le_trans hb ((h2 p hp).lt k hk).1)), h3⟩
end

section
variable {H : Type} {enc : TypeId × Value → H} {w : World} {spare : Nat → Bool} {held : Bool}
theorem AssetR.of_trod (m : Nat) (cs : List Value) (y : DataW H × List MemPlace) (h : DataW.trod enc Tryd.prog w 0 spare held m 30 cs = some y) : ∃ x : AssetR, x.cells = cs ∧ x.In w ∧ x.val.Good := by
  obtain ⟨ys, m', _, _, hlen, hyl, hg⟩ := DataW.trod_struct Tryd.underlying30 h
  have hC : Tryd.prog.cellsOf 30 = 3 := by kernel_rfl
  have hCx : Tryd.prog.cellsOf 28 = 1 := by kernel_rfl
  have hCi : Tryd.prog.cellsOf 2 = 1 := by kernel_rfl
  have hCs : Tryd.prog.cellsOf 9 = 1 := by kernel_rfl
  obtain ⟨c0, c1, c2, rfl⟩ := list3 (hlen.trans hC)
  obtain ⟨y0, y1, y2, rfl⟩ := list3 hyl
  have g0 : DataW.trod enc Tryd.prog w 0 spare held m' 9 (([c0, c1, c2].drop 0).take (Tryd.prog.cellsOf 9)) = [y0, y1, y2][0]? := hg 0 _ rfl
  rw [hCs] at g0
  have g1 : DataW.trod enc Tryd.prog w 0 spare held m' 28 (([c0, c1, c2].drop 1).take (Tryd.prog.cellsOf 28)) = [y0, y1, y2][1]? := hg 1 _ rfl
  rw [hCx] at g1
  have g2 : DataW.trod enc Tryd.prog w 0 spare held m' 2 (([c0, c1, c2].drop 2).take (Tryd.prog.cellsOf 2)) = [y0, y1, y2][2]? := hg 2 _ rfl
  rw [hCi] at g2
  obtain ⟨x0, e0, k0⟩ := trod_str (cs := [c0]) (y := y0) Tryd.underlying9 g0
  obtain ⟨A1, n1, d1, x1, e1, p1, q1, s1, k1⟩ := sliceOf_trod (cs := [c1]) (cells := i64cells) Tryd.underlying28 (show Tryd.prog.cellsOf 2 = 1 by kernel_rfl) (by decide) (fun _ _ _ h => trod_int64 Tryd.underlying2 h) g1
  obtain ⟨x2, e2, k2⟩ := trod_int64 (cs := [c2]) (y := y2) Tryd.underlying2 g2
  injection e0 with e0 _
  injection e1 with e1 _
  injection e2 with e2 _
  exact ⟨⟨x0, A1, n1, d1, x1, x2⟩, by simp [AssetR.cells, e0, e1, e2], ⟨s1, p1, q1⟩, k2, k0, k1⟩
end

set_option maxHeartbeats 1000000 in
theorem szAsset_any (x : AssetR) (left : Int) (w : World) (hin : x.In w) (hg : x.val.Good) (h0 : 0 ≤ left) (h1 : left ≤ 1048576) : Calls Tryd.prog 10 #[.agg #[.string x.id, .slice x.spotsA x.spotsN x.spotsC, .int .i64 x.worth], .int .i64 left] w (RetP (fun v _ => ∃ r : Int, v = .int .i64 r ∧ (r < 0 ∨ 0 ≤ r ∧ r ≤ left ∧ (x.spotsN : Int) ≤ left)) w) := by
  have hs0 : (x.id.size : Int) ≤ 9223372036854775807 := by have := hg; have h := this.2.1; simp [maxLen, AssetR.val] at h; omega
  have HG := Lib.hid hg
  have HI := Lib.hid hin
  have hle := hin.1.le
  clear hg hin
  by_cases hn0 : left - (x.id.size : Int) < 0
  · go_enter Tryd.func10, Tryd.ntmps10
    go_wp2
    go_ret
    exact RetP.mk ⟨_, rfl, by omega⟩ ((Below.refl _ _).alloc (Nat.le_refl _) _)
  go_enter Tryd.func10, Tryd.ntmps10
  go_wp2_with fail
  refine (szInt64S_any _ _ _ _ _ (HI.out.1.below (by repeat (first | exact Below.refl _ _ | refine Below.alloc ?_ (by simp <;> omega) _))).le (by omega) (by omega)).mono ?_
  rintro e w1 ⟨v, rfl, ⟨r, rfl, hr⟩, hb⟩
  have hbb := ((Below.refl w.heap.size w).alloc (Nat.le_refl _) (.cells #[.string x.id, .slice x.spotsA x.spotsN x.spotsC, .int .i64 x.worth] 30)).trans (hb.mono (by simp))
  by_cases hr0 : r < 0
  · go_wp2
    go_ret
    exact RetP.mk ⟨_, rfl, by omega⟩ hbb
  · go_wp2
    go_ret
    exact RetP.mk ⟨_, rfl, by omega⟩ hbb


def AssetR.Ret (y : Asset) (w : World) (e : Ending) (w' : World) : Prop := ∃ p : AssetR, e = .returned (.agg #[.string p.id, .slice p.spotsA p.spotsN p.spotsC, .int .i64 p.worth]) ∧ p.val = y ∧ OwnsL w' w.heap.size 2 1 i64cells (.slice p.spotsA p.spotsN p.spotsC) p.spots ∧ Below w.heap.size w w'
set_option maxHeartbeats 1000000 in
theorem toAsset_any (x : AssetR) (w : World) (hin : x.In w) (hle : x.spotsN ≤ 1048576) : Calls Tryd.prog 12 #[.agg #[.string x.id, .slice x.spotsA x.spotsN x.spotsC, .int .i64 x.worth]] w (AssetR.Ret x.val w) := by
  have HI := Lib.hid hin
  have hlen := Lib.hid hin.1.len
  have hp : Own (((w.alloc (.cells #[.string x.id, .slice x.spotsA x.spotsN x.spotsC, .int .i64 x.worth] 30)).alloc (.cells #[.string ByteArray.empty, .slice none 0 0, .int .i64 0] 33)).alloc (.cells #[.string x.id, .slice none 0 0, .int .i64 0] 33)) w.heap.size 30 #[.string x.id, .slice x.spotsA x.spotsN x.spotsC, .int .i64 x.worth] := ((Own.new w 30 _).alloc _).alloc _
  have hr : Own (((w.alloc (.cells #[.string x.id, .slice x.spotsA x.spotsN x.spotsC, .int .i64 x.worth] 30)).alloc (.cells #[.string ByteArray.empty, .slice none 0 0, .int .i64 0] 33)).alloc (.cells #[.string x.id, .slice none 0 0, .int .i64 0] 33)) (w.heap.size + 1) 33 #[.string ByteArray.empty, .slice none 0 0, .int .i64 0] := by
    have := (Own.new (w.alloc (.cells #[.string x.id, .slice x.spotsA x.spotsN x.spotsC, .int .i64 x.worth] 30)) 33 #[.string ByteArray.empty, .slice none 0 0, .int .i64 0]).alloc (.cells #[.string x.id, .slice none 0 0, .int .i64 0] 33)
    simpa using this
  have ho : Own (((w.alloc (.cells #[.string x.id, .slice x.spotsA x.spotsN x.spotsC, .int .i64 x.worth] 30)).alloc (.cells #[.string ByteArray.empty, .slice none 0 0, .int .i64 0] 33)).alloc (.cells #[.string x.id, .slice none 0 0, .int .i64 0] 33)) (w.heap.size + 2) 33 #[.string x.id, .slice none 0 0, .int .i64 0] := by
    have := Own.new ((w.alloc (.cells #[.string x.id, .slice x.spotsA x.spotsN x.spotsC, .int .i64 x.worth] 30)).alloc (.cells #[.string ByteArray.empty, .slice none 0 0, .int .i64 0] 33)) 33 #[.string x.id, .slice none 0 0, .int .i64 0]
    simpa using this
  have hB : Below w.heap.size w (((w.alloc (.cells #[.string x.id, .slice x.spotsA x.spotsN x.spotsC, .int .i64 x.worth] 30)).alloc (.cells #[.string ByteArray.empty, .slice none 0 0, .int .i64 0] 33)).alloc (.cells #[.string x.id, .slice none 0 0, .int .i64 0] 33)) := (((Below.refl _ _).alloc (Nat.le_refl _) _).alloc (by simp) _).alloc (by simp; omega) _
  clear hin
  go_enter Tryd.func12, Tryd.ntmps12
  go_wp2_with fail
  refine (toInt64S_any _ _ _ _ _ (HI.out.1.below hB) hle).mono ?_
  rintro e w1 ⟨v, rfl, hv, hb⟩
  obtain ⟨A', c', rfl, _, _, _⟩ := hv.slice i64cells_len
  obtain ⟨n', hn'⟩ : ∃ n', x.spots.length = n' := ⟨_, rfl⟩
  rw [hn'] at hv ⊢
  have HN := Lib.hid hn'
  have HV := Lib.hid hv
  have hp1 := hp.below' hb
  have hr1 := hr.below' hb
  have ho1 := ho.below' hb
  have hBb := hB.trans (hb.mono hB.size)
  have c0 : w1.cell? ⟨w.heap.size, 0, none⟩ = some (.string x.id) := hp1.cell 0
  have c1 : w1.cell? ⟨w.heap.size, 1, none⟩ = some (.slice x.spotsA x.spotsN x.spotsC) := hp1.cell 1
  have c2 : w1.cell? ⟨w.heap.size, 2, none⟩ = some (.int .i64 x.worth) := hp1.cell 2
  have d0 : w1.cell? ⟨w.heap.size + 1, 0, none⟩ = some (.string ByteArray.empty) := hr1.cell 0
  have d1 : w1.cell? ⟨w.heap.size + 1, 1, none⟩ = some (.slice none 0 0) := hr1.cell 1
  have d2 : w1.cell? ⟨w.heap.size + 1, 2, none⟩ = some (.int .i64 0) := hr1.cell 2
  have p0 : w1.cell? ⟨w.heap.size + 2, 0, none⟩ = some (.string x.id) := ho1.cell 0
  have p1 : w1.cell? ⟨w.heap.size + 2, 1, none⟩ = some (.slice none 0 0) := ho1.cell 1
  have p2 : w1.cell? ⟨w.heap.size + 2, 2, none⟩ = some (.int .i64 0) := ho1.cell 2
  have f1 : ∀ o, w1.frozen? ⟨w.heap.size + 1, o, none⟩ = false := hr1.frozen
  have f2 : ∀ o, w1.frozen? ⟨w.heap.size + 2, o, none⟩ = false := ho1.frozen
  have HB := Lib.hid hBb
  have hlt1 : w.heap.size + 2 < w1.heap.size := ho1.lt
  have Hb := Lib.hid hb
  clear hv hb hp hr ho hp1 hr1 ho1 hBb hB hn'
  go_wp2
  refine bodyPost_ret (v := .agg #[.string x.id, .slice A' n' c', .int .i64 x.worth]) (by simp [results, Tryd.results12, go_sem, d0, d1, d2]) rfl ⟨⟨x.id, A', n', c', x.spots, x.worth⟩, rfl, rfl, ?_, ?_⟩
  · refine ((HV.out.rebase (by simp <;> omega)).span (lo := w.heap.size + 1) (hi := w.heap.size + 3) ?_ (fun k hk => .inr (by have := (HV.out.lt k hk).1; simp at this; omega)))
    repeat (first | (with_reducible exact Span.refl _ _ _) | (with_reducible refine Span.setCell ?_ (by simp <;> omega) (by simp <;> omega) _))
  · repeat (first | (with_reducible exact HB.out) | (with_reducible refine Below.setCell ?_ (by simp <;> omega) _))


set_option maxHeartbeats 1000000 in
theorem eqAsset_any (x y : AssetR) (w : World) (hx : x.In w) (hy : y.In w) : Calls Tryd.prog 14 #[.agg #[.string x.id, .slice x.spotsA x.spotsN x.spotsC, .int .i64 x.worth], .agg #[.string y.id, .slice y.spotsA y.spotsN y.spotsC, .int .i64 y.worth]] w (Ret (.bool (Asset.eqB x.val y.val)) w) := by
  have HX := Lib.hid hx
  have HY := Lib.hid hy
  clear hx hy
  have hp : Own ((w.alloc (.cells #[.string x.id, .slice x.spotsA x.spotsN x.spotsC, .int .i64 x.worth] 33)).alloc (.cells #[.string y.id, .slice y.spotsA y.spotsN y.spotsC, .int .i64 y.worth] 33)) w.heap.size 33 #[.string x.id, .slice x.spotsA x.spotsN x.spotsC, .int .i64 x.worth] := (Own.new w 33 _).alloc _
  have hr : Own ((w.alloc (.cells #[.string x.id, .slice x.spotsA x.spotsN x.spotsC, .int .i64 x.worth] 33)).alloc (.cells #[.string y.id, .slice y.spotsA y.spotsN y.spotsC, .int .i64 y.worth] 33)) (w.heap.size + 1) 33 #[.string y.id, .slice y.spotsA y.spotsN y.spotsC, .int .i64 y.worth] := by
    have := Own.new (w.alloc (.cells #[.string x.id, .slice x.spotsA x.spotsN x.spotsC, .int .i64 x.worth] 33)) 33 #[.string y.id, .slice y.spotsA y.spotsN y.spotsC, .int .i64 y.worth]
    simpa using this
  have hB : Below w.heap.size w ((w.alloc (.cells #[.string x.id, .slice x.spotsA x.spotsN x.spotsC, .int .i64 x.worth] 33)).alloc (.cells #[.string y.id, .slice y.spotsA y.spotsN y.spotsC, .int .i64 y.worth] 33)) := ((Below.refl _ _).alloc (Nat.le_refl _) _).alloc (by simp) _
  obtain ⟨ib, hib⟩ : ∃ ib, Int64.eqSB x.spots y.spots = ib := ⟨_, rfl⟩
  have HIB := Lib.hid hib
  clear hib
  go_enter Tryd.func14, Tryd.ntmps14
  go_wp2_with (refine (eqInt64S_any _ _ _ _ _ _ _ _ _ (HX.out.1.below hB) (HY.out.1.below hB)).mono ?_; rintro e w1 ⟨rfl, hb1⟩; have c2 : w1.cell? ⟨w.heap.size, 2, none⟩ = some (.int .i64 x.worth) := (hp.below' hb1).cell 2; have d2 : w1.cell? ⟨w.heap.size + 1, 2, none⟩ = some (.int .i64 y.worth) := (hr.below' hb1).cell 2; rw [HIB.out])
  all_goals (go_ret; refine Ret.b ?_ (by first | exact hB | exact hB.trans ((by assumption : Below _ ((w.alloc (.cells #[.string x.id, .slice x.spotsA x.spotsN x.spotsC, .int .i64 x.worth] 33)).alloc (.cells #[.string y.id, .slice y.spotsA y.spotsN y.spotsC, .int .i64 y.worth] 33)) _).mono hB.size)))
  all_goals (simp_all [Asset.eqB, AssetR.val, HIB.out])

def Asset.eqSB (xs ys : List Asset) : Bool := xs.length == ys.length && (xs.zip ys).all fun p => p.1.eqB p.2
theorem Asset.eqSB_self (xs : List Asset) : Asset.eqSB xs xs = true := by
  unfold Asset.eqSB
  rw [Bool.and_eq_true]
  refine ⟨by simp, List.all_eq_true.2 fun p hp => ?_⟩
  obtain ⟨k, hk⟩ := List.mem_iff_getElem?.1 hp
  rw [List.getElem?_zip_eq_some] at hk
  have e : p.1 = p.2 := by have := hk.1.symm.trans hk.2; injection this
  rw [e]; exact Asset.eqB_self _
theorem Asset.eqSB_no {xs ys : List Asset} {k : Nat} {x y : Asset} (hx : xs[k]? = some x) (hy : ys[k]? = some y) (h : x.eqB y = false) : Asset.eqSB xs ys = false := by
  unfold Asset.eqSB
  rw [Bool.and_eq_false_iff]; right
  rw [List.all_eq_false]
  exact ⟨(x, y), List.mem_iff_getElem?.2 ⟨k, by rw [List.getElem?_zip_eq_some]; exact ⟨hx, hy⟩⟩, by simp [h]⟩
theorem Asset.eqSB_len {xs ys : List Asset} (h : xs.length ≠ ys.length) : Asset.eqSB xs ys = false := by simp [Asset.eqSB, h]
theorem Asset.eqSB_yes {xs ys : List Asset} (h : xs.length = ys.length) (ha : ∀ (j : Nat) (x y : Asset), xs[j]? = some x → ys[j]? = some y → x.eqB y = true) : Asset.eqSB xs ys = true := by
  unfold Asset.eqSB
  rw [Bool.and_eq_true]
  refine ⟨by simp [h], List.all_eq_true.2 fun p hp => ?_⟩
  obtain ⟨k, hk⟩ := List.mem_iff_getElem?.1 hp
  rw [List.getElem?_zip_eq_some] at hk
  exact ha k _ _ hk.1 hk.2
theorem Asset.eqSB_step {xs ys : List Asset} {k : Nat} {x y : Asset} (h : ∀ (j : Nat) (x y : Asset), j < k → xs[j]? = some x → ys[j]? = some y → x.eqB y = true) (hx : xs[k]? = some x) (hy : ys[k]? = some y) (he : x.eqB y = true) :
    ∀ (j : Nat) (x y : Asset), j < k + 1 → xs[j]? = some x → ys[j]? = some y → x.eqB y = true := fun j x' y' hj h1 h2 => by
  by_cases e : j = k
  · subst e; rw [hx] at h1; rw [hy] at h2; cases h1; cases h2; exact he
  · exact h j x' y' (by omega) h1 h2


end Go.Proofs.YtgianbcplnciiaaDoor
