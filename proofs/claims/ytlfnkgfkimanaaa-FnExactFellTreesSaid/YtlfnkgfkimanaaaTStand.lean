/- The struct type Stand of the laws: how it lies in memory, how an argument of it is opened, and what the laws' own helpers of it return. -/
import Derived.Test.YtlfnkgfkimanaaaProg
import Derived.Test.YtlfnkgfkimanaaaKit
namespace Go.Proofs.Ytlfnkgfkimanaaa
open Go.RowKit

structure Stand where
  id : ByteArray
  trees : Int
  height : Int
  cover : Int
  gap : Int

def Stand.cells (x : Stand) : List Value := [.string x.id, .int .i64 x.trees, .int .i64 x.height, .int .i64 x.cover, .int .i64 x.gap]
instance : Inhabited Stand := ⟨⟨ByteArray.empty, 0, 0, 0, 0⟩⟩
def Stand.Good (x : Stand) : Prop := I64 x.trees ∧ I64 x.height ∧ I64 x.cover ∧ I64 x.gap ∧ x.id.size ≤ maxLen
def Stand.eqB (x y : Stand) : Bool := decide (x.id.toList = y.id.toList) && decide (x.trees = y.trees) && decide (x.height = y.height) && decide (x.cover = y.cover) && decide (x.gap = y.gap)
theorem Stand.eqB_self (x : Stand) : x.eqB x = true := by simp [Stand.eqB]
theorem Stand.eqB_iff (x y : Stand) : x.eqB y = true ↔ x = y := by cases x; cases y; simp [Stand.eqB, and_assoc, bytes_inj]
theorem Stand.eqB_no (x y : Stand) (h : x.eqB y = false) : x ≠ y := fun e => by rw [(Stand.eqB_iff x y).2 e] at h; cases h

section
variable {H : Type} {enc : TypeId × Value → H} {w : World} {spare : Nat → Bool} {held : Bool}
theorem Stand.of_trod (m : Nat) (cs : List Value) (y : DataW H × List MemPlace) (h : DataW.trod enc Try.prog w 0 spare held m 38 cs = some y) : ∃ x : Stand, x.cells = cs ∧ x.Good := by
  obtain ⟨ys, m', _, _, hlen, hyl, hg⟩ := DataW.trod_struct Try.underlying38 h
  have hC : Try.prog.cellsOf 38 = 5 := by kernel_rfl
  have hCi : Try.prog.cellsOf 2 = 1 := by kernel_rfl
  have hCs : Try.prog.cellsOf 9 = 1 := by kernel_rfl
  obtain ⟨c0, c1, c2, c3, c4, rfl⟩ := list5 (hlen.trans hC)
  obtain ⟨y0, y1, y2, y3, y4, rfl⟩ := list5 hyl
  have g0 : DataW.trod enc Try.prog w 0 spare held m' 9 (([c0, c1, c2, c3, c4].drop 0).take (Try.prog.cellsOf 9)) = [y0, y1, y2, y3, y4][0]? := hg 0 _ rfl
  rw [hCs] at g0
  have g1 : DataW.trod enc Try.prog w 0 spare held m' 2 (([c0, c1, c2, c3, c4].drop 1).take (Try.prog.cellsOf 2)) = [y0, y1, y2, y3, y4][1]? := hg 1 _ rfl
  rw [hCi] at g1
  have g2 : DataW.trod enc Try.prog w 0 spare held m' 2 (([c0, c1, c2, c3, c4].drop 2).take (Try.prog.cellsOf 2)) = [y0, y1, y2, y3, y4][2]? := hg 2 _ rfl
  rw [hCi] at g2
  have g3 : DataW.trod enc Try.prog w 0 spare held m' 2 (([c0, c1, c2, c3, c4].drop 3).take (Try.prog.cellsOf 2)) = [y0, y1, y2, y3, y4][3]? := hg 3 _ rfl
  rw [hCi] at g3
  have g4 : DataW.trod enc Try.prog w 0 spare held m' 2 (([c0, c1, c2, c3, c4].drop 4).take (Try.prog.cellsOf 2)) = [y0, y1, y2, y3, y4][4]? := hg 4 _ rfl
  rw [hCi] at g4
  obtain ⟨x0, e0, k0⟩ := trod_str (cs := [c0]) (y := y0) Try.underlying9 g0
  obtain ⟨x1, e1, k1⟩ := trod_int64 (cs := [c1]) (y := y1) Try.underlying2 g1
  obtain ⟨x2, e2, k2⟩ := trod_int64 (cs := [c2]) (y := y2) Try.underlying2 g2
  obtain ⟨x3, e3, k3⟩ := trod_int64 (cs := [c3]) (y := y3) Try.underlying2 g3
  obtain ⟨x4, e4, k4⟩ := trod_int64 (cs := [c4]) (y := y4) Try.underlying2 g4
  injection e0 with e0 _
  injection e1 with e1 _
  injection e2 with e2 _
  injection e3 with e3 _
  injection e4 with e4 _
  exact ⟨⟨x0, x1, x2, x3, x4⟩, by simp [Stand.cells, e0, e1, e2, e3, e4], k1, k2, k3, k4, k0⟩
end

theorem Stand.at_ {w : World} {A : Option Addr} {n : Nat} {xs : List Stand} (h : SliceOf w 5 Stand.cells A n xs) {k : Nat} (hk : k < n) :
    ∃ b off x, A = some ⟨b, off, none⟩ ∧ b < w.heap.size ∧ xs[k]? = some x ∧ w.cell? ⟨b, off + k * 5, none⟩ = some (.string x.id) ∧ w.cell? ⟨b, off + k * 5 + 1, none⟩ = some (.int .i64 x.trees) ∧ w.cell? ⟨b, off + k * 5 + 2, none⟩ = some (.int .i64 x.height) ∧ w.cell? ⟨b, off + k * 5 + 3, none⟩ = some (.int .i64 x.cover) ∧ w.cell? ⟨b, off + k * 5 + 4, none⟩ = some (.int .i64 x.gap) := by
  obtain ⟨b, off, x, hA, hb, hx, hc⟩ := h.at_ hk
  exact ⟨b, off, x, hA, hb, hx, hc 0 _ rfl, hc 1 _ rfl, hc 2 _ rfl, hc 3 _ rfl, hc 4 _ rfl⟩

set_option maxHeartbeats 400000 in
theorem toStand_any (x : Stand) (w : World) : Calls Try.prog 27 #[.agg #[.string x.id, .int .i64 x.trees, .int .i64 x.height, .int .i64 x.cover, .int .i64 x.gap]] w (Ret (.agg #[.string x.id, .int .i64 x.trees, .int .i64 x.height, .int .i64 x.cover, .int .i64 x.gap]) w) := by
  go_enter Try.func27, Try.ntmps27
  go_wp2
  refine bodyPost_ret (v := .agg #[.string x.id, .int .i64 x.trees, .int .i64 x.height, .int .i64 x.cover, .int .i64 x.gap]) (by simp [results, Try.results27, go_sem]) rfl (Ret.mk rfl ?_)
  repeat (first | exact Below.refl _ _ | refine Below.setCell ?_ (by simp <;> omega) _ | refine Below.alloc ?_ (by simp <;> omega) _)

set_option maxHeartbeats 400000 in
theorem eqStand_any (x y : Stand) (w : World) : Calls Try.prog 58 #[.agg #[.string x.id, .int .i64 x.trees, .int .i64 x.height, .int .i64 x.cover, .int .i64 x.gap], .agg #[.string y.id, .int .i64 y.trees, .int .i64 y.height, .int .i64 y.cover, .int .i64 y.gap]] w (Ret (.bool (x.eqB y)) w) := by
  go_enter Try.func58, Try.ntmps58
  go_wp2
  all_goals (go_ret; refine Ret.b ?_ (((Below.refl _ _).alloc (Nat.le_refl _) _).alloc (by simp) _))
  all_goals (simp_all [Stand.eqB])

def Stand.eqSB (xs ys : List Stand) : Bool := xs.length == ys.length && (xs.zip ys).all fun p => p.1.eqB p.2
theorem Stand.eqSB_self (xs : List Stand) : Stand.eqSB xs xs = true := by
  unfold Stand.eqSB
  rw [Bool.and_eq_true]
  refine ⟨by simp, List.all_eq_true.2 fun p hp => ?_⟩
  obtain ⟨k, hk⟩ := List.mem_iff_getElem?.1 hp
  rw [List.getElem?_zip_eq_some] at hk
  have e : p.1 = p.2 := by have := hk.1.symm.trans hk.2; injection this
  rw [e]; exact Stand.eqB_self _
theorem Stand.eqSB_no {xs ys : List Stand} {k : Nat} {x y : Stand} (hx : xs[k]? = some x) (hy : ys[k]? = some y) (h : x.eqB y = false) : Stand.eqSB xs ys = false := by
  unfold Stand.eqSB
  rw [Bool.and_eq_false_iff]; right
  rw [List.all_eq_false]
  exact ⟨(x, y), List.mem_iff_getElem?.2 ⟨k, by rw [List.getElem?_zip_eq_some]; exact ⟨hx, hy⟩⟩, by simp [h]⟩
theorem Stand.eqSB_len {xs ys : List Stand} (h : xs.length ≠ ys.length) : Stand.eqSB xs ys = false := by simp [Stand.eqSB, h]
theorem Stand.eqSB_yes {xs ys : List Stand} (h : xs.length = ys.length) (ha : ∀ (j : Nat) (x y : Stand), xs[j]? = some x → ys[j]? = some y → x.eqB y = true) : Stand.eqSB xs ys = true := by
  unfold Stand.eqSB
  rw [Bool.and_eq_true]
  refine ⟨by simp [h], List.all_eq_true.2 fun p hp => ?_⟩
  obtain ⟨k, hk⟩ := List.mem_iff_getElem?.1 hp
  rw [List.getElem?_zip_eq_some] at hk
  exact ha k _ _ hk.1 hk.2
theorem Stand.eqSB_step {xs ys : List Stand} {k : Nat} {x y : Stand} (h : ∀ (j : Nat) (x y : Stand), j < k → xs[j]? = some x → ys[j]? = some y → x.eqB y = true) (hx : xs[k]? = some x) (hy : ys[k]? = some y) (he : x.eqB y = true) :
    ∀ (j : Nat) (x y : Stand), j < k + 1 → xs[j]? = some x → ys[j]? = some y → x.eqB y = true := fun j x' y' hj h1 h2 => by
  by_cases e : j = k
  · subst e; rw [hx] at h1; rw [hy] at h2; cases h1; cases h2; exact he
  · exact h j x' y' (by omega) h1 h2
theorem Stand.eqSB_iff (xs ys : List Stand) : Stand.eqSB xs ys = true ↔ xs = ys := by
  constructor
  · intro h
    unfold Stand.eqSB at h
    rw [Bool.and_eq_true] at h
    have hl : xs.length = ys.length := by simpa using h.1
    refine List.ext_getElem hl fun i h1 h2 => ?_
    have h3 := List.all_eq_true.1 h.2 (xs[i], ys[i]) (List.mem_iff_getElem?.2 ⟨i, by rw [List.getElem?_zip_eq_some]; exact ⟨List.getElem?_eq_getElem h1, List.getElem?_eq_getElem h2⟩⟩)
    exact (Stand.eqB_iff _ _).1 h3
  · rintro rfl; exact Stand.eqSB_self _

set_option maxHeartbeats 1000000 in
theorem eqStandS_any (A B : Option Addr) (n m c1 c2 : Nat) (xs ys : List Stand) (w : World) (hx : SliceOf w 5 Stand.cells A n xs) (hy : SliceOf w 5 Stand.cells B m ys) :
    Calls Try.prog 38 #[.slice A n c1, .slice B m c2] w (Ret (.bool (Stand.eqSB xs ys)) w) := by
  have hn := hx.le
  have hm := hy.le
  by_cases hnm : n = m
  · subst hnm
    go_enter Try.func38, Try.ntmps38
    go_wp2
    go_loopg [5] n (fun gk i wr => ∃ k : Nat, k ≤ n ∧ gk = n - k ∧ i = .int .i64 k ∧ Below w.heap.size w wr ∧ ∀ (j : Nat) (x y : Stand), j < k → xs[j]? = some x → ys[j]? = some y → x.eqB y = true)
    case atStart => exact ⟨0, Nat.zero_le _, rfl, rfl, Below.refl _ _, fun j x y h => absurd h (by omega)⟩
    case round =>
      obtain ⟨k, hk, hgk, rfl, hb, hall⟩ := hrel
      have Hall := Lib.hid hall
      have Hgk := Lib.hid hgk
      clear hall hgk
      by_cases hlt : k < n
      · obtain ⟨b1, o1, x, rfl, hb1, hxk, x0, x1, x2, x3, x4⟩ := Stand.at_ (hx.below hb) hlt
        obtain ⟨b2, o2, y, rfl, hb2, hyk, y0, y1, y2, y3, y4⟩ := Stand.at_ (hy.below hb) hlt
        have Hx := Lib.hid hxk
        have Hy := Lib.hid hyk
        clear hxk hyk
        have hsub := fun (g : Sub wr) b o (h : b < wr.heap.size) => g.cell b o h
        go_wp2_with fail
        refine wp_region_sub (by kernel_rfl) (by kernel_rfl) ?_
        repeat (go_big_quiet_step (exact Calls.sub_of (eqStand_any _ _ _)))
        refine wpQuiet_nil ?_
        intro wg hg
        have hbg := hb.trans (hg.mono hb.size)
        clear hsub x0 y0 x1 y1 x2 y2 x3 y3 x4 y4
        cases he : x.eqB y
        · go_wp2
          go_ret
          exact Ret.b (Stand.eqSB_no Hx.out Hy.out he).symm hbg
        · go_wp2
          go_roundg (n - (k + 1))
          case measure => have := Hgk.out; omega
          case rel => exact ⟨k + 1, by omega, rfl, by go_num, hbg, Stand.eqSB_step Hall.out Hx.out Hy.out he⟩
      · go_wp2
        go_ret
        exact Ret.b (Stand.eqSB_yes (by rw [hx.1, hy.1]) (fun j x y h1 h2 => Hall.out j x y (by have := (List.getElem?_eq_some_iff.1 h1).1; have := hx.1; omega) h1 h2)).symm hb
  · go_enter Try.func38, Try.ntmps38
    go_wp2
    go_ret
    exact Ret.b (Stand.eqSB_len (by rw [hx.1, hy.1]; exact hnm)).symm (Below.refl _ _)

theorem infoStand : (Try.prog.info? 41).map (fun i => (i.zero, i.size, i.bytes)) = some (some (.agg #[.string ByteArray.empty, .int .i64 0, .int .i64 0, .int .i64 0, .int .i64 0]), 5, 48) := by kernel_rfl
set_option maxHeartbeats 1000000 in
theorem toStandS_any (A : Option Addr) (n c : Nat) (xs : List Stand) (w : World) (hx : SliceOf w 5 Stand.cells A n xs) (hle : n ≤ 1048576) :
    Calls Try.prog 36 #[.slice A n c] w (RetP (fun v w' => ∃ B, v = .slice B n n ∧ SliceOf w' 5 Stand.cells B n xs) w) := by
  have hmk := make_n (P := Try.prog) (t := 54) (n := n) Try.underlying54 infoStand (by omega) (by omega)
  go_enter Try.func36, Try.ntmps36
  go_wp2
  clear hmk
  go_loopg [4] n (fun gk i wr => ∃ (k : Nat) (cs : Array Value), k ≤ n ∧ gk = n - k ∧ i = .int .i64 k ∧ Below w.heap.size w wr ∧ Own wr w.heap.size 41 cs ∧ cs.size = n * 5 ∧ FilledTo 5 Stand.cells xs k cs)
  case atStart => exact ⟨0, _, Nat.zero_le _, rfl, rfl, (Below.refl _ _).alloc (Nat.le_refl _) _, Own.new _ _ _, size_madeCells _ _, FilledTo.zero⟩
  case round =>
    obtain ⟨k, cs, hk, hgk, rfl, hb, hown, hsz, hfill⟩ := hrel
    have Hgk := Lib.hid hgk
    have Hsz := Lib.hid hsz
    clear hgk hsz
    by_cases hlt : k < n
    · obtain ⟨b1, o1, x, rfl, hb1, hxk, x0, x1, x2, x3, x4⟩ := Stand.at_ (hx.below hb) hlt
      have Hx := Lib.hid hxk
      clear hxk
      go_wp2_with fail
      refine (toStand_any _ _).mono ?_
      rintro e w1 ⟨rfl, hb1'⟩
      have hown1 := hown.below' hb1'
      have hbb := hb.trans (hb1'.mono hb.size)
      have Hsize : Hid (w.heap.size < w1.heap.size) := hown1.lt
      obtain ⟨u0, hu0⟩ : ∃ u, cs[k * 5]? = some u := ⟨_, Array.getElem?_eq_getElem (by have := Hsz.out; omega)⟩
      have f0 : w1.cell? ⟨w.heap.size, k * 5, none⟩ = some u0 := (hown1.cell _).trans hu0
      obtain ⟨u1, hu1⟩ : ∃ u, cs[k * 5 + 1]? = some u := ⟨_, Array.getElem?_eq_getElem (by have := Hsz.out; omega)⟩
      have f1 : w1.cell? ⟨w.heap.size, k * 5 + 1, none⟩ = some u1 := (hown1.cell _).trans hu1
      obtain ⟨u2, hu2⟩ : ∃ u, cs[k * 5 + 2]? = some u := ⟨_, Array.getElem?_eq_getElem (by have := Hsz.out; omega)⟩
      have f2 : w1.cell? ⟨w.heap.size, k * 5 + 2, none⟩ = some u2 := (hown1.cell _).trans hu2
      obtain ⟨u3, hu3⟩ : ∃ u, cs[k * 5 + 3]? = some u := ⟨_, Array.getElem?_eq_getElem (by have := Hsz.out; omega)⟩
      have f3 : w1.cell? ⟨w.heap.size, k * 5 + 3, none⟩ = some u3 := (hown1.cell _).trans hu3
      obtain ⟨u4, hu4⟩ : ∃ u, cs[k * 5 + 4]? = some u := ⟨_, Array.getElem?_eq_getElem (by have := Hsz.out; omega)⟩
      have f4 : w1.cell? ⟨w.heap.size, k * 5 + 4, none⟩ = some u4 := (hown1.cell _).trans hu4
      have hfr : ∀ o, w1.frozen? ⟨w.heap.size, o, none⟩ = false := hown1.frozen
      clear x0 hu0 x1 hu1 x2 hu2 x3 hu3 x4 hu4 hx hown hb hb1'
      have Hown := Lib.hid hown1
      clear hown1
      go_wp2
      go_roundg (n - (k + 1))
      case measure => have := Hgk.out; omega
      case rel =>
        refine ⟨k + 1, putAll cs (k * 5) x.cells, by omega, rfl, by go_num, ?_, ?_, ?_, ?_⟩
        · repeat (first | exact hbb | refine Below.setCell ?_ (by exact Nat.le_refl _) _)
        · exact (((((Hown.out.put _ _).put _ _).put _ _).put _ _).put _ _)
        · rw [putAll_size]; exact Hsz.out
        · exact hfill.step (fun _ => rfl) hlt Hsz.out Hx.out
    · have hkn : k = n := by omega
      subst hkn
      go_wp2
      go_ret
      exact RetP.mk ⟨_, rfl, hown.sliceOf hle hx.1 hfill⟩ hb

set_option maxHeartbeats 400000 in
theorem szStand_any (x : Stand) (left : Int) (w : World) (hg : x.Good) (h0 : 0 ≤ left) (h1 : left ≤ 1048576) : Calls Try.prog 25 #[.agg #[.string x.id, .int .i64 x.trees, .int .i64 x.height, .int .i64 x.cover, .int .i64 x.gap], .int .i64 left] w (RetP (fun v _ => ∃ r : Int, v = .int .i64 r ∧ (r < 0 ∨ 0 ≤ r ∧ r ≤ left)) w) := by
  have hs : (x.id.size : Int) ≤ 9223372036854775807 := by have := hg.2.2.2.2; simp [maxLen] at this; omega
  clear hg
  go_enter Try.func25, Try.ntmps25
  go_wp2
  all_goals (go_ret; refine RetP.mk ⟨_, rfl, ?_⟩ ((Below.refl _ _).alloc (Nat.le_refl _) _))
  all_goals omega

set_option maxHeartbeats 1000000 in
theorem szStandS_any (A : Option Addr) (n c : Nat) (xs : List Stand) (left : Int) (w : World) (hx : SliceOf w 5 Stand.cells A n xs) (hg : ∀ x ∈ xs, x.Good) (h0 : 0 ≤ left) (h1 : left ≤ 1048576) :
    Calls Try.prog 34 #[.slice A n c, .int .i64 left] w (RetP (fun v _ => ∃ r : Int, v = .int .i64 r ∧ (r < 0 ∨ 0 ≤ r ∧ r ≤ left ∧ (n : Int) ≤ left)) w) := by
  have hn := hx.le
  have Hg := Lib.hid hg
  clear hg
  by_cases hneg : left - (n : Int) < 0
  · go_enter Try.func34, Try.ntmps34
    go_wp2
    go_ret
    exact RetP.mk ⟨_, rfl, by omega⟩ (Below.refl _ _)
  · go_enter Try.func34, Try.ntmps34
    go_wp2
    go_loopg [1, 5] n (fun gk l i wr => ∃ (k : Nat) (r : Int), k ≤ n ∧ gk = n - k ∧ i = .int .i64 k ∧ l = .int .i64 r ∧ 0 ≤ r ∧ r ≤ left - (n : Int) ∧ Below w.heap.size w wr)
    case atStart => exact ⟨0, _, Nat.zero_le _, rfl, rfl, rfl, by omega, by omega, Below.refl _ _⟩
    case round =>
      obtain ⟨k, r, hk, hgk, rfl, rfl, hr0, hr1, hb⟩ := hrel
      have Hgk := Lib.hid hgk
      clear hgk
      by_cases hlt : k < n
      · obtain ⟨b1, o1, x, rfl, hb1, hxk, x0, x1, x2, x3, x4⟩ := Stand.at_ (hx.below hb) hlt
        have hgx := Hg.out x (List.mem_of_getElem? hxk)
        have HG := Lib.hid hgx
        clear hxk hgx
        go_wp2_with fail
        refine (szStand_any _ _ _ HG.out hr0 (by omega)).mono ?_
        rintro e w1 ⟨v, rfl, ⟨q, rfl, hq⟩, hb1'⟩
        have hbb := hb.trans (hb1'.mono hb.size)
        clear x0 x1 x2 x3 x4 hx hb hb1'
        by_cases hqn : q < 0
        · go_wp2
          go_ret
          exact RetP.mk ⟨_, rfl, by omega⟩ hbb
        · go_wp2
          go_roundg (n - (k + 1))
          case measure => have := Hgk.out; omega
          case rel => exact ⟨k + 1, q, by omega, rfl, by go_num, rfl, by omega, by omega, hbb⟩
      · go_wp2
        go_ret
        exact RetP.mk ⟨_, rfl, by omega⟩ hb

end Go.Proofs.Ytlfnkgfkimanaaa
