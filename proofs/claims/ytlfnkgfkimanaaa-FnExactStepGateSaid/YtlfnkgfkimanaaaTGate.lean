/- The struct type Gate of the laws: how it lies in memory, how an argument of it is opened, and what the laws' own helpers of it return. -/
import Derived.Test.YtlfnkgfkimanaaaProg
import Derived.Test.YtlfnkgfkimanaaaKit
namespace Go.Proofs.Ytlfnkgfkimanaaa
open Go.RowKit

structure Gate where
  id : ByteArray
  shut : Int
  open_ : Int
  hold : Int
  shuts : Bool
  calm : Int

def Gate.cells (x : Gate) : List Value := [.string x.id, .int .i64 x.shut, .int .i64 x.open_, .int .i64 x.hold, .bool x.shuts, .int .i64 x.calm]
instance : Inhabited Gate := ⟨⟨ByteArray.empty, 0, 0, 0, false, 0⟩⟩
def Gate.Good (x : Gate) : Prop := I64 x.shut ∧ I64 x.open_ ∧ I64 x.hold ∧ I64 x.calm ∧ x.id.size ≤ maxLen
def Gate.eqB (x y : Gate) : Bool := decide (x.id.toList = y.id.toList) && decide (x.shut = y.shut) && decide (x.open_ = y.open_) && decide (x.hold = y.hold) && decide (x.shuts = y.shuts) && decide (x.calm = y.calm)
theorem Gate.eqB_self (x : Gate) : x.eqB x = true := by simp [Gate.eqB]
theorem Gate.eqB_iff (x y : Gate) : x.eqB y = true ↔ x = y := by cases x; cases y; simp [Gate.eqB, and_assoc, bytes_inj]
theorem Gate.eqB_no (x y : Gate) (h : x.eqB y = false) : x ≠ y := fun e => by rw [(Gate.eqB_iff x y).2 e] at h; cases h

section
variable {H : Type} {enc : TypeId × Value → H} {w : World} {spare : Nat → Bool} {held : Bool}
theorem Gate.of_trod (m : Nat) (cs : List Value) (y : DataW H × List MemPlace) (h : DataW.trod enc Try.prog w 0 spare held m 66 cs = some y) : ∃ x : Gate, x.cells = cs ∧ x.Good := by
  obtain ⟨ys, m', _, _, hlen, hyl, hg⟩ := DataW.trod_struct Try.underlying66 h
  have hC : Try.prog.cellsOf 66 = 6 := by kernel_rfl
  have hCb : Try.prog.cellsOf 4 = 1 := by kernel_rfl
  have hCi : Try.prog.cellsOf 2 = 1 := by kernel_rfl
  have hCs : Try.prog.cellsOf 9 = 1 := by kernel_rfl
  obtain ⟨c0, c1, c2, c3, c4, c5, rfl⟩ := list6 (hlen.trans hC)
  obtain ⟨y0, y1, y2, y3, y4, y5, rfl⟩ := list6 hyl
  have g0 : DataW.trod enc Try.prog w 0 spare held m' 9 (([c0, c1, c2, c3, c4, c5].drop 0).take (Try.prog.cellsOf 9)) = [y0, y1, y2, y3, y4, y5][0]? := hg 0 _ rfl
  rw [hCs] at g0
  have g1 : DataW.trod enc Try.prog w 0 spare held m' 2 (([c0, c1, c2, c3, c4, c5].drop 1).take (Try.prog.cellsOf 2)) = [y0, y1, y2, y3, y4, y5][1]? := hg 1 _ rfl
  rw [hCi] at g1
  have g2 : DataW.trod enc Try.prog w 0 spare held m' 2 (([c0, c1, c2, c3, c4, c5].drop 2).take (Try.prog.cellsOf 2)) = [y0, y1, y2, y3, y4, y5][2]? := hg 2 _ rfl
  rw [hCi] at g2
  have g3 : DataW.trod enc Try.prog w 0 spare held m' 2 (([c0, c1, c2, c3, c4, c5].drop 3).take (Try.prog.cellsOf 2)) = [y0, y1, y2, y3, y4, y5][3]? := hg 3 _ rfl
  rw [hCi] at g3
  have g4 : DataW.trod enc Try.prog w 0 spare held m' 4 (([c0, c1, c2, c3, c4, c5].drop 4).take (Try.prog.cellsOf 4)) = [y0, y1, y2, y3, y4, y5][4]? := hg 4 _ rfl
  rw [hCb] at g4
  have g5 : DataW.trod enc Try.prog w 0 spare held m' 2 (([c0, c1, c2, c3, c4, c5].drop 5).take (Try.prog.cellsOf 2)) = [y0, y1, y2, y3, y4, y5][5]? := hg 5 _ rfl
  rw [hCi] at g5
  obtain ⟨x0, e0, k0⟩ := trod_str (cs := [c0]) (y := y0) Try.underlying9 g0
  obtain ⟨x1, e1, k1⟩ := trod_int64 (cs := [c1]) (y := y1) Try.underlying2 g1
  obtain ⟨x2, e2, k2⟩ := trod_int64 (cs := [c2]) (y := y2) Try.underlying2 g2
  obtain ⟨x3, e3, k3⟩ := trod_int64 (cs := [c3]) (y := y3) Try.underlying2 g3
  obtain ⟨x4, e4, k4⟩ := trod_bool' (cs := [c4]) (y := y4) Try.underlying4 g4
  obtain ⟨x5, e5, k5⟩ := trod_int64 (cs := [c5]) (y := y5) Try.underlying2 g5
  injection e0 with e0 _
  injection e1 with e1 _
  injection e2 with e2 _
  injection e3 with e3 _
  injection e4 with e4 _
  injection e5 with e5 _
  exact ⟨⟨x0, x1, x2, x3, x4, x5⟩, by simp [Gate.cells, e0, e1, e2, e3, e4, e5], k1, k2, k3, k5, k0⟩
end

theorem Gate.at_ {w : World} {A : Option Addr} {n : Nat} {xs : List Gate} (h : SliceOf w 6 Gate.cells A n xs) {k : Nat} (hk : k < n) :
    ∃ b off x, A = some ⟨b, off, none⟩ ∧ b < w.heap.size ∧ xs[k]? = some x ∧ w.cell? ⟨b, off + k * 6, none⟩ = some (.string x.id) ∧ w.cell? ⟨b, off + k * 6 + 1, none⟩ = some (.int .i64 x.shut) ∧ w.cell? ⟨b, off + k * 6 + 2, none⟩ = some (.int .i64 x.open_) ∧ w.cell? ⟨b, off + k * 6 + 3, none⟩ = some (.int .i64 x.hold) ∧ w.cell? ⟨b, off + k * 6 + 4, none⟩ = some (.bool x.shuts) ∧ w.cell? ⟨b, off + k * 6 + 5, none⟩ = some (.int .i64 x.calm) := by
  obtain ⟨b, off, x, hA, hb, hx, hc⟩ := h.at_ hk
  exact ⟨b, off, x, hA, hb, hx, hc 0 _ rfl, hc 1 _ rfl, hc 2 _ rfl, hc 3 _ rfl, hc 4 _ rfl, hc 5 _ rfl⟩

set_option maxHeartbeats 400000 in
theorem toGate_any (x : Gate) (w : World) : Calls Try.prog 46 #[.agg #[.string x.id, .int .i64 x.shut, .int .i64 x.open_, .int .i64 x.hold, .bool x.shuts, .int .i64 x.calm]] w (Ret (.agg #[.string x.id, .int .i64 x.shut, .int .i64 x.open_, .int .i64 x.hold, .bool x.shuts, .int .i64 x.calm]) w) := by
  go_enter Try.func46, Try.ntmps46
  go_wp2
  refine bodyPost_ret (v := .agg #[.string x.id, .int .i64 x.shut, .int .i64 x.open_, .int .i64 x.hold, .bool x.shuts, .int .i64 x.calm]) (by simp [results, Try.results46, go_sem]) rfl (Ret.mk rfl ?_)
  repeat (first | exact Below.refl _ _ | refine Below.setCell ?_ (by simp <;> omega) _ | refine Below.alloc ?_ (by simp <;> omega) _)

set_option maxHeartbeats 400000 in
theorem eqGate_any (x y : Gate) (w : World) : Calls Try.prog 48 #[.agg #[.string x.id, .int .i64 x.shut, .int .i64 x.open_, .int .i64 x.hold, .bool x.shuts, .int .i64 x.calm], .agg #[.string y.id, .int .i64 y.shut, .int .i64 y.open_, .int .i64 y.hold, .bool y.shuts, .int .i64 y.calm]] w (Ret (.bool (x.eqB y)) w) := by
  go_enter Try.func48, Try.ntmps48
  go_wp2
  all_goals (go_ret; refine Ret.b ?_ (((Below.refl _ _).alloc (Nat.le_refl _) _).alloc (by simp) _))
  all_goals (simp_all [Gate.eqB])

def Gate.eqSB (xs ys : List Gate) : Bool := xs.length == ys.length && (xs.zip ys).all fun p => p.1.eqB p.2
theorem Gate.eqSB_self (xs : List Gate) : Gate.eqSB xs xs = true := by
  unfold Gate.eqSB
  rw [Bool.and_eq_true]
  refine ⟨by simp, List.all_eq_true.2 fun p hp => ?_⟩
  obtain ⟨k, hk⟩ := List.mem_iff_getElem?.1 hp
  rw [List.getElem?_zip_eq_some] at hk
  have e : p.1 = p.2 := by have := hk.1.symm.trans hk.2; injection this
  rw [e]; exact Gate.eqB_self _
theorem Gate.eqSB_no {xs ys : List Gate} {k : Nat} {x y : Gate} (hx : xs[k]? = some x) (hy : ys[k]? = some y) (h : x.eqB y = false) : Gate.eqSB xs ys = false := by
  unfold Gate.eqSB
  rw [Bool.and_eq_false_iff]; right
  rw [List.all_eq_false]
  exact ⟨(x, y), List.mem_iff_getElem?.2 ⟨k, by rw [List.getElem?_zip_eq_some]; exact ⟨hx, hy⟩⟩, by simp [h]⟩
theorem Gate.eqSB_len {xs ys : List Gate} (h : xs.length ≠ ys.length) : Gate.eqSB xs ys = false := by simp [Gate.eqSB, h]
theorem Gate.eqSB_yes {xs ys : List Gate} (h : xs.length = ys.length) (ha : ∀ (j : Nat) (x y : Gate), xs[j]? = some x → ys[j]? = some y → x.eqB y = true) : Gate.eqSB xs ys = true := by
  unfold Gate.eqSB
  rw [Bool.and_eq_true]
  refine ⟨by simp [h], List.all_eq_true.2 fun p hp => ?_⟩
  obtain ⟨k, hk⟩ := List.mem_iff_getElem?.1 hp
  rw [List.getElem?_zip_eq_some] at hk
  exact ha k _ _ hk.1 hk.2
theorem Gate.eqSB_step {xs ys : List Gate} {k : Nat} {x y : Gate} (h : ∀ (j : Nat) (x y : Gate), j < k → xs[j]? = some x → ys[j]? = some y → x.eqB y = true) (hx : xs[k]? = some x) (hy : ys[k]? = some y) (he : x.eqB y = true) :
    ∀ (j : Nat) (x y : Gate), j < k + 1 → xs[j]? = some x → ys[j]? = some y → x.eqB y = true := fun j x' y' hj h1 h2 => by
  by_cases e : j = k
  · subst e; rw [hx] at h1; rw [hy] at h2; cases h1; cases h2; exact he
  · exact h j x' y' (by omega) h1 h2
theorem Gate.eqSB_iff (xs ys : List Gate) : Gate.eqSB xs ys = true ↔ xs = ys := by
  constructor
  · intro h
    unfold Gate.eqSB at h
    rw [Bool.and_eq_true] at h
    have hl : xs.length = ys.length := by simpa using h.1
    refine List.ext_getElem hl fun i h1 h2 => ?_
    have h3 := List.all_eq_true.1 h.2 (xs[i], ys[i]) (List.mem_iff_getElem?.2 ⟨i, by rw [List.getElem?_zip_eq_some]; exact ⟨List.getElem?_eq_getElem h1, List.getElem?_eq_getElem h2⟩⟩)
    exact (Gate.eqB_iff _ _).1 h3
  · rintro rfl; exact Gate.eqSB_self _

set_option maxHeartbeats 1000000 in
theorem eqGateS_any (A B : Option Addr) (n m c1 c2 : Nat) (xs ys : List Gate) (w : World) (hx : SliceOf w 6 Gate.cells A n xs) (hy : SliceOf w 6 Gate.cells B m ys) :
    Calls Try.prog 53 #[.slice A n c1, .slice B m c2] w (Ret (.bool (Gate.eqSB xs ys)) w) := by
  have hn := hx.le
  have hm := hy.le
  by_cases hnm : n = m
  · subst hnm
    go_enter Try.func53, Try.ntmps53
    go_wp2
    go_loopg [5] n (fun gk i wr => ∃ k : Nat, k ≤ n ∧ gk = n - k ∧ i = .int .i64 k ∧ Below w.heap.size w wr ∧ ∀ (j : Nat) (x y : Gate), j < k → xs[j]? = some x → ys[j]? = some y → x.eqB y = true)
    case atStart => exact ⟨0, Nat.zero_le _, rfl, rfl, Below.refl _ _, fun j x y h => absurd h (by omega)⟩
    case round =>
      obtain ⟨k, hk, hgk, rfl, hb, hall⟩ := hrel
      have Hall := Lib.hid hall
      have Hgk := Lib.hid hgk
      clear hall hgk
      by_cases hlt : k < n
      · obtain ⟨b1, o1, x, rfl, hb1, hxk, x0, x1, x2, x3, x4, x5⟩ := Gate.at_ (hx.below hb) hlt
        obtain ⟨b2, o2, y, rfl, hb2, hyk, y0, y1, y2, y3, y4, y5⟩ := Gate.at_ (hy.below hb) hlt
        have Hx := Lib.hid hxk
        have Hy := Lib.hid hyk
        clear hxk hyk
        have hsub := fun (g : Sub wr) b o (h : b < wr.heap.size) => g.cell b o h
        go_wp2_with fail
        refine wp_region_sub (by kernel_rfl) (by kernel_rfl) ?_
        repeat (go_big_quiet_step (exact Calls.sub_of (eqGate_any _ _ _)))
        refine wpQuiet_nil ?_
        intro wg hg
        have hbg := hb.trans (hg.mono hb.size)
        clear hsub x0 y0 x1 y1 x2 y2 x3 y3 x4 y4 x5 y5
        cases he : x.eqB y
        · go_wp2
          go_ret
          exact Ret.b (Gate.eqSB_no Hx.out Hy.out he).symm hbg
        · go_wp2
          go_roundg (n - (k + 1))
          case measure => have := Hgk.out; omega
          case rel => exact ⟨k + 1, by omega, rfl, by go_num, hbg, Gate.eqSB_step Hall.out Hx.out Hy.out he⟩
      · go_wp2
        go_ret
        exact Ret.b (Gate.eqSB_yes (by rw [hx.1, hy.1]) (fun j x y h1 h2 => Hall.out j x y (by have := (List.getElem?_eq_some_iff.1 h1).1; have := hx.1; omega) h1 h2)).symm hb
  · go_enter Try.func53, Try.ntmps53
    go_wp2
    go_ret
    exact Ret.b (Gate.eqSB_len (by rw [hx.1, hy.1]; exact hnm)).symm (Below.refl _ _)

theorem infoGate : (Try.prog.info? 68).map (fun i => (i.zero, i.size, i.bytes)) = some (some (.agg #[.string ByteArray.empty, .int .i64 0, .int .i64 0, .int .i64 0, .bool false, .int .i64 0]), 6, 56) := by kernel_rfl
set_option maxHeartbeats 1000000 in
theorem toGateS_any (A : Option Addr) (n c : Nat) (xs : List Gate) (w : World) (hx : SliceOf w 6 Gate.cells A n xs) (hle : n ≤ 1048576) :
    Calls Try.prog 51 #[.slice A n c] w (RetP (fun v w' => ∃ B, v = .slice B n n ∧ SliceOf w' 6 Gate.cells B n xs) w) := by
  have hmk := make_n (P := Try.prog) (t := 77) (n := n) Try.underlying77 infoGate (by omega) (by omega)
  go_enter Try.func51, Try.ntmps51
  go_wp2
  clear hmk
  go_loopg [4] n (fun gk i wr => ∃ (k : Nat) (cs : Array Value), k ≤ n ∧ gk = n - k ∧ i = .int .i64 k ∧ Below w.heap.size w wr ∧ Own wr w.heap.size 68 cs ∧ cs.size = n * 6 ∧ FilledTo 6 Gate.cells xs k cs)
  case atStart => exact ⟨0, _, Nat.zero_le _, rfl, rfl, (Below.refl _ _).alloc (Nat.le_refl _) _, Own.new _ _ _, size_madeCells _ _, FilledTo.zero⟩
  case round =>
    obtain ⟨k, cs, hk, hgk, rfl, hb, hown, hsz, hfill⟩ := hrel
    have Hgk := Lib.hid hgk
    have Hsz := Lib.hid hsz
    clear hgk hsz
    by_cases hlt : k < n
    · obtain ⟨b1, o1, x, rfl, hb1, hxk, x0, x1, x2, x3, x4, x5⟩ := Gate.at_ (hx.below hb) hlt
      have Hx := Lib.hid hxk
      clear hxk
      go_wp2_with fail
      refine (toGate_any _ _).mono ?_
      rintro e w1 ⟨rfl, hb1'⟩
      have hown1 := hown.below' hb1'
      have hbb := hb.trans (hb1'.mono hb.size)
      have Hsize : Hid (w.heap.size < w1.heap.size) := hown1.lt
      obtain ⟨u0, hu0⟩ : ∃ u, cs[k * 6]? = some u := ⟨_, Array.getElem?_eq_getElem (by have := Hsz.out; omega)⟩
      have f0 : w1.cell? ⟨w.heap.size, k * 6, none⟩ = some u0 := (hown1.cell _).trans hu0
      obtain ⟨u1, hu1⟩ : ∃ u, cs[k * 6 + 1]? = some u := ⟨_, Array.getElem?_eq_getElem (by have := Hsz.out; omega)⟩
      have f1 : w1.cell? ⟨w.heap.size, k * 6 + 1, none⟩ = some u1 := (hown1.cell _).trans hu1
      obtain ⟨u2, hu2⟩ : ∃ u, cs[k * 6 + 2]? = some u := ⟨_, Array.getElem?_eq_getElem (by have := Hsz.out; omega)⟩
      have f2 : w1.cell? ⟨w.heap.size, k * 6 + 2, none⟩ = some u2 := (hown1.cell _).trans hu2
      obtain ⟨u3, hu3⟩ : ∃ u, cs[k * 6 + 3]? = some u := ⟨_, Array.getElem?_eq_getElem (by have := Hsz.out; omega)⟩
      have f3 : w1.cell? ⟨w.heap.size, k * 6 + 3, none⟩ = some u3 := (hown1.cell _).trans hu3
      obtain ⟨u4, hu4⟩ : ∃ u, cs[k * 6 + 4]? = some u := ⟨_, Array.getElem?_eq_getElem (by have := Hsz.out; omega)⟩
      have f4 : w1.cell? ⟨w.heap.size, k * 6 + 4, none⟩ = some u4 := (hown1.cell _).trans hu4
      obtain ⟨u5, hu5⟩ : ∃ u, cs[k * 6 + 5]? = some u := ⟨_, Array.getElem?_eq_getElem (by have := Hsz.out; omega)⟩
      have f5 : w1.cell? ⟨w.heap.size, k * 6 + 5, none⟩ = some u5 := (hown1.cell _).trans hu5
      have hfr : ∀ o, w1.frozen? ⟨w.heap.size, o, none⟩ = false := hown1.frozen
      clear x0 hu0 x1 hu1 x2 hu2 x3 hu3 x4 hu4 x5 hu5 hx hown hb hb1'
      have Hown := Lib.hid hown1
      clear hown1
      go_wp2
      go_roundg (n - (k + 1))
      case measure => have := Hgk.out; omega
      case rel =>
        refine ⟨k + 1, putAll cs (k * 6) x.cells, by omega, rfl, by go_num, ?_, ?_, ?_, ?_⟩
        · iterate 6 (refine Below.setCell ?_ (by exact Nat.le_refl _) _)
          exact hbb
        · exact ((((((Hown.out.put _ _).put _ _).put _ _).put _ _).put _ _).put _ _)
        · rw [putAll_size]; exact Hsz.out
        · exact hfill.step (fun _ => rfl) hlt Hsz.out Hx.out
    · have hkn : k = n := by omega
      subst hkn
      go_wp2
      go_ret
      exact RetP.mk ⟨_, rfl, hown.sliceOf hle hx.1 hfill⟩ hb

set_option maxHeartbeats 400000 in
theorem szGate_any (x : Gate) (left : Int) (w : World) (hg : x.Good) (h0 : 0 ≤ left) (h1 : left ≤ 1048576) : Calls Try.prog 44 #[.agg #[.string x.id, .int .i64 x.shut, .int .i64 x.open_, .int .i64 x.hold, .bool x.shuts, .int .i64 x.calm], .int .i64 left] w (RetP (fun v _ => ∃ r : Int, v = .int .i64 r ∧ (r < 0 ∨ 0 ≤ r ∧ r ≤ left)) w) := by
  have hs : (x.id.size : Int) ≤ 9223372036854775807 := by have := hg.2.2.2.2; simp [maxLen] at this; omega
  clear hg
  go_enter Try.func44, Try.ntmps44
  go_wp2
  all_goals (go_ret; refine RetP.mk ⟨_, rfl, ?_⟩ ((Below.refl _ _).alloc (Nat.le_refl _) _))
  all_goals omega

set_option maxHeartbeats 1000000 in
theorem szGateS_any (A : Option Addr) (n c : Nat) (xs : List Gate) (left : Int) (w : World) (hx : SliceOf w 6 Gate.cells A n xs) (hg : ∀ x ∈ xs, x.Good) (h0 : 0 ≤ left) (h1 : left ≤ 1048576) :
    Calls Try.prog 49 #[.slice A n c, .int .i64 left] w (RetP (fun v _ => ∃ r : Int, v = .int .i64 r ∧ (r < 0 ∨ 0 ≤ r ∧ r ≤ left ∧ (n : Int) ≤ left)) w) := by
  have hn := hx.le
  have Hg := Lib.hid hg
  clear hg
  by_cases hneg : left - (n : Int) < 0
  · go_enter Try.func49, Try.ntmps49
    go_wp2
    go_ret
    exact RetP.mk ⟨_, rfl, by omega⟩ (Below.refl _ _)
  · go_enter Try.func49, Try.ntmps49
    go_wp2
    go_loopg [1, 5] n (fun gk l i wr => ∃ (k : Nat) (r : Int), k ≤ n ∧ gk = n - k ∧ i = .int .i64 k ∧ l = .int .i64 r ∧ 0 ≤ r ∧ r ≤ left - (n : Int) ∧ Below w.heap.size w wr)
    case atStart => exact ⟨0, _, Nat.zero_le _, rfl, rfl, rfl, by omega, by omega, Below.refl _ _⟩
    case round =>
      obtain ⟨k, r, hk, hgk, rfl, rfl, hr0, hr1, hb⟩ := hrel
      have Hgk := Lib.hid hgk
      clear hgk
      by_cases hlt : k < n
      · obtain ⟨b1, o1, x, rfl, hb1, hxk, x0, x1, x2, x3, x4, x5⟩ := Gate.at_ (hx.below hb) hlt
        have hgx := Hg.out x (List.mem_of_getElem? hxk)
        have HG := Lib.hid hgx
        clear hxk hgx
        go_wp2_with fail
        refine (szGate_any _ _ _ HG.out hr0 (by omega)).mono ?_
        rintro e w1 ⟨v, rfl, ⟨q, rfl, hq⟩, hb1'⟩
        have hbb := hb.trans (hb1'.mono hb.size)
        clear x0 x1 x2 x3 x4 x5 hx hb hb1'
        by_cases hqn : q < 0
        · go_wp2
          go_ret
          exact RetP.mk ⟨_, rfl, by omega⟩ hbb
        · go_wp2
          go_roundg (n - (k + 1))
          case measure => have := Hgk.out; omega
          case rel => exact ⟨k + 1, q, by omega, rfl, by go_num, rfl, by omega, by omega, hbb⟩
      · go_wp2
        go_ret
        exact RetP.mk ⟨_, rfl, by omega⟩ hb

end Go.Proofs.Ytlfnkgfkimanaaa
