/- SameState of the program and of the reference: whether two lists of settings are the same. -/
import Derived.Test.YtoociholchamhaaBase
import Derived.Test.YtoociholchamhaaTSetting
namespace Go.Proofs.Ytoociholchamhaa
open Go.RowKit

set_option maxHeartbeats 2000000 in
theorem l27Same_any (A B : Option Addr) (n m c1 c2 : Nat) (xs ys : List Setting) (w : World) (hx : SliceOf w 2 Setting.cells A n xs) (hy : SliceOf w 2 Setting.cells B m ys) :
    Calls Try.prog 67 #[.slice A n c1, .slice B m c2] w (Ret (.bool (Setting.eqSB xs ys)) w) := by
  have hn := hx.le
  have hm := hy.le
  by_cases hnm : n = m
  · subst hnm
    go_enter Try.func67, Try.ntmps67
    go_wp2
    go_loopg [5] n (fun gk i wr => ∃ k : Nat, k ≤ n ∧ gk = n - k ∧ i = .int .i64 k ∧ Below w.heap.size w wr ∧ ∀ (j : Nat) (x y : Setting), j < k → xs[j]? = some x → ys[j]? = some y → x.eqB y = true)
    case atStart => exact ⟨0, Nat.zero_le _, rfl, rfl, Below.refl _ _, fun j x y h => absurd h (by omega)⟩
    case round =>
      obtain ⟨k, hk, hgk, rfl, hb, hall⟩ := hrel
      have Hall := Lib.hid hall
      have Hgk := Lib.hid hgk
      clear hall hgk
      by_cases hlt : k < n
      · obtain ⟨b1, o1, x, rfl, hb1, hxk, x0, x1⟩ := Setting.at_ (hx.below hb) hlt
        obtain ⟨b2, o2, y, rfl, hb2, hyk, y0, y1⟩ := Setting.at_ (hy.below hb) hlt
        have Hx := Lib.hid hxk
        have Hy := Lib.hid hyk
        clear hxk hyk
        have hsub := fun (g : Sub wr) b o (h : b < wr.heap.size) => g.cell b o h
        rcases cases2 (x.name.toList == y.name.toList) (x.value == y.value) with h | ⟨h, h'⟩ | ⟨h, h'⟩
        · have HE : Hid (x.eqB y = false) := by unfold Hid; simp [Setting.eqB]; intro e; rw [e] at h; simp at h
          go_wp2_with fail
          refine wp_region_sub (by kernel_rfl) (by kernel_rfl) ?_
          repeat (go_big_quiet_step (fail))
          refine wpQuiet_nil ?_
          intro wg hg
          have hbg := hb.trans (hg.mono hb.size)
          clear hsub x0 x1 y0 y1
          go_wp2
          go_ret
          exact Ret.b (Setting.eqSB_no Hx.out Hy.out HE.out).symm hbg
        · have HE : Hid (x.eqB y = false) := by unfold Hid; simp [Setting.eqB]; intro e e'; rw [e'] at h'; simp at h'
          go_wp2_with fail
          refine wp_region_sub (by kernel_rfl) (by kernel_rfl) ?_
          repeat (go_big_quiet_step (fail))
          refine wpQuiet_nil ?_
          intro wg hg
          have hbg := hb.trans (hg.mono hb.size)
          clear hsub x0 x1 y0 y1
          go_wp2
          go_ret
          exact Ret.b (Setting.eqSB_no Hx.out Hy.out HE.out).symm hbg
        · have HE : Hid (x.eqB y = true) := by unfold Hid; simp [Setting.eqB]; exact ⟨by simpa using h, by simpa using h'⟩
          go_wp2_with fail
          refine wp_region_sub (by kernel_rfl) (by kernel_rfl) ?_
          repeat (go_big_quiet_step (fail))
          refine wpQuiet_nil ?_
          intro wg hg
          have hbg := hb.trans (hg.mono hb.size)
          clear hsub x0 x1 y0 y1
          go_wp2
          go_roundg (n - (k + 1))
          case measure => have := Hgk.out; omega
          case rel => exact ⟨k + 1, by omega, rfl, by go_num, hbg, Setting.eqSB_step Hall.out Hx.out Hy.out HE.out⟩
      · go_wp2
        go_ret
        exact Ret.b (Setting.eqSB_yes (by rw [hx.1, hy.1]) (fun j x y h1 h2 => Hall.out j x y (by have := (List.getElem?_eq_some_iff.1 h1).1; have := hx.1; omega) h1 h2)).symm hb
  · go_enter Try.func67, Try.ntmps67
    go_wp2
    go_ret
    exact Ret.b (Setting.eqSB_len (by rw [hx.1, hy.1]; exact hnm)).symm (Below.refl _ _)

set_option maxHeartbeats 2000000 in
theorem equalSetting_any (A B : Option Addr) (n m c1 c2 : Nat) (xs ys : List Setting) (w : World) (hx : SliceOf w 2 Setting.cells A n xs) (hy : SliceOf w 2 Setting.cells B m ys) :
    Calls Try.prog 71 #[.slice A n c1, .slice B m c2] w (Ret (.bool (Setting.eqSB xs ys)) w) := by
  have hn := hx.le
  have hm := hy.le
  by_cases hnm : n = m
  · subst hnm
    go_enter Try.func71, Try.ntmps71
    go_wp2
    go_loopg [13] n (fun gk i wr => ∃ k : Nat, k ≤ n ∧ gk = n - k ∧ i = .int .i64 k ∧ Below w.heap.size w wr ∧ ∀ (j : Nat) (x y : Setting), j < k → xs[j]? = some x → ys[j]? = some y → x.eqB y = true)
    case atStart => exact ⟨0, Nat.zero_le _, rfl, rfl, Below.refl _ _, fun j x y h => absurd h (by omega)⟩
    case round =>
      obtain ⟨k, hk, hgk, rfl, hb, hall⟩ := hrel
      have Hall := Lib.hid hall
      have Hgk := Lib.hid hgk
      clear hall hgk
      by_cases hlt : k < n
      · obtain ⟨b1, o1, x, rfl, hb1, hxk, x0, x1⟩ := Setting.at_ (hx.below hb) hlt
        obtain ⟨b2, o2, y, rfl, hb2, hyk, y0, y1⟩ := Setting.at_ (hy.below hb) hlt
        have Hx := Lib.hid hxk
        have Hy := Lib.hid hyk
        clear hxk hyk
        have hsub := fun (g : Sub wr) b o (h : b < wr.heap.size) => g.cell b o h
        rcases cases2 (x.name.toList == y.name.toList) (x.value == y.value) with h | ⟨h, h'⟩ | ⟨h, h'⟩
        · have HE : Hid (x.eqB y = false) := by unfold Hid; simp [Setting.eqB]; intro e; rw [e] at h; simp at h
          go_wp2_with fail
          refine wp_region_sub (by kernel_rfl) (by kernel_rfl) ?_
          repeat (go_big_quiet_step (fail))
          refine wpQuiet_nil ?_
          intro wg hg
          have hbg := hb.trans (hg.mono hb.size)
          clear hsub x0 x1 y0 y1
          go_wp2
          go_ret
          exact Ret.b (Setting.eqSB_no Hx.out Hy.out HE.out).symm hbg
        · have HE : Hid (x.eqB y = false) := by unfold Hid; simp [Setting.eqB]; intro e e'; rw [e'] at h'; simp at h'
          go_wp2_with fail
          refine wp_region_sub (by kernel_rfl) (by kernel_rfl) ?_
          repeat (go_big_quiet_step (fail))
          refine wpQuiet_nil ?_
          intro wg hg
          have hbg := hb.trans (hg.mono hb.size)
          clear hsub x0 x1 y0 y1
          go_wp2
          go_ret
          exact Ret.b (Setting.eqSB_no Hx.out Hy.out HE.out).symm hbg
        · have HE : Hid (x.eqB y = true) := by unfold Hid; simp [Setting.eqB]; exact ⟨by simpa using h, by simpa using h'⟩
          go_wp2_with fail
          refine wp_region_sub (by kernel_rfl) (by kernel_rfl) ?_
          repeat (go_big_quiet_step (fail))
          refine wpQuiet_nil ?_
          intro wg hg
          have hbg := hb.trans (hg.mono hb.size)
          clear hsub x0 x1 y0 y1
          go_wp2
          go_roundg (n - (k + 1))
          case measure => have := Hgk.out; omega
          case rel => exact ⟨k + 1, by omega, rfl, by go_num, hbg, Setting.eqSB_step Hall.out Hx.out Hy.out HE.out⟩
      · go_wp2
        go_ret
        exact Ret.b (Setting.eqSB_yes (by rw [hx.1, hy.1]) (fun j x y h1 h2 => Hall.out j x y (by have := (List.getElem?_eq_some_iff.1 h1).1; have := hx.1; omega) h1 h2)).symm hb
  · go_enter Try.func71, Try.ntmps71
    go_wp2
    go_ret
    exact Ret.b (Setting.eqSB_len (by rw [hx.1, hy.1]; exact hnm)).symm (Below.refl _ _)


end Go.Proofs.Ytoociholchamhaa
