/- What is known to be dead, and the reference's comparison of two lists of numbers. -/
import Derived.Test.YtjidibohbbdboaaDoorCntT
import Derived.Test.YtjidibohbbdboaaDoorHasP
import Derived.Test.YtjidibohbbdboaaDoorMem
import Derived.Test.YtjidibohbbdboaaDoorTInt64
import Derived.Deep.RegionHeld3
namespace Go.Proofs.YtjidibohbbdboaaDoor
open Go.RowKit

set_option maxHeartbeats 1000000 in
theorem l00Same_any (A B : Option Addr) (n m c d : Nat) (xs ys : List Int) (w : World) (hx : SliceOf w 1 i64cells A n xs) (hy : SliceOf w 1 i64cells B m ys) :
    Calls Tryd.prog 40 #[.slice A n c, .slice B m d] w (Ret (.bool (decide (xs = ys))) w) := by
  have hn := hx.le
  have hm := hy.le
  by_cases hnm : n = m
  · subst hnm
    have hne : ((n : Int) != (n : Int)) = false := by simp
    go_enter Tryd.func40, Tryd.ntmps40
    go_wp2
    clear hne
    go_loopg [5] n (fun gk i wr => ∃ k : Nat, k ≤ n ∧ gk = n - k ∧ i = .int .i64 k ∧ xs.take k = ys.take k ∧ Below w.heap.size w wr)
    case atStart => exact ⟨0, Nat.zero_le _, rfl, rfl, rfl, Below.refl _ _⟩
    case round =>
      obtain ⟨k, hk, hgk, rfl, hall, hb⟩ := hrel
      have Hgk := Lib.hid hgk
      have Hall := Lib.hid hall
      clear hgk hall
      by_cases hlt : k < n
      · obtain ⟨b1, o1, x, rfl, hb1, hxk, x0⟩ := ints_at (hx.below hb) hlt
        obtain ⟨b2, o2, y, rfl, hb2, hyk, y0⟩ := ints_at (hy.below hb) hlt
        have HX := Lib.hid hxk
        have HY := Lib.hid hyk
        have hsub := fun (g : Sub wr) b o (h : b < wr.heap.size) => g.cell b o h
        clear hxk hyk
        by_cases hxy : x = y
        · subst hxy
          have hne : (x != x) = false := by simp
          go_wp2_with fail
          refine wp_region_sub (by kernel_rfl) (by kernel_rfl) ?_
          repeat (go_big_quiet_step (fail))
          refine wpQuiet_nil ?_
          intro wg hg
          have hbg := hb.trans (hg.mono hb.size)
          clear hsub x0 y0
          go_wp2
          go_roundg (n - (k + 1))
          case measure => have := Hgk.out; omega
          case rel => exact ⟨k + 1, by omega, rfl, by go_num, by
            rw [List.take_succ_eq_append_getElem (List.getElem?_eq_some_iff.1 HX.out).1, List.take_succ_eq_append_getElem (List.getElem?_eq_some_iff.1 HY.out).1, (List.getElem?_eq_some_iff.1 HX.out).2, (List.getElem?_eq_some_iff.1 HY.out).2, Hall.out], hbg⟩
        · have hne : (x != y) = true := by simp [hxy]
          have HN : Hid (decide (xs = ys) = false) := decide_eq_false (fun e => by
            have h1 := HX.out
            rw [e, HY.out] at h1
            injection h1 with h1
            exact hxy h1.symm)
          go_wp2_with fail
          refine wp_region_sub (by kernel_rfl) (by kernel_rfl) ?_
          repeat (go_big_quiet_step (fail))
          refine wpQuiet_nil ?_
          intro wg hg
          have hbg := hb.trans (hg.mono hb.size)
          clear hsub x0 y0
          go_wp2
          go_ret
          exact Ret.b HN.out.symm hbg
      · have HE : Hid (decide (xs = ys) = true) := decide_eq_true (by
          have h := Hall.out
          rwa [List.take_of_length_le (by rw [hx.len]; omega), List.take_of_length_le (by rw [hy.len]; omega)] at h)
        go_wp2
        go_ret
        exact Ret.b HE.out.symm hb
  · have hne : ((n : Int) != (m : Int)) = true := by rw [bne_iff_ne]; omega
    have HN : Hid (decide (xs = ys) = false) := decide_eq_false (fun e => hnm (by rw [← hx.len, ← hy.len, e]))
    go_enter Tryd.func40, Tryd.ntmps40
    go_wp2
    go_ret
    exact Ret.b HN.out.symm (Below.refl _ _)
set_option maxHeartbeats 1000000 in
theorem known_any (bs : Nat) (D : Option Addr) (dn dc : Nat) (ps : List RowR) (B : Option Addr) (kn kc : Nat) (key : List Int) (w : World) (hd : SliceOf w 1 RowR.cells D dn ps) (hi : ∀ p ∈ ps, p.In w) (hk : SliceOf w 1 i64cells B kn key) (hbs : bs < w.heap.size) (h7 : w.cell? ⟨bs, 7, none⟩ = some (.slice D dn dc)) :
    Calls Tryd.prog 30 #[.pointer (some ⟨bs, 0, none⟩), .slice B kn kc] w (Ret (.bool (knownB (ps.map RowR.list) key)) w) := by
  have hdl := hd.le
  have HD := Lib.hid hd
  have HI := Lib.hid hi
  have HK := Lib.hid hk
  have H7 := Lib.hid h7
  clear hd hi hk h7
  go_enter Tryd.func30, Tryd.ntmps30
  go_wp2_with fail
  go_loopg [5] dn (fun gk i wr => ∃ k : Nat, k ≤ dn ∧ gk = dn - k ∧ i = .int .i64 k ∧ (∀ (j : Nat) (p : RowR), j < k → ps[j]? = some p → decide (p.list = key) = false) ∧ Below w.heap.size w wr)
  case atStart => exact ⟨0, Nat.zero_le _, rfl, rfl, fun j p hj => absurd hj (by omega), Below.refl _ _⟩
  case round =>
    obtain ⟨k, hkd, hgk, rfl, hall, hb⟩ := hrel
    have Hgk := Lib.hid hgk
    have Hall := Lib.hid hall
    have HB := Lib.hid hb
    have c7 := (hb.cell (p := ⟨bs, 7, none⟩) hbs).trans H7.out
    have lb : bs < wr.heap.size := Nat.lt_of_lt_of_le hbs hb.size
    clear hgk hall hb
    by_cases hlt : k < dn
    · obtain ⟨b1, o1, p, rfl, hb1, hpk, hc⟩ := (HD.out.below HB.out).at_ hlt
      have x0 : wr.cell? ⟨b1, o1 + k, none⟩ = some (.slice p.listA p.listN p.listC) := by simpa using hc 0 _ rfl
      have HPK := Lib.hid hpk
      have hin := ((HI.out p (List.mem_of_getElem? hpk)).below HB.out).1
      have HIN := Lib.hid hin
      clear hpk hc hin
      cases hs : decide (p.list = key)
      · have HS := Lib.hid hs
        go_wp2_with fail
        refine (l00Same_any _ _ _ _ _ _ p.list key wr HIN.out (HK.out.below HB.out)).mono ?_
        rintro e w1 ⟨rfl, hb1'⟩
        rw [HS.out]
        have HB1 := Lib.hid (HB.out.trans (hb1'.mono HB.out.size))
        clear hb1' hs x0 c7
        go_wp2
        go_roundg (dn - (k + 1))
        case measure => have := Hgk.out; omega
        case rel => exact ⟨k + 1, by omega, rfl, by go_num, fun j q hj hq => by
          by_cases e : j = k
          · subst e; rw [HPK.out] at hq; injection hq with hq; rw [← hq]; exact HS.out
          · exact Hall.out j q (by omega) hq, HB1.out⟩
      · have HS := Lib.hid hs
        have HY : Hid (knownB (ps.map RowR.list) key = true) := known_iff.2 (List.mem_map.2 ⟨p, List.mem_of_getElem? HPK.out, of_decide_eq_true HS.out⟩)
        go_wp2_with fail
        refine (l00Same_any _ _ _ _ _ _ p.list key wr HIN.out (HK.out.below HB.out)).mono ?_
        rintro e w1 ⟨rfl, hb1'⟩
        rw [HS.out]
        have HB1 := Lib.hid (HB.out.trans (hb1'.mono HB.out.size))
        clear hb1' hs x0 c7
        go_wp2
        go_ret
        exact Ret.b HY.out.symm HB1.out
    · have HN : Hid (knownB (ps.map RowR.list) key = false) := by
        rw [Hid]
        cases hkn : knownB (ps.map RowR.list) key with
        | false => rfl
        | true =>
          obtain ⟨p, hp, he⟩ := List.mem_map.1 (known_iff.1 hkn)
          obtain ⟨j, hj⟩ := List.mem_iff_getElem?.1 hp
          have h1 := Hall.out j p (by have := (List.getElem?_eq_some_iff.1 hj).1; have := HD.out.len; omega) hj
          rw [decide_eq_true he] at h1
          cases h1
      go_wp2
      go_ret
      exact Ret.b HN.out.symm HB.out

end Go.Proofs.YtjidibohbbdboaaDoor
