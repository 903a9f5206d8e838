/- Slices of strings in the laws: copied, compared and measured. -/
import Derived.Test.YtpibiieibofggaaBase
import Derived.Test.YtpibiieibofggaaMem
import Derived.Test.YtpibiieibofggaaStrC
namespace Go.Proofs.Ytpibiieibofggaa
open Go.RowKit

def Str.eqSB (xs ys : List ByteArray) : Bool := decide (xs = ys)
theorem Str.eqSB_self (xs : List ByteArray) : Str.eqSB xs xs = true := by simp [Str.eqSB]
theorem putAll_str (cs : Array Value) (k : Nat) (x : ByteArray) : putAll cs (k * 1) (strcells x) = cs.setIfInBounds k (.string x) := by simp [putAll, strcells]

set_option maxHeartbeats 1000000 in
theorem eqStringS_any (A B : Option Addr) (n m c1 c2 : Nat) (xs ys : List ByteArray) (w : World) (hx : SliceOf w 1 strcells A n xs) (hy : SliceOf w 1 strcells B m ys) :
    Calls Try.prog 66 #[.slice A n c1, .slice B m c2] w (Ret (.bool (Str.eqSB xs ys)) w) := by
  have hn := hx.le
  have hm := hy.le
  have HX := Lib.hid hx.len
  have HY := Lib.hid hy.len
  by_cases hnm : n = m
  · subst hnm
    go_enter Try.func66, Try.ntmps66
    go_wp2
    go_loopg [5] n (fun gk i wr => ∃ k : Nat, k ≤ n ∧ gk = n - k ∧ i = .int .i64 k ∧ Below w.heap.size w wr ∧ xs.take k = ys.take k)
    case atStart => exact ⟨0, Nat.zero_le _, rfl, rfl, Below.refl _ _, rfl⟩
    case round =>
      obtain ⟨k, hk, hgk, rfl, hb, hall⟩ := hrel
      have Hall := Lib.hid hall
      have Hgk := Lib.hid hgk
      clear hall hgk
      by_cases hlt : k < n
      · obtain ⟨b1, o1, x, rfl, hb1, hxk, x0⟩ := strs_at (hx.below hb) hlt
        obtain ⟨b2, o2, y, rfl, hb2, hyk, y0⟩ := strs_at (hy.below hb) hlt
        have Hx := Lib.hid hxk
        have Hy := Lib.hid hyk
        clear hxk hyk
        have hsub := fun (g : Sub wr) b o (h : b < wr.heap.size) => g.cell b o h
        go_wp2_with fail
        refine wp_region_sub (by kernel_rfl) (by kernel_rfl) ?_
        repeat (go_big_quiet_step (fail))
        refine wpQuiet_nil ?_
        intro wg hg
        have hbg := hb.trans (hg.mono hb.size)
        clear hsub x0 y0
        have HEQ : Hid (∀ e : x = y, xs.take (k + 1) = ys.take (k + 1)) := fun he => by
          rw [List.take_succ_eq_append_getElem (List.getElem?_eq_some_iff.1 Hx.out).1, (List.getElem?_eq_some_iff.1 Hx.out).2, List.take_succ_eq_append_getElem (List.getElem?_eq_some_iff.1 Hy.out).1, (List.getElem?_eq_some_iff.1 Hy.out).2, Hall.out, he]
        have HNE : Hid (∀ e : x ≠ y, Str.eqSB xs ys = false) := fun he => by
          unfold Str.eqSB
          rw [decide_eq_false_iff_not]
          intro e; subst e
          have := Hx.out.symm.trans Hy.out
          injection this with this
          exact he this
        go_wp2
        · rename_i hq
          have HE := HNE.out (fun e => by subst e; simp at hq)
          clear hq
          go_ret
          exact Ret.b HE.symm hbg
        · rename_i hq
          have HE := HEQ.out ((bytes_inj x y).1 (by simpa using hq))
          clear hq
          go_roundg (n - (k + 1))
          case measure => have := Hgk.out; omega
          case rel => exact ⟨k + 1, by omega, rfl, by go_num, hbg, HE⟩
      · have HE : Hid (Str.eqSB xs ys = true) := by
          unfold Hid Str.eqSB
          rw [decide_eq_true_eq]
          have := Hall.out
          rwa [List.take_of_length_le (by rw [HX.out]; omega), List.take_of_length_le (by rw [HY.out]; omega)] at this
        go_wp2
        go_ret
        exact Ret.b HE.out.symm hb
  · have HE : Hid (Str.eqSB xs ys = false) := by
      unfold Hid Str.eqSB
      rw [decide_eq_false_iff_not]
      intro e; subst e
      exact hnm (HX.out.symm.trans HY.out)
    go_enter Try.func66, Try.ntmps66
    go_wp2
    go_ret
    exact Ret.b HE.out.symm (Below.refl _ _)
set_option maxHeartbeats 1000000 in
theorem toStringS_any (A : Option Addr) (n c : Nat) (xs : List ByteArray) (w : World) (hx : SliceOf w 1 strcells A n xs) (hle : n ≤ 1048576) :
    Calls Try.prog 65 #[.slice A n c] w (RetL 9 1 strcells xs w) := by
  have hmk := make_n (P := Try.prog) (t := 32) (n := n) Try.underlying32 infoStr (by omega) (by omega)
  have HL := Lib.hid hx.len
  go_enter Try.func65, Try.ntmps65
  go_wp2
  clear hmk
  go_loopg [4] n (fun gk i wr => ∃ (k : Nat) (cs : Array Value), k ≤ n ∧ gk = n - k ∧ i = .int .i64 k ∧ Below w.heap.size w wr ∧ Own wr w.heap.size 9 cs ∧ cs.size = n * 1 ∧ FilledTo 1 strcells xs k cs)
  case atStart => exact ⟨0, _, Nat.zero_le _, rfl, rfl, (Below.refl _ _).alloc (Nat.le_refl _) _, Own.new _ _ _, by simpa using size_madeCells _ _, FilledTo.zero⟩
  case round =>
    obtain ⟨k, cs, hk, hgk, rfl, hb, hown, hsz, hfill⟩ := hrel
    have Hgk := Lib.hid hgk
    have Hsz := Lib.hid hsz
    clear hgk hsz
    by_cases hlt : k < n
    · obtain ⟨b1, o1, x, rfl, hb1, hxk, x0⟩ := strs_at (hx.below hb) hlt
      have Hx := Lib.hid hxk
      obtain ⟨u0, hu0⟩ : ∃ u, cs[k]? = some u := ⟨_, Array.getElem?_eq_getElem (by have := Hsz.out; omega)⟩
      have f0 : wr.cell? ⟨w.heap.size, k, none⟩ = some u0 := (hown.cell _).trans hu0
      have hfr : ∀ o, wr.frozen? ⟨w.heap.size, o, none⟩ = false := hown.frozen
      have Hown := Lib.hid hown
      have Hf := Lib.hid hfill
      have Hb := Lib.hid hb
      clear hxk hu0 hx hown hfill hb
      go_wp2
      go_roundg (n - (k + 1))
      case measure => have := Hgk.out; omega
      case rel => exact ⟨k + 1, cs.setIfInBounds k (.string x), by omega, rfl, by go_num, Hb.out.setCell (Nat.le_refl _) _, Hown.out.put _ _, by simpa using Hsz.out, by rw [← putAll_str]; exact FilledTo.step strcells_len Hf.out hlt Hsz.out Hx.out⟩
    · have hkn : k = n := by omega
      subst hkn
      go_wp2
      go_ret
      exact RetP.mk (hown.ownsL strcells_len (Nat.le_refl _) HL.out Hsz.out hle hfill) hb
set_option maxHeartbeats 1000000 in
theorem szStringS_any (A : Option Addr) (n c : Nat) (xs : List ByteArray) (left : Int) (w : World) (hx : SliceOf w 1 strcells A n xs) (hg : ∀ x ∈ xs, x.size ≤ maxLen) (h0 : 0 ≤ left) (h1 : left ≤ 1048576) :
    Calls Try.prog 63 #[.slice A n c, .int .i64 left] w (RetP (fun v _ => ∃ r : Int, v = .int .i64 r ∧ (r < 0 ∨ 0 ≤ r ∧ r ≤ left ∧ (n : Int) ≤ left)) w) := by
  have hn := hx.le
  have HG := Lib.hid hg
  clear hg
  by_cases hneg : left - (n : Int) < 0
  · go_enter Try.func63, Try.ntmps63
    go_wp2
    go_ret
    exact RetP.mk ⟨_, rfl, .inl (by omega)⟩ (Below.refl _ _)
  · go_enter Try.func63, Try.ntmps63
    go_wp2
    go_loopg [1, 5] n (fun gk l i wr => ∃ (k : Nat) (r : Int), k ≤ n ∧ gk = n - k ∧ i = .int .i64 k ∧ l = .int .i64 r ∧ 0 ≤ r ∧ r ≤ left - (n : Int) ∧ w = wr)
    case atStart => exact ⟨0, _, Nat.zero_le _, rfl, rfl, rfl, by omega, by omega, rfl⟩
    case round =>
      obtain ⟨k, r, hk, hgk, rfl, rfl, hr0, hr1, rfl⟩ := hrel
      have Hgk := Lib.hid hgk
      clear hgk
      by_cases hlt : k < n
      · obtain ⟨b1, o1, x, rfl, hb1, hxk, x0⟩ := strs_at hx hlt
        have hxs := HG.out x (List.mem_of_getElem? hxk)
        have hxs : x.size ≤ 9223372036854775807 := by simp [maxLen] at hxs; omega
        obtain ⟨z, hz⟩ : ∃ z, x.size = z := ⟨_, rfl⟩
        rw [hz] at hxs
        clear hxk
        by_cases hq : r - (z : Int) < 0
        · go_wp2
          go_ret
          exact RetP.mk ⟨_, rfl, .inl (by omega)⟩ (Below.refl _ _)
        · go_wp2
          go_roundg (n - (k + 1))
          case measure => have := Hgk.out; omega
          case rel => exact ⟨k + 1, r - z, by omega, rfl, by go_num, by first | rfl | go_num, by omega, by omega, rfl⟩
      · go_wp2
        go_ret
        exact RetP.mk ⟨_, rfl, .inr ⟨by omega, by omega, by omega⟩⟩ (Below.refl _ _)

end Go.Proofs.Ytpibiieibofggaa
