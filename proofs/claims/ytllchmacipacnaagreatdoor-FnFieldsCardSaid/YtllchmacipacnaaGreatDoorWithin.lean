/- allWithin, through the library's ContainsFunc: whether all numbers lie between two bounds. -/
import Derived.Test.YtllchmacipacnaaGreatDoorBase
namespace Go.Proofs.YtllchmacipacnaaGreatDoor
open Go.RowKit

theorem within1_any (n lo hi : Int) (b0 b1 : Nat) (w : World) (h0 : w.cell? ⟨b0, 0, none⟩ = some (.int .i64 lo)) (h1 : w.cell? ⟨b1, 0, none⟩ = some (.int .i64 hi)) :
    Calls Tryz.prog 66 #[.int .i64 n, .pointer (some ⟨b0, 0, none⟩), .pointer (some ⟨b1, 0, none⟩)] w (RetS (.bool (!inB n lo hi)) w) := by
  go_enter Tryz.func66, Tryz.ntmps66
  go_wp2_with (go_at_call 24; refine (within_any _ _ _ _).mono ?_; rintro e w' ⟨rfl, rfl⟩)
  go_ret
  exact RetS.b rfl

set_option maxHeartbeats 1000000 in
theorem indexFunc_any (lo hi : Int) (b0 b1 : Nat) (A : Option Addr) (n c : Nat) (xs : List Int) (w : World) (hx : SliceOf w 1 i64cells A n xs) (h0 : w.cell? ⟨b0, 0, none⟩ = some (.int .i64 lo)) (h1 : w.cell? ⟨b1, 0, none⟩ = some (.int .i64 hi)) :
    Calls Tryz.prog 60 #[.slice A n c, .func (.func 66) #[] #[.pointer (some ⟨b0, 0, none⟩), .pointer (some ⟨b1, 0, none⟩)]] w (RetS (.int .i64 (findI (fun x => !inB x lo hi) xs)) w) := by
  have hn := hx.le
  have HL := Lib.hid hx.len
  have H0 := Lib.hid h0
  have H1 := Lib.hid h1
  clear h0 h1
  go_enter Tryz.func60, Tryz.ntmps60
  go_wp2
  go_loopg [8] n (fun gk i wr => ∃ k : Nat, k ≤ n ∧ gk = n - k ∧ i = .int .i64 k ∧ w = wr ∧ NoneTo (fun x => !inB x lo hi) xs k)
  case atStart => exact ⟨0, Nat.zero_le _, rfl, rfl, rfl, NoneTo.zero⟩
  case round =>
    obtain ⟨k, hk, hgk, rfl, rfl, hall⟩ := hrel
    have Hall := Lib.hid hall
    have Hgk := Lib.hid hgk
    clear hall hgk
    by_cases hlt : k < n
    · obtain ⟨b1', o1, x, rfl, hb1, hxk, x0⟩ := ints_at hx hlt
      have Hx := Lib.hid hxk
      clear hxk
      cases hc : inB x lo hi
      · have HC := Lib.hid hc
        go_wp2_with (go_at_call 66; refine (within1_any _ lo hi _ _ _ H0.out H1.out).mono ?_; rintro e w' ⟨rfl, rfl⟩)
        go_ret
        exact RetS.i (findI_hit Hall.out Hx.out (by simp [HC.out])).symm
      · have HC := Lib.hid hc
        go_wp2_with (go_at_call 66; refine (within1_any _ lo hi _ _ _ H0.out H1.out).mono ?_; rintro e w' ⟨rfl, rfl⟩)
        go_roundg (n - (k + 1))
        case measure => have := Hgk.out; omega
        case rel => exact ⟨k + 1, by omega, rfl, by go_num, rfl, Hall.out.step Hx.out (by simp [HC.out])⟩
    · go_wp2
      go_ret
      exact RetS.i (findI_none (n := k) (by rw [HL.out]; omega) Hall.out).symm

theorem findI_all (lo hi : Int) (xs : List Int) : (!decide (0 ≤ findI (fun x => !inB x lo hi) xs)) = xs.all (fun x => inB x lo hi) := by
  rw [Bool.eq_iff_iff]
  rw [List.all_eq_true]
  simp only [Bool.not_eq_true', decide_eq_false_iff_not, Int.not_le]
  rw [findI_neg]
  constructor
  · intro h x hx
    obtain ⟨k, hk, rfl⟩ := List.getElem_of_mem hx
    have := h k _ (List.getElem?_eq_getElem hk)
    simpa using this
  · intro h k x hx
    simp [h x (List.mem_of_getElem? hx)]

set_option maxHeartbeats 1000000 in
theorem containsFunc_any (lo hi : Int) (b0 b1 : Nat) (A : Option Addr) (n c : Nat) (xs : List Int) (w : World) (hx : SliceOf w 1 i64cells A n xs) (h0 : w.cell? ⟨b0, 0, none⟩ = some (.int .i64 lo)) (h1 : w.cell? ⟨b1, 0, none⟩ = some (.int .i64 hi)) :
    Calls Tryz.prog 39 #[.slice A n c, .func (.func 66) #[] #[.pointer (some ⟨b0, 0, none⟩), .pointer (some ⟨b1, 0, none⟩)]] w (RetS (.bool (decide (0 ≤ findI (fun x => !inB x lo hi) xs))) w) := by
  go_enter Tryz.func39, Tryz.ntmps39
  go_wp2_with fail
  refine (indexFunc_any lo hi _ _ _ _ _ xs _ hx h0 h1).mono ?_
  rintro e w' ⟨rfl, rfl⟩
  go_wp2
  go_ret
  exact RetS.b rfl

set_option maxHeartbeats 1000000 in
theorem allWithin_any (lo hi : Int) (A : Option Addr) (n c : Nat) (xs : List Int) (w : World) (hx : SliceOf w 1 i64cells A n xs) :
    Calls Tryz.prog 50 #[.slice A n c, .int .i64 lo, .int .i64 hi] w (Ret (.bool (xs.all fun x => inB x lo hi)) w) := by
  have hB : Below w.heap.size w ((w.alloc (.cells #[.int .i64 lo] 2)).alloc (.cells #[.int .i64 hi] 2)) := ((Below.refl _ _).alloc (Nat.le_refl _) _).alloc (by simp) _
  have h0 : Own ((w.alloc (.cells #[.int .i64 lo] 2)).alloc (.cells #[.int .i64 hi] 2)) w.heap.size 2 #[.int .i64 lo] := (Own.new w 2 #[.int .i64 lo]).alloc _
  have h1 : Own ((w.alloc (.cells #[.int .i64 lo] 2)).alloc (.cells #[.int .i64 hi] 2)) (w.heap.size + 1) 2 #[.int .i64 hi] := by
    have := Own.new (w.alloc (.cells #[.int .i64 lo] 2)) 2 #[.int .i64 hi]
    simpa using this
  have HF := Lib.hid (findI_all lo hi xs)
  go_enter Tryz.func50, Tryz.ntmps50
  go_wp2_with fail
  refine (containsFunc_any lo hi _ _ _ _ _ xs _ (hx.below hB) (h0.cell 0) (h1.cell 0)).mono ?_
  rintro e w' ⟨rfl, rfl⟩
  go_wp2
  go_ret
  exact Ret.b HF.out hB

end Go.Proofs.YtllchmacipacnaaGreatDoor
