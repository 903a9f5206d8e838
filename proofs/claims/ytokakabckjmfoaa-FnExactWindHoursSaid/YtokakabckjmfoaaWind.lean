/- WindHours of the program and of the reference: how many hours have at least some wind. -/
import Derived.Test.YtokakabckjmfoaaVObserved
namespace Go.Proofs.Ytokakabckjmfoaa
open Go.RowKit

def windN (least : Int) (xs : List Observed) : Nat := xs.countP fun x => decide (least ≤ x.wind)
def windA (xs : List Observed) (least : Int) : Int := if Observed.validB xs = true ∧ inB least 0 10000 = true then windN least xs else 0
def windB (xs : List Observed) (least : Int) : Int := if Observed.validB xs = true then (if inB least 0 10000 = true then 0 else 2) else 1
theorem windN_succ {least : Int} {xs : List Observed} {k : Nat} {x : Observed} (hx : xs[k]? = some x) : windN least (xs.take (k + 1)) = windN least (xs.take k) + (if least ≤ x.wind then 1 else 0) := by
  have hk := (List.getElem?_eq_some_iff.1 hx).1
  rw [List.take_succ_eq_append_getElem hk, (List.getElem?_eq_some_iff.1 hx).2]
  unfold windN
  rw [List.countP_append]
  simp [List.countP_cons]
theorem windN_le {least : Int} {xs : List Observed} {k : Nat} : windN least (xs.take k) ≤ k := by
  unfold windN
  exact Nat.le_trans List.countP_le_length (List.length_take_le _ _)

set_option maxHeartbeats 2000000 in
theorem specWindHours_any (least : Int) (A : Option Addr) (n c : Nat) (xs : List Observed) (w : World) (hx : SliceOf w 4 Observed.cells A n xs) :
    Calls Try.prog 53 #[.slice A n c, .int .i64 least] w (Ret (.tuple #[.int .i64 (windA xs least), .int .i64 (windB xs least)]) w) := by
  have hn := hx.le
  have Hl := Lib.hid hx.len
  cases hv : Observed.validB xs
  · have HV := Lib.hid hv
    go_enter Try.func53, Try.ntmps53
    go_wp2_with (go_at_call 81; refine (specObservedValid_any _ _ _ xs _ hx).mono ?_; rintro e w1 ⟨rfl, hb1⟩)
    go_ret2
    exact Ret.ii (by simp [windA, HV.out]) (by simp [windB, HV.out]) (by assumption)
  have HV := Lib.hid hv
  cases hi : inB least 0 10000
  · have HI := Lib.hid hi
    go_enter Try.func53, Try.ntmps53
    go_wp2_with (first | (go_at_call 81; refine (specObservedValid_any _ _ _ xs _ hx).mono ?_; rintro e w1 ⟨rfl, hb1⟩) | (go_at_call 60; refine (l00In_any _ _ _ _).mono ?_; rintro e w' ⟨rfl, rfl⟩))
    go_ret2
    exact Ret.ii (by simp [windA, HI.out]) (by simp [windB, HV.out, HI.out]) (by assumption)
  have HI := Lib.hid hi
  go_enter Try.func53, Try.ntmps53
  go_wp2_with fail
  refine (specObservedValid_any _ _ _ xs _ hx).mono ?_
  rintro e w1 ⟨rfl, hb1⟩
  have hx1 := hx.below hb1
  go_wp2_with (go_at_call 60; refine (l00In_any _ _ _ _).mono ?_; rintro e w' ⟨rfl, rfl⟩)
  clear hv hi hx
  go_loopg [6, 7] n (fun gk m i wr => ∃ (k q : Nat), k ≤ n ∧ gk = n - k ∧ i = .int .i64 k ∧ m = .int .i64 q ∧ q ≤ k ∧ q = windN least (xs.take k) ∧ Below w1.heap.size w1 wr)
  case atStart => exact ⟨0, 0, Nat.zero_le _, rfl, rfl, rfl, Nat.le_refl _, by simp [windN], Below.refl _ _⟩
  case round =>
    obtain ⟨k, q, hk, hgk, rfl, rfl, hqk, hq, hb⟩ := hrel
    have Hq := Lib.hid hq
    have Hgk := Lib.hid hgk
    clear hq hgk
    by_cases hlt : k < n
    · obtain ⟨b1, o1, x, rfl, hbb1, hxk, x0, x1, x2, x3⟩ := Observed.at_ (hx1.below hb) hlt
      have Hs := Lib.hid (windN_succ (least := least) hxk)
      clear hxk
      by_cases hw : least ≤ x.wind
      · have HW := Lib.hid hw
        go_wp2
        go_roundg (n - (k + 1))
        case measure => have := Hgk.out; omega
        case rel => exact ⟨k + 1, q + 1, by omega, rfl, by go_num, by go_num, by omega, by rw [Hs.out, if_pos HW.out, Hq.out], by repeat (first | exact hb | refine Below.alloc ?_ hb.size _)⟩
      · have HW := Lib.hid hw
        go_wp2
        go_roundg (n - (k + 1))
        case measure => have := Hgk.out; omega
        case rel => exact ⟨k + 1, q, by omega, rfl, by go_num, rfl, by omega, by rw [Hs.out, if_neg (by have := HW.out; omega), Hq.out, Nat.add_zero], by repeat (first | exact hb | refine Below.alloc ?_ hb.size _)⟩
    · have hkn : k = n := by omega
      subst hkn
      go_wp2
      go_ret2
      exact Ret.ii (by simp only [windA, HV.out, HI.out, and_self, if_true]; rw [Hq.out, List.take_of_length_le (by rw [Hl.out]; exact Nat.le_refl _)]) (by simp [windB, HV.out, HI.out]) (hb1.trans (hb.mono hb1.size))

set_option maxHeartbeats 2000000 in
theorem implWindHours_any (least : Int) (A : Option Addr) (n c : Nat) (xs : List Observed) (w : World) (hx : SliceOf w 4 Observed.cells A n xs) :
    Calls Try.prog 54 #[.slice A n c, .int .i64 least] w (Ret (.tuple #[.int .i64 (windA xs least), .int .i64 (windB xs least)]) w) := by
  have hn := hx.le
  have Hl := Lib.hid hx.len
  cases hv : Observed.validB xs
  · have HV := Lib.hid hv
    go_enter Try.func54, Try.ntmps54
    go_wp2_with (go_at_call 36; refine (implObservedValid_any _ _ _ xs _ hx).mono ?_; rintro e w1 ⟨rfl, hb1⟩)
    go_ret2
    exact Ret.ii (by simp [windA, HV.out]) (by simp [windB, HV.out]) (by assumption)
  have HV := Lib.hid hv
  cases hi : inB least 0 10000
  · have HI := Lib.hid hi
    go_enter Try.func54, Try.ntmps54
    go_wp2_with (first | (go_at_call 36; refine (implObservedValid_any _ _ _ xs _ hx).mono ?_; rintro e w1 ⟨rfl, hb1⟩) | (go_at_call 63; refine (within_any _ _ _ _).mono ?_; rintro e w' ⟨rfl, rfl⟩))
    go_ret2
    exact Ret.ii (by simp [windA, HI.out]) (by simp [windB, HV.out, HI.out]) (by assumption)
  have HI := Lib.hid hi
  go_enter Try.func54, Try.ntmps54
  go_wp2_with fail
  refine (implObservedValid_any _ _ _ xs _ hx).mono ?_
  rintro e w1 ⟨rfl, hb1⟩
  have hx1 := hx.below hb1
  go_wp2_with (go_at_call 63; refine (within_any _ _ _ _).mono ?_; rintro e w' ⟨rfl, rfl⟩)
  clear hv hi hx
  go_loopg [6, 19] n (fun gk m i wr => ∃ (k q : Nat), k ≤ n ∧ gk = n - k ∧ i = .int .i64 k ∧ m = .int .i64 q ∧ q ≤ k ∧ q = windN least (xs.take k) ∧ Below w1.heap.size w1 wr)
  case atStart => exact ⟨0, 0, Nat.zero_le _, rfl, rfl, rfl, Nat.le_refl _, by simp [windN], Below.refl _ _⟩
  case round =>
    obtain ⟨k, q, hk, hgk, rfl, rfl, hqk, hq, hb⟩ := hrel
    have Hq := Lib.hid hq
    have Hgk := Lib.hid hgk
    clear hq hgk
    by_cases hlt : k < n
    · obtain ⟨b1, o1, x, rfl, hbb1, hxk, x0, x1, x2, x3⟩ := Observed.at_ (hx1.below hb) hlt
      have Hs := Lib.hid (windN_succ (least := least) hxk)
      clear hxk
      by_cases hw : least ≤ x.wind
      · have HW := Lib.hid hw
        go_wp2
        go_roundg (n - (k + 1))
        case measure => have := Hgk.out; omega
        case rel => exact ⟨k + 1, q + 1, by omega, rfl, by go_num, by go_num, by omega, by rw [Hs.out, if_pos HW.out, Hq.out], by repeat (first | exact hb | refine Below.alloc ?_ hb.size _)⟩
      · have HW := Lib.hid hw
        go_wp2
        go_roundg (n - (k + 1))
        case measure => have := Hgk.out; omega
        case rel => exact ⟨k + 1, q, by omega, rfl, by go_num, rfl, by omega, by rw [Hs.out, if_neg (by have := HW.out; omega), Hq.out, Nat.add_zero], by repeat (first | exact hb | refine Below.alloc ?_ hb.size _)⟩
    · have hkn : k = n := by omega
      subst hkn
      go_wp2
      go_ret2
      exact Ret.ii (by simp only [windA, HV.out, HI.out, and_self, if_true]; rw [Hq.out, List.take_of_length_le (by rw [Hl.out]; exact Nat.le_refl _)]) (by simp [windB, HV.out, HI.out]) (hb1.trans (hb.mono hb1.size))

end Go.Proofs.Ytokakabckjmfoaa
