/- DegreesMean and BiasOf of the program and of the reference: the nearest mean of a sum. -/
import Derived.Test.YtlfnkgfkimanaaaVObserved
import Derived.Test.YtlfnkgfkimanaaaVVerified
namespace Go.Proofs.Ytlfnkgfkimanaaa
open Go.RowKit

def DegreesMeanA (xs : List Observed) : Int := if Observed.validB xs = true ∧ 0 < xs.length then rndDiv (sumBy (fun x : Observed => x.degrees) xs) xs.length else 0
def DegreesMeanB (xs : List Observed) : Int := if Observed.validB xs = true then (if 0 < xs.length then 0 else 3) else 1

set_option maxHeartbeats 2000000 in
theorem specDegreesMean_any (A : Option Addr) (n c : Nat) (xs : List Observed) (w : World) (hx : SliceOf w 4 Observed.cells A n xs) :
    Calls Try.prog 54 #[.slice A n c] w (Ret (.tuple #[.int .i64 (DegreesMeanA xs), .int .i64 (DegreesMeanB xs)]) w) := by
  have hn := hx.le
  have Hl := Lib.hid hx.len
  cases hv : Observed.validB xs
  · have HV := Lib.hid hv
    go_enter Try.func54, Try.ntmps54
    go_wp2_with (go_at_call 63; refine (specObservedValid_any _ _ _ xs _ hx).mono ?_; rintro e w1 ⟨rfl, hb1⟩)
    go_ret2
    exact Ret.ii (by simp [DegreesMeanA, HV.out]) (by simp [DegreesMeanB, HV.out]) (by assumption)
  have HV := Lib.hid hv
  have hM : n ≤ 48 := by rw [← hx.len]; exact (validL_spec.1 hv).1
  by_cases hn0 : n = 0
  · have h0 : ((n : Int) == 0) = true := by simp [hn0]
    have H0 := Lib.hid hn0
    clear hn0
    go_enter Try.func54, Try.ntmps54
    go_wp2_with (go_at_call 63; refine (specObservedValid_any _ _ _ xs _ hx).mono ?_; rintro e w1 ⟨rfl, hb1⟩)
    go_ret2
    exact Ret.ii (by simp [DegreesMeanA, HV.out, Hl.out, H0.out]) (by simp [DegreesMeanB, HV.out, Hl.out, H0.out]) (by assumption)
  have h0 : ((n : Int) == 0) = false := by simp [hn0]
  have hpos : 0 < n := by omega
  go_enter Try.func54, Try.ntmps54
  go_wp2_with fail
  refine (specObservedValid_any _ _ _ xs _ hx).mono ?_
  rintro e w1 ⟨rfl, hb1⟩
  have hx1 := hx.below hb1
  clear hx
  go_wp2
  clear hv h0 hn0
  go_loopg [4, 5] n (fun gk m i wr => ∃ (k : Nat) (q : Int), k ≤ n ∧ gk = n - k ∧ i = .int .i64 k ∧ m = .int .i64 q ∧ q = sumBy (fun x : Observed => x.degrees) (xs.take k) ∧ -5000 * (k : Int) ≤ q ∧ q ≤ 5000 * k ∧ Below w1.heap.size w1 wr)
  case atStart => exact ⟨0, 0, Nat.zero_le _, rfl, rfl, rfl, rfl, by omega, by omega, Below.refl _ _⟩
  case round =>
    obtain ⟨k, q, hk, hgk, rfl, rfl, hq, hq0, hq1, hb⟩ := hrel
    have Hq := Lib.hid hq
    have Hgk := Lib.hid hgk
    clear hq hgk
    by_cases hlt : k < n
    · obtain ⟨b1, o1, x, rfl, hbb1, hxk, x0, x1, x2, x3⟩ := Observed.at_ (hx1.below hb) hlt
      have hx1 := validL_good HV.out hxk
      have ⟨_, _⟩ := inB_iff.1 ((Observed.oneB_iff x).1 hx1).2.2.1
      clear hx1
      have Hs := Lib.hid (sumBy_step (f := fun x : Observed => x.degrees) hxk)
      clear hxk
      go_wp2
      go_roundg (n - (k + 1))
      case measure => have := Hgk.out; omega
      case rel => exact ⟨k + 1, q + x.degrees, by omega, rfl, by go_num, by first | rfl | go_num, by rw [Hs.out, Hq.out], by omega, by omega, (by repeat (first | exact hb | refine Below.alloc ?_ hb.size _))⟩
    · have hkn : k = n := by omega
      subst hkn
      have HE : Hid (q = sumBy (fun x : Observed => x.degrees) xs) := by rw [Hid, Hq.out, List.take_of_length_le (by rw [Hl.out]; exact Nat.le_refl _)]
      go_wp2_with fail
      refine (l01Div_any _ _ _ (by omega) (by omega) (by omega) (by omega) (by omega)).mono ?_
      rintro e w' ⟨rfl, hb'⟩
      go_wp2
      go_ret2
      exact Ret.ii (by simp only [DegreesMeanA, HV.out, Hl.out, hpos, and_self, if_true]; rw [← HE.out]) (by simp [DegreesMeanB, HV.out, Hl.out, hpos]) (hb' ▸ hb1.trans (hb.mono hb1.size))

set_option maxHeartbeats 2000000 in
theorem implDegreesMean_any (A : Option Addr) (n c : Nat) (xs : List Observed) (w : World) (hx : SliceOf w 4 Observed.cells A n xs) :
    Calls Try.prog 55 #[.slice A n c] w (Ret (.tuple #[.int .i64 (DegreesMeanA xs), .int .i64 (DegreesMeanB xs)]) w) := by
  have hn := hx.le
  have Hl := Lib.hid hx.len
  cases hv : Observed.validB xs
  · have HV := Lib.hid hv
    go_enter Try.func55, Try.ntmps55
    go_wp2_with (go_at_call 67; refine (implObservedValid_any _ _ _ xs _ hx).mono ?_; rintro e w1 ⟨rfl, hb1⟩)
    go_ret2
    exact Ret.ii (by simp [DegreesMeanA, HV.out]) (by simp [DegreesMeanB, HV.out]) (by assumption)
  have HV := Lib.hid hv
  have hM : n ≤ 48 := by rw [← hx.len]; exact (validL_spec.1 hv).1
  by_cases hn0 : n = 0
  · have h0 : ((n : Int) == 0) = true := by simp [hn0]
    have H0 := Lib.hid hn0
    clear hn0
    go_enter Try.func55, Try.ntmps55
    go_wp2_with (go_at_call 67; refine (implObservedValid_any _ _ _ xs _ hx).mono ?_; rintro e w1 ⟨rfl, hb1⟩)
    go_ret2
    exact Ret.ii (by simp [DegreesMeanA, HV.out, Hl.out, H0.out]) (by simp [DegreesMeanB, HV.out, Hl.out, H0.out]) (by assumption)
  have h0 : ((n : Int) == 0) = false := by simp [hn0]
  have hpos : 0 < n := by omega
  go_enter Try.func55, Try.ntmps55
  go_wp2_with fail
  refine (implObservedValid_any _ _ _ xs _ hx).mono ?_
  rintro e w1 ⟨rfl, hb1⟩
  have hx1 := hx.below hb1
  clear hx
  go_wp2
  clear hv h0 hn0
  go_loopg [4, 17] n (fun gk m i wr => ∃ (k : Nat) (q : Int), k ≤ n ∧ gk = n - k ∧ i = .int .i64 k ∧ m = .int .i64 q ∧ q = sumBy (fun x : Observed => x.degrees) (xs.take k) ∧ -5000 * (k : Int) ≤ q ∧ q ≤ 5000 * k ∧ Below w1.heap.size w1 wr)
  case atStart => exact ⟨0, 0, Nat.zero_le _, rfl, rfl, rfl, rfl, by omega, by omega, Below.refl _ _⟩
  case round =>
    obtain ⟨k, q, hk, hgk, rfl, rfl, hq, hq0, hq1, hb⟩ := hrel
    have Hq := Lib.hid hq
    have Hgk := Lib.hid hgk
    clear hq hgk
    by_cases hlt : k < n
    · obtain ⟨b1, o1, x, rfl, hbb1, hxk, x0, x1, x2, x3⟩ := Observed.at_ (hx1.below hb) hlt
      have hx1 := validL_good HV.out hxk
      have ⟨_, _⟩ := inB_iff.1 ((Observed.oneB_iff x).1 hx1).2.2.1
      clear hx1
      have Hs := Lib.hid (sumBy_step (f := fun x : Observed => x.degrees) hxk)
      clear hxk
      go_wp2
      go_roundg (n - (k + 1))
      case measure => have := Hgk.out; omega
      case rel => exact ⟨k + 1, q + x.degrees, by omega, rfl, by go_num, by first | rfl | go_num, by rw [Hs.out, Hq.out], by omega, by omega, (by repeat (first | exact hb | refine Below.alloc ?_ hb.size _))⟩
    · have hkn : k = n := by omega
      subst hkn
      have HE : Hid (q = sumBy (fun x : Observed => x.degrees) xs) := by rw [Hid, Hq.out, List.take_of_length_le (by rw [Hl.out]; exact Nat.le_refl _)]
      go_wp2_with fail
      refine (divRound_any _ _ _ (by omega) (by omega) (by omega) (by omega) (by omega)).mono ?_
      rintro e w' ⟨rfl, hb'⟩
      go_wp2
      go_ret2
      exact Ret.ii (by simp only [DegreesMeanA, HV.out, Hl.out, hpos, and_self, if_true]; rw [← HE.out]) (by simp [DegreesMeanB, HV.out, Hl.out, hpos]) (hb1.trans ((hb.trans (hb'.mono hb.size)).mono hb1.size))

def BiasOfA (xs : List Verified) : Int := if Verified.validB xs = true ∧ 0 < xs.length then rndDiv (100 * (sumBy (fun x : Verified => (x.told - x.seen)) xs)) xs.length else 0
def BiasOfB (xs : List Verified) : Int := if Verified.validB xs = true then (if 0 < xs.length then 0 else 3) else 1

set_option maxHeartbeats 2000000 in
theorem specBiasOf_any (A : Option Addr) (n c : Nat) (xs : List Verified) (w : World) (hx : SliceOf w 3 Verified.cells A n xs) :
    Calls Try.prog 40 #[.slice A n c] w (Ret (.tuple #[.int .i64 (BiasOfA xs), .int .i64 (BiasOfB xs)]) w) := by
  have hn := hx.le
  have Hl := Lib.hid hx.len
  cases hv : Verified.validB xs
  · have HV := Lib.hid hv
    go_enter Try.func40, Try.ntmps40
    go_wp2_with (go_at_call 87; refine (specVerifiedValid_any _ _ _ xs _ hx).mono ?_; rintro e w1 ⟨rfl, hb1⟩)
    go_ret2
    exact Ret.ii (by simp [BiasOfA, HV.out]) (by simp [BiasOfB, HV.out]) (by assumption)
  have HV := Lib.hid hv
  have hM : n ≤ 64 := by rw [← hx.len]; exact (validL_spec.1 hv).1
  by_cases hn0 : n = 0
  · have h0 : ((n : Int) == 0) = true := by simp [hn0]
    have H0 := Lib.hid hn0
    clear hn0
    go_enter Try.func40, Try.ntmps40
    go_wp2_with (go_at_call 87; refine (specVerifiedValid_any _ _ _ xs _ hx).mono ?_; rintro e w1 ⟨rfl, hb1⟩)
    go_ret2
    exact Ret.ii (by simp [BiasOfA, HV.out, Hl.out, H0.out]) (by simp [BiasOfB, HV.out, Hl.out, H0.out]) (by assumption)
  have h0 : ((n : Int) == 0) = false := by simp [hn0]
  have hpos : 0 < n := by omega
  go_enter Try.func40, Try.ntmps40
  go_wp2_with fail
  refine (specVerifiedValid_any _ _ _ xs _ hx).mono ?_
  rintro e w1 ⟨rfl, hb1⟩
  have hx1 := hx.below hb1
  clear hx
  go_wp2
  clear hv h0 hn0
  go_loopg [4, 5] n (fun gk m i wr => ∃ (k : Nat) (q : Int), k ≤ n ∧ gk = n - k ∧ i = .int .i64 k ∧ m = .int .i64 q ∧ q = sumBy (fun x : Verified => (x.told - x.seen)) (xs.take k) ∧ -4 * (k : Int) ≤ q ∧ q ≤ 4 * k ∧ Below w1.heap.size w1 wr)
  case atStart => exact ⟨0, 0, Nat.zero_le _, rfl, rfl, rfl, rfl, by omega, by omega, Below.refl _ _⟩
  case round =>
    obtain ⟨k, q, hk, hgk, rfl, rfl, hq, hq0, hq1, hb⟩ := hrel
    have Hq := Lib.hid hq
    have Hgk := Lib.hid hgk
    clear hq hgk
    by_cases hlt : k < n
    · obtain ⟨b1, o1, x, rfl, hbb1, hxk, x0, x1, x2⟩ := Verified.at_ (hx1.below hb) hlt
      have hx1 := validL_good HV.out hxk
      have ⟨_, _⟩ := inB_iff.1 ((Verified.oneB_iff x).1 hx1).2.1
      have ⟨_, _⟩ := inB_iff.1 ((Verified.oneB_iff x).1 hx1).2.2
      clear hx1
      have Hs := Lib.hid (sumBy_step (f := fun x : Verified => (x.told - x.seen)) hxk)
      clear hxk
      have hsub := fun (g : Sub wr) b o (h : b < wr.heap.size) => g.cell b o h
      go_wp2_with fail
      refine wp_region_sub (by kernel_rfl) (by kernel_rfl) ?_
      repeat (go_big_quiet_step (fail))
      refine wpQuiet_nil ?_
      intro wg hg
      have hbg := hb.trans (hg.mono hb.size)
      go_wp2
      go_roundg (n - (k + 1))
      case measure => have := Hgk.out; omega
      case rel => exact ⟨k + 1, q + (x.told - x.seen), by omega, rfl, by go_num, by first | rfl | go_num, by rw [Hs.out, Hq.out], by omega, by omega, hbg⟩
    · have hkn : k = n := by omega
      subst hkn
      have HE : Hid (q = sumBy (fun x : Verified => (x.told - x.seen)) xs) := by rw [Hid, Hq.out, List.take_of_length_le (by rw [Hl.out]; exact Nat.le_refl _)]
      go_wp2_with fail
      refine (l01Div_any _ _ _ (by omega) (by omega) (by omega) (by omega) (by omega)).mono ?_
      rintro e w' ⟨rfl, hb'⟩
      go_wp2
      go_ret2
      exact Ret.ii (by simp only [BiasOfA, HV.out, Hl.out, hpos, and_self, if_true]; rw [← HE.out]) (by simp [BiasOfB, HV.out, Hl.out, hpos]) (hb' ▸ hb1.trans (hb.mono hb1.size))

set_option maxHeartbeats 2000000 in
theorem implBiasOf_any (A : Option Addr) (n c : Nat) (xs : List Verified) (w : World) (hx : SliceOf w 3 Verified.cells A n xs) :
    Calls Try.prog 42 #[.slice A n c] w (Ret (.tuple #[.int .i64 (BiasOfA xs), .int .i64 (BiasOfB xs)]) w) := by
  have hn := hx.le
  have Hl := Lib.hid hx.len
  cases hv : Verified.validB xs
  · have HV := Lib.hid hv
    go_enter Try.func42, Try.ntmps42
    go_wp2_with (go_at_call 90; refine (implVerifiedValid_any _ _ _ xs _ hx).mono ?_; rintro e w1 ⟨rfl, hb1⟩)
    go_ret2
    exact Ret.ii (by simp [BiasOfA, HV.out]) (by simp [BiasOfB, HV.out]) (by assumption)
  have HV := Lib.hid hv
  have hM : n ≤ 64 := by rw [← hx.len]; exact (validL_spec.1 hv).1
  by_cases hn0 : n = 0
  · have h0 : ((n : Int) == 0) = true := by simp [hn0]
    have H0 := Lib.hid hn0
    clear hn0
    go_enter Try.func42, Try.ntmps42
    go_wp2_with (go_at_call 90; refine (implVerifiedValid_any _ _ _ xs _ hx).mono ?_; rintro e w1 ⟨rfl, hb1⟩)
    go_ret2
    exact Ret.ii (by simp [BiasOfA, HV.out, Hl.out, H0.out]) (by simp [BiasOfB, HV.out, Hl.out, H0.out]) (by assumption)
  have h0 : ((n : Int) == 0) = false := by simp [hn0]
  have hpos : 0 < n := by omega
  go_enter Try.func42, Try.ntmps42
  go_wp2_with fail
  refine (implVerifiedValid_any _ _ _ xs _ hx).mono ?_
  rintro e w1 ⟨rfl, hb1⟩
  have hx1 := hx.below hb1
  clear hx
  go_wp2
  clear hv h0 hn0
  go_loopg [4, 17] n (fun gk m i wr => ∃ (k : Nat) (q : Int), k ≤ n ∧ gk = n - k ∧ i = .int .i64 k ∧ m = .int .i64 q ∧ q = sumBy (fun x : Verified => (x.told - x.seen)) (xs.take k) ∧ -4 * (k : Int) ≤ q ∧ q ≤ 4 * k ∧ Below w1.heap.size w1 wr)
  case atStart => exact ⟨0, 0, Nat.zero_le _, rfl, rfl, rfl, rfl, by omega, by omega, Below.refl _ _⟩
  case round =>
    obtain ⟨k, q, hk, hgk, rfl, rfl, hq, hq0, hq1, hb⟩ := hrel
    have Hq := Lib.hid hq
    have Hgk := Lib.hid hgk
    clear hq hgk
    by_cases hlt : k < n
    · obtain ⟨b1, o1, x, rfl, hbb1, hxk, x0, x1, x2⟩ := Verified.at_ (hx1.below hb) hlt
      have hx1 := validL_good HV.out hxk
      have ⟨_, _⟩ := inB_iff.1 ((Verified.oneB_iff x).1 hx1).2.1
      have ⟨_, _⟩ := inB_iff.1 ((Verified.oneB_iff x).1 hx1).2.2
      clear hx1
      have Hs := Lib.hid (sumBy_step (f := fun x : Verified => (x.told - x.seen)) hxk)
      clear hxk
      go_wp2
      go_roundg (n - (k + 1))
      case measure => have := Hgk.out; omega
      case rel => exact ⟨k + 1, q + (x.told - x.seen), by omega, rfl, by go_num, by first | rfl | go_num, by rw [Hs.out, Hq.out], by omega, by omega, (by repeat (first | exact hb | refine Below.alloc ?_ hb.size _))⟩
    · have hkn : k = n := by omega
      subst hkn
      have HE : Hid (q = sumBy (fun x : Verified => (x.told - x.seen)) xs) := by rw [Hid, Hq.out, List.take_of_length_le (by rw [Hl.out]; exact Nat.le_refl _)]
      go_wp2_with fail
      refine (divRound_any _ _ _ (by omega) (by omega) (by omega) (by omega) (by omega)).mono ?_
      rintro e w' ⟨rfl, hb'⟩
      go_wp2
      go_ret2
      exact Ret.ii (by simp only [BiasOfA, HV.out, Hl.out, hpos, and_self, if_true]; rw [← HE.out]) (by simp [BiasOfB, HV.out, Hl.out, hpos]) (hb1.trans ((hb.trans (hb'.mono hb.size)).mono hb1.size))


end Go.Proofs.Ytlfnkgfkimanaaa
