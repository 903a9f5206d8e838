/- RouteMinutes, RouteExposure and WorstLeg of the program and of the reference. -/
import Derived.Test.YtamgodeiakflbaaDoorRouteLegs
import Derived.Deep.RegionHeld3
namespace Go.Proofs.YtamgodeiakflbaaDoor
open Go.RowKit

theorem routeC_zero {pts : Int} {xs : List Leg} {rt : List Int} (h : routeC pts xs rt = 0) : legsOk pts xs = true ∧ onB pts rt = true ∧ (pairs rt).all (hasLeg xs) = true := by
  unfold routeC at h
  cases h1 : legsOk pts xs <;> cases h2 : onB pts rt <;> cases h3 : (pairs rt).all (hasLeg xs) <;> simp [h1, h2, h3] at h
  exact ⟨rfl, rfl, rfl⟩
theorem sumBy_map {α β : Type} (f : β → Int) (g : α → β) (xs : List α) : sumBy f (xs.map g) = sumBy (fun x => f (g x)) xs := by
  simp [sumBy, Function.comp_def]
theorem map_at {α β : Type} {g : α → β} {xs : List α} {k : Nat} {y : β} (h : (xs.map g)[k]? = some y) : ∃ x, xs[k]? = some x ∧ y = g x := by
  rw [List.getElem?_map, Option.map_eq_some_iff] at h
  obtain ⟨x, h1, h2⟩ := h
  exact ⟨x, h1, h2.symm⟩
theorem Ret.iiN {j k : IntKind} {m n p q : Int} {w w' : World} (h : m = n) (h' : p = q) (hb : Below w.heap.size w w') : Ret (.tuple #[.int j n, .int k q]) w (.returned (.tuple #[.int j m, .int k p])) w' := ⟨by rw [h, h'], hb⟩
theorem Ret.iii {j k l : IntKind} {m n p q r s : Int} {w w' : World} (h : m = n) (h' : p = q) (h'' : r = s) (hb : Below w.heap.size w w') : Ret (.tuple #[.int j n, .int k q, .int l s]) w (.returned (.tuple #[.int j m, .int k p, .int l r])) w' := ⟨by rw [h, h', h''], hb⟩
def minutesA (pts : Int) (xs : List Leg) (rt : List Int) : Int := if routeC pts xs rt = 0 then minutesF xs rt else 0
def exposeA (pts : Int) (xs : List Leg) (rt : List Int) : Int := if routeC pts xs rt = 0 then exposeF xs rt else 0

set_option maxHeartbeats 1000000 in
theorem implRouteMinutes_any (pts : Int) (A : Option Addr) (n c : Nat) (xs : List Leg) (B : Option Addr) (m d : Nat) (rt : List Int) (w : World) (hx : SliceOf w 4 Leg.cells A n xs) (hr : SliceOf w 1 i64cells B m rt) :
    Calls Tryd.prog 13 #[.int .i64 pts, .slice A n c, .slice B m d] w (Ret (.tuple #[.int .i64 (minutesA pts xs rt), .int .i64 (routeC pts xs rt)]) w) := by
  by_cases h0 : routeC pts xs rt = 0
  · have H0 := Lib.hid h0
    have hv := routeC_zero h0
    have HV := Lib.hid hv
    have hne : (routeC pts xs rt != 0) = false := by simp [h0]
    have hml := onB_len hv.2.1
    clear hv h0
    go_enter Tryd.func13, Tryd.ntmps13
    go_wp2_with fail
    refine (routeLegs_any _ _ _ _ xs _ _ _ rt _ hx hr).mono ?_
    rintro e w1 ⟨v, rfl, hl, hb1⟩
    obtain ⟨A', c', rfl, hs⟩ := hl H0.out
    obtain ⟨L, hL⟩ : ∃ L, (pairs rt).map (legD xs) = L := ⟨_, rfl⟩
    rw [hL] at hs ⊢
    have hLl : L.length ≤ 63 := by rw [← hL]; simp [pairs_len]; omega
    have HLL := Lib.hid hL
    have hLn := hs.le
    clear hL hl
    go_wp2
    clear hne
    go_loopg [10, 25] L.length (fun gk s i wr => ∃ (k : Nat) (q : Int), k ≤ L.length ∧ gk = L.length - k ∧ i = .int .i64 k ∧ s = .int .i64 q ∧ q = sumBy (fun x => x.minutes) (L.take k) ∧ 0 ≤ q ∧ q ≤ 600 * k ∧ Below w1.heap.size w1 wr)
    case atStart => exact ⟨0, 0, Nat.zero_le _, rfl, rfl, rfl, rfl, by omega, by omega, Below.refl _ _⟩
    case round =>
      obtain ⟨k, q, hk, hgk, rfl, rfl, hq, hq0, hq1, hb⟩ := hrel
      have Hq := Lib.hid hq
      have Hgk := Lib.hid hgk
      clear hq hgk
      by_cases hlt : k < L.length
      · obtain ⟨b1, o1, x, rfl, hbb1, hxk, x0, x1, x2, x3⟩ := Leg.at_ (hs.below hb) hlt
        have Hs := Lib.hid (sumBy_step (f := fun x : Leg => x.minutes) hxk)
        have hbnd : 0 ≤ x.minutes ∧ x.minutes ≤ 600 := by
          have hxk' := hxk
          rw [← HLL.out] at hxk'
          obtain ⟨p, _, rfl⟩ := map_at hxk'
          have hbd := legD_bounds (p := p) HV.out.1
          exact ⟨hbd.1, hbd.2.1⟩
        obtain ⟨_, _⟩ := hbnd
        clear hxk
        go_wp2
        go_roundg (L.length - (k + 1))
        case measure => have := Hgk.out; omega
        case rel => exact ⟨k + 1, q + x.minutes, by omega, rfl, by go_num, by first | rfl | go_num, by rw [Hs.out, Hq.out], by omega, by omega, hb.alloc hb.size _⟩
      · have HE : Hid (q = minutesA pts xs rt) := by
          rw [Hid, Hq.out, List.take_of_length_le (by omega), ← HLL.out, sumBy_map]
          unfold minutesA; rw [if_pos H0.out]; rfl
        go_wp2
        go_ret2
        exact Ret.iiN HE.out H0.out.symm (hb1.trans (hb.mono hb1.size))
  · have H0 := Lib.hid h0
    have hne : (routeC pts xs rt != 0) = true := by simp [h0]
    clear h0
    go_enter Tryd.func13, Tryd.ntmps13
    go_wp2_with fail
    refine (routeLegs_any _ _ _ _ xs _ _ _ rt _ hx hr).mono ?_
    rintro e w1 ⟨v, rfl, hl, hb1⟩
    clear hl
    go_wp2
    go_ret2
    exact Ret.iiN (by unfold minutesA; rw [if_neg H0.out]) rfl hb1

set_option maxHeartbeats 1000000 in
theorem specRouteMinutes_any (pts : Int) (A : Option Addr) (n c : Nat) (xs : List Leg) (B : Option Addr) (m d : Nat) (rt : List Int) (w : World) (hx : SliceOf w 4 Leg.cells A n xs) (hr : SliceOf w 1 i64cells B m rt) :
    Calls Tryd.prog 11 #[.int .i64 pts, .slice A n c, .slice B m d] w (Ret (.tuple #[.int .i64 (minutesA pts xs rt), .int .i64 (routeC pts xs rt)]) w) := by
  by_cases h0 : routeC pts xs rt = 0
  · have H0 := Lib.hid h0
    have hv := routeC_zero h0
    have hml := onB_len hv.2.1
    have hne : (routeC pts xs rt != 0) = false := by simp [h0]
    clear h0
    go_enter Tryd.func11, Tryd.ntmps11
    go_wp2_with fail
    refine (l23Route_any _ _ _ _ xs _ _ _ rt _ hx hr).mono ?_
    rintro e w1 ⟨rfl, hb1⟩
    go_wp2_with fail
    refine (l23Minutes_any pts _ _ _ xs _ _ _ rt _ (hx.below hb1) (hr.below hb1) hv.1 hv.2.2 (by have := hr.len; omega)).mono ?_
    rintro e w2 ⟨rfl, hb2⟩
    go_wp2
    go_ret2
    exact Ret.iiN (by unfold minutesA; rw [if_pos H0.out]) H0.out.symm (hb1.trans (hb2.mono hb1.size))
  · have H0 := Lib.hid h0
    have hne : (routeC pts xs rt != 0) = true := by simp [h0]
    clear h0
    go_enter Tryd.func11, Tryd.ntmps11
    go_wp2_with fail
    refine (l23Route_any _ _ _ _ xs _ _ _ rt _ hx hr).mono ?_
    rintro e w1 ⟨rfl, hb1⟩
    go_wp2
    go_ret2
    exact Ret.iiN (by unfold minutesA; rw [if_neg H0.out]) rfl hb1

set_option maxHeartbeats 1000000 in
theorem implRouteExposure_any (pts : Int) (A : Option Addr) (n c : Nat) (xs : List Leg) (B : Option Addr) (m d : Nat) (rt : List Int) (w : World) (hx : SliceOf w 4 Leg.cells A n xs) (hr : SliceOf w 1 i64cells B m rt) :
    Calls Tryd.prog 14 #[.int .i64 pts, .slice A n c, .slice B m d] w (Ret (.tuple #[.int .i64 (exposeA pts xs rt), .int .i64 (routeC pts xs rt)]) w) := by
  by_cases h0 : routeC pts xs rt = 0
  · have H0 := Lib.hid h0
    have hv := routeC_zero h0
    have HV := Lib.hid hv
    have hne : (routeC pts xs rt != 0) = false := by simp [h0]
    have hml := onB_len hv.2.1
    clear hv h0
    go_enter Tryd.func14, Tryd.ntmps14
    go_wp2_with fail
    refine (routeLegs_any _ _ _ _ xs _ _ _ rt _ hx hr).mono ?_
    rintro e w1 ⟨v, rfl, hl, hb1⟩
    obtain ⟨A', c', rfl, hs⟩ := hl H0.out
    obtain ⟨L, hL⟩ : ∃ L, (pairs rt).map (legD xs) = L := ⟨_, rfl⟩
    rw [hL] at hs ⊢
    have hLl : L.length ≤ 63 := by rw [← hL]; simp [pairs_len]; omega
    have HLL := Lib.hid hL
    have hLn := hs.le
    clear hL hl
    go_wp2
    clear hne
    go_loopg [10, 25] L.length (fun gk s i wr => ∃ (k : Nat) (q : Int), k ≤ L.length ∧ gk = L.length - k ∧ i = .int .i64 k ∧ s = .int .i64 q ∧ q = sumBy (fun x => x.exposure) (L.take k) ∧ 0 ≤ q ∧ q ≤ 1000 * k ∧ Below w1.heap.size w1 wr)
    case atStart => exact ⟨0, 0, Nat.zero_le _, rfl, rfl, rfl, rfl, by omega, by omega, Below.refl _ _⟩
    case round =>
      obtain ⟨k, q, hk, hgk, rfl, rfl, hq, hq0, hq1, hb⟩ := hrel
      have Hq := Lib.hid hq
      have Hgk := Lib.hid hgk
      clear hq hgk
      by_cases hlt : k < L.length
      · obtain ⟨b1, o1, x, rfl, hbb1, hxk, x0, x1, x2, x3⟩ := Leg.at_ (hs.below hb) hlt
        have Hs := Lib.hid (sumBy_step (f := fun x : Leg => x.exposure) hxk)
        have hbnd : 0 ≤ x.exposure ∧ x.exposure ≤ 1000 := by
          have hxk' := hxk
          rw [← HLL.out] at hxk'
          obtain ⟨p, _, rfl⟩ := map_at hxk'
          have hbd := legD_bounds (p := p) HV.out.1
          exact ⟨hbd.2.2.1, hbd.2.2.2⟩
        obtain ⟨_, _⟩ := hbnd
        clear hxk
        go_wp2
        go_roundg (L.length - (k + 1))
        case measure => have := Hgk.out; omega
        case rel => exact ⟨k + 1, q + x.exposure, by omega, rfl, by go_num, by first | rfl | go_num, by rw [Hs.out, Hq.out], by omega, by omega, hb.alloc hb.size _⟩
      · have HE : Hid (q = exposeA pts xs rt) := by
          rw [Hid, Hq.out, List.take_of_length_le (by omega), ← HLL.out, sumBy_map]
          unfold exposeA; rw [if_pos H0.out]; rfl
        go_wp2
        go_ret2
        exact Ret.iiN HE.out H0.out.symm (hb1.trans (hb.mono hb1.size))
  · have H0 := Lib.hid h0
    have hne : (routeC pts xs rt != 0) = true := by simp [h0]
    clear h0
    go_enter Tryd.func14, Tryd.ntmps14
    go_wp2_with fail
    refine (routeLegs_any _ _ _ _ xs _ _ _ rt _ hx hr).mono ?_
    rintro e w1 ⟨v, rfl, hl, hb1⟩
    clear hl
    go_wp2
    go_ret2
    exact Ret.iiN (by unfold exposeA; rw [if_neg H0.out]) rfl hb1

set_option maxHeartbeats 1000000 in
theorem specRouteExposure_any (pts : Int) (A : Option Addr) (n c : Nat) (xs : List Leg) (B : Option Addr) (m d : Nat) (rt : List Int) (w : World) (hx : SliceOf w 4 Leg.cells A n xs) (hr : SliceOf w 1 i64cells B m rt) :
    Calls Tryd.prog 12 #[.int .i64 pts, .slice A n c, .slice B m d] w (Ret (.tuple #[.int .i64 (exposeA pts xs rt), .int .i64 (routeC pts xs rt)]) w) := by
  by_cases h0 : routeC pts xs rt = 0
  · have H0 := Lib.hid h0
    have hv := routeC_zero h0
    have hml := onB_len hv.2.1
    have hne : (routeC pts xs rt != 0) = false := by simp [h0]
    clear h0
    go_enter Tryd.func12, Tryd.ntmps12
    go_wp2_with fail
    refine (l23Route_any _ _ _ _ xs _ _ _ rt _ hx hr).mono ?_
    rintro e w1 ⟨rfl, hb1⟩
    go_wp2_with fail
    refine (l23Exposure_any pts _ _ _ xs _ _ _ rt _ (hx.below hb1) (hr.below hb1) hv.1 hv.2.2 (by have := hr.len; omega)).mono ?_
    rintro e w2 ⟨rfl, hb2⟩
    go_wp2
    go_ret2
    exact Ret.iiN (by unfold exposeA; rw [if_pos H0.out]) H0.out.symm (hb1.trans (hb2.mono hb1.size))
  · have H0 := Lib.hid h0
    have hne : (routeC pts xs rt != 0) = true := by simp [h0]
    clear h0
    go_enter Tryd.func12, Tryd.ntmps12
    go_wp2_with fail
    refine (l23Route_any _ _ _ _ xs _ _ _ rt _ hx hr).mono ?_
    rintro e w1 ⟨rfl, hb1⟩
    go_wp2
    go_ret2
    exact Ret.iiN (by unfold exposeA; rw [if_neg H0.out]) rfl hb1

end Go.Proofs.YtamgodeiakflbaaDoor
