/- WorstLeg of the program and of the reference. -/
import Derived.Test.YtoociholchamhaaTurns
namespace Go.Proofs.Ytoociholchamhaa
open Go.RowKit

/-- The first of the greatest among the first n. -/
def worstTo (E : List Int) : Nat → Nat
  | 0 => 0
  | n + 1 => if E.getD (worstTo E n) 0 < E.getD n 0 then n else worstTo E n
theorem worstTo_lt (E : List Int) : ∀ n, 0 < n → worstTo E n < n
  | 0, h => absurd h (by omega)
  | 1, _ => by
    unfold worstTo worstTo
    split <;> omega
  | n + 2, _ => by
    have := worstTo_lt E (n + 1) (by omega)
    rw [worstTo]
    split <;> omega
theorem worstTo_yes {E : List Int} {n : Nat} (h : E.getD (worstTo E n) 0 < E.getD n 0) : worstTo E (n + 1) = n := by rw [worstTo, if_pos h]
theorem worstTo_no {E : List Int} {n : Nat} (h : ¬ E.getD (worstTo E n) 0 < E.getD n 0) : worstTo E (n + 1) = worstTo E n := by rw [worstTo, if_neg h]
def riskL (xs : List Leg) (rt : List Int) : List Int := (pairs rt).map fun p => (legD xs p).exposure
def worstA (pts : Int) (xs : List Leg) (rt : List Int) : Int := if routeC pts xs rt = 0 ∧ 1 < rt.length then (worstTo (riskL xs rt) (rt.length - 1) : Nat) else 0
def worstM (pts : Int) (xs : List Leg) (rt : List Int) : Int := if routeC pts xs rt = 0 ∧ 1 < rt.length then (riskL xs rt).getD (worstTo (riskL xs rt) (rt.length - 1)) 0 else 0
def worstC (pts : Int) (xs : List Leg) (rt : List Int) : Int := if routeC pts xs rt = 0 then (if 1 < rt.length then 0 else 3) else routeC pts xs rt
theorem riskL_at {xs : List Leg} {rt : List Int} {k : Nat} {p : Int × Int} (h : (pairs rt)[k]? = some p) : (riskL xs rt).getD k 0 = (legD xs p).exposure := by
  unfold riskL
  rw [List.getD_eq_getElem?_getD, List.getElem?_map, h]; rfl
theorem riskL_leg {xs : List Leg} {rt : List Int} {k : Nat} {l : Leg} (h : ((pairs rt).map (legD xs))[k]? = some l) : (riskL xs rt).getD k 0 = l.exposure := by
  obtain ⟨p, h1, h2⟩ := map_at h
  rw [riskL_at h1, h2]

set_option maxRecDepth 100000 in
set_option maxHeartbeats 1000000 in
theorem implWorstLeg_any (pts : Int) (A : Option Addr) (n c : Nat) (xs : List Leg) (B : Option Addr) (m d : Nat) (rt : List Int) (w : World) (hx : SliceOf w 4 Leg.cells A n xs) (hr : SliceOf w 1 i64cells B m rt) :
    Calls Try.prog 22 #[.int .i64 pts, .slice A n c, .slice B m d] w (Ret (.tuple #[.int .i64 (worstA pts xs rt), .int .i64 (worstM pts xs rt), .int .i64 (worstC pts xs rt)]) w) := by
  by_cases h0 : routeC pts xs rt = 0
  rotate_left
  · have H0 := Lib.hid h0
    have hne : (routeC pts xs rt != 0) = true := by simp [h0]
    clear h0
    go_enter Try.func22, Try.ntmps22
    go_wp2_with fail
    refine (routeLegs_any _ _ _ _ xs _ _ _ rt _ hx hr).mono ?_
    rintro e w1 ⟨v, rfl, hl, hb1⟩
    clear hl
    go_wp2
    go_ret3
    exact Ret.iii (by unfold worstA; rw [if_neg (fun h => H0.out h.1)]) (by unfold worstM; rw [if_neg (fun h => H0.out h.1)]) (by unfold worstC; rw [if_neg H0.out]) hb1
  have H0 := Lib.hid h0
  have hv := routeC_zero h0
  have HV := Lib.hid hv
  have hne : (routeC pts xs rt != 0) = false := by simp [h0]
  have hml := onB_len hv.2.1
  have HLen : Hid (((pairs rt).map (legD xs)).length = rt.length - 1) := by unfold Hid; simp [pairs_len]
  obtain ⟨L, hL⟩ : ∃ L, (pairs rt).map (legD xs) = L := ⟨_, rfl⟩
  have HLL := Lib.hid hL
  rw [hL] at HLen
  by_cases h1 : L.length = 0
  · have he0 : ((L.length : Int) == 0) = true := by simp [h1]
    have h1' : ¬ 1 < rt.length := by have := HLen.out; omega
    have H1 := Lib.hid h1'
    clear hv h0 hL h1 h1'
    go_enter Try.func22, Try.ntmps22
    go_wp2_with fail
    refine (routeLegs_any _ _ _ _ xs _ _ _ rt _ hx hr).mono ?_
    rintro e w1 ⟨v, rfl, hl, hb1⟩
    obtain ⟨A', c', rfl, hs⟩ := hl H0.out
    rw [HLL.out] at hs ⊢
    clear hl
    go_wp2
    go_ret3
    exact Ret.iii (by unfold worstA; rw [if_neg (fun h => H1.out h.2)]) (by unfold worstM; rw [if_neg (fun h => H1.out h.2)]) (by unfold worstC; rw [if_pos H0.out, if_neg H1.out]) hb1
  have he0 : ((L.length : Int) == 0) = false := by simp [h1]
  have h1' : 1 < rt.length := by have := HLen.out; omega
  have H1 := Lib.hid h1'
  have hL64 : L.length ≤ 64 := by have := HLen.out; omega
  have hpos : 0 < L.length := by omega
  have hlt0 := worstTo_lt (riskL xs rt)
  have HW0 := Lib.hid hlt0
  clear hv h0 hL h1 h1' hlt0
  go_enter Try.func22, Try.ntmps22
  go_wp2_with fail
  refine (routeLegs_any _ _ _ _ xs _ _ _ rt _ hx hr).mono ?_
  rintro e w1 ⟨v, rfl, hl, hb1⟩
  obtain ⟨A', c', rfl, hs⟩ := hl H0.out
  rw [HLL.out] at hs ⊢
  clear hl
  go_wp2
  clear hne he0
  go_loopg [11, 31] L.length (fun gk s i wr => ∃ (k q : Nat), k ≤ L.length ∧ gk = L.length - k ∧ i = .int .i64 k ∧ s = .int .i64 q ∧ q = worstTo (riskL xs rt) k ∧ q < L.length ∧ Below w1.heap.size w1 wr)
  case atStart => exact ⟨0, 0, Nat.zero_le _, rfl, rfl, rfl, rfl, hpos, Below.refl _ _⟩
  case round =>
    obtain ⟨k, q, hk, hgk, rfl, rfl, hq, hq1, hb⟩ := hrel
    have Hq := Lib.hid hq
    have Hgk := Lib.hid hgk
    clear hq hgk
    by_cases hlt : k < L.length
    · obtain ⟨b1, o1, x, rfl, hbb1, hxk, x0, x1, x2, x3⟩ := Leg.at_ (hs.below hb) hlt
      obtain ⟨b2, o2, y, he, hbb2, hyk, y0, y1, y2, y3⟩ := Leg.at_ (hs.below hb) hq1
      injection he with he
      injection he with he1 he2 _
      subst he1 he2
      have hrx := riskL_leg (xs := xs) (rt := rt) (by rw [HLL.out]; exact hxk)
      have hry := riskL_leg (xs := xs) (rt := rt) (by rw [HLL.out]; exact hyk)
      rw [Hq.out] at hry
      have hstep : (y.exposure < x.exposure → k = worstTo (riskL xs rt) (k + 1)) ∧ (¬ y.exposure < x.exposure → q = worstTo (riskL xs rt) (k + 1)) :=
        ⟨fun h => (worstTo_yes (by rw [hrx, hry]; exact h)).symm, fun h => by rw [worstTo_no (by rw [hrx, hry]; exact h)]; exact Hq.out⟩
      have Hst := Lib.hid hstep
      have hsub := fun (o : Obj) (g : Sub (wr.alloc o)) b oo (h : b < (wr.alloc o).heap.size) => g.cell b oo h
      have hlt2 : b1 < wr.heap.size + 1 := by omega
      clear hxk hyk hrx hry hstep y0 y1 y2
      go_wp2_with fail
      refine wp_region_sub (by kernel_rfl) (by kernel_rfl) ?_
      repeat (go_big_quiet_step (fail))
      refine wpQuiet_nil ?_
      intro wg hg
      have hbg := (hb.alloc hb.size _).trans (hg.mono (by simp; exact Nat.le_succ_of_le hb.size))
      clear hsub x0 x1 x2 x3 y3
      by_cases hc : y.exposure < x.exposure
      · have HE := Lib.hid (Hst.out.1 hc)
        go_wp2
        go_roundg (L.length - (k + 1))
        case measure => have := Hgk.out; omega
        case rel => exact ⟨k + 1, k, by omega, rfl, by go_num, rfl, HE.out, hlt, hbg⟩
      · have HE := Lib.hid (Hst.out.2 (by omega))
        go_wp2
        go_roundg (L.length - (k + 1))
        case measure => have := Hgk.out; omega
        case rel => exact ⟨k + 1, q, by omega, rfl, by go_num, rfl, HE.out, hq1, hbg⟩
    · have hkl : k = L.length := by omega
      obtain ⟨b2, o2, y, rfl, hbb2, hyk, y0, y1, y2, y3⟩ := Leg.at_ (hs.below hb) hq1
      have hry := riskL_leg (xs := xs) (rt := rt) (by rw [HLL.out]; exact hyk)
      have HQ : Hid (q = worstTo (riskL xs rt) (rt.length - 1)) := by rw [Hid, Hq.out, hkl, HLen.out]
      have HY : Hid (y.exposure = (riskL xs rt).getD (worstTo (riskL xs rt) (rt.length - 1)) 0) := by rw [Hid, ← HQ.out]; exact hry.symm
      have hsub := fun (g : Sub wr) b o (h : b < wr.heap.size) => g.cell b o h
      clear hyk hry hkl
      go_wp2_with fail
      refine wp_region_sub (by kernel_rfl) (by kernel_rfl) ?_
      repeat (go_big_quiet_step (fail))
      refine wpQuiet_nil ?_
      intro wg hg
      have hbg := hb.trans (hg.mono hb.size)
      clear hsub y0 y1 y2 y3
      go_wp2
      go_ret3
      exact Ret.iii (by unfold worstA; rw [if_pos ⟨H0.out, H1.out⟩, ← HQ.out]) (by unfold worstM; rw [if_pos ⟨H0.out, H1.out⟩, ← HY.out]) (by unfold worstC; rw [if_pos H0.out, if_pos H1.out]) (hb1.trans (hbg.mono hb1.size))

set_option maxRecDepth 100000 in
set_option maxHeartbeats 1000000 in
theorem specWorstLeg_any (pts : Int) (A : Option Addr) (n c : Nat) (xs : List Leg) (B : Option Addr) (m d : Nat) (rt : List Int) (w : World) (hx : SliceOf w 4 Leg.cells A n xs) (hr : SliceOf w 1 i64cells B m rt) (hmd : m ≤ d) :
    Calls Try.prog 21 #[.int .i64 pts, .slice A n c, .slice B m d] w (Ret (.tuple #[.int .i64 (worstA pts xs rt), .int .i64 (worstM pts xs rt), .int .i64 (worstC pts xs rt)]) w) := by
  have hml := hr.len
  have hm := hr.le
  by_cases h0 : routeC pts xs rt = 0
  rotate_left
  · have H0 := Lib.hid h0
    have hne : (routeC pts xs rt != 0) = true := by simp [h0]
    clear h0
    go_enter Try.func21, Try.ntmps21
    go_wp2_with fail
    refine (l23Route_any _ _ _ _ xs _ _ _ rt _ hx hr).mono ?_
    rintro e w1 ⟨rfl, hb1⟩
    go_wp2
    go_ret3
    exact Ret.iii (by unfold worstA; rw [if_neg (fun h => H0.out h.1)]) (by unfold worstM; rw [if_neg (fun h => H0.out h.1)]) (by unfold worstC; rw [if_neg H0.out]) hb1
  have H0 := Lib.hid h0
  have hv := routeC_zero h0
  have HV := Lib.hid hv
  have hne : (routeC pts xs rt != 0) = false := by simp [h0]
  have hon := onB_len hv.2.1
  rw [hml] at hon
  have HM := Lib.hid hml
  have HW0 := Lib.hid (worstTo_lt (riskL xs rt))
  obtain ⟨b, o, rfl, hbw, _⟩ := hr.base_ (by omega)
  clear hv h0 hml
  go_enter Try.func21, Try.ntmps21
  go_wp2_with fail
  refine (l23Route_any _ _ _ _ xs _ _ _ rt _ hx hr).mono ?_
  rintro e w1 ⟨rfl, hb1⟩
  have hx1 := hx.below hb1
  have hr1 := hr.below hb1
  clear hx hr
  go_wp2
  clear hne
  go_loopg [10, 11, 12] m (fun gk s t i wr => ∃ (k : Nat) (q M : Int), k + 1 ≤ m ∧ gk = m - k ∧ i = .int .i64 (k + 1 : Nat) ∧ s = .int .i64 q ∧ t = .int .i64 M ∧ (k = 0 ∧ q = -1 ∨ 0 < k ∧ q = (worstTo (riskL xs rt) k : Nat) ∧ M = (riskL xs rt).getD (worstTo (riskL xs rt) k) 0) ∧ Below w1.heap.size w1 wr)
  case atStart => exact ⟨0, -1, 0, by omega, rfl, rfl, rfl, rfl, .inl ⟨rfl, rfl⟩, Below.refl _ _⟩
  case round =>
    obtain ⟨k, q, M, hk, hgk, rfl, rfl, rfl, hq, hb⟩ := hrel
    have Hq := Lib.hid hq
    have Hgk := Lib.hid hgk
    clear hgk
    by_cases hlt : k + 1 < m
    · obtain ⟨x, hxk⟩ : ∃ x, rt[k]? = some x := ⟨_, List.getElem?_eq_getElem (by have := HM.out; omega)⟩
      obtain ⟨y, hyk⟩ : ∃ y, rt[k + 1]? = some y := ⟨_, List.getElem?_eq_getElem (by have := HM.out; omega)⟩
      have hall2 : (pairs [x, y]).all (hasLeg xs) = true := by
        have := all_at HV.out.2.2 (pairs_at hxk hyk)
        simp [pairs, this]
      have HA2 := Lib.hid hall2
      have hE := riskL_at (xs := xs) (pairs_at hxk hyk)
      have Htwo := Lib.hid ((hr1.below hb).two hlt hxk hyk)
      have HEx := Lib.hid (expose_two xs x y)
      obtain ⟨e, he⟩ : ∃ e, (legD xs (x, y)).exposure = e := ⟨_, rfl⟩
      rw [he] at hE
      have He := Lib.hid he
      have HE := Lib.hid hE
      have hk2 : k + 2 ≤ d := by omega
      clear hxk hyk hall2 hE he
      rcases hq with ⟨hk0, hq1⟩ | ⟨hk0, hq1, hM⟩
      · have HT : Hid (0 < k + 1 ∧ ((k : Int) = (worstTo (riskL xs rt) (k + 1) : Nat)) ∧ e = (riskL xs rt).getD (worstTo (riskL xs rt) (k + 1)) 0) := by
          subst hk0
          have h1 : worstTo (riskL xs rt) 1 = 0 := by have := HW0.out 1 (by omega); omega
          rw [Hid, h1, HE.out]; simp
        have hq1' : q < 0 := by omega
        have Hk0 := Lib.hid hk0
        clear hk0 hq1
        go_wp2_with fail
        rw [show k + 1 + 1 - k = 2 by omega]
        refine (l23Exposure_any pts _ _ _ xs _ _ _ [x, y] _ (hx1.below hb) Htwo.out HV.out.1 HA2.out (by omega)).mono ?_
        rintro e' w2 ⟨rfl, hb2⟩
        rw [HEx.out, He.out]
        have hbb := hb.trans (hb2.mono hb.size)
        go_wp2
        go_roundg (m - (k + 1))
        case measure => have := Hgk.out; omega
        case rel => exact ⟨k + 1, k, e, by omega, rfl, by go_num, by go_num, rfl, .inr HT.out, hbb⟩
      · have HMM := Lib.hid hM
        have HQ := Lib.hid hq1
        have hq1' : 0 ≤ q := by omega
        by_cases hc : M < e
        · have HT : Hid (0 < k + 1 ∧ ((k : Int) = (worstTo (riskL xs rt) (k + 1) : Nat)) ∧ e = (riskL xs rt).getD (worstTo (riskL xs rt) (k + 1)) 0) := by
            have h1 : worstTo (riskL xs rt) (k + 1) = k := worstTo_yes (by rw [HE.out, ← HMM.out]; exact hc)
            rw [Hid, h1, HE.out]; simp
          clear hM hq1
          go_wp2_with fail
          rw [show k + 1 + 1 - k = 2 by omega]
          refine (l23Exposure_any pts _ _ _ xs _ _ _ [x, y] _ (hx1.below hb) Htwo.out HV.out.1 HA2.out (by omega)).mono ?_
          rintro e' w2 ⟨rfl, hb2⟩
          rw [HEx.out, He.out]
          have hbb := hb.trans (hb2.mono hb.size)
          go_wp2
          go_roundg (m - (k + 1))
          case measure => have := Hgk.out; omega
          case rel => exact ⟨k + 1, k, e, by omega, rfl, by go_num, by go_num, rfl, .inr HT.out, hbb⟩
        · have HT : Hid (0 < k + 1 ∧ (q = (worstTo (riskL xs rt) (k + 1) : Nat)) ∧ M = (riskL xs rt).getD (worstTo (riskL xs rt) (k + 1)) 0) := by
            have h1 : worstTo (riskL xs rt) (k + 1) = worstTo (riskL xs rt) k := worstTo_no (by rw [HE.out, ← HMM.out]; exact hc)
            rw [Hid, h1]
            exact ⟨by omega, HQ.out, HMM.out⟩
          clear hM hq1
          go_wp2_with fail
          rw [show k + 1 + 1 - k = 2 by omega]
          refine (l23Exposure_any pts _ _ _ xs _ _ _ [x, y] _ (hx1.below hb) Htwo.out HV.out.1 HA2.out (by omega)).mono ?_
          rintro e' w2 ⟨rfl, hb2⟩
          rw [HEx.out, He.out]
          have hbb := hb.trans (hb2.mono hb.size)
          go_wp2
          go_roundg (m - (k + 1))
          case measure => have := Hgk.out; omega
          case rel => exact ⟨k + 1, q, M, by omega, rfl, by go_num, rfl, rfl, .inr HT.out, hbb⟩
    · rcases hq with ⟨hk0, hq1⟩ | ⟨hk0, hq1, hM⟩
      · have H1 : Hid (¬ 1 < rt.length) := by have := HM.out; unfold Hid; omega
        have hq1' : q < 0 := by omega
        clear hk0 hq1
        go_wp2
        go_ret3
        exact Ret.iii (by unfold worstA; rw [if_neg (fun h => H1.out h.2)]) (by unfold worstM; rw [if_neg (fun h => H1.out h.2)]) (by unfold worstC; rw [if_pos H0.out, if_neg H1.out]) (hb1.trans (hb.mono hb1.size))
      · have H1 : Hid (1 < rt.length) := by have := HM.out; unfold Hid; omega
        have HK : Hid (k = rt.length - 1) := by have := HM.out; unfold Hid; omega
        have HMM := Lib.hid hM
        have HQ := Lib.hid hq1
        have hq1' : 0 ≤ q := by omega
        clear hM hq1
        go_wp2
        go_ret3
        exact Ret.iii (by unfold worstA; rw [if_pos ⟨H0.out, H1.out⟩, ← HK.out]; exact HQ.out) (by unfold worstM; rw [if_pos ⟨H0.out, H1.out⟩, ← HK.out]; exact HMM.out) (by unfold worstC; rw [if_pos H0.out, if_pos H1.out]) (hb1.trans (hb.mono hb1.size))

end Go.Proofs.Ytoociholchamhaa
