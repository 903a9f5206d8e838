/- The gusts that the laws of the drift draw. -/
import Derived.Test.YtllchmacipacnaaGreatDoorFldE
import Derived.Deep.RegionHeld3
import Derived.Deep.RegionLaw
import Derived.BigQuiet
namespace Go.Proofs.YtllchmacipacnaaGreatDoor
open Go.RowKit

set_option maxHeartbeats 2000000 in
theorem l06DrawGusts_any (A : Option Addr) (n c : Nat) (ds : List Int) (bs k0 : Nat) (w0 w : World) (h : SrcAt A n c ds bs k0 w0 w) (hk0 : k0 ≤ 5000) :
    Calls Tryz.prog 33 #[.pointer (some ⟨bs, 0, none⟩)] w (fun e w' => ∃ (v : Value) (l : List Int) (k' : Nat), e = .returned v ∧ k' ≤ 6000 ∧ SrcAt A n c ds bs k' w0 w' ∧ OwnsL w' w.heap.size 2 1 i64cells v l ∧ Span bs (bs + 1) w w') := by
  have HLT : Hid (bs < w.heap.size) := h.lt
  obtain ⟨w1, hw1⟩ : ∃ w1, w.alloc (.cells #[] 2) = w1 := ⟨_, rfl⟩
  have hb1 : Below w.heap.size w w1 := by rw [← hw1]; exact (Below.refl _ _).alloc (Nat.le_refl _) _
  have HO1 : Hid (OwnsL w1 w.heap.size 2 1 i64cells (.slice (some ⟨w.heap.size, 0, none⟩) 0 0) []) := by rw [Hid, ← hw1]; exact OwnsL.made _ _ _ _ _ (Nat.le_refl _)
  have HS1 := Lib.hid (h.grow hb1)
  have HP1 : Hid (Span bs (bs + 1) w w1) := Span.of_below hb1 (Nat.le_refl _)
  clear h hb1
  go_enter Tryz.func33, Tryz.ntmps33
  go_wp2_with fail
  try rw [hw1]
  clear hw1
  refine (srcPick_any A n c ds bs k0 7 w0 w1 HS1.out (by omega) (by omega) (by omega)).mono ?_
  rintro e w2 ⟨r, k2, rfl, hr, hk2, hs2, ha2⟩
  have HS2 := Lib.hid hs2
  have HO2 := Lib.hid (HO1.out.span ha2 (fun b hb => .inr (by have := (HO1.out.lt b hb).1; have := HLT.out; omega)))
  have HP2 := Lib.hid (HP1.out.trans ha2)
  have HK2 : Hid (k2 ≤ 5002) := by rw [Hid]; omega
  clear hs2 ha2 hk2 HS1 HO1 HP1
  go_wp2
  go_loopg [3, 4] r (fun gk s i wr => ∃ (j kk : Nat) (v : Value) (l : List Int), j ≤ r ∧ gk = j ∧ i = .int .i64 j ∧ v = s ∧ kk ≤ 5002 + 2 * (r - j) ∧ l.length ≤ r - j ∧ SrcAt A n c ds bs kk w0 wr ∧ OwnsL wr w.heap.size 2 1 i64cells v l ∧ Span bs (bs + 1) w wr)
  case atStart => exact ⟨r, k2, _, [], Nat.le_refl _, rfl, rfl, rfl, by have := HK2.out; omega, by simp, HS2.out, HO2.out, HP2.out⟩
  case round =>
    obtain ⟨j, kk, v, l, hj, hgj, rfl, rfl, hkk, hll, hsr, hor, hpr⟩ := hrel
    have HGJ := Lib.hid hgj
    have HKK := Lib.hid hkk
    have HLL := Lib.hid hll
    have HSR := Lib.hid hsr
    have HOR := Lib.hid hor
    have HPR := Lib.hid hpr
    clear hgj hkk hll hsr hor hpr HS2 HO2 HP2
    by_cases hj0 : 0 < j
    · go_wp2_with fail
      refine (srcPick_any A n c ds bs kk 4 w0 wr HSR.out (by have := HKK.out; omega) (by omega) (by omega)).mono ?_
      rintro e w5 ⟨q, k5, rfl, hq, hk5, hs5, ha5⟩
      have HS5 := Lib.hid hs5
      have HO5 := Lib.hid (HOR.out.span ha5 (fun b hb => .inr (by have := (HOR.out.lt b hb).1; have := HLT.out; omega)))
      have HP5 := Lib.hid (HPR.out.trans ha5)
      have HK5 : Hid (k5 ≤ 5002 + 2 * (r - (j - 1))) := by have := HKK.out; rw [Hid]; omega
      have HZ5 : Hid (w.heap.size ≤ w5.heap.size) := HP5.out.size
      clear hs5 ha5 hk5
      go_wp2_with (at_builtin; refine wpList_push (by rfl) (.tmp 12) (.tmp 15) 24 (by rfl) w.heap.size 2 1 Tryz.underlying24 infoI64 (by rfl) (by decide) i64cells i64cells_len i64cells_one _ v l (q : Int) (by rfl) (by rfl) HO5.out (by rfl) (by have := HLL.out; omega) (by decide) HZ5.out ?_)
      intro v' w' hown' hb' _
      have HSW := Lib.hid (HS5.out.growF hb' HLT.out)
      have HPW := Lib.hid (HP5.out.low hb')
      have HOW := Lib.hid hown'
      have HLW : Hid ((l ++ [(q : Int)]).length ≤ r - (j - 1)) := by have := HLL.out; rw [Hid, List.length_append, List.length_singleton]; omega
      clear hown' hb'
      have e1 : (j : Int) - 1 = ((j - 1 : Nat) : Int) := by omega
      go_wp2
      go_roundg (j - 1)
      case measure => have := HGJ.out; omega
      case rel => exact ⟨j - 1, k5, v', _, by omega, rfl, by go_num, rfl, HK5.out, HLW.out, HSW.out, HOW.out, HPW.out⟩
    obtain rfl : j = 0 := by omega
    have hd0 : decide (0 < 0) = false := rfl
    go_wp2_with fail
    refine (srcPick_any A n c ds bs kk 18 w0 wr HSR.out (by have := HKK.out; omega) (by omega) (by omega)).mono ?_
    rintro e w5 ⟨q, k5, rfl, hq, hk5, hs5, ha5⟩
    have HS5 := Lib.hid hs5
    have HO5 := Lib.hid (HOR.out.span ha5 (fun b hb => .inr (by have := (HOR.out.lt b hb).1; have := HLT.out; omega)))
    have HP5 := Lib.hid (HPR.out.trans ha5)
    have HK5 : Hid (k5 ≤ 5030) := by have := HKK.out; rw [Hid]; omega
    have HZ5 : Hid (w.heap.size ≤ w5.heap.size) := HP5.out.size
    clear hs5 ha5 hk5 HSR HOR HPR
    have hcs : q = 0 ∨ q = 1 ∨ 2 ≤ q := by omega
    rcases hcs with rfl | rfl | hq2
    · obtain ⟨w6, hw6⟩ : ∃ w6, w5.alloc (.cells #[.int .i64 (-1), .int .i64 4] 2) = w6 := ⟨_, rfl⟩
      have hb6 : Below w5.heap.size w5 w6 := by rw [← hw6]; exact (Below.refl _ _).alloc (Nat.le_refl _) _
      have HL6 : Hid (SliceOf w6 1 i64cells (some ⟨w5.heap.size, 0, none⟩) 2 [-1, 4]) := by rw [Hid, ← hw6]; exact sliceOf_new w5 2 [-1, 4] (by simp)
      have HS6 := Lib.hid (HS5.out.grow hb6)
      have HO6 := Lib.hid (HO5.out.below' hb6)
      have HP6 := Lib.hid (HP5.out.trans (Span.of_below hb6 (Nat.le_refl _)))
      have HNB : Hid (w5.heap.size ≠ bs) := by have := HS5.out.lt; rw [Hid]; omega
      have HW6 := Lib.hid hw6
      clear hb6 hw6
      go_wp2_with fail
      rw [HW6.out]
      refine (srcAmong_any A n c ds bs k5 2 2 w5.heap.size 0 [-1, 4] w0 w6 HS6.out (by have := HK5.out; omega) (by omega) (by omega) HL6.out HNB.out).mono ?_
      rintro e w7 ⟨y, k7, rfl, _, hk7, hs7, ha7⟩
      have HS7 := Lib.hid hs7
      have HO7 := Lib.hid (HO6.out.span ha7 (fun b hb => .inr (by have := (HO6.out.lt b hb).1; have := HLT.out; omega)))
      have HP7 := Lib.hid (HP6.out.trans ha7)
      have HK7 : Hid (k7 ≤ 5040) := by have := HK5.out; rw [Hid]; omega
      have HZ7 : Hid (w.heap.size ≤ w7.heap.size) := HP7.out.size
      clear hs7 ha7 hk7
      go_wp2_with (at_builtin; refine wpList_push (by rfl) (.tmp 21) (.tmp 25) 24 (by rfl) w.heap.size 2 1 Tryz.underlying24 infoI64 (by rfl) (by decide) i64cells i64cells_len i64cells_one _ v l y (by rfl) (by rfl) HO7.out (by rfl) (by have := HLL.out; omega) (by decide) HZ7.out ?_)
      intro v' w' hown' hb' _
      have HSW := Lib.hid (HS7.out.growF hb' HLT.out)
      have HPW := Lib.hid (HP7.out.low hb')
      have HOW := Lib.hid hown'
      clear hown' hb'
      go_wp2
      go_ret
      exact ⟨v', _, k7, rfl, by have := HK7.out; omega, HSW.out, HOW.out, HPW.out⟩
    · have e0 : (((1 : Nat) : Int) == 0) = false := rfl
      obtain ⟨w6, hw6⟩ : ∃ w6, w5.alloc (.cells #[.int .i64 24, .int .i64 25] 2) = w6 := ⟨_, rfl⟩
      have hb6 : Below w5.heap.size w5 w6 := by rw [← hw6]; exact (Below.refl _ _).alloc (Nat.le_refl _) _
      have HL6 : Hid (SliceOf w6 1 i64cells (some ⟨w5.heap.size, 0, none⟩) 2 [24, 25]) := by rw [Hid, ← hw6]; exact sliceOf_new w5 2 [24, 25] (by simp)
      have HS6 := Lib.hid (HS5.out.grow hb6)
      have HP6 := Lib.hid (HP5.out.trans (Span.of_below hb6 (Nat.le_refl _)))
      have HNB : Hid (w5.heap.size ≠ bs) := by have := HS5.out.lt; rw [Hid]; omega
      have HW6 := Lib.hid hw6
      clear hb6 hw6
      go_wp2_with fail
      rw [HW6.out]
      refine (srcAmong_any A n c ds bs k5 2 2 w5.heap.size 0 [24, 25] w0 w6 HS6.out (by have := HK5.out; omega) (by omega) (by omega) HL6.out HNB.out).mono ?_
      rintro e w7 ⟨y, k7, rfl, hy, hk7, hs7, ha7⟩
      have HS7 := Lib.hid hs7
      have HP7 := Lib.hid (HP6.out.trans ha7)
      have HK7 : Hid (k7 ≤ 5040) := by have := HK5.out; rw [Hid]; omega
      have HZ7 : Hid (w.heap.size ≤ w7.heap.size) := HP7.out.size
      have hy2 : y = 24 ∨ y = 25 := by simpa using hy
      obtain ⟨m, rfl⟩ : ∃ m : Nat, y = (m : Int) := ⟨y.toNat, by omega⟩
      have hm25 : 1 ≤ m ∧ m ≤ 25 := by omega
      have hmk := make_n (P := Tryz.prog) (t := 24) (n := m) Tryz.underlying24 infoI64 (by omega) (by omega)
      have HB8 : Hid (Below w7.heap.size w7 (w7.alloc (.cells (madeCells #[.int .i64 0] m) 2))) := (Below.refl _ _).alloc (Nat.le_refl _) _
      have HO8 := Lib.hid (ownsMade w7 m w.heap.size (by omega) HZ7.out)
      have HS8 := Lib.hid (HS7.out.grow HB8.out)
      have HP8 := Lib.hid (HP7.out.trans (Span.of_below HB8.out (Nat.le_refl _)))
      clear hs7 ha7 hk7 hy hy2
      go_wp2
      go_ret
      exact ⟨_, _, k7, rfl, by have := HK7.out; omega, HS8.out, HO8.out, HP8.out⟩
    · have e0 : ((q : Int) == 0) = false := by simp; omega
      have e1 : ((q : Int) == 1) = false := by simp; omega
      go_wp2
      go_ret
      exact ⟨_, _, k5, rfl, by have := HK5.out; omega, HS5.out, HO5.out, HP5.out⟩

end Go.Proofs.YtllchmacipacnaaGreatDoor
