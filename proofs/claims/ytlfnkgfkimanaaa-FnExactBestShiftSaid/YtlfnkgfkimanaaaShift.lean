/- BestShift of the program and of the reference. -/
import Derived.Test.YtlfnkgfkimanaaaVVerified
namespace Go.Proofs.Ytlfnkgfkimanaaa
open Go.RowKit

def hitB (s : Int) (x : Verified) : Bool := decide (min (max (x.told + s) 1) 5 = x.seen)
def hitsF (s : Int) (xs : List Verified) : Int := sumBy (fun x => if hitB s x = true then 1 else 0) xs
def shiftStep (xs : List Verified) (p : Int × Int) (s : Int) : Int × Int := if p.2 < hitsF s xs then (s, hitsF s xs) else p
def bestF (xs : List Verified) : Int × Int := [0, -1, 1, -2, 2].foldl (shiftStep xs) (0, -1)

set_option maxHeartbeats 1000000 in
theorem implShift1_any (x : Verified) (b : Nat) (s : Int) (w : World) (hx : x.oneB = true) (hs : -2 ≤ s ∧ s ≤ 2) (hb : b < w.heap.size) (hc : w.cell? ⟨b, 0, none⟩ = some (.int .i64 s)) :
    Calls Try.prog 107 #[.agg #[.int .i64 x.day, .int .i64 x.told, .int .i64 x.seen], .pointer (some ⟨b, 0, none⟩)] w (Ret (.bool (hitB s x)) w) := by
  have ⟨_, _⟩ := inB_iff.1 ((Verified.oneB_iff x).1 hx).2.1
  have ⟨_, _⟩ := hs
  have hne : ¬ b = w.heap.size := by omega
  clear hx hs
  go_enter Try.func107, Try.ntmps107
  go_wp2
  all_goals (go_ret; refine Ret.b ?_ ((Below.refl _ _).alloc (Nat.le_refl _) _))
  all_goals (unfold hitB; first | exact decide_eq_decide.2 (by omega) | (rw [Bool.eq_iff_iff]; simp; omega))

set_option maxHeartbeats 1000000 in
theorem countOf_any (b : Nat) (s : Int) (A : Option Addr) (n c : Nat) (xs : List Verified) (w : World) (hx : SliceOf w 3 Verified.cells A n xs) (hv : Verified.validB xs = true) (hs : -2 ≤ s ∧ s ≤ 2) (hb : b < w.heap.size) (hc : w.cell? ⟨b, 0, none⟩ = some (.int .i64 s)) :
    Calls Try.prog 106 #[.slice A n c, .func (.func 107) #[] #[.pointer (some ⟨b, 0, none⟩)]] w (Ret (.int .i64 (hitsF s xs)) w) := by
  have hn := hx.le
  have hl := hx.len
  have HV := Lib.hid hv
  have HS := Lib.hid hs
  have HL := Lib.hid hl
  have HC := Lib.hid hc
  have HB := Lib.hid hb
  have hM : n ≤ 64 := by rw [← hl]; exact (validL_spec.1 hv).1
  clear hv hs hl hc hb
  go_enter Try.func106, Try.ntmps106
  go_wp2
  go_loopg [5, 10] n (fun gk m i wr => ∃ (k : Nat) (q : Int), k ≤ n ∧ gk = n - k ∧ i = .int .i64 k ∧ m = .int .i64 q ∧ q = hitsF s (xs.take k) ∧ 0 ≤ q ∧ q ≤ k ∧ Below w.heap.size w wr)
  case atStart => exact ⟨0, 0, Nat.zero_le _, rfl, rfl, rfl, rfl, by omega, by omega, Below.refl _ _⟩
  case round =>
    obtain ⟨k, q, hk, hgk, rfl, rfl, hq, hq0, hq1, hbr⟩ := hrel
    have Hq := Lib.hid hq
    have Hgk := Lib.hid hgk
    clear hq hgk
    by_cases hlt : k < n
    · obtain ⟨b1, o1, x, rfl, hbb1, hxk, x0, x1, x2⟩ := Verified.at_ (hx.below hbr) hlt
      have hg1 := validL_good HV.out hxk
      have Hg := Lib.hid hg1
      have Hs := Lib.hid (sumBy_step (f := fun x => if hitB s x = true then (1 : Int) else 0) hxk)
      clear hxk hg1
      have hcr : Hid (wr.cell? ⟨b, 0, none⟩ = some (.int .i64 s)) := (hbr.cell (p := ⟨b, 0, none⟩) HB.out).trans HC.out
      have hlr : Hid (b < wr.heap.size) := Nat.lt_of_lt_of_le HB.out hbr.size
      go_wp2_with fail
      refine (implShift1_any x b s _ Hg.out HS.out (by simp; exact Nat.lt_succ_of_lt hlr.out) ((World.cell?_alloc_past _ _ _ hlr.out).trans hcr.out)).mono ?_
      rintro e w2 ⟨rfl, hb2⟩
      have hbb := (hbr.alloc hbr.size _).trans (hb2.mono (by simp; exact Nat.le_succ_of_le hbr.size))
      clear x0 x1 x2
      cases hh : hitB s x
      · have HE : Hid (q = hitsF s (xs.take (k + 1))) := by unfold Hid hitsF; rw [Hs.out, hh, Hq.out]; unfold hitsF; simp
        go_wp2
        go_roundg (n - (k + 1))
        case measure => have := Hgk.out; omega
        case rel => exact ⟨k + 1, q, by omega, rfl, by go_num, rfl, HE.out, by omega, by omega, hbb⟩
      · have HE : Hid (q + 1 = hitsF s (xs.take (k + 1))) := by unfold Hid hitsF; rw [Hs.out, hh, Hq.out]; unfold hitsF; simp
        go_wp2
        go_roundg (n - (k + 1))
        case measure => have := Hgk.out; omega
        case rel => exact ⟨k + 1, q + 1, by omega, rfl, by go_num, by go_num, HE.out, by omega, by omega, hbb⟩
    · have hkn : k = n := by omega
      subst hkn
      have HE : Hid (q = hitsF s xs) := by rw [Hid, Hq.out, List.take_of_length_le (by rw [HL.out]; exact Nat.le_refl _)]
      go_wp2
      go_ret
      exact Ret.i HE.out hbr

def shiftTo (xs : List Verified) (k : Nat) : Int × Int := ([0, -1, 1, -2, 2].take k).foldl (shiftStep xs) (0, -1)
theorem shiftTo_end (xs : List Verified) : shiftTo xs 5 = bestF xs := rfl
theorem shiftTo_succ {xs : List Verified} {k : Nat} {s : Int} (h : ([0, -1, 1, -2, 2] : List Int)[k]? = some s) : shiftTo xs (k + 1) = shiftStep xs (shiftTo xs k) s := by
  unfold shiftTo
  rw [List.take_succ_eq_append_getElem (List.getElem?_eq_some_iff.1 h).1, (List.getElem?_eq_some_iff.1 h).2, List.foldl_append]
  rfl
theorem shift_small {k : Nat} {s : Int} (h : ([0, -1, 1, -2, 2] : List Int)[k]? = some s) : -2 ≤ s ∧ s ≤ 2 := by
  have := List.mem_of_getElem? h
  simp at this
  omega
theorem hitB_as (s : Int) (x : Verified) : hitB s x = decide (max 1 (min 5 (x.told + s)) = x.seen) := by
  unfold hitB; exact decide_eq_decide.2 (by omega)
theorem Ret.iii {j k l : IntKind} {m n p q r s : Int} {w w' : World} (h : m = n) (h' : p = q) (h'' : r = s) (hb : Below w.heap.size w w') : Ret (.tuple #[.int j n, .int k q, .int l s]) w (.returned (.tuple #[.int j m, .int k p, .int l r])) w' := ⟨by rw [h, h', h''], hb⟩
def bestC (xs : List Verified) : Int := if Verified.validB xs = true then 0 else 1
def bestA (xs : List Verified) : Int := if Verified.validB xs = true then (bestF xs).1 else 0
def bestM (xs : List Verified) : Int := if Verified.validB xs = true then (bestF xs).2 else 0

set_option maxHeartbeats 2000000 in
theorem implBestShift_any (A : Option Addr) (n c : Nat) (xs : List Verified) (w : World) (hx : SliceOf w 3 Verified.cells A n xs) :
    Calls Try.prog 62 #[.slice A n c] w (Ret (.tuple #[.int .i64 (bestA xs), .int .i64 (bestM xs), .int .i64 (bestC xs)]) w) := by
  cases hv : Verified.validB xs
  · have HV := Lib.hid hv
    go_enter Try.func62, Try.ntmps62
    go_wp2_with fail
    refine (implVerifiedValid_any _ _ _ xs _ hx).mono ?_
    rintro e w1 ⟨rfl, hb1⟩
    go_wp2
    go_ret3
    exact Ret.mk (by simp [bestA, bestM, bestC, HV.out]) hb1
  have HV := Lib.hid hv
  have ia0 : ∀ w, (Instr.index 128 (.agg #[.int .i64 0, .int .i64 (-1), .int .i64 1, .int .i64 (-2), .int .i64 2]) (.int .i64 0)).run Try.prog w = .ok (.int .i64 (0)) w := fun _ => by kernel_rfl
  have ia1 : ∀ w, (Instr.index 128 (.agg #[.int .i64 0, .int .i64 (-1), .int .i64 1, .int .i64 (-2), .int .i64 2]) (.int .i64 1)).run Try.prog w = .ok (.int .i64 (-1)) w := fun _ => by kernel_rfl
  have ia2 : ∀ w, (Instr.index 128 (.agg #[.int .i64 0, .int .i64 (-1), .int .i64 1, .int .i64 (-2), .int .i64 2]) (.int .i64 2)).run Try.prog w = .ok (.int .i64 (1)) w := fun _ => by kernel_rfl
  have ia3 : ∀ w, (Instr.index 128 (.agg #[.int .i64 0, .int .i64 (-1), .int .i64 1, .int .i64 (-2), .int .i64 2]) (.int .i64 3)).run Try.prog w = .ok (.int .i64 (-2)) w := fun _ => by kernel_rfl
  have ia4 : ∀ w, (Instr.index 128 (.agg #[.int .i64 0, .int .i64 (-1), .int .i64 1, .int .i64 (-2), .int .i64 2]) (.int .i64 4)).run Try.prog w = .ok (.int .i64 (2)) w := fun _ => by kernel_rfl
  go_enter Try.func62, Try.ntmps62
  go_wp2_with fail
  refine (implVerifiedValid_any _ _ _ xs _ hx).mono ?_
  rintro e w1 ⟨rfl, hb1⟩
  have hx1 := hx.below hb1
  clear hx
  go_wp2
  clear hv
  go_loopg [5, 6, 14] 5 (fun gk b m i wr => ∃ (v q1 q2 : Int), 0 ≤ v ∧ v ≤ 5 ∧ gk = (5 - v).toNat ∧ i = .int .i64 v ∧ b = .int .i64 q1 ∧ m = .int .i64 q2 ∧ (q1, q2) = shiftTo xs v.toNat ∧ Below w1.heap.size w1 wr)
  case atStart => exact ⟨0, 0, -1, by omega, by omega, rfl, rfl, rfl, rfl, rfl, Below.refl _ _⟩
  case round =>
    obtain ⟨v, q1, q2, hv0, hv5, hgk, rfl, rfl, rfl, hq, hbr⟩ := hrel
    have Hgk := Lib.hid hgk
    have Hq := Lib.hid hq
    clear hgk hq
    have Hx := Lib.hid (hx1.below hbr)
    have hcases : v = 0 ∨ v = 1 ∨ v = 2 ∨ v = 3 ∨ v = 4 ∨ v = 5 := by omega
    clear hv0 hv5
    rcases hcases with rfl | rfl | rfl | rfl | rfl | rfl
    · have HS : Hid (shiftTo xs 1 = shiftStep xs (shiftTo xs 0) (0)) := rfl
      have hor := Own.new wr 2 #[.int .i64 (0)]
      go_wp2_with fail
      refine (countOf_any wr.heap.size (0) _ _ _ xs _ (Hx.out.below ((Below.refl _ _).alloc (Nat.le_refl _) _)) HV.out (by omega) hor.lt (hor.cell 0)).mono ?_
      rintro e w2 ⟨rfl, hb2⟩
      have hor2 := hor.below' hb2
      have cc : w2.cell? ⟨wr.heap.size, 0, none⟩ = some (.int .i64 (0)) := hor2.cell 0
      have hbb := (hbr.alloc hbr.size (.cells #[.int .i64 (0)] 2)).trans (hb2.mono (by simp; exact Nat.le_succ_of_le hbr.size))
      by_cases hgt : q2 < hitsF (0) xs
      · have HE : Hid (((0), hitsF (0) xs) = shiftTo xs 1) := by rw [Hid, HS.out, ← show (q1, q2) = shiftTo xs 0 from Hq.out]; unfold shiftStep; rw [if_pos hgt]
        go_wp2
        go_roundg 4
        case measure => have := Hgk.out; omega
        case rel => exact ⟨1, 0, _, by omega, by omega, rfl, rfl, rfl, rfl, HE.out, hbb⟩
      · have HE : Hid ((q1, q2) = shiftTo xs 1) := by rw [Hid, HS.out, ← show (q1, q2) = shiftTo xs 0 from Hq.out]; unfold shiftStep; rw [if_neg hgt]
        go_wp2
        go_roundg 4
        case measure => have := Hgk.out; omega
        case rel => exact ⟨1, q1, q2, by omega, by omega, rfl, rfl, rfl, rfl, HE.out, hbb⟩
    · have HS : Hid (shiftTo xs 2 = shiftStep xs (shiftTo xs 1) (-1)) := rfl
      have hor := Own.new wr 2 #[.int .i64 (-1)]
      go_wp2_with fail
      refine (countOf_any wr.heap.size (-1) _ _ _ xs _ (Hx.out.below ((Below.refl _ _).alloc (Nat.le_refl _) _)) HV.out (by omega) hor.lt (hor.cell 0)).mono ?_
      rintro e w2 ⟨rfl, hb2⟩
      have hor2 := hor.below' hb2
      have cc : w2.cell? ⟨wr.heap.size, 0, none⟩ = some (.int .i64 (-1)) := hor2.cell 0
      have hbb := (hbr.alloc hbr.size (.cells #[.int .i64 (-1)] 2)).trans (hb2.mono (by simp; exact Nat.le_succ_of_le hbr.size))
      by_cases hgt : q2 < hitsF (-1) xs
      · have HE : Hid (((-1), hitsF (-1) xs) = shiftTo xs 2) := by rw [Hid, HS.out, ← show (q1, q2) = shiftTo xs 1 from Hq.out]; unfold shiftStep; rw [if_pos hgt]
        go_wp2
        go_roundg 3
        case measure => have := Hgk.out; omega
        case rel => exact ⟨2, -1, _, by omega, by omega, rfl, rfl, rfl, rfl, HE.out, hbb⟩
      · have HE : Hid ((q1, q2) = shiftTo xs 2) := by rw [Hid, HS.out, ← show (q1, q2) = shiftTo xs 1 from Hq.out]; unfold shiftStep; rw [if_neg hgt]
        go_wp2
        go_roundg 3
        case measure => have := Hgk.out; omega
        case rel => exact ⟨2, q1, q2, by omega, by omega, rfl, rfl, rfl, rfl, HE.out, hbb⟩
    · have HS : Hid (shiftTo xs 3 = shiftStep xs (shiftTo xs 2) (1)) := rfl
      have hor := Own.new wr 2 #[.int .i64 (1)]
      go_wp2_with fail
      refine (countOf_any wr.heap.size (1) _ _ _ xs _ (Hx.out.below ((Below.refl _ _).alloc (Nat.le_refl _) _)) HV.out (by omega) hor.lt (hor.cell 0)).mono ?_
      rintro e w2 ⟨rfl, hb2⟩
      have hor2 := hor.below' hb2
      have cc : w2.cell? ⟨wr.heap.size, 0, none⟩ = some (.int .i64 (1)) := hor2.cell 0
      have hbb := (hbr.alloc hbr.size (.cells #[.int .i64 (1)] 2)).trans (hb2.mono (by simp; exact Nat.le_succ_of_le hbr.size))
      by_cases hgt : q2 < hitsF (1) xs
      · have HE : Hid (((1), hitsF (1) xs) = shiftTo xs 3) := by rw [Hid, HS.out, ← show (q1, q2) = shiftTo xs 2 from Hq.out]; unfold shiftStep; rw [if_pos hgt]
        go_wp2
        go_roundg 2
        case measure => have := Hgk.out; omega
        case rel => exact ⟨3, 1, _, by omega, by omega, rfl, rfl, rfl, rfl, HE.out, hbb⟩
      · have HE : Hid ((q1, q2) = shiftTo xs 3) := by rw [Hid, HS.out, ← show (q1, q2) = shiftTo xs 2 from Hq.out]; unfold shiftStep; rw [if_neg hgt]
        go_wp2
        go_roundg 2
        case measure => have := Hgk.out; omega
        case rel => exact ⟨3, q1, q2, by omega, by omega, rfl, rfl, rfl, rfl, HE.out, hbb⟩
    · have HS : Hid (shiftTo xs 4 = shiftStep xs (shiftTo xs 3) (-2)) := rfl
      have hor := Own.new wr 2 #[.int .i64 (-2)]
      go_wp2_with fail
      refine (countOf_any wr.heap.size (-2) _ _ _ xs _ (Hx.out.below ((Below.refl _ _).alloc (Nat.le_refl _) _)) HV.out (by omega) hor.lt (hor.cell 0)).mono ?_
      rintro e w2 ⟨rfl, hb2⟩
      have hor2 := hor.below' hb2
      have cc : w2.cell? ⟨wr.heap.size, 0, none⟩ = some (.int .i64 (-2)) := hor2.cell 0
      have hbb := (hbr.alloc hbr.size (.cells #[.int .i64 (-2)] 2)).trans (hb2.mono (by simp; exact Nat.le_succ_of_le hbr.size))
      by_cases hgt : q2 < hitsF (-2) xs
      · have HE : Hid (((-2), hitsF (-2) xs) = shiftTo xs 4) := by rw [Hid, HS.out, ← show (q1, q2) = shiftTo xs 3 from Hq.out]; unfold shiftStep; rw [if_pos hgt]
        go_wp2
        go_roundg 1
        case measure => have := Hgk.out; omega
        case rel => exact ⟨4, -2, _, by omega, by omega, rfl, rfl, rfl, rfl, HE.out, hbb⟩
      · have HE : Hid ((q1, q2) = shiftTo xs 4) := by rw [Hid, HS.out, ← show (q1, q2) = shiftTo xs 3 from Hq.out]; unfold shiftStep; rw [if_neg hgt]
        go_wp2
        go_roundg 1
        case measure => have := Hgk.out; omega
        case rel => exact ⟨4, q1, q2, by omega, by omega, rfl, rfl, rfl, rfl, HE.out, hbb⟩
    · have HS : Hid (shiftTo xs 5 = shiftStep xs (shiftTo xs 4) (2)) := rfl
      have hor := Own.new wr 2 #[.int .i64 (2)]
      go_wp2_with fail
      refine (countOf_any wr.heap.size (2) _ _ _ xs _ (Hx.out.below ((Below.refl _ _).alloc (Nat.le_refl _) _)) HV.out (by omega) hor.lt (hor.cell 0)).mono ?_
      rintro e w2 ⟨rfl, hb2⟩
      have hor2 := hor.below' hb2
      have cc : w2.cell? ⟨wr.heap.size, 0, none⟩ = some (.int .i64 (2)) := hor2.cell 0
      have hbb := (hbr.alloc hbr.size (.cells #[.int .i64 (2)] 2)).trans (hb2.mono (by simp; exact Nat.le_succ_of_le hbr.size))
      by_cases hgt : q2 < hitsF (2) xs
      · have HE : Hid (((2), hitsF (2) xs) = shiftTo xs 5) := by rw [Hid, HS.out, ← show (q1, q2) = shiftTo xs 4 from Hq.out]; unfold shiftStep; rw [if_pos hgt]
        go_wp2
        go_roundg 0
        case measure => have := Hgk.out; omega
        case rel => exact ⟨5, 2, _, by omega, by omega, rfl, rfl, rfl, rfl, HE.out, hbb⟩
      · have HE : Hid ((q1, q2) = shiftTo xs 5) := by rw [Hid, HS.out, ← show (q1, q2) = shiftTo xs 4 from Hq.out]; unfold shiftStep; rw [if_neg hgt]
        go_wp2
        go_roundg 0
        case measure => have := Hgk.out; omega
        case rel => exact ⟨5, q1, q2, by omega, by omega, rfl, rfl, rfl, rfl, HE.out, hbb⟩
    · have HE : Hid ((q1, q2) = bestF xs) := Hq.out
      go_wp2
      go_ret3
      exact Ret.iii (by simp only [bestA, HV.out, ← HE.out, if_true]) (by simp only [bestM, HV.out, ← HE.out, if_true]) (by simp only [bestC, HV.out, if_true]) (hb1.trans (hbr.mono hb1.size))

set_option maxHeartbeats 2000000 in
theorem specBestShift_any (A : Option Addr) (n c : Nat) (xs : List Verified) (w : World) (hx : SliceOf w 3 Verified.cells A n xs) :
    Calls Try.prog 61 #[.slice A n c] w (Ret (.tuple #[.int .i64 (bestA xs), .int .i64 (bestM xs), .int .i64 (bestC xs)]) w) := by
  have hn := hx.le
  have HL := Lib.hid hx.len
  cases hv : Verified.validB xs
  · have HV := Lib.hid hv
    go_enter Try.func61, Try.ntmps61
    go_wp2_with fail
    refine (specVerifiedValid_any _ _ _ xs _ hx).mono ?_
    rintro e w1 ⟨rfl, hb1⟩
    go_wp2
    go_ret3
    exact Ret.mk (by simp [bestA, bestM, bestC, HV.out]) hb1
  have HV := Lib.hid hv
  have hM : n ≤ 64 := by rw [← hx.len]; exact (validL_spec.1 hv).1
  go_enter Try.func61, Try.ntmps61
  go_wp2_with fail
  refine (specVerifiedValid_any _ _ _ xs _ hx).mono ?_
  rintro e w1 ⟨rfl, hb1⟩
  have hx1 := hx.below hb1
  clear hx
  have hso : SliceOf (w1.alloc (.cells #[.int .i64 0, .int .i64 (-1), .int .i64 1, .int .i64 (-2), .int .i64 2] 2)) 1 i64cells (some ⟨w1.heap.size, 0, none⟩) 5 [0, -1, 1, -2, 2] := sliceOf_new w1 2 [0, -1, 1, -2, 2] (by simp)
  have HSO := Lib.hid hso
  clear hso
  go_wp2
  clear hv
  go_loopg [6, 7, 8] 5 (fun gk b m i wr => ∃ (j : Nat) (q1 q2 : Int), j ≤ 5 ∧ gk = 5 - j ∧ i = .int .i64 j ∧ b = .int .i64 q1 ∧ m = .int .i64 q2 ∧ (q1, q2) = shiftTo xs j ∧ Below w1.heap.size w1 wr ∧ SliceOf wr 1 i64cells (some ⟨w1.heap.size, 0, none⟩) 5 [0, -1, 1, -2, 2])
  case atStart => exact ⟨0, 0, -1, by omega, rfl, rfl, rfl, rfl, rfl, (Below.refl _ _).alloc (Nat.le_refl _) _, HSO.out⟩
  case round =>
    obtain ⟨j, q1, q2, hj, hgk, rfl, rfl, rfl, hq, hbr, hso⟩ := hrel
    have Hgk := Lib.hid hgk
    have Hq := Lib.hid hq
    clear hgk hq
    obtain ⟨wo, rfl⟩ : ∃ wo : World, wo = wr := ⟨_, rfl⟩
    by_cases hlt : j < 5
    · obtain ⟨b0, o0, s, hbo, hb0, hsj, y0⟩ := ints_at hso hlt
      have Hsj := Lib.hid hsj
      have Hy0 := Lib.hid y0
      have Hso := Lib.hid hso
      have Hs2 := Lib.hid (shift_small hsj)
      clear hsj y0 hso
      injection hbo with hbo
      injection hbo with e1 e2 _
      subst e1 e2
      go_wp2
      go_loopg [9, 10] n (fun gk m i wr => ∃ (k : Nat) (q : Int), k ≤ n ∧ gk = n - k ∧ i = .int .i64 k ∧ m = .int .i64 q ∧ q = hitsF s (xs.take k) ∧ 0 ≤ q ∧ q ≤ k ∧ Below wo.heap.size wo wr)
      case atStart => exact ⟨0, 0, Nat.zero_le _, rfl, rfl, rfl, rfl, by omega, by omega, Below.refl _ _⟩
      case round =>
        obtain ⟨k, q, hk, hgk, rfl, rfl, hq, hq0, hq1, hbi⟩ := hrel
        have Hq' := Lib.hid hq
        have Hgk' := Lib.hid hgk
        clear hq hgk
        have hb0i : w1.heap.size < wr.heap.size := Nat.lt_of_lt_of_le hb0 hbi.size
        have y0 : wr.cell? ⟨w1.heap.size, 0 + j, none⟩ = some (.int .i64 s) := (hbi.cell (p := ⟨w1.heap.size, _, none⟩) hb0).trans Hy0.out
        rw [Nat.zero_add] at y0
        by_cases hlt' : k < n
        · obtain ⟨b1, o1, x, rfl, hbb1, hxk, x0, x1, x2⟩ := Verified.at_ ((hx1.below hbr).below hbi) hlt'
          have hg1 := validL_good HV.out hxk
          have ⟨_, _⟩ := inB_iff.1 ((Verified.oneB_iff x).1 hg1).2.1
          have ⟨_, _⟩ := Hs2.out
          have Hs := Lib.hid (sumBy_step (f := fun x => if hitB s x = true then (1 : Int) else 0) hxk)
          clear hxk hg1
          have hsub := fun (g : Sub wr) b o (h : b < wr.heap.size) => g.cell b o h
          go_wp2_with fail
          refine wp_region_sub (by kernel_rfl) (by kernel_rfl) ?_
          repeat (go_big_quiet_step (first | exact Calls.sub_of_same (l00Min_any _ _ _) | exact Calls.sub_of_same (l00Max_any _ _ _)))
          refine wpQuiet_nil ?_
          intro wg hg
          have hbb := hbi.trans (hg.mono hbi.size)
          clear hsub x0 x1 x2 y0
          cases hh : hitB s x
          · have HE : Hid (q = hitsF s (xs.take (k + 1))) := by unfold Hid hitsF; rw [Hs.out, hh, Hq'.out]; unfold hitsF; simp
            have hh' : (max 1 (min 5 (x.told + s)) == x.seen) = false := by rw [hitB_as] at hh; simpa using hh
            clear hh
            go_wp2
            go_roundg (n - (k + 1))
            case measure => have := Hgk'.out; omega
            case rel => exact ⟨k + 1, q, by omega, rfl, by go_num, rfl, HE.out, by omega, by omega, hbb⟩
          · have HE : Hid (q + 1 = hitsF s (xs.take (k + 1))) := by unfold Hid hitsF; rw [Hs.out, hh, Hq'.out]; unfold hitsF; simp
            have hh' : (max 1 (min 5 (x.told + s)) == x.seen) = true := by rw [hitB_as] at hh; simpa using hh
            clear hh
            go_wp2
            go_roundg (n - (k + 1))
            case measure => have := Hgk'.out; omega
            case rel => exact ⟨k + 1, q + 1, by omega, rfl, by go_num, by go_num, HE.out, by omega, by omega, hbb⟩
        · have hkn : k = n := by omega
          subst hkn
          have HE : Hid (q = hitsF s xs) := by rw [Hid, Hq'.out, List.take_of_length_le (by rw [HL.out]; exact Nat.le_refl _)]
          have HS := Lib.hid (shiftTo_succ (xs := xs) Hsj.out)
          have hbb := hbr.trans (hbi.mono hbr.size)
          have hsw := Hso.out.below hbi
          have HSW := Lib.hid hsw
          clear hsw
          by_cases hgt : q2 < q
          · have HT : Hid ((s, q) = shiftTo xs (j + 1)) := by rw [Hid, HS.out, ← Hq.out]; unfold shiftStep; rw [if_pos (by rw [← HE.out]; exact hgt), ← HE.out]
            go_wp2
            go_roundg (5 - (j + 1))
            case measure => have := Hgk.out; omega
            case rel => exact ⟨j + 1, s, q, by omega, rfl, by go_num, rfl, rfl, HT.out, hbb, HSW.out⟩
          · have HT : Hid ((q1, q2) = shiftTo xs (j + 1)) := by rw [Hid, HS.out, ← Hq.out]; unfold shiftStep; rw [if_neg (by rw [← HE.out]; exact hgt)]
            go_wp2
            go_roundg (5 - (j + 1))
            case measure => have := Hgk.out; omega
            case rel => exact ⟨j + 1, q1, q2, by omega, rfl, by go_num, rfl, rfl, HT.out, hbb, HSW.out⟩
    · have hj5 : j = 5 := by omega
      subst hj5
      have HE : Hid ((q1, q2) = bestF xs) := Hq.out
      go_wp2
      go_ret3
      exact Ret.iii (by simp only [bestA, HV.out, ← HE.out, if_true]) (by simp only [bestM, HV.out, ← HE.out, if_true]) (by simp only [bestC, HV.out, if_true]) (hb1.trans (hbr.mono hb1.size))

end Go.Proofs.Ytlfnkgfkimanaaa
