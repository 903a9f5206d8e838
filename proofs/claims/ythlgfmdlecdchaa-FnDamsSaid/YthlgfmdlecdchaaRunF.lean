/- DropOf on both sides. -/
import Derived.Test.YthlgfmdlecdchaaRunE
namespace Go.Proofs.Ythlgfmdlecdchaa
open Go.RowKit

def topT (g : Grid) (ms : List Int) (k : Nat) : Int := (List.range k).foldl (fun t c => if 0 < ms.getD c 0 then max t (ht g (c : Int)) else t) 0
theorem topT_yes {g : Grid} {ms : List Int} {k : Nat} {m : Int} (h : ms[k]? = some m) (hm : 0 < m) : topT g ms (k + 1) = max (topT g ms k) (ht g (k : Int)) := by
  unfold topT; rw [List.range_succ, List.foldl_append, List.foldl_cons, List.foldl_nil, show ms.getD k 0 = m by rw [List.getD_eq_getElem?_getD, h]; rfl, if_pos hm]
theorem topT_no {g : Grid} {ms : List Int} {k : Nat} {m : Int} (h : ms[k]? = some m) (hm : ¬ 0 < m) : topT g ms (k + 1) = topT g ms k := by
  unfold topT; rw [List.range_succ, List.foldl_append, List.foldl_cons, List.foldl_nil, show ms.getD k 0 = m by rw [List.getD_eq_getElem?_getD, h]; rfl, if_neg hm]
def dropA (g : Grid) (ms : List Int) (fr : Int) : Int := if lowK g ms fr = 0 then topT g ms ms.length - ht g (lowA g ms fr) else 0
set_option maxHeartbeats 2000000 in
theorem implDropOf_any (g : GridR) (B : Option Addr) (n d : Nat) (ms : List Int) (fr : Int) (w : World) (hgi : g.In w) (hr : SliceOf w 1 i64cells B n ms) :
    Calls Try.prog 12 #[.agg #[.int .i64 g.rows, .int .i64 g.columns, .int .i64 g.size, .slice g.heightsA g.heightsN g.heightsC], .slice B n d, .int .i64 fr] w (Ret (.tuple #[.int .i64 (dropA g.val ms fr), .int .i64 (lowK g.val ms fr)]) w) := by
  have hnle := hr.le
  have hgn := hgi.1.le
  have hB : Below w.heap.size w (w.alloc (.cells #[.int .i64 g.rows, .int .i64 g.columns, .int .i64 g.size, .slice g.heightsA g.heightsN g.heightsC] 26)) := (Below.refl _ _).alloc (Nat.le_refl _) _
  have HO := Lib.hid (Own.new w 26 #[.int .i64 g.rows, .int .i64 g.columns, .int .i64 g.size, .slice g.heightsA g.heightsN g.heightsC])
  have HB := Lib.hid hB
  have HI := Lib.hid (hgi.below hB)
  have HR := Lib.hid (hr.below hB)
  have HLn := Lib.hid hr.len
  clear hgi hB hr
  have y0 := HO.out.cell 0
  have y1 := HO.out.cell 1
  have y2 := HO.out.cell 2
  have y3 := HO.out.cell 3
  by_cases hc : lowK g.val ms fr = 0
  · have HK2 := Lib.hid hc
    have hne : (lowK g.val ms fr != 0) = false := by simp [hc]
    have hc0 : runC g.val ms fr = 0 ∧ reachL g.val ms fr ≠ [] := by
      unfold lowK at hc
      by_cases h : runC g.val ms fr = 0
      · rw [if_pos h] at hc
        refine ⟨h, fun e => ?_⟩
        rw [if_pos e] at hc; cases hc
      · rw [if_neg h] at hc; exact absurd hc h
    have HK := Lib.hid (runC_zero hc0.1)
    have HnN : Hid (n = g.heightsN) := HK.out.n HI.out HR.out
    obtain ⟨b, hlo, hbN⟩ : ∃ b : Nat, lowA g.val ms fr = b ∧ b < g.heightsN := by
      rcases lowT_nn (g := g.val) (reachL_in HI.out HK.out) with ⟨h, _⟩ | ⟨_, b, h, hN⟩
      · exact absurd h hc0.2
      · exact ⟨b, by unfold lowA; rw [if_pos hc0.1, if_neg hc0.2, h], hN⟩
    have HA2 := Lib.hid hlo
    obtain ⟨H2, hH2⟩ : ∃ H2, ht g.val b = H2 := ⟨_, rfl⟩
    have HH2 := Lib.hid hH2
    clear hc hc0 hlo hH2
    go_enter Try.func12, Try.ntmps12
    go_wp2_with fail
    refine (implLowestOf_any g _ n d ms fr _ HI.out HR.out).mono ?_
    rintro e w2 ⟨rfl, hb2⟩
    rw [HA2.out, HK2.out]
    have HO2 := Lib.hid (HO.out.below' hb2)
    have HI2 := Lib.hid (HI.out.below hb2)
    have HR2 := Lib.hid (HR.out.below hb2)
    have HB2 := Lib.hid (HB.out.trans (hb2.mono HB.out.size))
    clear hb2 y0 y1 y2 y3
    go_wp2
    go_loopg [25, 10] n (fun gk i tt wr => ∃ (k : Nat) (q : Int), k ≤ n ∧ gk = n - k ∧ i = .int .i64 k ∧ tt = .int .i64 q ∧ topT g.val ms k = q ∧ 0 ≤ q ∧ q ≤ 5000 ∧ Below w2.heap.size w2 wr)
    case atStart => exact ⟨0, 0, Nat.zero_le _, rfl, rfl, rfl, rfl, by omega, by omega, Below.refl _ _⟩
    case round =>
      obtain ⟨k, q, hk, hgk, rfl, rfl, hq, hq0, hq1, hb⟩ := hrel
      have Hgk := Lib.hid hgk
      have HQ := Lib.hid hq
      have HBB := Lib.hid hb
      clear hgk hq
      by_cases hlt : k < n
      · obtain ⟨b1, o1, m, rfl, hb1, hm, m0⟩ := ints_at (HR2.out.below hb) hlt
        have hkN : k < g.heightsN := by rw [← HnN.out]; exact hlt
        by_cases hmp : 0 < m
        · obtain ⟨b3, o3, hA, hb3, hc3, hh0, hh1⟩ := hts_at (HI2.out.below hb) HK.out.grid hkN
          have HT := Lib.hid (topT_yes (g := g.val) hm hmp)
          obtain ⟨H1, hH1⟩ : ∃ H1, ht g.val k = H1 := ⟨_, rfl⟩
          rw [hH1] at hc3 hh0 hh1 HT
          have y3 : wr.cell? ⟨w.heap.size, 3, none⟩ = some (.slice (some ⟨b3, o3, none⟩) g.heightsN g.heightsC) := by rw [← hA]; exact (HO2.out.below' hb).cell 3
          clear hm hA hH1
          rcases Int.lt_trichotomy q H1 with hh | hh | hh
          · go_wp2
            go_roundg (n - (k + 1))
            case measure => have := Hgk.out; omega
            case rel => exact ⟨k + 1, H1, by omega, rfl, by go_num, rfl, by rw [HT.out, HQ.out]; omega, by omega, by omega, HBB.out⟩
          · subst hh
            go_wp2
            go_roundg (n - (k + 1))
            case measure => have := Hgk.out; omega
            case rel => exact ⟨k + 1, q, by omega, rfl, by go_num, rfl, by rw [HT.out, HQ.out]; omega, by omega, by omega, HBB.out⟩
          · go_wp2
            go_roundg (n - (k + 1))
            case measure => have := Hgk.out; omega
            case rel => exact ⟨k + 1, q, by omega, rfl, by go_num, rfl, by rw [HT.out, HQ.out]; omega, by omega, by omega, HBB.out⟩
        · have hd : decide (0 < m) = false := decide_eq_false hmp
          have HT := Lib.hid (topT_no (g := g.val) hm hmp)
          clear hm
          go_wp2
          go_roundg (n - (k + 1))
          case measure => have := Hgk.out; omega
          case rel => exact ⟨k + 1, q, by omega, rfl, by go_num, rfl, by rw [HT.out, HQ.out], hq0, hq1, HBB.out⟩
      · have hkn : k = n := by omega
        subst hkn
        have HE : Hid (dropA g.val ms fr = q - H2) := by rw [Hid]; unfold dropA; rw [HK2.out, if_pos rfl, HLn.out, HQ.out, HA2.out, HH2.out]
        obtain ⟨b4, o4, hA', hb4, hc4, hh2, hh3⟩ := hts_at (HI2.out.below hb) HK.out.grid hbN
        rw [HH2.out] at hc4 hh2 hh3
        have y3 : wr.cell? ⟨w.heap.size, 3, none⟩ = some (.slice (some ⟨b4, o4, none⟩) g.heightsN g.heightsC) := by rw [← hA']; exact (HO2.out.below' hb).cell 3
        clear hA'
        go_wp2
        go_ret2
        exact Ret.ii HE.out.symm HK2.out.symm (HB2.out.trans (hb.mono HB2.out.size))
  · have HC := Lib.hid hc
    have hne : (lowK g.val ms fr != 0) = true := by simp [hc]
    have HE : Hid (dropA g.val ms fr = 0) := by rw [Hid]; unfold dropA; rw [if_neg hc]
    clear hc
    go_enter Try.func12, Try.ntmps12
    go_wp2_with fail
    refine (implLowestOf_any g _ n d ms fr _ HI.out HR.out).mono ?_
    rintro e w2 ⟨rfl, hb2⟩
    have HB2 := Lib.hid (HB.out.trans (hb2.mono HB.out.size))
    clear hb2 y0 y1 y2 y3
    go_wp2
    go_ret2
    exact Ret.ii HE.out.symm rfl HB2.out

end Go.Proofs.Ythlgfmdlecdchaa
