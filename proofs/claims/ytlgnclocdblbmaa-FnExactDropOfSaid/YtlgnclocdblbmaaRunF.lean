/- DropOf on both sides. -/
import Derived.Test.YtlgnclocdblbmaaRunE
namespace Go.Proofs.Ytlgnclocdblbmaa
open Go.RowKit

def topT (g : Grid) (ms : List Int) (k : Nat) : Int := (List.range k).foldl (fun t c => if 0 < ms.getD c 0 then max t (ht g (c : Int)) else t) 0
theorem topT_yes {g : Grid} {ms : List Int} {k : Nat} {m : Int} (h : ms[k]? = some m) (hm : 0 < m) : topT g ms (k + 1) = max (topT g ms k) (ht g (k : Int)) := by
  unfold topT; rw [List.range_succ, List.foldl_append, List.foldl_cons, List.foldl_nil, show ms.getD k 0 = m by rw [List.getD_eq_getElem?_getD, h]; rfl, if_pos hm]
theorem topT_no {g : Grid} {ms : List Int} {k : Nat} {m : Int} (h : ms[k]? = some m) (hm : ¬ 0 < m) : topT g ms (k + 1) = topT g ms k := by
  unfold topT; rw [List.range_succ, List.foldl_append, List.foldl_cons, List.foldl_nil, show ms.getD k 0 = m by rw [List.getD_eq_getElem?_getD, h]; rfl, if_neg hm]
def dropA (g : Grid) (ms : List Int) (fr : Int) : Int := if lowK g ms fr = 0 then topT g ms ms.length - ht g (lowA g ms fr) else 0
set_option maxHeartbeats 2000000 in
theorem implDropOf_any (g : GridR) (B : Option Addr) (n d : Nat) (ms : List Int) (fr : Int) (w : World) (hgi : g.In w) (hr : SliceOf w 1 i64cells B n ms) :
    Calls Try.prog 38 #[.agg #[.int .i64 g.rows, .int .i64 g.columns, .int .i64 g.size, .slice g.heightsA g.heightsN g.heightsC], .slice B n d, .int .i64 fr] w (Ret (.tuple #[.int .i64 (dropA g.val ms fr), .int .i64 (lowK g.val ms fr)]) w) := by
  have hnle := hr.le
  have hgn := hgi.1.le
  have hB : Below w.heap.size w (w.alloc (.cells #[.int .i64 g.rows, .int .i64 g.columns, .int .i64 g.size, .slice g.heightsA g.heightsN g.heightsC] 29)) := (Below.refl _ _).alloc (Nat.le_refl _) _
  have HO := Lib.hid (Own.new w 29 #[.int .i64 g.rows, .int .i64 g.columns, .int .i64 g.size, .slice g.heightsA g.heightsN g.heightsC])
  have HB := Lib.hid hB
  have HI := Lib.hid (hgi.below hB)
  have HR := Lib.hid (hr.below hB)
  have HLn := Lib.hid hr.len
  clear hgi hB hr
  have y0 := HO.out.cell 0
  have y1 := HO.out.cell 1
  have y2 := HO.out.cell 2
  have y3 := HO.out.cell 3
  by_cases hc : lowK g.val ms fr = 0
  · have HK2 := Lib.hid hc
    have hne : (lowK g.val ms fr != 0) = false := by simp [hc]
    have hc0 : runC g.val ms fr = 0 ∧ reachL g.val ms fr ≠ [] := by
      unfold lowK at hc
      by_cases h : runC g.val ms fr = 0
      · rw [if_pos h] at hc
        refine ⟨h, fun e => ?_⟩
        rw [if_pos e] at hc; cases hc
      · rw [if_neg h] at hc; exact absurd hc h
    have HK := Lib.hid (runC_zero hc0.1)
    have HnN : Hid (n = g.heightsN) := HK.out.n HI.out HR.out
    obtain ⟨b, hlo, hbN⟩ : ∃ b : Nat, lowA g.val ms fr = b ∧ b < g.heightsN := by
      rcases lowT_nn (g := g.val) (reachL_in HI.out HK.out) with ⟨h, _⟩ | ⟨_, b, h, hN⟩
      · exact absurd h hc0.2
      · exact ⟨b, by unfold lowA; rw [if_pos hc0.1, if_neg hc0.2, h], hN⟩
    have HA2 := Lib.hid hlo
    obtain ⟨H2, hH2⟩ : ∃ H2, ht g.val b = H2 := ⟨_, rfl⟩
    have HH2 := Lib.hid hH2
    clear hc hc0 hlo hH2
    go_enter Try.func38, Try.ntmps38
    go_wp2_with fail
    refine (implLowestOf_any g _ n d ms fr _ HI.out HR.out).mono ?_
    rintro e w2 ⟨rfl, hb2⟩
    rw [HA2.out, HK2.out]
    have HO2 := Lib.hid (HO.out.below' hb2)
    have HI2 := Lib.hid (HI.out.below hb2)
    have HR2 := Lib.hid (HR.out.below hb2)
    have HB2 := Lib.hid (HB.out.trans (hb2.mono HB.out.size))
    clear hb2 y0 y1 y2 y3
    go_wp2
    go_loopg [25, 10] n (fun gk i tt wr => ∃ (k : Nat) (q : Int), k ≤ n ∧ gk = n - k ∧ i = .int .i64 k ∧ tt = .int .i64 q ∧ topT g.val ms k = q ∧ 0 ≤ q ∧ q ≤ 5000 ∧ Below w2.heap.size w2 wr)
    case atStart => exact ⟨0, 0, Nat.zero_le _, rfl, rfl, rfl, rfl, by omega, by omega, Below.refl _ _⟩
    case round =>
      obtain ⟨k, q, hk, hgk, rfl, rfl, hq, hq0, hq1, hb⟩ := hrel
      have Hgk := Lib.hid hgk
      have HQ := Lib.hid hq
      have HBB := Lib.hid hb
      clear hgk hq
      by_cases hlt : k < n
      · obtain ⟨b1, o1, m, rfl, hb1, hm, m0⟩ := ints_at (HR2.out.below hb) hlt
        have hkN : k < g.heightsN := by rw [← HnN.out]; exact hlt
        by_cases hmp : 0 < m
        · obtain ⟨b3, o3, hA, hb3, hc3, hh0, hh1⟩ := hts_at (HI2.out.below hb) HK.out.grid hkN
          have HT := Lib.hid (topT_yes (g := g.val) hm hmp)
          obtain ⟨H1, hH1⟩ : ∃ H1, ht g.val k = H1 := ⟨_, rfl⟩
          rw [hH1] at hc3 hh0 hh1 HT
          have y3 : wr.cell? ⟨w.heap.size, 3, none⟩ = some (.slice (some ⟨b3, o3, none⟩) g.heightsN g.heightsC) := by rw [← hA]; exact (HO2.out.below' hb).cell 3
          clear hm hA hH1
          rcases Int.lt_trichotomy q H1 with hh | hh | hh
          · go_wp2
            go_roundg (n - (k + 1))
            case measure => have := Hgk.out; omega
            case rel => exact ⟨k + 1, H1, by omega, rfl, by go_num, rfl, by rw [HT.out, HQ.out]; omega, by omega, by omega, HBB.out⟩
          · subst hh
            go_wp2
            go_roundg (n - (k + 1))
            case measure => have := Hgk.out; omega
            case rel => exact ⟨k + 1, q, by omega, rfl, by go_num, rfl, by rw [HT.out, HQ.out]; omega, by omega, by omega, HBB.out⟩
          · go_wp2
            go_roundg (n - (k + 1))
            case measure => have := Hgk.out; omega
            case rel => exact ⟨k + 1, q, by omega, rfl, by go_num, rfl, by rw [HT.out, HQ.out]; omega, by omega, by omega, HBB.out⟩
        · have hd : decide (0 < m) = false := decide_eq_false hmp
          have HT := Lib.hid (topT_no (g := g.val) hm hmp)
          clear hm
          go_wp2
          go_roundg (n - (k + 1))
          case measure => have := Hgk.out; omega
          case rel => exact ⟨k + 1, q, by omega, rfl, by go_num, rfl, by rw [HT.out, HQ.out], hq0, hq1, HBB.out⟩
      · have hkn : k = n := by omega
        subst hkn
        have HE : Hid (dropA g.val ms fr = q - H2) := by rw [Hid]; unfold dropA; rw [HK2.out, if_pos rfl, HLn.out, HQ.out, HA2.out, HH2.out]
        obtain ⟨b4, o4, hA', hb4, hc4, hh2, hh3⟩ := hts_at (HI2.out.below hb) HK.out.grid hbN
        rw [HH2.out] at hc4 hh2 hh3
        have y3 : wr.cell? ⟨w.heap.size, 3, none⟩ = some (.slice (some ⟨b4, o4, none⟩) g.heightsN g.heightsC) := by rw [← hA']; exact (HO2.out.below' hb).cell 3
        clear hA'
        go_wp2
        go_ret2
        exact Ret.ii HE.out.symm HK2.out.symm (HB2.out.trans (hb.mono HB2.out.size))
  · have HC := Lib.hid hc
    have hne : (lowK g.val ms fr != 0) = true := by simp [hc]
    have HE : Hid (dropA g.val ms fr = 0) := by rw [Hid]; unfold dropA; rw [if_neg hc]
    clear hc
    go_enter Try.func38, Try.ntmps38
    go_wp2_with fail
    refine (implLowestOf_any g _ n d ms fr _ HI.out HR.out).mono ?_
    rintro e w2 ⟨rfl, hb2⟩
    have HB2 := Lib.hid (HB.out.trans (hb2.mono HB.out.size))
    clear hb2 y0 y1 y2 y3
    go_wp2
    go_ret2
    exact Ret.ii HE.out.symm rfl HB2.out
set_option maxHeartbeats 2000000 in
theorem specDropOf_any (g : GridR) (B : Option Addr) (n d : Nat) (ms : List Int) (fr : Int) (w : World) (hgi : g.In w) (hr : SliceOf w 1 i64cells B n ms) :
    Calls Try.prog 37 #[.agg #[.int .i64 g.rows, .int .i64 g.columns, .int .i64 g.size, .slice g.heightsA g.heightsN g.heightsC], .slice B n d, .int .i64 fr] w (Ret (.tuple #[.int .i64 (dropA g.val ms fr), .int .i64 (lowK g.val ms fr)]) w) := by
  have hnle := hr.le
  have hgn := hgi.1.le
  have hB : Below w.heap.size w (w.alloc (.cells #[.int .i64 g.rows, .int .i64 g.columns, .int .i64 g.size, .slice g.heightsA g.heightsN g.heightsC] 29)) := (Below.refl _ _).alloc (Nat.le_refl _) _
  have HO := Lib.hid (Own.new w 29 #[.int .i64 g.rows, .int .i64 g.columns, .int .i64 g.size, .slice g.heightsA g.heightsN g.heightsC])
  have HB := Lib.hid hB
  have HI := Lib.hid (hgi.below hB)
  have HR := Lib.hid (hr.below hB)
  have HLn := Lib.hid hr.len
  clear hgi hB hr
  by_cases hc : runC g.val ms fr = 0
  · have hne : (runC g.val ms fr != 0) = false := by simp [hc]
    have HC := Lib.hid hc
    have HK := Lib.hid (runC_zero hc)
    have HnN : Hid (n = g.heightsN) := HK.out.n HI.out HR.out
    have HIN := Lib.hid (reachL_in HI.out HK.out)
    clear hc
    go_enter Try.func37, Try.ntmps37
    go_wp2_with fail
    refine (l13Ask_any g w.heap.size 0 _ _ _ ms fr _ HI.out HR.out (by simp) (HO.out.cell 0) (HO.out.cell 1) (HO.out.cell 2) (HO.out.cell 3)).mono ?_
    rintro e w1 ⟨rfl, hb1⟩
    have hO1 := Lib.hid (HO.out.below' hb1)
    have hI1 := Lib.hid (HI.out.below hb1)
    have hR1 := Lib.hid (HR.out.below hb1)
    have hB1 := Lib.hid (HB.out.trans (hb1.mono HB.out.size))
    clear hb1
    go_wp2_with fail
    refine (l13Reached_any g w.heap.size 0 _ n d ms fr _ hI1.out HK.out hR1.out hO1.out.lt (hO1.out.cell 0) (hO1.out.cell 1) (hO1.out.cell 2) (hO1.out.cell 3)).mono ?_
    rintro e w2 ⟨v, rfl, hv, hb2⟩
    obtain ⟨cs, hcs⟩ : ∃ cs, reachL g.val ms fr = cs := ⟨_, rfl⟩
    rw [hcs] at hv HIN
    obtain ⟨A, c, rfl, _, _, hs⟩ := hv.slice i64cells_len
    obtain ⟨m, hm⟩ : ∃ m, cs.length = m := ⟨_, rfl⟩
    rw [hm] at hs ⊢
    have HSL := Lib.hid hs
    have HM := Lib.hid hm
    have HCS := Lib.hid hcs
    have HB2 := Lib.hid (hB1.out.trans (hb2.mono hB1.out.size))
    have HI2 := Lib.hid (hI1.out.below hb2)
    have HR2 := Lib.hid (hR1.out.below hb2)
    have HO2 := Lib.hid (hO1.out.below' hb2)
    clear hv hb2 hcs hs hm
    by_cases h0 : m = 0
    · subst h0
      have hnil : cs = [] := List.eq_nil_of_length_eq_zero HM.out
      have HK2 : Hid (lowK g.val ms fr = 3) := by rw [Hid]; unfold lowK; rw [if_pos HC.out, HCS.out, if_pos hnil]
      have HE : Hid (dropA g.val ms fr = 0) := by rw [Hid]; unfold dropA; rw [HK2.out, if_neg (by omega)]
      clear hnil
      go_wp2
      go_ret2
      exact Ret.ii HE.out.symm HK2.out.symm HB2.out
    have hnil : cs ≠ [] := fun e => h0 (by rw [← HM.out, e]; rfl)
    have HK2 : Hid (lowK g.val ms fr = 0) := by rw [Hid]; unfold lowK; rw [if_pos HC.out, HCS.out, if_neg hnil]
    obtain ⟨b, hlo, hbN⟩ : ∃ b : Nat, lowT g.val cs = b ∧ b < g.heightsN := by
      rcases lowT_nn (g := g.val) HIN.out with ⟨h, _⟩ | ⟨_, b, h, hN⟩
      · exact absurd h hnil
      · exact ⟨b, h, hN⟩
    have HA2 : Hid (lowA g.val ms fr = b) := by rw [Hid]; unfold lowA; rw [if_pos HC.out, HCS.out, if_neg hnil, hlo]
    have HLO := Lib.hid hlo
    obtain ⟨H2, hH2⟩ : ∃ H2, ht g.val b = H2 := ⟨_, rfl⟩
    have HH2 := Lib.hid hH2
    have hd3 : decide ((m : Int) = 0) = false := decide_eq_false (by omega)
    have hd4 : ((m : Int) == 0) = false := by simp; omega
    have hm0 : 0 < m := by omega
    clear hnil h0 hlo hH2
    go_wp2
    go_loopg [10, 11] n (fun gk tt i wr => ∃ (k : Nat) (q : Int), k ≤ n ∧ gk = n - k ∧ i = .int .i64 k ∧ tt = .int .i64 q ∧ topT g.val ms k = q ∧ 0 ≤ q ∧ q ≤ 5000 ∧ Below w2.heap.size w2 wr)
    case atStart => exact ⟨0, 0, Nat.zero_le _, rfl, rfl, rfl, rfl, by omega, by omega, Below.refl _ _⟩
    case round =>
      obtain ⟨k, q, hk, hgk, rfl, rfl, hq, hq0, hq1, hb⟩ := hrel
      have Hgk := Lib.hid hgk
      have HQ := Lib.hid hq
      have HBB := Lib.hid hb
      clear hgk hq
      by_cases hlt : k < n
      · obtain ⟨b1, o1, m, rfl, hb1, hm, m0⟩ := ints_at (HR2.out.below hb) hlt
        have hkN : k < g.heightsN := by rw [← HnN.out]; exact hlt
        by_cases hmp : 0 < m
        · obtain ⟨b3, o3, hA, hb3, hc3, hh0, hh1⟩ := hts_at (HI2.out.below hb) HK.out.grid hkN
          have HT := Lib.hid (topT_yes (g := g.val) hm hmp)
          obtain ⟨H1, hH1⟩ : ∃ H1, ht g.val k = H1 := ⟨_, rfl⟩
          rw [hH1] at hc3 hh0 hh1 HT
          have y3 : wr.cell? ⟨w.heap.size, 3, none⟩ = some (.slice (some ⟨b3, o3, none⟩) g.heightsN g.heightsC) := by rw [← hA]; exact (HO2.out.below' hb).cell 3
          clear hm hA hH1
          go_wp2_with (go_at_call 74; refine (l00Max_any _ _ _).mono ?_; rintro e w' ⟨rfl, rfl⟩)
          go_roundg (n - (k + 1))
          case measure => have := Hgk.out; omega
          case rel => exact ⟨k + 1, max q H1, by omega, rfl, by go_num, rfl, by rw [HT.out, HQ.out], by omega, by omega, HBB.out⟩
        · have hd : decide (0 < m) = false := decide_eq_false hmp
          have HT := Lib.hid (topT_no (g := g.val) hm hmp)
          clear hm
          go_wp2
          go_roundg (n - (k + 1))
          case measure => have := Hgk.out; omega
          case rel => exact ⟨k + 1, q, by omega, rfl, by go_num, rfl, by rw [HT.out, HQ.out], hq0, hq1, HBB.out⟩
      · have hkn : k = n := by omega
        subst hkn
        have HE : Hid (dropA g.val ms fr = q - H2) := by rw [Hid]; unfold dropA; rw [HK2.out, if_pos rfl, HLn.out, HQ.out, HA2.out, HH2.out]
        obtain ⟨b4, o4, hA', hb4, hc4, hh2, hh3⟩ := hts_at (HI2.out.below hb) HK.out.grid hbN
        rw [HH2.out] at hc4 hh2 hh3
        have y3 : wr.cell? ⟨w.heap.size, 3, none⟩ = some (.slice (some ⟨b4, o4, none⟩) g.heightsN g.heightsC) := by rw [← hA']; exact (HO2.out.below' hb).cell 3
        clear hA'
        have hcall : ∀ gg : Sub wr, Calls Try.prog 71 #[.pointer (some ⟨w.heap.size, 0, none⟩), .slice A m c] gg.val (Ret (.int .i64 b) gg.val) := fun gg => by
          have h := l13Lowest_any g w.heap.size 0 A m c cs gg.val ((HI2.out.below hb).below gg.below) HK.out.grid ((HSL.out.below hb).below gg.below) hm0 HIN.out ((HO2.out.below' hb).below' gg.below).lt (((HO2.out.below' hb).below' gg.below).cell 3)
          rw [HLO.out] at h
          exact h
        have hwl : w.heap.size < wr.heap.size := (HO2.out.below' hb).lt
        have hsub := fun (g : Sub wr) b o (h : b < wr.heap.size) => g.cell b o h
        go_wp2_with fail
        refine wp_region_sub (by kernel_rfl) (by kernel_rfl) ?_
        repeat (go_big_quiet_step (exact Calls.sub_of (hcall _)))
        refine wpQuiet_nil ?_
        intro wg hg
        have HBG := Lib.hid (HBB.out.trans (hg.mono HBB.out.size))
        clear hsub hcall y3 hc4 hg
        go_wp2
        go_ret2
        exact Ret.ii HE.out.symm HK2.out.symm (HB2.out.trans (HBG.out.mono HB2.out.size))
  · have HC := Lib.hid hc
    have hne : (runC g.val ms fr != 0) = true := by simp [hc]
    have HK1 : Hid (lowK g.val ms fr = runC g.val ms fr) := by rw [Hid]; unfold lowK; rw [if_neg hc]
    have HA1 : Hid (dropA g.val ms fr = 0) := by rw [Hid]; unfold dropA; rw [HK1.out, if_neg hc]
    clear hc
    go_enter Try.func37, Try.ntmps37
    go_wp2_with fail
    refine (l13Ask_any g w.heap.size 0 _ _ _ ms fr _ HI.out HR.out (by simp) (HO.out.cell 0) (HO.out.cell 1) (HO.out.cell 2) (HO.out.cell 3)).mono ?_
    rintro e w1 ⟨rfl, hb1⟩
    have hB1 := Lib.hid (HB.out.trans (hb1.mono HB.out.size))
    clear hb1
    go_wp2
    go_ret2
    exact Ret.ii HA1.out.symm HK1.out.symm hB1.out

end Go.Proofs.Ytlgnclocdblbmaa
