/- The cells that are reached, and ReachedBy on both sides. -/
import Derived.Test.YthlgfmdlecdchaaBase
import Derived.Test.YthlgfmdlecdchaaMem
import Derived.Test.YthlgfmdlecdchaaTInt64
import Derived.Test.YthlgfmdlecdchaaWithin
import Derived.Test.YthlgfmdlecdchaaTGrid
import Derived.Test.YthlgfmdlecdchaaGrids
import Derived.Test.YthlgfmdlecdchaaWays
import Derived.Test.YthlgfmdlecdchaaSpecGo
import Derived.Test.YthlgfmdlecdchaaPush2
import Derived.Test.YthlgfmdlecdchaaSpecWays
import Derived.Test.YthlgfmdlecdchaaRunCode
import Derived.Test.YthlgfmdlecdchaaRunCode2
import Derived.Test.YthlgfmdlecdchaaRunP
import Derived.Test.YthlgfmdlecdchaaRunQ
import Derived.Test.YthlgfmdlecdchaaArr
import Derived.Test.YthlgfmdlecdchaaRunL
import Derived.Test.YthlgfmdlecdchaaSpecStep
import Derived.Test.YthlgfmdlecdchaaImplRoute
import Derived.Test.YthlgfmdlecdchaaArr2
import Derived.Test.YthlgfmdlecdchaaSpecRun
import Derived.Test.YthlgfmdlecdchaaImplRun
import Derived.Test.YthlgfmdlecdchaaRunA
namespace Go.Proofs.Ythlgfmdlecdchaa
open Go.RowKit

def reachT (ts : List Int) (k : Nat) : List Int := ((List.range k).filter fun c => decide (0 ≤ ts.getD c 0)).map fun c : Nat => (c : Int)
theorem reachT_yes {ts : List Int} {k : Nat} {t : Int} (h : ts[k]? = some t) (ht : 0 ≤ t) : reachT ts (k + 1) = reachT ts k ++ [(k : Int)] := by
  have e : ts.getD k 0 = t := by rw [List.getD_eq_getElem?_getD, h]; rfl
  have e2 : decide (0 ≤ ts.getD k 0) = true := by rw [e]; exact decide_eq_true ht
  unfold reachT; rw [List.range_succ, List.filter_append, List.map_append, List.filter_cons, if_pos e2]; rfl
theorem reachT_no {ts : List Int} {k : Nat} {t : Int} (h : ts[k]? = some t) (ht : ¬ 0 ≤ t) : reachT ts (k + 1) = reachT ts k := by
  have e : ts.getD k 0 = t := by rw [List.getD_eq_getElem?_getD, h]; rfl
  have e2 : ¬ decide (0 ≤ ts.getD k 0) = true := by rw [e, decide_eq_true_eq]; exact ht
  unfold reachT; rw [List.range_succ, List.filter_append, List.map_append, List.filter_cons, if_neg e2]; simp
theorem reachT_len (ts : List Int) (k : Nat) : (reachT ts k).length ≤ k := by
  unfold reachT; rw [List.length_map]; exact Nat.le_trans (List.length_filter_le _ _) (by simp)
theorem reachT_mem {ts : List Int} {k : Nat} {x : Int} (h : x ∈ reachT ts k) : ∃ c : Nat, x = c ∧ c < k ∧ 0 ≤ ts.getD c 0 := by
  unfold reachT at h
  obtain ⟨c, hc, rfl⟩ := List.mem_map.1 h
  rw [List.mem_filter, List.mem_range, decide_eq_true_eq] at hc
  exact ⟨c, rfl, hc.1, hc.2⟩
def reachL (g : Grid) (ms : List Int) (fr : Int) : List Int := reachT (stT g fr ms (runN g fr ms)).times ms.length
def reachA (g : Grid) (ms : List Int) (fr : Int) : List Int := if runC g ms fr = 0 then reachL g ms fr else []
theorem runOk_n64 {g : Grid} {ms : List Int} {fr : Int} (h : RunOk g ms fr) : 1 ≤ ms.length ∧ ms.length ≤ 64 := by
  have hp := gridB_parts h.grid
  have hm := (mul_i64 hp.1 hp.2.1).2.2
  have h4 : 1 ≤ g.rows * g.columns := by
    have := Int.mul_le_mul hp.1.1 hp.2.1.1 (by omega) (by omega)
    omega
  have := hp.2.2.2.1
  have := h.len
  omega
theorem reachA_len (g : Grid) (ms : List Int) (fr : Int) : (reachA g ms fr).length ≤ 1048576 := by
  unfold reachA
  by_cases h : runC g ms fr = 0
  · rw [if_pos h]
    have := reachT_len (stT g fr ms (runN g fr ms)).times ms.length
    have := runOk_n64 (runC_zero h)
    unfold reachL
    omega
  · rw [if_neg h]; simp
theorem times_len {g : Grid} {ms : List Int} {fr : Int} (h : RunOk g ms fr) (j : Nat) : (stT g fr ms j).times.length = ms.length := (stT_ok (fr := fr) h.grid h.len h.f1 h.pos j).l3
set_option maxHeartbeats 1000000 in
theorem reached_any (U : Option Addr) (m cu : Nat) (s : Int) (A : Option Addr) (n c : Nat) (ts : List Int) (w : World) (hx : SliceOf w 1 i64cells A n ts) (hn : n ≤ 64) :
    Calls Try.prog 39 #[.agg #[.slice U m cu, .int .i64 s, .slice A n c]] w (RetL 2 1 i64cells (reachT ts n) w) := by
  have hB : Below w.heap.size w (w.alloc (.cells #[.slice U m cu, .int .i64 s, .slice A n c] 63)) := (Below.refl _ _).alloc (Nat.le_refl _) _
  have HB := Lib.hid hB
  have HX := Lib.hid (hx.below hB)
  have HL := Lib.hid hx.len
  clear hx hB
  go_enter Try.func39, Try.ntmps39
  go_wp2
  obtain ⟨w0, hw0⟩ : ∃ w0, w.alloc (.cells #[.slice U m cu, .int .i64 s, .slice A n c] 63) = w0 := ⟨_, rfl⟩
  rw [hw0] at HB HX
  rw [hw0]
  clear hw0
  go_loopg [9, 3] n (fun gk i u wr => ∃ (k : Nat) (v : Value), k ≤ n ∧ gk = n - k ∧ i = .int .i64 k ∧ v = u ∧ Below w0.heap.size w0 wr ∧ OwnsL wr w0.heap.size 2 1 i64cells v (reachT ts k))
  case atStart => exact ⟨0, _, Nat.zero_le _, rfl, rfl, rfl, Below.refl _ _, OwnsL.nil_ _ _ _ _ _⟩
  case round =>
    obtain ⟨k, v, hk, hgk, rfl, rfl, hb, hown⟩ := hrel
    have Hgk := Lib.hid hgk
    have HOW := Lib.hid hown
    have HBB := Lib.hid hb
    clear hgk hown
    by_cases hlt : k < n
    · obtain ⟨b1, o1, t, rfl, hb1, hxk, x0⟩ := ints_at (HX.out.below hb) hlt
      by_cases ht : 0 ≤ t
      · have HT := Lib.hid (reachT_yes hxk ht)
        clear hxk
        go_wp2_with (at_builtin; refine wpList_push (by rfl) (.tmp 16) (.tmp 18) 24 (by rfl) w0.heap.size 2 1 Try.underlying24 infoI64 (by rfl) (by decide) i64cells i64cells_len i64cells_one _ v _ (k : Int) (by rfl) (by rfl) HOW.out (by rfl) (by have := reachT_len ts k; omega) (by decide) HBB.out.size ?_)
        intro v' w' hown' hb' _
        have HW : Hid (OwnsL w' w0.heap.size 2 1 i64cells v' (reachT ts (k + 1))) := by rw [Hid, HT.out]; exact hown'
        have HBW := Lib.hid (HBB.out.trans hb')
        clear hown' hb'
        go_wp2
        go_roundg (n - (k + 1))
        case measure => have := Hgk.out; omega
        case rel => exact ⟨k + 1, v', by omega, rfl, by go_num, rfl, HBW.out, HW.out⟩
      · have hd : decide (0 ≤ t) = false := decide_eq_false ht
        have HT := Lib.hid (reachT_no hxk ht)
        clear hxk
        go_wp2
        go_roundg (n - (k + 1))
        case measure => have := Hgk.out; omega
        case rel => exact ⟨k + 1, v, by omega, rfl, by go_num, rfl, HBB.out, by rw [HT.out]; exact HOW.out⟩
    · have hkn : k = n := by omega
      subst hkn
      go_wp2
      go_ret
      exact RetP.mk (HOW.out.rebase HB.out.size) (HB.out.trans (hb.mono HB.out.size))
set_option maxHeartbeats 1000000 in
theorem l13Reached_any (g : GridR) (bg offg : Nat) (B : Option Addr) (n d : Nat) (ms : List Int) (fr : Int) (w : World) (hgi : g.In w) (hk : RunOk g.val ms fr) (hr : SliceOf w 1 i64cells B n ms) (hbg0 : bg < w.heap.size)
    (g0 : w.cell? ⟨bg, offg, none⟩ = some (.int .i64 g.rows)) (g1 : w.cell? ⟨bg, offg + 1, none⟩ = some (.int .i64 g.columns)) (g2 : w.cell? ⟨bg, offg + 2, none⟩ = some (.int .i64 g.size)) (g3 : w.cell? ⟨bg, offg + 3, none⟩ = some (.slice g.heightsA g.heightsN g.heightsC)) :
    Calls Try.prog 35 #[.pointer (some ⟨bg, offg, none⟩), .slice B n d, .int .i64 fr] w (RetL 2 1 i64cells (reachL g.val ms fr) w) := by
  have HK := Lib.hid hk
  have hn64 : n ≤ 64 := by rw [← hr.len]; exact (runOk_n64 hk).2
  have HLn := Lib.hid hr.len
  have HC := l13Run_any g bg offg B n d ms fr w hgi hk.grid hr (by rw [← hr.len, hk.len]; exact hgi.1.len) hk.f1 hk.pos hk.sum hbg0 g0 g1 g2 g3
  clear hgi hk hr g0 g1 g2 g3
  go_enter Try.func35, Try.ntmps35
  go_wp2_with fail
  refine HC.mono ?_
  rintro e w1 ⟨u, v, rfl, hu, hv, hb1⟩
  obtain ⟨ts, hts⟩ : ∃ ts, (stT g.val fr ms (runN g.val fr ms)).times = ts := ⟨_, rfl⟩
  have htl : ts.length = n := by rw [← hts, times_len HK.out, HLn.out]
  have HE : Hid (reachL g.val ms fr = reachT ts n) := by rw [Hid]; unfold reachL; rw [hts, HLn.out]
  rw [hts] at hv
  obtain ⟨A, c, rfl, _, _, hs⟩ := hv.slice i64cells_len
  rw [htl] at hs ⊢
  have HSL := Lib.hid hs
  have HB1 := Lib.hid hb1
  clear HC hu hv hts htl hs hb1
  go_wp2
  obtain ⟨w0, hw0⟩ : ∃ w0, w1.alloc (.cells #[] 2) = w0 := ⟨_, rfl⟩
  have hBx : Below w1.heap.size w1 w0 := by rw [← hw0]; exact (Below.refl _ _).alloc (Nat.le_refl _) _
  have hOx : OwnsL w0 w1.heap.size 2 1 i64cells (.slice (some ⟨w1.heap.size, 0, none⟩) 0 0) (reachT ts 0) := by rw [← hw0]; exact OwnsL.made _ _ _ _ _ (Nat.le_refl _)
  rw [hw0]
  have HBX := Lib.hid hBx
  have HOX := Lib.hid hOx
  clear hw0 hBx hOx
  go_loopg [11, 10] n (fun gk i u wr => ∃ (k : Nat) (v : Value), k ≤ n ∧ gk = n - k ∧ i = .int .i64 k ∧ v = u ∧ Below w1.heap.size w1 wr ∧ OwnsL wr w1.heap.size 2 1 i64cells v (reachT ts k))
  case atStart => exact ⟨0, _, Nat.zero_le _, rfl, rfl, rfl, HBX.out, HOX.out⟩
  case round =>
    obtain ⟨k, v, hk, hgk, rfl, rfl, hb, hown⟩ := hrel
    have Hgk := Lib.hid hgk
    have HOW := Lib.hid hown
    have HBB := Lib.hid hb
    clear hgk hown
    by_cases hlt : k < n
    · obtain ⟨b1, o1, t, rfl, hb1, hxk, x0⟩ := ints_at (HSL.out.below hb) hlt
      by_cases ht : 0 ≤ t
      · have HT := Lib.hid (reachT_yes hxk ht)
        clear hxk
        go_wp2_with (at_builtin; refine wpList_push (by rfl) (.tmp 32) (.tmp 34) 24 (by rfl) w1.heap.size 2 1 Try.underlying24 infoI64 (by rfl) (by decide) i64cells i64cells_len i64cells_one _ v _ (k : Int) (by rfl) (by rfl) HOW.out (by rfl) (by have := reachT_len ts k; omega) (by decide) HBB.out.size ?_)
        intro v' w' hown' hb' _
        have HW : Hid (OwnsL w' w1.heap.size 2 1 i64cells v' (reachT ts (k + 1))) := by rw [Hid, HT.out]; exact hown'
        have HBW := Lib.hid (HBB.out.trans hb')
        clear hown' hb'
        go_wp2
        go_roundg (n - (k + 1))
        case measure => have := Hgk.out; omega
        case rel => exact ⟨k + 1, v', by omega, rfl, by go_num, rfl, HBW.out, HW.out⟩
      · have hd : decide (0 ≤ t) = false := decide_eq_false ht
        have HT := Lib.hid (reachT_no hxk ht)
        clear hxk
        go_wp2
        go_roundg (n - (k + 1))
        case measure => have := Hgk.out; omega
        case rel => exact ⟨k + 1, v, by omega, rfl, by go_num, rfl, HBB.out, by rw [HT.out]; exact HOW.out⟩
    · have hkn : k = n := by omega
      subst hkn
      go_wp2
      go_ret
      exact RetP.mk (by rw [HE.out]; exact HOW.out.rebase HB1.out.size) (HB1.out.trans (hb.mono HB1.out.size))

end Go.Proofs.Ythlgfmdlecdchaa
