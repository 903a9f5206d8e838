/- The cells that are reached, and ReachedBy on both sides. ReachedBy on both sides. The lowest one of some cells, on both sides. LowestOf on both sides. FirstHit on both sides. -/
import Derived.Test.YtphapakhoibamaaGreatDoorBase
import Derived.Test.YtphapakhoibamaaGreatDoorMem
import Derived.Test.YtphapakhoibamaaGreatDoorTInt64
import Derived.Test.YtphapakhoibamaaGreatDoorWithin
import Derived.Test.YtphapakhoibamaaGreatDoorTGrid
import Derived.Test.YtphapakhoibamaaGreatDoorGrids
import Derived.Test.YtphapakhoibamaaGreatDoorWays
import Derived.Test.YtphapakhoibamaaGreatDoorSpecGo
import Derived.Test.YtphapakhoibamaaGreatDoorPush2
import Derived.Test.YtphapakhoibamaaGreatDoorSpecWays
import Derived.Test.YtphapakhoibamaaGreatDoorRunCode
import Derived.Test.YtphapakhoibamaaGreatDoorRunCode2
import Derived.Test.YtphapakhoibamaaGreatDoorRunP
import Derived.Test.YtphapakhoibamaaGreatDoorRunQ
import Derived.Test.YtphapakhoibamaaGreatDoorArr
import Derived.Test.YtphapakhoibamaaGreatDoorRunL
import Derived.Test.YtphapakhoibamaaGreatDoorSpecStep
import Derived.Test.YtphapakhoibamaaGreatDoorImplRoute
import Derived.Test.YtphapakhoibamaaGreatDoorArr2
import Derived.Test.YtphapakhoibamaaGreatDoorSpecRun
import Derived.Test.YtphapakhoibamaaGreatDoorImplRun
import Derived.Test.YtphapakhoibamaaGreatDoorRunA
import Derived.Deep.RegionHeld3
import Derived.Test.YtphapakhoibamaaGreatDoorTAsset
import Derived.Test.YtphapakhoibamaaGreatDoorAssets
import Derived.Test.YtphapakhoibamaaGreatDoorHits
import Derived.Test.YtphapakhoibamaaGreatDoorExposed
namespace Go.Proofs.YtphapakhoibamaaGreatDoor
open Go.RowKit

def reachT (ts : List Int) (k : Nat) : List Int := ((List.range k).filter fun c => decide (0 ≤ ts.getD c 0)).map fun c : Nat => (c : Int)
theorem reachT_yes {ts : List Int} {k : Nat} {t : Int} (h : ts[k]? = some t) (ht : 0 ≤ t) : reachT ts (k + 1) = reachT ts k ++ [(k : Int)] := by
  have e : ts.getD k 0 = t := by rw [List.getD_eq_getElem?_getD, h]; rfl
  have e2 : decide (0 ≤ ts.getD k 0) = true := by rw [e]; exact decide_eq_true ht
  unfold reachT; rw [List.range_succ, List.filter_append, List.map_append, List.filter_cons, if_pos e2]; rfl
theorem reachT_no {ts : List Int} {k : Nat} {t : Int} (h : ts[k]? = some t) (ht : ¬ 0 ≤ t) : reachT ts (k + 1) = reachT ts k := by
  have e : ts.getD k 0 = t := by rw [List.getD_eq_getElem?_getD, h]; rfl
  have e2 : ¬ decide (0 ≤ ts.getD k 0) = true := by rw [e, decide_eq_true_eq]; exact ht
  unfold reachT; rw [List.range_succ, List.filter_append, List.map_append, List.filter_cons, if_neg e2]; simp
theorem reachT_len (ts : List Int) (k : Nat) : (reachT ts k).length ≤ k := by
  unfold reachT; rw [List.length_map]; exact Nat.le_trans (List.length_filter_le _ _) (by simp)
theorem reachT_mem {ts : List Int} {k : Nat} {x : Int} (h : x ∈ reachT ts k) : ∃ c : Nat, x = c ∧ c < k ∧ 0 ≤ ts.getD c 0 := by
  unfold reachT at h
  obtain ⟨c, hc, rfl⟩ := List.mem_map.1 h
  rw [List.mem_filter, List.mem_range, decide_eq_true_eq] at hc
  exact ⟨c, rfl, hc.1, hc.2⟩
def reachL (g : Grid) (ms : List Int) (fr : Int) : List Int := reachT (stT g fr ms (runN g fr ms)).times ms.length
def reachA (g : Grid) (ms : List Int) (fr : Int) : List Int := if runC g ms fr = 0 then reachL g ms fr else []
theorem runOk_n64 {g : Grid} {ms : List Int} {fr : Int} (h : RunOk g ms fr) : 1 ≤ ms.length ∧ ms.length ≤ 64 := by
  have hp := gridB_parts h.grid
  have hm := (mul_i64 hp.1 hp.2.1).2.2
  have h4 : 1 ≤ g.rows * g.columns := by
    have := Int.mul_le_mul hp.1.1 hp.2.1.1 (by omega) (by omega)
    omega
  have := hp.2.2.2.1
  have := h.len
  omega
theorem reachA_len (g : Grid) (ms : List Int) (fr : Int) : (reachA g ms fr).length ≤ 1048576 := by
  unfold reachA
  by_cases h : runC g ms fr = 0
  · rw [if_pos h]
    have := reachT_len (stT g fr ms (runN g fr ms)).times ms.length
    have := runOk_n64 (runC_zero h)
    unfold reachL
    omega
  · rw [if_neg h]; simp
theorem times_len {g : Grid} {ms : List Int} {fr : Int} (h : RunOk g ms fr) (j : Nat) : (stT g fr ms j).times.length = ms.length := (stT_ok (fr := fr) h.grid h.len h.f1 h.pos j).l3
set_option maxHeartbeats 1000000 in
theorem l13Reached_any (g : GridR) (bg offg : Nat) (B : Option Addr) (n d : Nat) (ms : List Int) (fr : Int) (w : World) (hgi : g.In w) (hk : RunOk g.val ms fr) (hr : SliceOf w 1 i64cells B n ms) (hbg0 : bg < w.heap.size)
    (g0 : w.cell? ⟨bg, offg, none⟩ = some (.int .i64 g.rows)) (g1 : w.cell? ⟨bg, offg + 1, none⟩ = some (.int .i64 g.columns)) (g2 : w.cell? ⟨bg, offg + 2, none⟩ = some (.int .i64 g.size)) (g3 : w.cell? ⟨bg, offg + 3, none⟩ = some (.slice g.heightsA g.heightsN g.heightsC)) :
    Calls Tryz.prog 27 #[.pointer (some ⟨bg, offg, none⟩), .slice B n d, .int .i64 fr] w (RetL 2 1 i64cells (reachL g.val ms fr) w) := by
  have HK := Lib.hid hk
  have hn64 : n ≤ 64 := by rw [← hr.len]; exact (runOk_n64 hk).2
  have HLn := Lib.hid hr.len
  have HC := l13Run_any g bg offg B n d ms fr w hgi hk.grid hr (by rw [← hr.len, hk.len]; exact hgi.1.len) hk.f1 hk.pos hk.sum hbg0 g0 g1 g2 g3
  clear hgi hk hr g0 g1 g2 g3
  go_enter Tryz.func27, Tryz.ntmps27
  go_wp2_with fail
  refine HC.mono ?_
  rintro e w1 ⟨u, v, rfl, hu, hv, hb1⟩
  obtain ⟨ts, hts⟩ : ∃ ts, (stT g.val fr ms (runN g.val fr ms)).times = ts := ⟨_, rfl⟩
  have htl : ts.length = n := by rw [← hts, times_len HK.out, HLn.out]
  have HE : Hid (reachL g.val ms fr = reachT ts n) := by rw [Hid]; unfold reachL; rw [hts, HLn.out]
  rw [hts] at hv
  obtain ⟨A, c, rfl, _, _, hs⟩ := hv.slice i64cells_len
  rw [htl] at hs ⊢
  have HSL := Lib.hid hs
  have HB1 := Lib.hid hb1
  clear HC hu hv hts htl hs hb1
  go_wp2
  obtain ⟨w0, hw0⟩ : ∃ w0, w1.alloc (.cells #[] 2) = w0 := ⟨_, rfl⟩
  have hBx : Below w1.heap.size w1 w0 := by rw [← hw0]; exact (Below.refl _ _).alloc (Nat.le_refl _) _
  have hOx : OwnsL w0 w1.heap.size 2 1 i64cells (.slice (some ⟨w1.heap.size, 0, none⟩) 0 0) (reachT ts 0) := by rw [← hw0]; exact OwnsL.made _ _ _ _ _ (Nat.le_refl _)
  rw [hw0]
  have HBX := Lib.hid hBx
  have HOX := Lib.hid hOx
  clear hw0 hBx hOx
  go_loopg [11, 10] n (fun gk i u wr => ∃ (k : Nat) (v : Value), k ≤ n ∧ gk = n - k ∧ i = .int .i64 k ∧ v = u ∧ Below w1.heap.size w1 wr ∧ OwnsL wr w1.heap.size 2 1 i64cells v (reachT ts k))
  case atStart => exact ⟨0, _, Nat.zero_le _, rfl, rfl, rfl, HBX.out, HOX.out⟩
  case round =>
    obtain ⟨k, v, hk, hgk, rfl, rfl, hb, hown⟩ := hrel
    have Hgk := Lib.hid hgk
    have HOW := Lib.hid hown
    have HBB := Lib.hid hb
    clear hgk hown
    by_cases hlt : k < n
    · obtain ⟨b1, o1, t, rfl, hb1, hxk, x0⟩ := ints_at (HSL.out.below hb) hlt
      by_cases ht : 0 ≤ t
      · have HT := Lib.hid (reachT_yes hxk ht)
        clear hxk
        go_wp2_with (at_builtin; refine wpList_push (by rfl) (.tmp 32) (.tmp 34) 24 (by rfl) w1.heap.size 2 1 Tryz.underlying24 infoI64 (by rfl) (by decide) i64cells i64cells_len i64cells_one _ v _ (k : Int) (by rfl) (by rfl) HOW.out (by rfl) (by have := reachT_len ts k; omega) (by decide) HBB.out.size ?_)
        intro v' w' hown' hb' _
        have HW : Hid (OwnsL w' w1.heap.size 2 1 i64cells v' (reachT ts (k + 1))) := by rw [Hid, HT.out]; exact hown'
        have HBW := Lib.hid (HBB.out.trans hb')
        clear hown' hb'
        go_wp2
        go_roundg (n - (k + 1))
        case measure => have := Hgk.out; omega
        case rel => exact ⟨k + 1, v', by omega, rfl, by go_num, rfl, HBW.out, HW.out⟩
      · have hd : decide (0 ≤ t) = false := decide_eq_false ht
        have HT := Lib.hid (reachT_no hxk ht)
        clear hxk
        go_wp2
        go_roundg (n - (k + 1))
        case measure => have := Hgk.out; omega
        case rel => exact ⟨k + 1, v, by omega, rfl, by go_num, rfl, HBB.out, by rw [HT.out]; exact HOW.out⟩
    · have hkn : k = n := by omega
      subst hkn
      go_wp2
      go_ret
      exact RetP.mk (by rw [HE.out]; exact HOW.out.rebase HB1.out.size) (HB1.out.trans (hb.mono HB1.out.size))

end Go.Proofs.YtphapakhoibamaaGreatDoor

namespace Go.Proofs.YtphapakhoibamaaGreatDoor
open Go.RowKit

theorem RunOk.n {g : GridR} {w : World} {ms : List Int} {fr : Int} {B : Option Addr} {n : Nat} (hk : RunOk g.val ms fr) (hgi : g.In w) (hr : SliceOf w 1 i64cells B n ms) : n = g.heightsN := by
  rw [← hr.len, hk.len]; exact hgi.1.len
set_option maxHeartbeats 1000000 in
theorem specReachedBy_any (g : GridR) (B : Option Addr) (n d : Nat) (ms : List Int) (fr : Int) (w : World) (hgi : g.In w) (hr : SliceOf w 1 i64cells B n ms) :
    Calls Tryz.prog 9 #[.agg #[.int .i64 g.rows, .int .i64 g.columns, .int .i64 g.size, .slice g.heightsA g.heightsN g.heightsC], .slice B n d, .int .i64 fr] w (RetLT 2 1 i64cells (reachA g.val ms fr) [.int .i64 (runC g.val ms fr)] w) := by
  have hB : Below w.heap.size w (w.alloc (.cells #[.int .i64 g.rows, .int .i64 g.columns, .int .i64 g.size, .slice g.heightsA g.heightsN g.heightsC] 26)) := (Below.refl _ _).alloc (Nat.le_refl _) _
  have HO := Lib.hid (Own.new w 26 #[.int .i64 g.rows, .int .i64 g.columns, .int .i64 g.size, .slice g.heightsA g.heightsN g.heightsC])
  have HB := Lib.hid hB
  have HI := Lib.hid (hgi.below hB)
  have HR := Lib.hid (hr.below hB)
  have HLn := Lib.hid hr.len
  clear hgi hB hr
  by_cases hc : runC g.val ms fr = 0
  · have HC := Lib.hid hc
    have hne : (runC g.val ms fr != 0) = false := by simp [hc]
    have HK := Lib.hid (runC_zero hc)
    have HR1 : Hid (reachA g.val ms fr = reachL g.val ms fr) := by rw [Hid]; unfold reachA; rw [if_pos hc]
    clear hc
    go_enter Tryz.func9, Tryz.ntmps9
    go_wp2_with fail
    refine (l13Ask_any g w.heap.size 0 _ _ _ ms fr _ HI.out HR.out (by simp) (HO.out.cell 0) (HO.out.cell 1) (HO.out.cell 2) (HO.out.cell 3)).mono ?_
    rintro e w1 ⟨rfl, hb1⟩
    have hO1 := Lib.hid (HO.out.below' hb1)
    have hI1 := Lib.hid (HI.out.below hb1)
    have hR1 := Lib.hid (HR.out.below hb1)
    have hB1 := Lib.hid (HB.out.trans (hb1.mono HB.out.size))
    clear hb1
    go_wp2_with fail
    refine (l13Reached_any g w.heap.size 0 _ n d ms fr _ hI1.out HK.out hR1.out hO1.out.lt (hO1.out.cell 0) (hO1.out.cell 1) (hO1.out.cell 2) (hO1.out.cell 3)).mono ?_
    rintro e w2 ⟨v, rfl, hv, hb2⟩
    have HV := Lib.hid hv
    have HB2 := Lib.hid (hB1.out.trans (hb2.mono hB1.out.size))
    have HLE := Lib.hid hB1.out.size
    clear hv hb2
    go_wp2
    go_ret2
    exact ⟨_, by rw [HC.out]; rfl, by rw [HR1.out]; exact HV.out.rebase HLE.out, HB2.out⟩
  · have HC := Lib.hid hc
    have hne : (runC g.val ms fr != 0) = true := by simp [hc]
    have HR1 : Hid (reachA g.val ms fr = []) := by rw [Hid]; unfold reachA; rw [if_neg hc]
    clear hc
    go_enter Tryz.func9, Tryz.ntmps9
    go_wp2_with fail
    refine (l13Ask_any g w.heap.size 0 _ _ _ ms fr _ HI.out HR.out (by simp) (HO.out.cell 0) (HO.out.cell 1) (HO.out.cell 2) (HO.out.cell 3)).mono ?_
    rintro e w1 ⟨rfl, hb1⟩
    have hB1 := Lib.hid (HB.out.trans (hb1.mono HB.out.size))
    clear hb1
    go_wp2
    go_ret2
    exact ⟨_, rfl, by rw [HR1.out]; exact OwnsL.nil_ _ _ _ _ _, hB1.out⟩

end Go.Proofs.YtphapakhoibamaaGreatDoor

namespace Go.Proofs.YtphapakhoibamaaGreatDoor
open Go.RowKit

def lowF (g : Grid) (b c : Int) : Int := if b < 0 ∨ ht g c < ht g b then c else b
def lowT (g : Grid) (cs : List Int) : Int := cs.foldl (lowF g) (-1)
theorem lowT_snoc (g : Grid) (l : List Int) (y : Int) : lowT g (l ++ [y]) = lowF g (lowT g l) y := by unfold lowT; rw [List.foldl_append]; rfl
theorem lowF_mem (g : Grid) : ∀ (cs : List Int) (b : Int), cs.foldl (lowF g) b = b ∨ cs.foldl (lowF g) b ∈ cs
  | [], b => .inl rfl
  | c :: cs, b => by
    rw [List.foldl_cons]
    rcases lowF_mem g cs (lowF g b c) with h | h
    · rw [h]
      unfold lowF
      split
      · right; simp
      · left; rfl
    · right; simp [h]
theorem lowT_cons (g : Grid) (c : Int) (cs : List Int) : lowT g (c :: cs) = cs.foldl (lowF g) c := by
  unfold lowT; rw [List.foldl_cons]; congr 1
theorem lowT_mem (g : Grid) {cs : List Int} (h : cs ≠ []) : lowT g cs ∈ cs := by
  cases cs with
  | nil => exact absurd rfl h
  | cons c cs =>
    rw [lowT_cons]
    rcases lowF_mem g cs c with h | h
    · rw [h]; simp
    · simp [h]
theorem lowF_yes {g : Grid} {b : Nat} {y : Int} (h : ht g y < ht g b) : lowF g b y = y := by unfold lowF; rw [if_pos (Or.inr h)]
theorem lowF_no {g : Grid} {b : Nat} {y : Int} (h : ¬ ht g y < ht g b) : lowF g b y = b := by unfold lowF; rw [if_neg (by omega)]
theorem lowF_neg {g : Grid} {y : Int} : lowF g (-1) y = y := by unfold lowF; rw [if_pos (Or.inl (by omega))]

end Go.Proofs.YtphapakhoibamaaGreatDoor

namespace Go.Proofs.YtphapakhoibamaaGreatDoor
open Go.RowKit

def lowK (g : Grid) (ms : List Int) (fr : Int) : Int := if runC g ms fr = 0 then if reachL g ms fr = [] then 3 else 0 else runC g ms fr
def lowA (g : Grid) (ms : List Int) (fr : Int) : Int := if runC g ms fr = 0 then if reachL g ms fr = [] then 0 else lowT g (reachL g ms fr) else 0
theorem reachL_in {g : GridR} {w : World} {ms : List Int} {fr : Int} (hgi : g.In w) (hk : RunOk g.val ms fr) : ∀ x ∈ reachL g.val ms fr, ∃ c : Nat, x = c ∧ c < g.heightsN := fun x hx => by
  unfold reachL at hx
  obtain ⟨c, rfl, hc, _⟩ := reachT_mem hx
  exact ⟨c, rfl, by rw [hk.len, show g.val.heights.length = g.heightsN from hgi.1.len] at hc; exact hc⟩
theorem lowT_nn {g : Grid} {cs : List Int} {N : Nat} (hcs : ∀ x ∈ cs, ∃ c : Nat, x = c ∧ c < N) : (cs = [] ∧ lowT g cs = -1) ∨ (cs ≠ [] ∧ ∃ b : Nat, lowT g cs = b ∧ b < N) := by
  by_cases h : cs = []
  · left; subst h; exact ⟨rfl, rfl⟩
  · right
    obtain ⟨b, hb, hN⟩ := hcs _ (lowT_mem g h)
    exact ⟨h, b, hb, hN⟩
theorem RunOk.call {g : GridR} {w : World} {ms : List Int} {fr : Int} {B : Option Addr} {n d : Nat} (hk : RunOk g.val ms fr) (hgi : g.In w) (hr : SliceOf w 1 i64cells B n ms) : Calls Tryz.prog 38 #[.agg #[.int .i64 g.rows, .int .i64 g.columns, .int .i64 g.size, .slice g.heightsA g.heightsN g.heightsC], .slice B n d, .int .i64 fr] w (fun e w' => ∃ (AU : Option Addr) (m cu : Nat) (s : Int) (AV : Option Addr) (cv : Nat) (ts : List Int), e = .returned (.agg #[.slice AU m cu, .int .i64 s, .slice AV n cv]) ∧ SliceOf w' 1 i64cells AV n ts ∧ ts = (stT g.val fr ms (runN g.val fr ms)).times ∧ Below w.heap.size w w') := by
  refine (run_any g _ n d ms fr _ hgi hk.grid hr (hk.n hgi hr) hk.f1 hk.pos hk.sum).mono ?_
  rintro e w2 ⟨u, v, rfl, hu, hv, hb2⟩
  obtain ⟨AU, cU, rfl, _, _, _⟩ := hu.slice i64cells_len
  obtain ⟨AV, cV, rfl, _, _, hsv⟩ := hv.slice i64cells_len
  have htl : (stT g.val fr ms (runN g.val fr ms)).times.length = n := by rw [times_len hk, hr.len]
  rw [htl] at hsv ⊢
  exact ⟨AU, _, cU, _, AV, cV, _, rfl, hsv, rfl, hb2⟩

end Go.Proofs.YtphapakhoibamaaGreatDoor

namespace Go.Proofs.YtphapakhoibamaaGreatDoor
open Go.RowKit

def hitStep (ts : List Int) (i : Nat) (b : Int × Int) (y : Int) : Int × Int := if 0 ≤ ts.getD y.toNat 0 ∧ (b.1 < 0 ∨ ts.getD y.toNat 0 < b.2) then ((i : Int), ts.getD y.toNat 0) else b
def hitIn (ts : List Int) (i : Nat) (b : Int × Int) (ys : List Int) : Int × Int := ys.foldl (hitStep ts i) b
def hitT (ts : List Int) (xs : List Asset) : Nat → Int × Int
  | 0 => (-1, 0)
  | k + 1 => match xs[k]? with
    | some x => hitIn ts k (hitT ts xs k) x.spots
    | none => hitT ts xs k
theorem hitIn_snoc (ts : List Int) (i : Nat) (b : Int × Int) (l : List Int) (y : Int) : hitIn ts i b (l ++ [y]) = hitStep ts i (hitIn ts i b l) y := by unfold hitIn; rw [List.foldl_append]; rfl
theorem hitT_succ {ts : List Int} {xs : List Asset} {k : Nat} {x : Asset} (h : xs[k]? = some x) : hitT ts xs (k + 1) = hitIn ts k (hitT ts xs k) x.spots := by
  show (match xs[k]? with | some x => hitIn ts k (hitT ts xs k) x.spots | none => hitT ts xs k) = _
  rw [h]
def hitC (g : Grid) (xs : List Asset) (ms : List Int) (fr : Int) : Int := if assetsB g xs = false then 1 else runC g ms fr
def hitB2 (g : Grid) (xs : List Asset) (ms : List Int) (fr : Int) : Int × Int := hitT (stT g fr ms (runN g fr ms)).times xs xs.length
def hitK (g : Grid) (xs : List Asset) (ms : List Int) (fr : Int) : Int := if hitC g xs ms fr = 0 then if (hitB2 g xs ms fr).1 < 0 then 3 else 0 else hitC g xs ms fr
def hitA (g : Grid) (xs : List Asset) (ms : List Int) (fr : Int) : Int := if hitC g xs ms fr = 0 then if (hitB2 g xs ms fr).1 < 0 then 0 else (hitB2 g xs ms fr).1 else 0
def hitW (g : Grid) (xs : List Asset) (ms : List Int) (fr : Int) : Int := if hitC g xs ms fr = 0 then if (hitB2 g xs ms fr).1 < 0 then 0 else (hitB2 g xs ms fr).2 else 0
theorem hitC_zero {g : Grid} {xs : List Asset} {ms : List Int} {fr : Int} (h : hitC g xs ms fr = 0) : assetsB g xs = true ∧ RunOk g ms fr := by
  unfold hitC at h
  cases h1 : assetsB g xs
  · rw [if_pos h1] at h; cases h
  · rw [if_neg (by rw [h1]; simp)] at h
    exact ⟨rfl, runC_zero h⟩
theorem Ret.iii3 {j k l : IntKind} {m n p q r s : Int} {w w' : World} (h : m = n) (h' : p = q) (h'' : r = s) (hb : Below w.heap.size w w') : Ret (.tuple #[.int j n, .int k q, .int l s]) w (.returned (.tuple #[.int j m, .int k p, .int l r])) w' := ⟨by rw [h, h', h''], hb⟩
theorem spots_in {g : Grid} {xs : List Asset} (h : assetsB g xs = true) {k : Nat} {x : Asset} (hx : xs[k]? = some x) : ∀ y ∈ x.spots, ∃ c : Nat, y = c ∧ c < g.heights.length := fun y hy => by
  have := (fitsB_parts (assetsB_fits h hx)).2.2.1 y hy
  exact ⟨y.toNat, by omega, by omega⟩
theorem hitStep_no {ts : List Int} {i c : Nat} {b : Int × Int} {t : Int} (ht : ts[c]? = some t) (h : ¬ (0 ≤ t ∧ (b.1 < 0 ∨ t < b.2))) : hitStep ts i b (c : Int) = b := by
  have e : ts.getD ((c : Int)).toNat 0 = t := by rw [Int.toNat_natCast, List.getD_eq_getElem?_getD, ht]; rfl
  unfold hitStep; rw [e, if_neg h]
theorem hitStep_yes {ts : List Int} {i c : Nat} {b : Int × Int} {t : Int} (ht : ts[c]? = some t) (h : 0 ≤ t ∧ (b.1 < 0 ∨ t < b.2)) : hitStep ts i b (c : Int) = ((i : Int), t) := by
  have e : ts.getD ((c : Int)).toNat 0 = t := by rw [Int.toNat_natCast, List.getD_eq_getElem?_getD, ht]; rfl
  unfold hitStep; rw [e, if_pos h]
set_option maxRecDepth 100000 in
set_option maxHeartbeats 2000000 in
theorem implFirstHit_any (g : GridR) (A : Option Addr) (n c : Nat) (xs : List Asset) (B : Option Addr) (m d : Nat) (ms : List Int) (fr : Int) (w : World) (hgi : g.In w) (hx : Asset.Sl w A n xs) (hg : ∀ x ∈ xs, x.Good) (hr : SliceOf w 1 i64cells B m ms) :
    Calls Tryz.prog 15 #[.agg #[.int .i64 g.rows, .int .i64 g.columns, .int .i64 g.size, .slice g.heightsA g.heightsN g.heightsC], .slice A n c, .slice B m d, .int .i64 fr] w (Ret (.tuple #[.int .i64 (hitA g.val xs ms fr), .int .i64 (hitW g.val xs ms fr), .int .i64 (hitK g.val xs ms fr)]) w) := by
  have hB : Below w.heap.size w (w.alloc (.cells #[.int .i64 g.rows, .int .i64 g.columns, .int .i64 g.size, .slice g.heightsA g.heightsN g.heightsC] 26)) := (Below.refl _ _).alloc (Nat.le_refl _) _
  have HO := Lib.hid (Own.new w 26 #[.int .i64 g.rows, .int .i64 g.columns, .int .i64 g.size, .slice g.heightsA g.heightsN g.heightsC])
  have HB := Lib.hid hB
  have HI := Lib.hid (hgi.below hB)
  have HX := Lib.hid (hx.below hB)
  have HR := Lib.hid (hr.below hB)
  have HLn := Lib.hid hr.len
  have HXl := Lib.hid hx.len
  have hnle := hx.le
  clear hgi hB hx hr
  have y0 := HO.out.cell 0
  have y1 := HO.out.cell 1
  have y2 := HO.out.cell 2
  have y3 := HO.out.cell 3
  by_cases hc : hitC g.val xs ms fr = 0
  · have HC := Lib.hid hc
    have HK := Lib.hid (hitC_zero hc)
    have hcr : runC g.val ms fr = 0 := by have h := hc; unfold hitC at h; rw [if_neg (by rw [HK.out.1]; simp)] at h; exact h
    have hne : (runC g.val ms fr != 0) = false := by simp [hcr]
    have hav := HK.out.1
    have HCR := Lib.hid hcr
    have HKV : Hid (hitK g.val xs ms fr = if (hitB2 g.val xs ms fr).1 < 0 then 3 else 0) := by rw [Hid]; unfold hitK; rw [if_pos hc]
    have HAV : Hid (hitA g.val xs ms fr = if (hitB2 g.val xs ms fr).1 < 0 then 0 else (hitB2 g.val xs ms fr).1) := by rw [Hid]; unfold hitA; rw [if_pos hc]
    have HWV : Hid (hitW g.val xs ms fr = if (hitB2 g.val xs ms fr).1 < 0 then 0 else (hitB2 g.val xs ms fr).2) := by rw [Hid]; unfold hitW; rw [if_pos hc]
    clear hc hcr
    go_enter Tryz.func15, Tryz.ntmps15
    go_wp2_with fail
    refine (implValidAssets_any g _ _ _ xs _ HI.out HX.out hg).mono ?_
    rintro e w1 ⟨rfl, hb1⟩
    rw [hav]
    have hO1 := Lib.hid (HO.out.below' hb1)
    have hI1 := Lib.hid (HI.out.below hb1)
    have hR1 := Lib.hid (HR.out.below hb1)
    have hX1 := Lib.hid (HX.out.below hb1)
    have hB1 := Lib.hid (HB.out.trans (hb1.mono HB.out.size))
    clear y0 y1 y2 y3 hb1
    have y0 := hO1.out.cell 0
    have y1 := hO1.out.cell 1
    have y2 := hO1.out.cell 2
    have y3 := hO1.out.cell 3
    go_wp2_with fail
    refine (routeCode_any g _ _ _ ms fr _ _ _ [] _ hI1.out hR1.out SliceOf.nil_).mono ?_
    rintro e w2 ⟨rfl, hb2⟩
    rw [runCx_nil]
    have hO2 := Lib.hid (hO1.out.below' hb2)
    have hI2 := Lib.hid (hI1.out.below hb2)
    have hR2 := Lib.hid (hR1.out.below hb2)
    have hX2 := Lib.hid (hX1.out.below hb2)
    have hB2 := Lib.hid (hB1.out.trans (hb2.mono hB1.out.size))
    clear y0 y1 y2 y3 hb2
    have y0 := hO2.out.cell 0
    have y1 := hO2.out.cell 1
    have y2 := hO2.out.cell 2
    have y3 := hO2.out.cell 3
    go_wp2_with fail
    refine (HK.out.2.call hI2.out hR2.out).mono ?_
    rintro e w3 ⟨AU, mu, cu, sN, AV, cv, ts, rfl, hsv, hts, hb3⟩
    have HTE : Hid ((stT g.val fr ms (runN g.val fr ms)).times = ts) := hts.symm
    have HTS := Lib.hid hsv
    have HX2 := Lib.hid (hX2.out.below hb3)
    have HB2 := Lib.hid (hB2.out.trans (hb3.mono hB2.out.size))
    clear y0 y1 y2 y3 hb3 hsv hts
    have hfd : ∀ w : World, (Instr.field 68 (.agg #[.slice AU mu cu, .int .i64 sN, .slice AV m cv]) 2).run Tryz.prog w = .ok (.slice AV m cv) w := fun _ => by kernel_rfl
    go_wp2
    clear hfd
    go_loopg [38, 13, 14] n (fun gk i b f wr => ∃ (k : Nat) (b1 b2 : Int), k ≤ n ∧ gk = n - k ∧ i = .int .i64 k ∧ b = .int .i64 b1 ∧ f = .int .i64 b2 ∧ hitT ts xs k = (b1, b2) ∧ Below w3.heap.size w3 wr)
    case atStart => exact ⟨0, -1, 0, Nat.zero_le _, rfl, rfl, rfl, rfl, rfl, Below.refl _ _⟩
    case round =>
      obtain ⟨k, c1, c2, hk, hgk, rfl, rfl, rfl, hp0, hb⟩ := hrel
      have Hgk := Lib.hid hgk
      have HP0 := Lib.hid hp0
      have HBB := Lib.hid hb
      clear hgk hp0
      by_cases hlt : k < n
      · obtain ⟨ba, oa, x, rfl, hb1, hxk, hix, x0, x1, x2⟩ := (HX2.out.below hb).at_ hlt
        have Hxk := Lib.hid hxk
        have hpN := hix.1.le
        have HSPI : Hid (∀ y ∈ x.val.spots, ∃ c : Nat, y = c ∧ c < m) := fun y hy => by
          have h := spots_in HK.out.1 Hxk.out y hy
          rw [← HK.out.2.len, HLn.out] at h
          exact h
        obtain ⟨sp, hsp⟩ : ∃ sp, x.val.spots = sp := ⟨_, rfl⟩
        rw [hsp] at HSPI
        have HXS : Hid (hitT ts xs (k + 1) = hitIn ts k (hitT ts xs k) sp) := by rw [Hid, hitT_succ hxk, hsp]
        have hsl : SliceOf wr 1 i64cells x.spotsA x.spotsN sp := by rw [← hsp]; exact hix.1
        obtain ⟨p, hp⟩ : ∃ p, x.spotsN = p := ⟨_, rfl⟩
        rw [hp] at hsl x1 hpN
        obtain ⟨SA, hSA⟩ : ∃ SA, x.spotsA = SA := ⟨_, rfl⟩
        rw [hSA] at hsl x1
        have HSPL : Hid (sp.length = p) := hsl.len
        have HSP0 := Lib.hid hsl
        have HX1 := Lib.hid x1
        have HB1 := Lib.hid hb1
        clear hxk hix hsl hsp hp hSA
        have hB1 : Below wr.heap.size wr (wr.alloc (.cells #[.string x.id, .slice SA p x.spotsC, .int .i64 x.worth] 45)) := (Below.refl _ _).alloc (Nat.le_refl _) _
        go_wp2_with fail
        obtain ⟨wo, hwo⟩ : ∃ wo, wr.alloc (.cells #[.string x.id, .slice SA p x.spotsC, .int .i64 x.worth] 45) = wo := ⟨_, rfl⟩
        rw [hwo] at hB1
        rw [hwo]
        have HSP := Lib.hid (HSP0.out.below hB1)
        have hbo := HBB.out.trans (hB1.mono HBB.out.size)
        have HBO := Lib.hid hbo
        clear hwo hB1 x0 x1 x2
        go_loopg [46, 13, 14] p (fun gk i b f wr => ∃ (j : Nat) (b1 b2 : Int), j ≤ p ∧ gk = p - j ∧ i = .int .i64 j ∧ b = .int .i64 b1 ∧ f = .int .i64 b2 ∧ hitIn ts k (c1, c2) (sp.take j) = (b1, b2) ∧ Below wo.heap.size wo wr)
        case atStart => exact ⟨0, c1, c2, Nat.zero_le _, rfl, rfl, rfl, rfl, rfl, Below.refl _ _⟩
        case round =>
          obtain ⟨j, b1, b2, hj, hgj, rfl, rfl, rfl, hbp, hbj⟩ := hrel
          have HGJ := Lib.hid hgj
          have HBP := Lib.hid hbp
          have HBJ := Lib.hid hbj
          clear hgj hbp
          by_cases hjp : j < p
          · obtain ⟨b4, o4, y, rfl, hb4, hy, y0⟩ := ints_at (HSP.out.below hbj) hjp
            obtain ⟨cy, rfl, hcy⟩ := HSPI.out y (List.mem_of_getElem? hy)
            obtain ⟨b5, o5, t, rfl, hb5, ht, t0⟩ := ints_at ((HTS.out.below hbo).below hbj) hcy
            skip
            by_cases h0 : 0 ≤ t
            · by_cases h1 : b1 < 0
              · skip
                have HST : Hid (hitIn ts k (c1, c2) (sp.take (j + 1)) = ((k : Int), t)) := by rw [Hid, take_snoc hy, hitIn_snoc, HBP.out]; exact hitStep_yes ht (by simp only; omega)
                clear hy ht
                go_wp2
                go_roundg (p - (j + 1))
                case measure => have := HGJ.out; omega
                case rel => exact ⟨j + 1, (k : Int), t, by omega, rfl, by go_num, rfl, rfl, HST.out, HBJ.out⟩
              · have hd1 : decide (b1 < 0) = false := decide_eq_false h1
                by_cases h2 : t < b2
                · skip
                  have HST : Hid (hitIn ts k (c1, c2) (sp.take (j + 1)) = ((k : Int), t)) := by rw [Hid, take_snoc hy, hitIn_snoc, HBP.out]; exact hitStep_yes ht (by simp only; omega)
                  clear hy ht
                  go_wp2
                  go_roundg (p - (j + 1))
                  case measure => have := HGJ.out; omega
                  case rel => exact ⟨j + 1, (k : Int), t, by omega, rfl, by go_num, rfl, rfl, HST.out, HBJ.out⟩
                · have hd2 : decide (t < b2) = false := decide_eq_false h2
                  have HST : Hid (hitIn ts k (c1, c2) (sp.take (j + 1)) = (b1, b2)) := by rw [Hid, take_snoc hy, hitIn_snoc, HBP.out]; exact hitStep_no ht (by simp only; omega)
                  clear hy ht
                  go_wp2
                  go_roundg (p - (j + 1))
                  case measure => have := HGJ.out; omega
                  case rel => exact ⟨j + 1, b1, b2, by omega, rfl, by go_num, rfl, rfl, HST.out, HBJ.out⟩
            · have hd0 : decide (0 ≤ t) = false := decide_eq_false h0
              have HST : Hid (hitIn ts k (c1, c2) (sp.take (j + 1)) = (b1, b2)) := by rw [Hid, take_snoc hy, hitIn_snoc, HBP.out]; exact hitStep_no ht (by simp only; omega)
              clear hy ht
              go_wp2
              go_roundg (p - (j + 1))
              case measure => have := HGJ.out; omega
              case rel => exact ⟨j + 1, b1, b2, by omega, rfl, by go_num, rfl, rfl, HST.out, HBJ.out⟩
          · have hjp2 : j = p := by omega
            subst hjp2
            have HNX : Hid (hitT ts xs (k + 1) = (b1, b2)) := by
              rw [Hid, HXS.out, HP0.out]
              have := HBP.out
              rw [List.take_of_length_le (by rw [HSPL.out]; exact Nat.le_refl _)] at this
              exact this
            have HBN := Lib.hid (HBO.out.trans (hbj.mono HBO.out.size))
            go_wp2
            go_roundg (n - (k + 1))
            case measure => have := Hgk.out; omega
            case rel => exact ⟨k + 1, b1, b2, by omega, rfl, by go_num, rfl, rfl, HNX.out, HBN.out⟩
      · have hkn : k = n := by omega
        subst hkn
        have HE : Hid (hitB2 g.val xs ms fr = (c1, c2)) := by rw [Hid]; unfold hitB2; rw [HTE.out, HXl.out]; exact HP0.out
        rw [HE.out] at HKV HAV HWV
        by_cases hneg : c1 < 0
        · have F1 : Hid (hitK g.val xs ms fr = 3) := by rw [Hid, HKV.out, if_pos hneg]
          have F2 : Hid (hitA g.val xs ms fr = 0) := by rw [Hid, HAV.out, if_pos hneg]
          have F3 : Hid (hitW g.val xs ms fr = 0) := by rw [Hid, HWV.out, if_pos hneg]
          go_wp2
          go_ret3
          exact Ret.iii3 F2.out.symm F3.out.symm F1.out.symm (HB2.out.trans (hb.mono HB2.out.size))
        · have hd : decide (c1 < 0) = false := decide_eq_false hneg
          have F1 : Hid (hitK g.val xs ms fr = 0) := by rw [Hid, HKV.out, if_neg hneg]
          have F2 : Hid (hitA g.val xs ms fr = c1) := by rw [Hid, HAV.out, if_neg hneg]
          have F3 : Hid (hitW g.val xs ms fr = c2) := by rw [Hid, HWV.out, if_neg hneg]
          go_wp2
          go_ret3
          exact Ret.iii3 F2.out.symm F3.out.symm F1.out.symm (HB2.out.trans (hb.mono HB2.out.size))
  · have HC := Lib.hid hc
    have HKV : Hid (hitK g.val xs ms fr = hitC g.val xs ms fr) := by rw [Hid]; unfold hitK; rw [if_neg hc]
    have HAV : Hid (hitA g.val xs ms fr = 0) := by rw [Hid]; unfold hitA; rw [if_neg hc]
    have HWV : Hid (hitW g.val xs ms fr = 0) := by rw [Hid]; unfold hitW; rw [if_neg hc]
    go_enter Tryz.func15, Tryz.ntmps15
    go_wp2_with fail
    refine (implValidAssets_any g _ _ _ xs _ HI.out HX.out hg).mono ?_
    rintro e w1 ⟨rfl, hb1⟩
    have hB1 := Lib.hid (HB.out.trans (hb1.mono HB.out.size))
    cases hav : assetsB g.val xs
    · have HE : Hid (hitC g.val xs ms fr = 1) := by rw [Hid]; unfold hitC; rw [if_pos hav]
      rw [HE.out] at HKV
      clear y0 y1 y2 y3 hb1 hc
      go_wp2
      go_ret3
      exact Ret.iii3 HAV.out.symm HWV.out.symm HKV.out.symm hB1.out
    · have HE : Hid (hitC g.val xs ms fr = runC g.val ms fr) := by rw [Hid]; unfold hitC; rw [if_neg (by rw [hav]; simp)]
      rw [HE.out] at HKV hc
      have hne : (runC g.val ms fr != 0) = true := by simp [hc]
      have hO1 := Lib.hid (HO.out.below' hb1)
      have hI1 := Lib.hid (HI.out.below hb1)
      have hR1 := Lib.hid (HR.out.below hb1)
      clear y0 y1 y2 y3 hb1 hc
      have y0 := hO1.out.cell 0
      have y1 := hO1.out.cell 1
      have y2 := hO1.out.cell 2
      have y3 := hO1.out.cell 3
      go_wp2_with fail
      refine (routeCode_any g _ _ _ ms fr _ _ _ [] _ hI1.out hR1.out SliceOf.nil_).mono ?_
      rintro e w2 ⟨rfl, hb2⟩
      rw [runCx_nil]
      have hB2 := Lib.hid (hB1.out.trans (hb2.mono hB1.out.size))
      clear y0 y1 y2 y3 hb2
      go_wp2
      go_ret3
      exact Ret.iii3 HAV.out.symm HWV.out.symm HKV.out.symm hB2.out

end Go.Proofs.YtphapakhoibamaaGreatDoor
