/- BuriedBy on both sides. -/
import Derived.Test.YtphapakhoibamaaGreatDoorBase
import Derived.Test.YtphapakhoibamaaGreatDoorMem
import Derived.Test.YtphapakhoibamaaGreatDoorTInt64
import Derived.Test.YtphapakhoibamaaGreatDoorWithin
import Derived.Test.YtphapakhoibamaaGreatDoorTGrid
import Derived.Test.YtphapakhoibamaaGreatDoorTAsset
import Derived.Test.YtphapakhoibamaaGreatDoorGrids
import Derived.Test.YtphapakhoibamaaGreatDoorAssets
import Derived.Test.YtphapakhoibamaaGreatDoorWays
import Derived.Test.YtphapakhoibamaaGreatDoorSpecGo
import Derived.Test.YtphapakhoibamaaGreatDoorRunL
import Derived.Test.YtphapakhoibamaaGreatDoorRunCode
import Derived.Test.YtphapakhoibamaaGreatDoorArr
import Derived.Test.YtphapakhoibamaaGreatDoorArr2
import Derived.Test.YtphapakhoibamaaGreatDoorPush2
import Derived.Test.YtphapakhoibamaaGreatDoorBuriedP
namespace Go.Proofs.YtphapakhoibamaaGreatDoor
open Go.RowKit

theorem intsAt_made6 (w : World) (n : Nat) : IntsAt (w.alloc (.cells (madeCells #[.int .i64 0] n) 2)) w.heap.size (List.replicate n 0) := by
  have h := Own.new w 2 (madeCells #[.int .i64 0] n)
  have e : madeCells #[.int .i64 0] n = ((List.replicate n (0 : Int)).map (Value.int .i64)).toArray := by
    simp [madeCells, Nat.mod_one]
    apply Array.ext
    · simp
    · intro i h1 h2; simp
  unfold IntsAt
  rw [← e]; exact h
theorem massB_all {g : Grid} {ms : List Int} (h : massB g ms = true) : ms.length = g.heights.length ∧ ∀ y ∈ ms, 0 ≤ y ∧ y ≤ 1000000 := by
  unfold massB at h
  rw [Bool.and_eq_true] at h
  exact ⟨of_decide_eq_true h.1, fun y hy => inB_iff.1 (List.all_eq_true.1 h.2 y hy)⟩
theorem grid64 {g : Grid} (h : gridB g = true) : g.heights.length ≤ 64 := by
  have hp := gridB_parts h
  have hm := (mul_i64 hp.1 hp.2.1).2.2
  have := hp.2.2.2.1
  omega
theorem spots_ok {g : Grid} {xs : List Asset} (h : assetsB g xs = true) {k : Nat} {x : Asset} (hx : xs[k]? = some x) : x.spots.length ≤ 64 ∧ ∀ y ∈ x.spots, ∃ c : Nat, y = c ∧ c < g.heights.length := by
  have hf := fitsB_parts (assetsB_fits h hx)
  have h64 := grid64 (assetsB_grid h)
  have hl := rises_len hf.2.1 hf.2.2.1 (by omega)
  exact ⟨by omega, fun y hy => by have := hf.2.2.1 y hy; exact ⟨y.toNat, by omega, by omega⟩⟩
set_option maxRecDepth 100000 in
set_option maxHeartbeats 2000000 in
theorem implBuriedBy_any (g : GridR) (A : Option Addr) (n c : Nat) (xs : List Asset) (B : Option Addr) (m d : Nat) (ms : List Int) (w : World) (hgi : g.In w) (hx : Asset.Sl w A n xs) (hg : ∀ x ∈ xs, x.Good) (hr : SliceOf w 1 i64cells B m ms) :
    Calls Tryz.prog 14 #[.agg #[.int .i64 g.rows, .int .i64 g.columns, .int .i64 g.size, .slice g.heightsA g.heightsN g.heightsC], .slice A n c, .slice B m d] w (RetLT 2 1 i64cells (buriedA g.val xs ms) [.int .i64 (buriedC g.val xs ms)] w) := by
  have hB : Below w.heap.size w (w.alloc (.cells #[.int .i64 g.rows, .int .i64 g.columns, .int .i64 g.size, .slice g.heightsA g.heightsN g.heightsC] 26)) := (Below.refl _ _).alloc (Nat.le_refl _) _
  have HO := Lib.hid (Own.new w 26 #[.int .i64 g.rows, .int .i64 g.columns, .int .i64 g.size, .slice g.heightsA g.heightsN g.heightsC])
  have HB := Lib.hid hB
  have HI := Lib.hid (hgi.below hB)
  have HX := Lib.hid (hx.below hB)
  have HR := Lib.hid (hr.below hB)
  have HLn := Lib.hid hr.len
  have HXl := Lib.hid hx.len
  have hnle := hx.le
  have HGl : Hid (g.val.heights.length = g.heightsN) := hgi.1.len
  have hgn := hgi.1.le
  clear hgi hB hx hr
  have y0 := HO.out.cell 0
  have y1 := HO.out.cell 1
  have y2 := HO.out.cell 2
  have y3 := HO.out.cell 3
  go_enter Tryz.func14, Tryz.ntmps14
  go_wp2_with fail
  refine (implValidAssets_any g _ _ _ xs _ HI.out HX.out hg).mono ?_
  rintro e w1 ⟨rfl, hb1⟩
  have hO1 := Lib.hid (HO.out.below' hb1)
  have hI1 := Lib.hid (HI.out.below hb1)
  have hR1 := Lib.hid (HR.out.below hb1)
  have hX1 := Lib.hid (HX.out.below hb1)
  have hB1 := Lib.hid (HB.out.trans (hb1.mono HB.out.size))
  clear y0 y1 y2 y3 hb1
  cases hav : assetsB g.val xs
  · have HC : Hid (buriedC g.val xs ms = 1) := by rw [Hid]; unfold buriedC; rw [if_pos hav]
    have HA : Hid (buriedA g.val xs ms = []) := by rw [Hid]; unfold buriedA; rw [if_neg (by rw [HC.out]; decide)]
    go_wp2
    go_ret2
    exact ⟨_, by rw [HC.out]; rfl, by rw [HA.out]; exact OwnsL.nil_ _ _ _ _ _, hB1.out⟩
  have HAV := Lib.hid hav
  have y0 := hO1.out.cell 0
  have y1 := hO1.out.cell 1
  have y2 := hO1.out.cell 2
  have y3 := hO1.out.cell 3
  go_wp2_with fail
  refine (hasMasses_any g _ _ _ ms _ hI1.out hR1.out).mono ?_
  rintro e w3 ⟨rfl, hb3⟩
  have hB3 := Lib.hid (hB1.out.trans (hb3.mono hB1.out.size))
  have HX := Lib.hid (hX1.out.below hb3)
  have HR := Lib.hid (hR1.out.below hb3)
  clear hb3 y0 y1 y2 y3
  cases hmb : massB g.val ms
  · have HC : Hid (buriedC g.val xs ms = 7) := by rw [Hid]; unfold buriedC; rw [if_neg (by rw [HAV.out]; simp), if_pos hmb]
    have HA : Hid (buriedA g.val xs ms = []) := by rw [Hid]; unfold buriedA; rw [if_neg (by rw [HC.out]; decide)]
    go_wp2
    go_ret2
    exact ⟨_, by rw [HC.out]; rfl, by rw [HA.out]; exact OwnsL.nil_ _ _ _ _ _, hB3.out⟩
  have HML := Lib.hid (massB_all hmb)
  have HC : Hid (buriedC g.val xs ms = 0) := by rw [Hid]; unfold buriedC; rw [if_neg (by rw [HAV.out]; simp), if_neg (by rw [hmb]; simp)]
  have HA : Hid (buriedA g.val xs ms = buriedT ms xs n) := by rw [Hid]; unfold buriedA; rw [if_pos HC.out, HXl.out]
  have hn12 : n ≤ 12 := by rw [← HXl.out]; exact assetsB_len HAV.out
  have hmk := make_n (P := Tryz.prog) (t := 24) (n := n) Tryz.underlying24 infoI64 (by omega) (by omega)
  clear hmb hav
  go_wp2
  clear hmk
  obtain ⟨w4, hw4⟩ : ∃ w4, w3.alloc (.cells (madeCells #[.int .i64 0] n) 2) = w4 := ⟨_, rfl⟩
  have hB4 : Below w3.heap.size w3 w4 := by rw [← hw4]; exact (Below.refl _ _).alloc (Nat.le_refl _) _
  have hS4 : IntsAt w4 w3.heap.size (List.replicate n 0) := by rw [← hw4]; exact intsAt_made6 w3 n
  rw [hw4]
  have HB4 := Lib.hid hB4
  have HS4 := Lib.hid hS4
  clear hw4 hB4 hS4
  go_loopg [28] n (fun gk i wr => ∃ (k : Nat), k ≤ n ∧ gk = n - k ∧ i = .int .i64 k ∧ Below w3.heap.size w3 wr ∧ IntsAt wr w3.heap.size (buriedT ms xs k ++ List.replicate (n - k) 0))
  case atStart => exact ⟨0, Nat.zero_le _, rfl, rfl, HB4.out, HS4.out⟩
  case round =>
    obtain ⟨k, hk, hgk, rfl, hb, hint⟩ := hrel
    have Hgk := Lib.hid hgk
    have HIN := Lib.hid hint
    have HBB := Lib.hid hb
    clear hgk hint
    by_cases hlt : k < n
    · have HKL : Hid ((buriedT ms xs k).length = k) := by rw [Hid]; exact buriedT_len (by rw [HXl.out]; omega)
      obtain ⟨ba, oa, x, rfl, hb1, hxk, hix, x0, x1, x2⟩ := (HX.out).at_ hlt
      have hso := spots_ok HAV.out hxk
      have hpN := hix.1.le
      obtain ⟨sp, hsp⟩ : ∃ sp, x.val.spots = sp := ⟨_, rfl⟩
      rw [hsp] at hso
      have HXS : Hid (buriedT ms xs (k + 1) = buriedT ms xs k ++ [sumAt ms sp]) := by rw [Hid, buriedT_succ hxk, hsp]
      have hsl : SliceOf w3 1 i64cells x.spotsA x.spotsN sp := by rw [← hsp]; exact hix.1
      obtain ⟨p, hp⟩ : ∃ p, x.spotsN = p := ⟨_, rfl⟩
      rw [hp] at hsl x1 hpN
      obtain ⟨SA, hSA⟩ : ∃ SA, x.spotsA = SA := ⟨_, rfl⟩
      rw [hSA] at hsl x1
      have HSPL : Hid (sp.length = p) := hsl.len
      have hp64 : p ≤ 64 := by rw [← HSPL.out]; exact hso.1
      have HSPI : Hid (∀ y ∈ sp, ∃ c : Nat, y = c ∧ c < m) := fun y hy => by
        have h := hso.2 y hy
        rw [← HML.out.1, HLn.out] at h
        exact h
      have HSP0 := Lib.hid hsl
      have HX1 := Lib.hid x1
      have HB1 := Lib.hid hb1
      clear hxk hix hsl hsp hp hSA hso
      have x0w := (hb.cell (p := ⟨ba, oa + k * 3, none⟩) hb1).trans x0
      have x1w := (hb.cell (p := ⟨ba, oa + k * 3 + 1, none⟩) hb1).trans x1
      have x2w := (hb.cell (p := ⟨ba, oa + k * 3 + 2, none⟩) hb1).trans x2
      have hbal := Nat.lt_of_lt_of_le hb1 hb.size
      clear x0 x1 x2
      have hB1 : Below wr.heap.size wr (wr.alloc (.cells #[.string x.id, .slice SA p x.spotsC, .int .i64 x.worth] 45)) := (Below.refl _ _).alloc (Nat.le_refl _) _
      go_wp2_with fail
      obtain ⟨wo, hwo⟩ : ∃ wo, wr.alloc (.cells #[.string x.id, .slice SA p x.spotsC, .int .i64 x.worth] 45) = wo := ⟨_, rfl⟩
      rw [hwo] at hB1
      rw [hwo]
      have HSP := HSP0
      have HBO := Lib.hid (HBB.out.trans (hB1.mono HBB.out.size))
      have HINO : Hid (IntsAt wo w3.heap.size ((buriedT ms xs k ++ List.replicate (n - k) 0).set k 0)) := by rw [Hid, set_self (rep_get HKL.out hlt)]; exact HIN.out.below' hB1
      have HRL : Hid (k < (buriedT ms xs k ++ List.replicate (n - k) (0 : Int)).length) := by rw [Hid, List.length_append, List.length_replicate, HKL.out]; omega
      have HRS : Hid (∀ q, (buriedT ms xs k ++ List.replicate (n - k) (0 : Int)).set k q = (buriedT ms xs k ++ [q]) ++ List.replicate (n - (k + 1)) 0) := fun q => rep_set HKL.out hlt
      clear hwo hB1 x0w x1w x2w hbal
      obtain ⟨TL, hTL⟩ : ∃ TL, buriedT ms xs k ++ List.replicate (n - k) (0 : Int) = TL := ⟨_, rfl⟩
      rw [hTL] at HINO HRL HRS
      clear hTL
      go_loopg [36] p (fun gk i wr => ∃ (j : Nat) (q : Int), j ≤ p ∧ gk = p - j ∧ i = .int .i64 j ∧ q = sumAt ms (sp.take j) ∧ 0 ≤ q ∧ q ≤ 1000000 * j ∧ Below w3.heap.size w3 wr ∧ IntsAt wr w3.heap.size (TL.set k q))
      case atStart => exact ⟨0, 0, Nat.zero_le _, rfl, rfl, rfl, by omega, by omega, HBO.out, HINO.out⟩
      case round =>
        obtain ⟨j, q, hj, hgj, rfl, hq, hq0, hq1, hbj, hij⟩ := hrel
        have HGJ := Lib.hid hgj
        have HQ := Lib.hid hq
        have HBJ := Lib.hid hbj
        have HIJ := Lib.hid hij
        clear hgj hq
        by_cases hjp : j < p
        · obtain ⟨b4, o4, y, rfl, hb4, hy, y0⟩ := ints_at (HSP.out.below hbj) hjp
          obtain ⟨cy, rfl, hcy⟩ := HSPI.out y (List.mem_of_getElem? hy)
          obtain ⟨b5, o5, t, rfl, hb5, ht, t0⟩ := ints_at (HR.out.below hbj) hcy
          have htb := HML.out.2 t (List.mem_of_getElem? ht)
          have HST : Hid (sumAt ms (sp.take (j + 1)) = sumAt ms (sp.take j) + t) := by
            rw [Hid, take_snoc hy, sumAt_snoc, Int.toNat_natCast, List.getD_eq_getElem?_getD, ht]; rfl
          clear hy ht
          have s0 : wr.cell? ⟨w3.heap.size, k, none⟩ = some (.int .i64 q) := hij.cell (by rw [List.getElem?_set]; simp [HRL.out])
          have df := hij.frozen
          have hwl : w3.heap.size < wr.heap.size := hij.lt
          have hsub := fun (g : Sub wr) b o (h : b < wr.heap.size) => g.cell b o h
          clear hij hbj
          go_wp2_with fail
          refine wp_region_sub_tail 10 (by kernel_rfl) (by kernel_rfl) ?_
          simp only [List.take_succ_cons, List.take_zero, List.drop_succ_cons, List.drop_zero]
          repeat (go_big_quiet_step (fail))
          refine wpQuiet_nil ?_
          intro wg hg
          have HIG := Lib.hid (HIJ.out.below' hg)
          have HBG := Lib.hid (HBJ.out.trans (hg.mono HBJ.out.size))
          have sg : wg.cell? ⟨w3.heap.size, k, none⟩ = some (.int .i64 q) := (hg.cell (p := ⟨w3.heap.size, k, none⟩) hwl).trans s0
          have dg := HIG.out.frozen
          have HIS : Hid (IntsAt (wg.setCell ⟨w3.heap.size, k, none⟩ (.int .i64 (q + t))) w3.heap.size (TL.set k (q + t))) := by
            have h := HIG.out.set k (q + t)
            rw [List.set_set] at h
            exact h
          have HBS : Hid (Below w3.heap.size w3 (wg.setCell ⟨w3.heap.size, k, none⟩ (.int .i64 (q + t)))) := HBG.out.setCell (by exact Nat.le_refl _) _
          clear s0 hsub hg df
          go_wp2
          go_roundg (p - (j + 1))
          case measure => have := HGJ.out; omega
          case rel => exact ⟨j + 1, q + t, by omega, rfl, by go_num, by rw [HST.out, HQ.out], by omega, by omega, HBS.out, HIS.out⟩
        · have hjp2 : j = p := by omega
          subst hjp2
          have HQF : Hid (q = sumAt ms sp) := by rw [Hid, HQ.out, List.take_of_length_le (by rw [HSPL.out]; exact Nat.le_refl _)]
          have HIF : Hid (IntsAt wr w3.heap.size (buriedT ms xs (k + 1) ++ List.replicate (n - (k + 1)) 0)) := by
            have h := HIJ.out
            rw [HRS.out, HQF.out, ← HXS.out] at h
            exact h
          clear hij
          go_wp2
          go_roundg (n - (k + 1))
          case measure => have := Hgk.out; omega
          case rel => exact ⟨k + 1, by omega, rfl, by go_num, HBJ.out, HIF.out⟩
    · have hkn : k = n := by omega
      subst hkn
      have HBK := Lib.hid (hB3.out.trans (HBB.out.mono hB3.out.size))
      have HF : Hid (OwnsL wr w3.heap.size 2 1 i64cells (.slice (some ⟨w3.heap.size, 0, none⟩) k k) (buriedT ms xs k)) := by
        have h := HIN.out
        rw [Nat.sub_self, List.replicate_zero, List.append_nil] at h
        exact h.owns (buriedT_len (by rw [HXl.out]; exact Nat.le_refl _)) (by omega) (Nat.le_refl _)
      go_wp2
      go_ret2
      exact ⟨_, by rw [HC.out]; rfl, by rw [HA.out]; exact HF.out.rebase hB3.out.size, HBK.out⟩

end Go.Proofs.YtphapakhoibamaaGreatDoor
