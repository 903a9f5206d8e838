/- The program's run of the masses (impl.Grid.run). -/
import Derived.Test.YtphapakhoibamaaGreatDoorBase
import Derived.Test.YtphapakhoibamaaGreatDoorMem
import Derived.Test.YtphapakhoibamaaGreatDoorTInt64
import Derived.Test.YtphapakhoibamaaGreatDoorWithin
import Derived.Test.YtphapakhoibamaaGreatDoorTGrid
import Derived.Test.YtphapakhoibamaaGreatDoorGrids
import Derived.Test.YtphapakhoibamaaGreatDoorWays
import Derived.Test.YtphapakhoibamaaGreatDoorSpecGo
import Derived.Test.YtphapakhoibamaaGreatDoorPush2
import Derived.Test.YtphapakhoibamaaGreatDoorSpecWays
import Derived.Test.YtphapakhoibamaaGreatDoorRunCode
import Derived.Test.YtphapakhoibamaaGreatDoorRunP
import Derived.Test.YtphapakhoibamaaGreatDoorRunQ
import Derived.Test.YtphapakhoibamaaGreatDoorArr
import Derived.Test.YtphapakhoibamaaGreatDoorRunL
import Derived.Test.YtphapakhoibamaaGreatDoorSpecStep
import Derived.Test.YtphapakhoibamaaGreatDoorImplRoute
import Derived.Test.YtphapakhoibamaaGreatDoorArr2
import Derived.Test.YtphapakhoibamaaGreatDoorSpecRun
namespace Go.Proofs.YtphapakhoibamaaGreatDoor
open Go.RowKit

/-- A call that hands back a runout of its own. -/
def RetRun (us : List Int) (n : Int) (vs : List Int) (w : World) (en : Ending) (w' : World) : Prop := ∃ u v, en = .returned (.agg #[u, .int .i64 n, v]) ∧ OwnsL w' w.heap.size 2 1 i64cells u us ∧ OwnsL w' w.heap.size 2 1 i64cells v vs ∧ Below w.heap.size w w'
/-- When each cell was reached by the end of the n-th state but one. -/
def arrT (g : Grid) (fr : Int) (ms : List Int) : Nat → List Int
  | 0 => List.replicate ms.length (-1)
  | n + 1 => (stT g fr ms n).times
theorem times_mark (g : Grid) (fr : Int) (ms : List Int) : ∀ n, (stT g fr ms n).times = List.zipWith (timeOf n) (arrT g fr ms n) (stT g fr ms n).now
  | 0 => by
    show ms.map (fun m => if 0 < m then (0 : Int) else -1) = List.zipWith (timeOf 0) (List.replicate ms.length (-1)) ms
    induction ms with
    | nil => rfl
    | cons m ms ih =>
      rw [List.map_cons, List.length_cons, List.replicate_succ, List.zipWith_cons_cons, ← ih]
      congr 1
      unfold timeOf
      by_cases h : 0 < m
      · rw [if_pos h, if_pos ⟨by omega, h⟩]; rfl
      · rw [if_neg h, if_neg (fun e => h e.2)]
  | n + 1 => rfl
theorem ints_of_made {w : World} {g n : Nat} (h : Own w g 2 (madeCells #[.int .i64 0] n)) : IntsAt w g (List.replicate n 0) := by
  have e : madeCells #[.int .i64 0] n = ((List.replicate n (0 : Int)).map (Value.int .i64)).toArray := by
    simp [madeCells, Nat.mod_one]
    apply Array.ext
    · simp
    · intro i h1 h2; simp
  unfold IntsAt
  rw [← e]; exact h
theorem alloc3_0 (w : World) (t : TypeId) (c : Array Value) (Y Z : Obj) : Own (((w.alloc (.cells c t)).alloc Y).alloc Z).drew w.heap.size t c := ((Own.new w t c).alloc _).alloc _
theorem alloc3_1 (w : World) (t : TypeId) (c : Array Value) (X Z : Obj) : Own (((w.alloc X).alloc (.cells c t)).alloc Z).drew (w.heap.size + 1) t c := by
  have h := (Own.new (w.alloc X) t c).alloc Z
  rw [show (w.alloc X).heap.size = w.heap.size + 1 by simp] at h
  exact h
theorem alloc3_2 (w : World) (t : TypeId) (c : Array Value) (X Y : Obj) : Own (((w.alloc X).alloc Y).alloc (.cells c t)).drew (w.heap.size + 1 + 1) t c := by
  have h := Own.new ((w.alloc X).alloc Y) t c
  rw [show ((w.alloc X).alloc Y).heap.size = w.heap.size + 1 + 1 by simp] at h
  exact h
theorem rep_step {n k : Nat} (h : k < n) : (List.replicate k (-1 : Int) ++ List.replicate (n - k) 0).set k (-1) = List.replicate (k + 1) (-1) ++ List.replicate (n - (k + 1)) 0 := by
  rw [List.set_append_right _ _ (by simp), List.length_replicate, Nat.sub_self, show n - k = (n - (k + 1)) + 1 by omega, List.replicate_succ, List.set_cons_zero, List.replicate_succ']
  simp
theorem rep_at {n k : Nat} (h : k < n) : (List.replicate k (-1 : Int) ++ List.replicate (n - k) 0)[k]? = some 0 := by
  rw [List.getElem?_append_right (by simp), List.length_replicate, Nat.sub_self, List.getElem?_replicate, if_pos (by omega)]
theorem zeroB_snoc {l : List Int} {k : Nat} {m : Int} (h : l[k]? = some m) : zeroB (l.take (k + 1)) = (zeroB (l.take k) && decide (m ≤ 0)) := by
  unfold zeroB; rw [take_snoc h, List.all_append]; simp
theorem Own.three {w : World} {g : Nat} {T : TypeId} {x y z : Value} (h : Own w g T #[x, y, z]) (u : Value) : Own (w.setCell ⟨g, 1, none⟩ u) g T #[x, u, z] := by
  have := h.put 1 u
  simpa using this
theorem SliceOf.set_far {w : World} {b o n g i : Nat} {xs : List Int} (h : SliceOf w 1 i64cells (some ⟨b, o, none⟩) n xs) (hne : b ≠ g) (u : Value) : SliceOf (w.setCell ⟨g, i, none⟩ u) 1 i64cells (some ⟨b, o, none⟩) n xs :=
  ⟨h.1, h.2.1, fun hn => by
    obtain ⟨b', off, hA, hlt, hc⟩ := h.2.2 hn
    injection hA with hA
    injection hA with e1 e2 _
    subst e1 e2
    exact ⟨b, o, rfl, by simpa using hlt, fun i' x j v hx hv => (World.cell?_of_block (a := ⟨b, _, none⟩) (Below.heap_setCell w ⟨g, i, none⟩ u b hne)).trans (hc i' x j v hx hv)⟩⟩
set_option maxRecDepth 100000 in
set_option maxHeartbeats 1000000 in
theorem run_any (g : GridR) (B : Option Addr) (n d : Nat) (ms : List Int) (fr : Int) (w : World) (hgi : g.In w) (hgb : gridB g.val = true) (hr : SliceOf w 1 i64cells B n ms) (hl : n = g.heightsN) (hfr : 1 ≤ fr) (hm0 : ∀ x ∈ ms, 0 ≤ x) (hms : ms.sum ≤ 64000000) :
    Calls Tryz.prog 38 #[.agg #[.int .i64 g.rows, .int .i64 g.columns, .int .i64 g.size, .slice g.heightsA g.heightsN g.heightsC], .slice B n d, .int .i64 fr] w (RetRun (stT g.val fr ms (runN g.val fr ms)).settled (runN g.val fr ms) (stT g.val fr ms (runN g.val fr ms)).times w) := by
  have ⟨hn1, hn64⟩ := grid_n64 hgi hgb hl
  have hmk := make_n (P := Tryz.prog) (t := 24) (n := n) Tryz.underlying24 infoI64 (by omega) (by omega)
  have hnN : n ≤ 9223372036854775807 := by omega
  have HOK : Hid (∀ j, StOk g.val ms j (stT g.val fr ms j)) := fun j => stT_ok hgb (by rw [hr.len, hl]; exact hgi.1.len.symm) hfr hm0 j
  have HZL : Hid (zeroB (stT g.val fr ms 5001).now = true) := zeroB_last hgb (by rw [hr.len, hl]; exact hgi.1.len.symm) hfr hm0
  have HI := Lib.hid hgi
  have HGB := Lib.hid hgb
  have HL := Lib.hid hr.len
  have HM := Lib.hid hm0
  have HS := Lib.hid hms
  have Hl := Lib.hid hl
  obtain ⟨b1, o1, _, rfl, hb1, _, _⟩ := ints_at hr (show 0 < n by omega)
  have HR := Lib.hid hr
  clear hgi hgb hr hm0 hms hl
  go_enter Tryz.func38, Tryz.ntmps38
  go_wp2
  obtain ⟨w0, hw0⟩ : ∃ w0, (w.alloc (.cells #[.int .i64 g.rows, .int .i64 g.columns, .int .i64 g.size, .slice g.heightsA g.heightsN g.heightsC] 26)).alloc (.cells #[.slice none 0 0, .int .i64 0, .slice none 0 0] 68) = w0 := ⟨_, rfl⟩
  have hsz0 : w0.heap.size = w.heap.size + 2 := by rw [← hw0]; simp
  have hB0 : Below w.heap.size w w0 := by rw [← hw0]; exact ((Below.refl _ _).alloc (Nat.le_refl _) _).alloc (by simp) _
  have hG0 : Own w0 w.heap.size 26 #[.int .i64 g.rows, .int .i64 g.columns, .int .i64 g.size, .slice g.heightsA g.heightsN g.heightsC] := by rw [← hw0]; exact (Own.new _ _ _).alloc _
  have hR0 : Own w0 (w.heap.size + 1) 68 #[.slice none 0 0, .int .i64 0, .slice none 0 0] := by
    rw [← hw0]
    have := Own.new (w.alloc (.cells #[.int .i64 g.rows, .int .i64 g.columns, .int .i64 g.size, .slice g.heightsA g.heightsN g.heightsC] 26)) 68 #[.slice none 0 0, .int .i64 0, .slice none 0 0]
    rw [show (w.alloc (.cells #[.int .i64 g.rows, .int .i64 g.columns, .int .i64 g.size, .slice g.heightsA g.heightsN g.heightsC] 26)).heap.size = w.heap.size + 1 by simp] at this
    exact this
  rw [hw0]
  have HSZ := Lib.hid hsz0
  have HB0 := Lib.hid hB0
  have HG0 := Lib.hid hG0
  have HR0 := Lib.hid hR0
  clear hw0 hsz0 hB0 hG0 hR0
  go_cut [7] from 17 to 24 (fun p wx => ∃ a b bx : Nat, p = .pointer (some ⟨bx, 0, none⟩) ∧ Own wx bx 68 #[.slice (some ⟨a, 0, none⟩) n n, .int .i64 0, .slice (some ⟨b, 0, none⟩) n n] ∧ a ≠ b ∧ a ≠ bx ∧ b ≠ bx ∧ w0.heap.size ≤ a ∧ w0.heap.size ≤ b ∧ w0.heap.size ≤ bx ∧ Below w0.heap.size w0 wx ∧ IntsAt wx a (List.replicate n 0) ∧ IntsAt wx b (List.replicate n 0))
  case first =>
    go_region_with (fail)
    all_goals (go_wp2_with fail; go_meet)
    all_goals (refine ⟨_, _, _, rfl, (by first | exact alloc3_0 _ _ _ _ _ | exact alloc3_1 _ _ _ _ _ | exact alloc3_2 _ _ _ _ _), ?_, ?_, ?_, ?_, ?_, ?_, ?_, ?_, ?_⟩)
    all_goals (first | omega | exact ints_of_made (alloc3_0 _ _ _ _ _) | exact ints_of_made (alloc3_1 _ _ _ _ _) | exact ints_of_made (alloc3_2 _ _ _ _ _) | (repeat (first | exact Below.refl _ _ | (with_reducible refine Below.drew ?_) | (with_reducible refine Below.alloc ?_ (by first | exact Nat.le_refl _ | (simp; done) | (simp; omega)) _))))
  case rest =>
    obtain ⟨a, b, bx, rfl, hbx, hab, hax, hbx', ha0, hb0, hx0, hB, hma, hmb⟩ := hcut
    have HSA := Lib.hid hma
    have HSB := Lib.hid hmb
    have HSX := Lib.hid hbx
    have HGc := Lib.hid (HG0.out.below' hB)
    have HRc := Lib.hid (HR0.out.below' hB)
    have HBc := Lib.hid (HB0.out.trans (hB.mono (by have := HSZ.out; omega)))
    have hsz := HSZ.out
    have ha1 : w.heap.size + 2 ≤ a := by omega
    have hb1' : w.heap.size + 2 ≤ b := by omega
    have hx1 : w.heap.size + 2 ≤ bx := by omega
    have y2 : wc.cell? ⟨bx, 2, none⟩ = some (.slice (some ⟨b, 0, none⟩) n n) := hbx.cell 2
    clear hma hmb hbx hB hmk hsz ha0 hb0 hx0
    go_wp2
    clear y2
    go_loopg [27] n (fun gk i wr => ∃ k : Nat, k ≤ n ∧ gk = n - k ∧ i = .int .i64 k ∧ Below w.heap.size w wr ∧ Own wr w.heap.size 26 #[.int .i64 g.rows, .int .i64 g.columns, .int .i64 g.size, .slice g.heightsA g.heightsN g.heightsC] ∧ Own wr (w.heap.size + 1) 68 #[.slice none 0 0, .int .i64 0, .slice none 0 0] ∧ Own wr bx 68 #[.slice (some ⟨a, 0, none⟩) n n, .int .i64 0, .slice (some ⟨b, 0, none⟩) n n] ∧ IntsAt wr a (List.replicate n 0) ∧ IntsAt wr b (List.replicate k (-1) ++ List.replicate (n - k) 0))
    case atStart => exact ⟨0, Nat.zero_le _, rfl, rfl, HBc.out, HGc.out, HRc.out, HSX.out, HSA.out, by simpa using HSB.out⟩
    case round =>
      obtain ⟨k, hk, hgk, rfl, hb, hg, hrz, hx, hsa, hsb⟩ := hrel
      have Hgk := Lib.hid hgk
      have HB3 := Lib.hid hb
      have HG3 := Lib.hid hg
      have HR3 := Lib.hid hrz
      have HX3 := Lib.hid hx
      have HA3 := Lib.hid hsa
      have HB4 := Lib.hid hsb
      clear hgk hb hg hrz hsa
      by_cases hlt : k < n
      · have y2 : wr.cell? ⟨bx, 2, none⟩ = some (.slice (some ⟨b, 0, none⟩) n n) := hx.cell 2
        have s0 : wr.cell? ⟨b, k, none⟩ = some (.int .i64 0) := hsb.cell (rep_at hlt)
        have df := hsb.frozen
        clear hx hsb
        go_wp2
        go_roundg (n - (k + 1))
        case measure => have := Hgk.out; omega
        case rel => exact ⟨k + 1, by omega, rfl, by go_num, HB3.out.setCell (by simp; omega) _, HG3.out.far (by simp; omega) _, HR3.out.far (by simp; omega) _, HX3.out.far (fun e => hbx' e.symm) _, HA3.out.other hab _ _, by rw [← rep_step hlt]; exact HB4.out.set _ _⟩
      · have hkn : k = n := by omega
        subst hkn
        rw [Nat.sub_self, List.replicate_zero, List.append_nil] at hsb
        have HB5 := Lib.hid hsb
        have HRW := Lib.hid (HR.out.below HB3.out)
        clear hx hsb HB4
        go_wp2
        go_loopg [9] 5001 (fun gk u wr => ∃ (j ba oa c : Nat), j ≤ 5001 ∧ gk = 5001 - j ∧ u = .slice (some ⟨ba, oa, none⟩) k c ∧ ba ≠ a ∧ ba ≠ b ∧ ba ≠ bx ∧ (∀ i, i < j → zeroB (stT g.val fr ms i).now = false) ∧ Below w.heap.size w wr ∧ Own wr w.heap.size 26 #[.int .i64 g.rows, .int .i64 g.columns, .int .i64 g.size, .slice g.heightsA g.heightsN g.heightsC] ∧ Own wr (w.heap.size + 1) 68 #[.slice none 0 0, .int .i64 0, .slice none 0 0] ∧ Own wr bx 68 #[.slice (some ⟨a, 0, none⟩) k k, .int .i64 (j : Int), .slice (some ⟨b, 0, none⟩) k k] ∧ IntsAt wr a (stT g.val fr ms j).settled ∧ IntsAt wr b (arrT g.val fr ms j) ∧ SliceOf wr 1 i64cells (some ⟨ba, oa, none⟩) k (stT g.val fr ms j).now)
        case atStart => exact ⟨0, b1, o1, d, by omega, rfl, rfl, by omega, by omega, by omega, fun i hi => absurd hi (by omega), HB3.out, HG3.out, HR3.out, HX3.out, by unfold stT; simp only; rw [HL.out]; exact HA3.out, by unfold arrT; rw [HL.out]; exact HB5.out, HRW.out⟩
        case round =>
          obtain ⟨j, ba, oa, c, hj, hgj, rfl, hna, hnb, hnx, hz, hb, hg, hrz, hx, hsa, hsb, hsn⟩ := hrel
          have hok := HOK.out j
          have hd1 : (stT g.val fr ms (j + 1)).now = (stepT g.val fr (stT g.val fr ms j).now k).1 := by rw [← HL.out]; rfl
          have hd2 : (stT g.val fr ms (j + 1)).settled = addL (stT g.val fr ms j).settled (stepT g.val fr (stT g.val fr ms j).now k).2 := by rw [← HL.out]; rfl
          have HD1 := Lib.hid hd1
          have HD2 := Lib.hid hd2
          have HD3 := Lib.hid (times_mark g.val fr ms j)
          have HLN : Hid ((stT g.val fr ms j).now.length = k) := hsn.len
          have HLS : Hid ((stT g.val fr ms j).settled.length = k) := hok.l2.trans HL.out
          have HN1' : Hid (∀ x ∈ (stT g.val fr ms j).now, 0 ≤ x) := hok.n1
          have HN2' : Hid (∀ x ∈ (stT g.val fr ms j).settled, 0 ≤ x) := hok.n2
          have HSUM : Hid ((stT g.val fr ms j).now.sum + (stT g.val fr ms j).settled.sum = ms.sum) := hok.sum
          have HARR : Hid ((arrT g.val fr ms j).length = k) := by
            rw [Hid]
            cases j with
            | zero => unfold arrT; rw [List.length_replicate, HL.out]
            | succ j => exact (HOK.out j).l3.trans HL.out
          have HGJ := Lib.hid hgj
          have HZ := Lib.hid hz
          have HB3 := Lib.hid hb
          have HG3 := Lib.hid hg
          have HR3 := Lib.hid hrz
          have HX3 := Lib.hid hx
          have hbx1 : bx < wr.heap.size := hx.lt
          clear hok hd1 hd2 hgj hz hb hg hrz hx
          obtain ⟨cur, hcur⟩ : ∃ cur, (stT g.val fr ms j).now = cur := ⟨_, rfl⟩
          obtain ⟨stl, hstl⟩ : ∃ stl, (stT g.val fr ms j).settled = stl := ⟨_, rfl⟩
          obtain ⟨arr, harr⟩ : ∃ arr, arrT g.val fr ms j = arr := ⟨_, rfl⟩
          rw [hcur] at hsn HD1 HD2 HD3 HLN HN1' HSUM
          rw [hstl] at hsa HD2 HLS HN2' HSUM
          rw [harr] at hsb HD3 HARR
          have HCUR := Lib.hid hcur
          have HSTL := Lib.hid hstl
          have HSN := Lib.hid hsn
          have HSA3 := Lib.hid hsa
          have HSB3 := Lib.hid hsb
          have hs1 := sum_nonneg cur HN1'.out
          have hs2 := sum_nonneg stl HN2'.out
          have hs3 : cur.sum ≤ 64000000 ∧ stl.sum ≤ 64000000 := by have := HSUM.out; have := HS.out; omega
          have HS3 := Lib.hid hs3
          have HLA : Hid (arr.length = cur.length) := HARR.out.trans HLN.out.symm
          clear hcur hstl harr hsn hsa hsb hs1 hs2 hs3
          go_wp2
          go_loopg [42, 10] k (fun gk i s wr => ∃ c2 : Nat, c2 ≤ k ∧ gk = k - c2 ∧ i = .int .i64 c2 ∧ s = .bool (!zeroB (cur.take c2)) ∧ Below w.heap.size w wr ∧ Own wr w.heap.size 26 #[.int .i64 g.rows, .int .i64 g.columns, .int .i64 g.size, .slice g.heightsA g.heightsN g.heightsC] ∧ Own wr (w.heap.size + 1) 68 #[.slice none 0 0, .int .i64 0, .slice none 0 0] ∧ Own wr bx 68 #[.slice (some ⟨a, 0, none⟩) k k, .int .i64 (j : Int), .slice (some ⟨b, 0, none⟩) k k] ∧ IntsAt wr a stl ∧ IntsAt wr b (mixL (timeOf j) arr cur c2) ∧ SliceOf wr 1 i64cells (some ⟨ba, oa, none⟩) k cur)
          case atStart => exact ⟨0, Nat.zero_le _, rfl, rfl, rfl, HB3.out, HG3.out, HR3.out, HX3.out, HSA3.out, by rw [mixL_zero]; exact HSB3.out, HSN.out⟩
          case round =>
            obtain ⟨c2, hc2, hgc, rfl, rfl, hb4, hg4, hr4, hx4, hsa4, hsb4, hsn4⟩ := hrel
            have HGC := Lib.hid hgc
            have HB4 := Lib.hid hb4
            have HG4 := Lib.hid hg4
            have HR4 := Lib.hid hr4
            have HX4 := Lib.hid hx4
            have HA4 := Lib.hid hsa4
            have HT4 := Lib.hid hsb4
            have HN4 := Lib.hid hsn4
            clear hgc hb4 hg4 hr4 hsa4
            by_cases hck : c2 < k
            · obtain ⟨bb', oo', m, hA', hbl, hmy, n0⟩ := ints_at hsn4 hck
              injection hA' with e
              injection e with e1 e2 _
              subst e1 e2
              obtain ⟨tx, htx⟩ : ∃ x, arr[c2]? = some x := ⟨_, List.getElem?_eq_getElem (by rw [HARR.out]; exact hck)⟩
              have t0 : wr.cell? ⟨b, c2, none⟩ = some (.int .i64 tx) := hsb4.cell (mixL_at HLA.out htx)
              have df := hsb4.frozen
              have y1 : wr.cell? ⟨bx, 1, none⟩ = some (.int .i64 j) := hx4.cell 1
              have y2 : wr.cell? ⟨bx, 2, none⟩ = some (.slice (some ⟨b, 0, none⟩) k k) := hx4.cell 2
              have HZS := Lib.hid (zeroB_snoc hmy)
              clear hx4 hsb4 hsn4
              by_cases hmp : 0 < m
              · by_cases htn : tx < 0
                · have HTF : Hid (IntsAt (wr.setCell ⟨b, c2, none⟩ (.int .i64 (j : Int))) b (mixL (timeOf j) arr cur (c2 + 1))) := by
                    have h := HT4.out.set c2 (j : Int)
                    rw [Hid, ← mixL_step HLA.out htx hmy, show timeOf j tx m = (j : Int) by unfold timeOf; rw [if_pos ⟨by omega, by omega⟩]]
                    exact h
                  clear htx hmy
                  go_wp2
                  go_roundg (k - (c2 + 1))
                  case measure => have := HGC.out; omega
                  case rel => exact ⟨c2 + 1, by omega, rfl, by go_num, by rw [HZS.out, decide_eq_false (show ¬ m ≤ 0 by omega), Bool.and_false]; rfl, HB4.out.setCell (by simp; omega) _, HG4.out.far (by simp; omega) _, HR4.out.far (by simp; omega) _, HX4.out.far (fun e => hbx' e.symm) _, HA4.out.other hab _ _, HTF.out, HN4.out.set_far hnb _⟩
                · have hd : decide (tx < 0) = false := decide_eq_false htn
                  have HTF : Hid (IntsAt wr b (mixL (timeOf j) arr cur (c2 + 1))) := by
                    rw [Hid, ← mixL_same HLA.out htx hmy (by unfold timeOf; rw [if_neg (by omega)])]
                    exact HT4.out
                  clear htx hmy
                  go_wp2
                  go_roundg (k - (c2 + 1))
                  case measure => have := HGC.out; omega
                  case rel => exact ⟨c2 + 1, by omega, rfl, by go_num, by rw [HZS.out, decide_eq_false (show ¬ m ≤ 0 by omega), Bool.and_false]; rfl, HB4.out, HG4.out, HR4.out, HX4.out, HA4.out, HTF.out, HN4.out⟩
              · have hd : decide (0 < m) = false := decide_eq_false hmp
                have HTF : Hid (IntsAt wr b (mixL (timeOf j) arr cur (c2 + 1))) := by
                  rw [Hid, ← mixL_same HLA.out htx hmy (by unfold timeOf; rw [if_neg (by omega)])]
                  exact HT4.out
                clear htx hmy
                go_wp2
                go_roundg (k - (c2 + 1))
                case measure => have := HGC.out; omega
                case rel => exact ⟨c2 + 1, by omega, rfl, by go_num, by rw [HZS.out, decide_eq_true (show m ≤ 0 by omega), Bool.and_true], HB4.out, HG4.out, HR4.out, HX4.out, HA4.out, HTF.out, HN4.out⟩
            · have hck2 : c2 = k := by omega
              subst hck2
              rw [show mixL (timeOf j) arr cur c2 = (stT g.val fr ms j).times by rw [HD3.out, ← mixL_all HLA.out, HARR.out]] at HT4
              rw [List.take_of_length_le (show cur.length ≤ c2 by rw [HLN.out]; exact Nat.le_refl _)]
              clear hsb4 hsn4
              cases hzb : zeroB cur
              · have hj5 : j < 5001 := by
                  rcases Nat.lt_or_ge j 5001 with h | h
                  · exact h
                  · have hje : j = 5001 := by omega
                    have h1 := HZL.out
                    rw [← hje, HCUR.out, hzb] at h1
                    cases h1
                have HZB := Lib.hid hzb
                have y0 : wr.cell? ⟨w.heap.size, 0, none⟩ = some (.int .i64 g.rows) := HG4.out.cell 0
                have y1 : wr.cell? ⟨w.heap.size, 1, none⟩ = some (.int .i64 g.columns) := HG4.out.cell 1
                have y2 : wr.cell? ⟨w.heap.size, 2, none⟩ = some (.int .i64 g.size) := HG4.out.cell 2
                have y3 : wr.cell? ⟨w.heap.size, 3, none⟩ = some (.slice g.heightsA g.heightsN g.heightsC) := HG4.out.cell 3
                clear hx4 hzb
                simp only [Bool.not_false]
                go_wp2_with fail
                refine (route_any g _ c2 c cur fr _ (HI.out.below HB4.out) HGB.out HN4.out Hl.out hfr HN1'.out HS3.out.1).mono ?_
                rintro e w2 ⟨u, v, rfl, hu, hv, hb2⟩
                clear y0 y1 y2 y3
                obtain ⟨⟨mvl, mor⟩, hst⟩ : ∃ z, stepT g.val fr cur c2 = z := ⟨_, rfl⟩
                have hsl := stepT_len g.val fr cur c2
                have hso := stepT_ok (g := g.val) (fr := fr) (ms := cur) HGB.out (by rw [HLN.out, Hl.out]; exact HI.out.1.len.symm) hfr HN1'.out c2 (by rw [HLN.out]; exact Nat.le_refl _)
                rw [hst] at hu hv hsl hso HD1 HD2
                have HD1' : Hid ((stT g.val fr ms (j + 1)).now = mvl) := HD1.out
                have HD2' : Hid ((stT g.val fr ms (j + 1)).settled = addL stl mor) := HD2.out
                have hml : mvl.length = c2 := hsl.1.trans HLN.out
                have hol : mor.length = c2 := hsl.2.trans HLN.out
                have HON : Hid (∀ x ∈ mor, 0 ≤ x ∧ x ≤ 64000000) := fun x hx => by
                  have h1 := le_sum mor hso.n2 x hx
                  have h2 := hso.sum
                  have h3 := sum_nonneg mvl hso.n1
                  rw [List.take_of_length_le (by rw [HLN.out]; exact Nat.le_refl _)] at h2
                  have := HS3.out.1
                  have h4 := hso.n2 x hx
                  simp only at h2
                  omega
                clear hsl hso hst HD1 HD2
                have hu0 : OwnsL w2 wr.heap.size 2 1 i64cells u mvl := hu
                have hv0 : OwnsL w2 wr.heap.size 2 1 i64cells v mor := hv
                clear hu hv
                obtain ⟨bu, cu, rfl, hbu, hbul⟩ := hu0.block (by intro e; rw [e] at hml; simp at hml; omega)
                obtain ⟨bv, cv, rfl, hbv, hbvl⟩ := hv0.block (by intro e; rw [e] at hol; simp at hol; omega)
                rw [hml] at hu0 ⊢
                rw [hol] at hv0 ⊢
                have haL : a < wr.heap.size := HA4.out.lt
                have hbL : b < wr.heap.size := HT4.out.lt
                have hxL : bx < wr.heap.size := HX4.out.lt
                have HML := Lib.hid hml
                have HOL := Lib.hid hol
                have HLST : Hid (stl.length = mor.length) := HLS.out.trans hol.symm
                have HA6 := Lib.hid (HA4.out.below' hb2)
                have HB6 := Lib.hid (HT4.out.below' hb2)
                have HX6 := Lib.hid (HX4.out.below' hb2)
                have HG6 := Lib.hid (HG4.out.below' hb2)
                have HR6 := Lib.hid (HR4.out.below' hb2)
                have HBW := Lib.hid (HB4.out.trans (hb2.mono HB4.out.size))
                have HU6 := Lib.hid (hu0.sl i64cells_len)
                have HV6 := Lib.hid (hv0.sl i64cells_len)
                have hua : bu ≠ a := by omega
                have hub : bu ≠ b := by omega
                have hux : bu ≠ bx := by omega
                have hva : bv ≠ a := by omega
                clear hu0 hv0 hb2 hml hol hbul hbvl haL hbL hxL hbu hbv
                go_wp2
                go_loopg [74] c2 (fun gk i wr => ∃ c4 : Nat, c4 ≤ c2 ∧ gk = c2 - c4 ∧ i = .int .i64 c4 ∧ Below w.heap.size w wr ∧ Own wr w.heap.size 26 #[.int .i64 g.rows, .int .i64 g.columns, .int .i64 g.size, .slice g.heightsA g.heightsN g.heightsC] ∧ Own wr (w.heap.size + 1) 68 #[.slice none 0 0, .int .i64 0, .slice none 0 0] ∧ Own wr bx 68 #[.slice (some ⟨a, 0, none⟩) c2 c2, .int .i64 (j : Int), .slice (some ⟨b, 0, none⟩) c2 c2] ∧ IntsAt wr a (mixL (fun a b => a + b) stl mor c4) ∧ IntsAt wr b (stT g.val fr ms j).times ∧ SliceOf wr 1 i64cells (some ⟨bu, 0, none⟩) c2 mvl ∧ SliceOf wr 1 i64cells (some ⟨bv, 0, none⟩) c2 mor)
                case atStart => exact ⟨0, Nat.zero_le _, rfl, rfl, HBW.out, HG6.out, HR6.out, HX6.out, by rw [mixL_zero]; exact HA6.out, HB6.out, HU6.out, HV6.out⟩
                case round =>
                  obtain ⟨c4, hc4, hgc, rfl, hb7, hg7, hr7, hx7, hsa7, hsb7, hu7, hv7⟩ := hrel
                  have HGC7 := Lib.hid hgc
                  have HB7 := Lib.hid hb7
                  have HG7 := Lib.hid hg7
                  have HR7 := Lib.hid hr7
                  have HX7 := Lib.hid hx7
                  have HA7 := Lib.hid hsa7
                  have HT7 := Lib.hid hsb7
                  have HU7 := Lib.hid hu7
                  have HV7 := Lib.hid hv7
                  clear hgc hb7 hg7 hr7 hsb7 hu7
                  by_cases hck : c4 < c2
                  · obtain ⟨bb', oo', y, hA', hbl, hy, v0⟩ := ints_at hv7 hck
                    injection hA' with e
                    injection e with e1 e2 _
                    subst e1 e2
                    obtain ⟨x, hx⟩ : ∃ x, stl[c4]? = some x := ⟨_, List.getElem?_eq_getElem (by rw [HLS.out]; exact hck)⟩
                    have hxb : 0 ≤ x ∧ x ≤ 64000000 := by
                      have := HN2'.out x (List.mem_of_getElem? hx)
                      have := le_sum stl HN2'.out x (List.mem_of_getElem? hx)
                      have := HS3.out.2
                      omega
                    have hyb := HON.out y (List.mem_of_getElem? hy)
                    have s0 : wr.cell? ⟨a, c4, none⟩ = some (.int .i64 x) := hsa7.cell (mixL_at HLST.out hx)
                    have df := hsa7.frozen
                    have y0 : wr.cell? ⟨bx, 0, none⟩ = some (.slice (some ⟨a, 0, none⟩) c2 c2) := hx7.cell 0
                    have HSS : Hid (IntsAt (wr.setCell ⟨a, c4, none⟩ (.int .i64 (x + y))) a (mixL (fun a b => a + b) stl mor (c4 + 1))) := by
                      rw [Hid, ← mixL_step HLST.out hx hy]; exact hsa7.set _ _
                    simp only [Nat.zero_add] at v0
                    clear hsa7 hx7 hv7 hx hy
                    go_wp2
                    go_roundg (c2 - (c4 + 1))
                    case measure => have := HGC7.out; omega
                    case rel => exact ⟨c4 + 1, by omega, rfl, by go_num, HB7.out.setCell (by simp; omega) _, HG7.out.far (by simp; omega) _, HR7.out.far (by simp; omega) _, HX7.out.far (fun e => hax e.symm) _, HSS.out, HT7.out.other (Ne.symm hab) _ _, HU7.out.set_far hua _, HV7.out.set_far hva _⟩
                  · have hck2 : c4 = c2 := by omega
                    subst hck2
                    have HF1 : Hid (IntsAt wr a (stT g.val fr ms (j + 1)).settled) := by
                      have h := HA7.out
                      rw [Hid, HD2'.out, addL_eq, ← mixL_all HLST.out, HLS.out]; exact h
                    have HF3 : Hid (SliceOf wr 1 i64cells (some ⟨bu, 0, none⟩) c4 (stT g.val fr ms (j + 1)).now) := by
                      rw [Hid, HD1'.out]; exact HU7.out
                    have HF4 : Hid (∀ i, i < j + 1 → zeroB (stT g.val fr ms i).now = false) := fun i hi => by
                      by_cases e : i = j
                      · subst e; rw [HCUR.out]; exact HZB.out
                      · exact HZ.out i (by omega)
                    have y1 : wr.cell? ⟨bx, 1, none⟩ = some (.int .i64 j) := hx7.cell 1
                    have df := hx7.frozen
                    clear hsa7 hx7 hv7
                    go_wp2
                    go_roundg (5001 - (j + 1))
                    case measure => have := HGJ.out; omega
                    case rel => exact ⟨j + 1, bu, 0, cu, by omega, rfl, rfl, hua, hub, hux, HF4.out, HB7.out.setCell (by simp; omega) _, HG7.out.far (by simp; omega) _, HR7.out.far (by simp; omega) _, HX7.out.three _, HF1.out.other hax _ _, HT7.out.other hbx' _ _, HF3.out.set_far hux _⟩
              · have HRN : Hid (runN g.val fr ms = j) := by
                  rw [Hid]
                  exact runN_of hj (by rw [HCUR.out]; exact hzb) HZ.out
                have x0 : wr.cell? ⟨bx, 0, none⟩ = some (.slice (some ⟨a, 0, none⟩) c2 c2) := hx4.cell 0
                have x1 : wr.cell? ⟨bx, 1, none⟩ = some (.int .i64 j) := hx4.cell 1
                have x2 : wr.cell? ⟨bx, 2, none⟩ = some (.slice (some ⟨b, 0, none⟩) c2 c2) := hx4.cell 2
                have r0 : wr.cell? ⟨w.heap.size + 1, 0, none⟩ = some (.slice none 0 0) := HR4.out.cell 0
                have r1 : wr.cell? ⟨w.heap.size + 1, 1, none⟩ = some (.int .i64 0) := HR4.out.cell 1
                have r2 : wr.cell? ⟨w.heap.size + 1, 2, none⟩ = some (.slice none 0 0) := HR4.out.cell 2
                have df := HR4.out.frozen
                have HTL : Hid ((stT g.val fr ms j).times.length = c2) := (HOK.out j).l3.trans HL.out
                clear hx4 hzb
                simp only [Bool.not_true]
                go_wp2
                obtain ⟨wf, hwf⟩ : ∃ wf, ((wr.setCell ⟨w.heap.size + 1, 0, none⟩ (.slice (some ⟨a, 0, none⟩) c2 c2)).setCell ⟨w.heap.size + 1, 1, none⟩ (.int .i64 j)).setCell ⟨w.heap.size + 1, 2, none⟩ (.slice (some ⟨b, 0, none⟩) c2 c2) = wf := ⟨_, rfl⟩
                have hOf : Own wf (w.heap.size + 1) 68 #[.slice (some ⟨a, 0, none⟩) c2 c2, .int .i64 j, .slice (some ⟨b, 0, none⟩) c2 c2] := by
                  rw [← hwf]
                  have := ((HR4.out.put 0 (.slice (some ⟨a, 0, none⟩) c2 c2)).put 1 (.int .i64 j)).put 2 (.slice (some ⟨b, 0, none⟩) c2 c2)
                  simpa using this
                have hBf : Below w.heap.size w wf := by rw [← hwf]; exact ((HB4.out.setCell (by simp) _).setCell (by simp) _).setCell (by simp) _
                have hkf : ∀ kk, kk ≠ w.heap.size + 1 → wf.heap[kk]? = wr.heap[kk]? := fun kk h => by rw [← hwf]; exact set3_heap _ _ _ _ _ kk h
                rw [hwf]
                clear hwf
                have d0 : wf.cell? ⟨w.heap.size + 1, 0, none⟩ = some (.slice (some ⟨a, 0, none⟩) c2 c2) := hOf.cell 0
                have d1 : wf.cell? ⟨w.heap.size + 1, 1, none⟩ = some (.int .i64 j) := hOf.cell 1
                have d2 : wf.cell? ⟨w.heap.size + 1, 2, none⟩ = some (.slice (some ⟨b, 0, none⟩) c2 c2) := hOf.cell 2
                have hAf : IntsAt wf a stl := (hkf a (by omega)).trans HA4.out
                have hTf : IntsAt wf b (stT g.val fr ms j).times := (hkf b (by omega)).trans HT4.out
                refine bodyPost_ret (v := .agg #[.slice (some ⟨a, 0, none⟩) c2 c2, .int .i64 j, .slice (some ⟨b, 0, none⟩) c2 c2]) (by simp [results, Tryz.results38, go_sem, d0, d1, d2]) rfl ⟨_, _, by rw [HRN.out], ?_, ?_, hBf⟩
                · rw [HRN.out, HSTL.out]; exact hAf.owns HLS.out (by omega) (by omega)
                · rw [HRN.out]; exact hTf.owns HTL.out (by omega) (by omega)

end Go.Proofs.YtphapakhoibamaaGreatDoor
