/- What RunMass and its kin answer before they run: both sides. -/
import Derived.Test.YtphapakhoibamaaGreatDoorBase
import Derived.Test.YtphapakhoibamaaGreatDoorMem
import Derived.Test.YtphapakhoibamaaGreatDoorTInt64
import Derived.Test.YtphapakhoibamaaGreatDoorWithin
import Derived.Test.YtphapakhoibamaaGreatDoorTGrid
import Derived.Test.YtphapakhoibamaaGreatDoorGrids
namespace Go.Proofs.YtphapakhoibamaaGreatDoor
open Go.RowKit

def massB (g : Grid) (ms : List Int) : Bool := decide (ms.length = g.heights.length) && ms.all fun y => inB y 0 1000000
def runC (g : Grid) (ms : List Int) (fr : Int) : Int := if gridB g = false then 1 else if inB fr 1 5000 = false then 2 else if massB g ms = false then 7 else 0
theorem takesum_step {xs : List Int} {k : Nat} {x : Int} (h : xs[k]? = some x) : (xs.take (k + 1)).sum = (xs.take k).sum + x := by
  rw [List.take_succ_eq_append_getElem (List.getElem?_eq_some_iff.1 h).1, (List.getElem?_eq_some_iff.1 h).2]; simp
set_option maxHeartbeats 1000000 in
theorem l13Sum_any (A : Option Addr) (n c : Nat) (xs : List Int) (w : World) (hx : SliceOf w 1 i64cells A n xs) (hn : n ≤ 64) (hb : ∀ x ∈ xs, 0 ≤ x ∧ x ≤ 100000000000) :
    Calls Tryz.prog 55 #[.slice A n c] w (RetS (.int .i64 xs.sum) w) := by
  have HL := Lib.hid hx.len
  have HB := Lib.hid hb
  clear hb
  go_enter Tryz.func55, Tryz.ntmps55
  go_wp2
  go_loopg [3, 4] n (fun gk s i wr => ∃ (k : Nat) (q : Int), k ≤ n ∧ gk = n - k ∧ i = .int .i64 k ∧ s = .int .i64 q ∧ q = (xs.take k).sum ∧ 0 ≤ q ∧ q ≤ 100000000000 * k ∧ w = wr)
  case atStart => exact ⟨0, 0, Nat.zero_le _, rfl, rfl, rfl, rfl, by omega, by omega, rfl⟩
  case round =>
    obtain ⟨k, q, hk, hgk, rfl, rfl, hq, hq0, hq1, rfl⟩ := hrel
    have Hq := Lib.hid hq
    have Hgk := Lib.hid hgk
    clear hq hgk
    by_cases hlt : k < n
    · obtain ⟨b1, o1, x, rfl, hb1, hxk, x0⟩ := ints_at hx hlt
      have ⟨_, _⟩ := HB.out x (List.mem_of_getElem? hxk)
      have Hs := Lib.hid (takesum_step hxk)
      clear hxk
      go_wp2
      go_roundg (n - (k + 1))
      case measure => have := Hgk.out; omega
      case rel => exact ⟨k + 1, q + x, by omega, rfl, by go_num, by first | rfl | go_num, by rw [Hs.out, Hq.out], by omega, by omega, rfl⟩
    · have HE : Hid (q = xs.sum) := by rw [Hid, Hq.out, List.take_of_length_le (by rw [HL.out]; omega)]
      go_wp2
      go_ret
      exact RetS.i HE.out
set_option maxHeartbeats 1000000 in
theorem l13Masses_any (g : GridR) (bg offg : Nat) (B : Option Addr) (m d : Nat) (ms : List Int) (w : World) (hr : SliceOf w 1 i64cells B m ms) (hgl : g.heights.length = g.heightsN) (hgb : gridB g.val = true) (hbg0 : bg < w.heap.size)
    (g0 : w.cell? ⟨bg, offg, none⟩ = some (.int .i64 g.rows)) (g1 : w.cell? ⟨bg, offg + 1, none⟩ = some (.int .i64 g.columns)) :
    Calls Tryz.prog 53 #[.pointer (some ⟨bg, offg, none⟩), .slice B m d] w (Ret (.bool (massB g.val ms)) w) := by
  have hm := hr.le
  have HL := Lib.hid hr.len
  have hp := (gridB_iff g.val).1 hgb
  have hmul := mul_i64 (inB_iff.1 hp.1) (inB_iff.1 hp.2.1)
  have hl : g.rows * g.columns = (g.heightsN : Int) := by have h := of_decide_eq_true hp.2.2.2.1; exact h.symm.trans (congrArg (fun k : Nat => (k : Int)) hgl)
  have hw : IntKind.i64.wrap (g.rows * g.columns) = g.rows * g.columns := hmul.1
  rw [hl] at hw
  have HGl := Lib.hid hgl
  clear hp hmul hgb
  go_enter Tryz.func53, Tryz.ntmps53
  go_wp2
  go_loopg [5] m (fun gk i wr => ∃ k : Nat, k ≤ m ∧ gk = m - k ∧ i = .int .i64 k ∧ w = wr ∧ NoneTo (fun y => !inB y 0 1000000) ms k)
  case atStart => exact ⟨0, Nat.zero_le _, rfl, rfl, rfl, NoneTo.zero⟩
  case round =>
    obtain ⟨k, hk, hgk, rfl, rfl, hall⟩ := hrel
    have Hall := Lib.hid hall
    have Hgk := Lib.hid hgk
    clear hall hgk
    by_cases hlt : k < m
    · obtain ⟨b2, o2, y, rfl, hb2, hxk, z0⟩ := ints_at hr hlt
      have Hx := Lib.hid hxk
      clear hxk
      cases hc : inB y 0 1000000
      · have HC := Lib.hid hc
        go_wp2_with (go_at_call 52; refine (l00In_any _ _ _ _).mono ?_; rintro e w' ⟨rfl, rfl⟩)
        go_ret
        exact Ret.b (by unfold massB; rw [all_hit (p := fun y => inB y 0 1000000) Hx.out HC.out, Bool.and_false]) (Below.refl _ _)
      · have HC := Lib.hid hc
        go_wp2_with (go_at_call 52; refine (l00In_any _ _ _ _).mono ?_; rintro e w' ⟨rfl, rfl⟩)
        go_roundg (m - (k + 1))
        case measure => have := Hgk.out; omega
        case rel => exact ⟨k + 1, by omega, rfl, by go_num, rfl, Hall.out.step Hx.out (by simp [HC.out])⟩
    · have HA := Lib.hid (all_none (p := fun y => inB y 0 1000000) (by rw [HL.out]; omega) Hall.out)
      by_cases he : m = g.heightsN
      · have HF : Hid (massB g.val ms = true) := by
          rw [Hid]; unfold massB; rw [HA.out, Bool.and_true]; exact decide_eq_true (by rw [HL.out, show g.val.heights.length = g.heightsN from HGl.out]; exact he)
        have hd : decide ((m : Int) = (g.heightsN : Int)) = true := decide_eq_true (by omega)
        have hd2 : ((m : Int) == (g.heightsN : Int)) = true := by simp; omega
        have hsub := fun (g : Sub w) b o (h : b < w.heap.size) => g.cell b o h
        clear he
        go_wp2_with fail
        refine wp_region_sub (by kernel_rfl) (by kernel_rfl) ?_
        repeat (go_big_quiet_step (fail))
        refine wpQuiet_nil ?_
        intro wg hg
        go_wp2
        go_ret
        exact Ret.b HF.out.symm hg
      · have HF : Hid (massB g.val ms = false) := by
          rw [Hid]; unfold massB; rw [decide_eq_false (by rw [HL.out, show g.val.heights.length = g.heightsN from HGl.out]; exact he), Bool.false_and]
        have hd : decide ((m : Int) = (g.heightsN : Int)) = false := decide_eq_false (by omega)
        have hd2 : ((m : Int) == (g.heightsN : Int)) = false := by simp; omega
        have hsub := fun (g : Sub w) b o (h : b < w.heap.size) => g.cell b o h
        clear he
        go_wp2_with fail
        refine wp_region_sub (by kernel_rfl) (by kernel_rfl) ?_
        repeat (go_big_quiet_step (fail))
        refine wpQuiet_nil ?_
        intro wg hg
        go_wp2
        go_ret
        exact Ret.b HF.out.symm hg
set_option maxHeartbeats 1000000 in
theorem l13Ask_any (g : GridR) (bg offg : Nat) (B : Option Addr) (m d : Nat) (ms : List Int) (fr : Int) (w : World) (hgi : g.In w) (hr : SliceOf w 1 i64cells B m ms) (hbg0 : bg < w.heap.size)
    (g0 : w.cell? ⟨bg, offg, none⟩ = some (.int .i64 g.rows)) (g1 : w.cell? ⟨bg, offg + 1, none⟩ = some (.int .i64 g.columns)) (g2 : w.cell? ⟨bg, offg + 2, none⟩ = some (.int .i64 g.size)) (g3 : w.cell? ⟨bg, offg + 3, none⟩ = some (.slice g.heightsA g.heightsN g.heightsC)) :
    Calls Tryz.prog 26 #[.pointer (some ⟨bg, offg, none⟩), .slice B m d, .int .i64 fr] w (Ret (.int .i64 (runC g.val ms fr)) w) := by
  have HI := Lib.hid hgi
  have HR := Lib.hid hr
  have G0 := Lib.hid g0
  have G1 := Lib.hid g1
  have G2 := Lib.hid g2
  have G3 := Lib.hid g3
  clear hgi hr g0 g1 g2 g3
  go_enter Tryz.func26, Tryz.ntmps26
  go_wp2_with fail
  refine (l09Ok_any g _ _ _ HI.out hbg0 G0.out G1.out G2.out G3.out).mono ?_
  rintro e w1 ⟨rfl, hb1⟩
  cases hgb : gridB g.val
  · have HF : Hid (runC g.val ms fr = 1) := by rw [Hid]; unfold runC; rw [if_pos hgb]
    go_wp2
    go_ret
    exact Ret.i HF.out.symm hb1
  cases hfr : inB fr 1 5000
  · have HF : Hid (runC g.val ms fr = 2) := by rw [Hid]; unfold runC; rw [if_neg (by rw [hgb]; simp), if_pos hfr]
    go_wp2_with (go_at_call 52; refine (l00In_any _ _ _ _).mono ?_; rintro e w' ⟨rfl, rfl⟩)
    go_ret
    exact Ret.i HF.out.symm hb1
  go_wp2_with (go_at_call 52; refine (l00In_any _ _ _ _).mono ?_; rintro e w' ⟨rfl, rfl⟩)
  refine (l13Masses_any g _ _ _ _ _ ms _ (HR.out.below hb1) HI.out.1.len hgb (Nat.lt_of_lt_of_le hbg0 hb1.size) ((hb1.cell hbg0).trans G0.out) ((hb1.cell hbg0).trans G1.out)).mono ?_
  rintro e w2 ⟨rfl, hb2⟩
  cases hms : massB g.val ms
  · have HF : Hid (runC g.val ms fr = 7) := by rw [Hid]; unfold runC; rw [if_neg (by rw [hgb]; simp), if_neg (by rw [hfr]; simp), if_pos hms]
    go_wp2
    go_ret
    exact Ret.i HF.out.symm (hb1.trans (hb2.mono hb1.size))
  · have HF : Hid (runC g.val ms fr = 0) := by rw [Hid]; unfold runC; rw [if_neg (by rw [hgb]; simp), if_neg (by rw [hfr]; simp), if_neg (by rw [hms]; simp)]
    go_wp2
    go_ret
    exact Ret.i HF.out.symm (hb1.trans (hb2.mono hb1.size))
def runCx (g : Grid) (ms : List Int) (fr : Int) (cs : List Int) : Int := if gridB g = false then 1 else if (inB fr 1 5000 && cs.all fun y => inB y 0 ((g.heights.length : Int) - 1)) = false then 2 else if massB g ms = false then 7 else 0
theorem runCx_nil (g : Grid) (ms : List Int) (fr : Int) : runCx g ms fr [] = runC g ms fr := by unfold runCx runC; simp
set_option maxHeartbeats 1000000 in
theorem hasMasses_any (g : GridR) (B : Option Addr) (m d : Nat) (ms : List Int) (w : World) (hgi : g.In w) (hr : SliceOf w 1 i64cells B m ms) :
    Calls Tryz.prog 36 #[.agg #[.int .i64 g.rows, .int .i64 g.columns, .int .i64 g.size, .slice g.heightsA g.heightsN g.heightsC], .slice B m d] w (Ret (.bool (massB g.val ms)) w) := by
  have HGl := Lib.hid hgi.1.len
  have HL := Lib.hid hr.len
  have hgn := hgi.1.le
  have hm := hr.le
  have hB : Below w.heap.size w (w.alloc (.cells #[.int .i64 g.rows, .int .i64 g.columns, .int .i64 g.size, .slice g.heightsA g.heightsN g.heightsC] 26)) := (Below.refl _ _).alloc (Nat.le_refl _) _
  have HB := Lib.hid hB
  have HR := Lib.hid (hr.below hB)
  clear hgi hB hr
  by_cases he : m = g.heightsN
  · have HF : Hid (massB g.val ms = ms.all fun y => inB y 0 1000000) := by
      rw [Hid]; unfold massB; rw [decide_eq_true (by rw [HL.out, show g.val.heights.length = g.heightsN from HGl.out]; exact he), Bool.true_and]
    have hd : decide ((m : Int) = (g.heightsN : Int)) = true := decide_eq_true (by omega)
    have hd2 : ((m : Int) == (g.heightsN : Int)) = true := by simp; omega
    clear he
    go_enter Tryz.func36, Tryz.ntmps36
    go_wp2_with fail
    refine (allWithin_any 0 1000000 _ _ _ ms _ HR.out).mono ?_
    rintro e w1 ⟨rfl, hb1⟩
    go_wp2
    go_ret
    exact Ret.b HF.out.symm (HB.out.trans (hb1.mono HB.out.size))
  · have HF : Hid (massB g.val ms = false) := by
      rw [Hid]; unfold massB; rw [decide_eq_false (by rw [HL.out, show g.val.heights.length = g.heightsN from HGl.out]; exact he), Bool.false_and]
    have hd : decide ((m : Int) = (g.heightsN : Int)) = false := decide_eq_false (by omega)
    have hd2 : ((m : Int) == (g.heightsN : Int)) = false := by simp; omega
    clear he
    go_enter Tryz.func36, Tryz.ntmps36
    go_wp2
    go_ret
    exact Ret.b HF.out.symm HB.out
def cellC (g : Grid) (cs : List Int) : Int := if gridB g = false then 1 else if (cs.all fun y => inB y 0 ((g.heights.length : Int) - 1)) = false then 2 else 0
set_option maxHeartbeats 1000000 in
theorem gridCode_any (g : GridR) (B : Option Addr) (m d : Nat) (cs : List Int) (w : World) (hgi : g.In w) (hr : SliceOf w 1 i64cells B m cs) :
    Calls Tryz.prog 63 #[.agg #[.int .i64 g.rows, .int .i64 g.columns, .int .i64 g.size, .slice g.heightsA g.heightsN g.heightsC], .slice B m d] w (Ret (.int .i64 (cellC g.val cs)) w) := by
  have HGl := Lib.hid hgi.1.len
  have hgn := hgi.1.le
  have hB : Below w.heap.size w (w.alloc (.cells #[.int .i64 g.rows, .int .i64 g.columns, .int .i64 g.size, .slice g.heightsA g.heightsN g.heightsC] 26)) := (Below.refl _ _).alloc (Nat.le_refl _) _
  have HO := Lib.hid (Own.new w 26 #[.int .i64 g.rows, .int .i64 g.columns, .int .i64 g.size, .slice g.heightsA g.heightsN g.heightsC])
  have HB := Lib.hid hB
  have HI := Lib.hid (hgi.below hB)
  have HR := Lib.hid (hr.below hB)
  clear hgi hB hr
  go_enter Tryz.func63, Tryz.ntmps63
  go_wp2_with fail
  refine (validGrid_any g _ HI.out).mono ?_
  rintro e w1 ⟨rfl, hb1⟩
  have hbz := HB.out.trans (hb1.mono HB.out.size)
  cases hgb : gridB g.val
  · have HF : Hid (cellC g.val cs = 1) := by rw [Hid]; unfold cellC; rw [if_pos hgb]
    go_wp2
    go_ret
    exact Ret.i HF.out.symm hbz
  have y3 : w1.cell? ⟨w.heap.size, 3, none⟩ = some (.slice g.heightsA g.heightsN g.heightsC) := (hb1.cell (p := ⟨w.heap.size, 3, none⟩) (by simp)).trans (HO.out.cell 3)
  go_wp2_with fail
  refine (allWithin_any 0 ((g.heightsN : Int) - 1) _ _ _ cs _ (HR.out.below hb1)).mono ?_
  rintro e w2 ⟨rfl, hb2⟩
  have hbz2 := hbz.trans (hb2.mono hbz.size)
  cases hcs : cs.all fun y => inB y 0 ((g.heightsN : Int) - 1)
  · have HF : Hid (cellC g.val cs = 2) := by rw [Hid]; unfold cellC; rw [if_neg (by rw [hgb]; simp), if_pos (by rw [show g.val.heights.length = g.heightsN from HGl.out]; exact hcs)]
    go_wp2
    go_ret
    exact Ret.i HF.out.symm hbz2
  · have HF : Hid (cellC g.val cs = 0) := by rw [Hid]; unfold cellC; rw [if_neg (by rw [hgb]; simp), if_neg (by rw [show g.val.heights.length = g.heightsN from HGl.out, hcs]; simp)]
    go_wp2
    go_ret
    exact Ret.i HF.out.symm hbz2

end Go.Proofs.YtphapakhoibamaaGreatDoor
