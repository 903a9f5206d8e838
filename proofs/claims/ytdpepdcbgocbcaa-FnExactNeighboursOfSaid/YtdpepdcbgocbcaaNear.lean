/- NeighboursOf on both sides. -/
import Derived.Test.YtdpepdcbgocbcaaBase
import Derived.Test.YtdpepdcbgocbcaaMem
import Derived.Test.YtdpepdcbgocbcaaTInt64
import Derived.Test.YtdpepdcbgocbcaaWithin
import Derived.Test.YtdpepdcbgocbcaaTGrid
import Derived.Test.YtdpepdcbgocbcaaGrids
import Derived.Test.YtdpepdcbgocbcaaWays
import Derived.Test.YtdpepdcbgocbcaaSpecGo
import Derived.Test.YtdpepdcbgocbcaaPush2
import Derived.Test.YtdpepdcbgocbcaaArr2
import Derived.Test.YtdpepdcbgocbcaaRunL
import Derived.Test.YtdpepdcbgocbcaaRunCode
import Derived.Test.YtdpepdcbgocbcaaNearP
import Derived.Test.YtdpepdcbgocbcaaSortU6
namespace Go.Proofs.Ytdpepdcbgocbcaa
open Go.RowKit

set_option maxRecDepth 100000 in
set_option maxHeartbeats 1000000 in
theorem l00Put_any (A : Option Addr) (n c : Nat) (xs : List Int) (v : Int) (w : World) (hx : SliceOf w 1 i64cells A n xs) (hn : n ≤ 1000) :
    Calls Try.prog 98 #[.slice A n c, .int .i64 v] w (RetL 2 1 i64cells (putT v xs) w) := by
  have HX := Lib.hid hx
  have HL := Lib.hid hx.len
  clear hx
  go_enter Try.func98, Try.ntmps98
  go_wp2
  go_loopg [5, 6, 7] n (fun gk u dn i wr => ∃ (k : Nat) (z : Value) (o : List Int) (b : Bool), k ≤ n ∧ gk = n - k ∧ i = .int .i64 k ∧ z = u ∧ dn = .bool b ∧ putF v (xs.take k) = (o, b) ∧ o.length ≤ 1001 ∧ Below w.heap.size w wr ∧ OwnsL wr w.heap.size 2 1 i64cells z o)
  case atStart => exact ⟨0, _, [], false, Nat.zero_le _, rfl, rfl, rfl, rfl, rfl, by simp, (Below.refl _ _).alloc (Nat.le_refl _) _, OwnsL.made _ _ _ _ _ (Nat.le_refl _)⟩
  case round =>
    obtain ⟨k, z, o, b, hk, hgk, rfl, rfl, rfl, hf, hol, hb, hown⟩ := hrel
    have Hgk := Lib.hid hgk
    have HF := Lib.hid hf
    have HO := Lib.hid hown
    have HB := Lib.hid hb
    have HOL := Lib.hid hol
    have HSZ := Lib.hid hb.size
    clear hgk hf hown hol
    by_cases hlt : k < n
    · obtain ⟨b1, o1, x, rfl, hb1, hxk, x0w⟩ := ints_at HX.out hlt
      have x0 := (hb.cell (p := ⟨b1, o1 + k, none⟩) hb1).trans x0w
      have HS : Hid (putF v (xs.take (k + 1)) = putStep v (o, b) x) := by rw [Hid, take_snoc hxk, putF_snoc, HF.out]
      have HLN : Hid ((putF v (xs.take (k + 1))).1.length ≤ 1001) := by
        have h1 := putF_len v (xs.take (k + 1))
        have h2 : (xs.take (k + 1)).length ≤ k + 1 := List.length_take_le _ _
        rw [Hid]; omega
      have X0 := Lib.hid x0w
      clear hxk x0w
      cases b
      · by_cases hle : v ≤ x
        · by_cases hltv : v < x
          · have HE : Hid (putStep v (o, false) x = (o ++ [v, x], true)) := by rw [Hid]; unfold putStep; rw [if_pos ⟨rfl, hle⟩, if_pos hltv, List.append_assoc]; rfl
            go_wp2_with (at_builtin; refine wpList_push2 (by rfl) (.tmp 31) (.tmp 33) 27 (by rfl) w.heap.size 2 1 Try.underlying27 infoI64 (by rfl) (by decide) i64cells i64cells_len i64cells_one _ _ _ v (by rfl) (by rfl) HO.out (by first | rfl | simp [go_sem]) (by have := HOL.out; simp; omega) (by decide) HSZ.out ?_)
            intro z4 w4 ho4 hb4 _ _
            have HO4 := Lib.hid ho4
            have HB4 := Lib.hid (HB.out.trans hb4)
            have HSZ4 := Lib.hid HB4.out.size
            have x4 := (HB4.out.cell (p := ⟨b1, o1 + k, none⟩) hb1).trans X0.out
            clear ho4 hb4 x0
            go_wp2_with (at_builtin; refine wpList_push2 (by rfl) (.tmp 35) (.tmp 40) 27 (by rfl) w.heap.size 2 1 Try.underlying27 infoI64 (by rfl) (by decide) i64cells i64cells_len i64cells_one _ _ _ x (by rfl) (by rfl) HO4.out (by first | rfl | simp [go_sem]) (by have := HOL.out; simp; omega) (by decide) HSZ4.out ?_)
            intro z5 w5 ho5 hb5 _ _
            have HN : Hid (OwnsL w5 w.heap.size 2 1 i64cells z5 (o ++ [v, x])) := ho5
            have HBN := Lib.hid (HB4.out.trans hb5)
            have HP : Hid (putF v (xs.take (k + 1)) = (o ++ [v, x], true)) := by rw [Hid, HS.out, HE.out]
            have HLQ : Hid ((o ++ [v, x]).length ≤ 1001) := by have := HLN.out; rw [HP.out] at this; exact this
            clear ho5
            go_wp2
            go_roundg (n - (k + 1))
            case measure => have := Hgk.out; omega
            case rel => exact ⟨k + 1, z5, _, true, by omega, rfl, by go_num, rfl, rfl, HP.out, HLQ.out, HBN.out, HN.out⟩
          · have hd : decide (v < x) = false := decide_eq_false hltv
            have HE : Hid (putStep v (o, false) x = (o ++ [x], true)) := by rw [Hid]; unfold putStep; rw [if_pos ⟨rfl, hle⟩, if_neg hltv]
            go_wp2_with (at_builtin; refine wpList_push2 (by rfl) (.tmp 35) (.tmp 40) 27 (by rfl) w.heap.size 2 1 Try.underlying27 infoI64 (by rfl) (by decide) i64cells i64cells_len i64cells_one _ _ _ x (by rfl) (by rfl) HO.out (by first | rfl | simp [go_sem]) (by have := HOL.out; simp; omega) (by decide) HSZ.out ?_)
            intro z5 w5 ho5 hb5 _ _
            have HN : Hid (OwnsL w5 w.heap.size 2 1 i64cells z5 (o ++ [x])) := ho5
            have HBN := Lib.hid (HB.out.trans hb5)
            have HP : Hid (putF v (xs.take (k + 1)) = (o ++ [x], true)) := by rw [Hid, HS.out, HE.out]
            have HLQ : Hid ((o ++ [x]).length ≤ 1001) := by have := HLN.out; rw [HP.out] at this; exact this
            clear ho5
            go_wp2
            go_roundg (n - (k + 1))
            case measure => have := Hgk.out; omega
            case rel => exact ⟨k + 1, z5, _, true, by omega, rfl, by go_num, rfl, rfl, HP.out, HLQ.out, HBN.out, HN.out⟩
        · have hd : decide (v ≤ x) = false := decide_eq_false hle
          have HE : Hid (putStep v (o, false) x = (o ++ [x], false)) := by rw [Hid]; unfold putStep; rw [if_neg (fun h => hle h.2)]
          go_wp2_with (at_builtin; refine wpList_push2 (by rfl) (.tmp 35) (.tmp 40) 27 (by rfl) w.heap.size 2 1 Try.underlying27 infoI64 (by rfl) (by decide) i64cells i64cells_len i64cells_one _ _ _ x (by rfl) (by rfl) HO.out (by first | rfl | simp [go_sem]) (by have := HOL.out; simp; omega) (by decide) HSZ.out ?_)
          intro z5 w5 ho5 hb5 _ _
          have HN : Hid (OwnsL w5 w.heap.size 2 1 i64cells z5 (o ++ [x])) := ho5
          have HBN := Lib.hid (HB.out.trans hb5)
          have HP : Hid (putF v (xs.take (k + 1)) = (o ++ [x], false)) := by rw [Hid, HS.out, HE.out]
          have HLQ : Hid ((o ++ [x]).length ≤ 1001) := by have := HLN.out; rw [HP.out] at this; exact this
          clear ho5
          go_wp2
          go_roundg (n - (k + 1))
          case measure => have := Hgk.out; omega
          case rel => exact ⟨k + 1, z5, _, false, by omega, rfl, by go_num, rfl, rfl, HP.out, HLQ.out, HBN.out, HN.out⟩
      · have HE : Hid (putStep v (o, true) x = (o ++ [x], true)) := by rw [Hid]; unfold putStep; rw [if_neg (fun h => by cases h.1)]
        go_wp2_with (at_builtin; refine wpList_push2 (by rfl) (.tmp 35) (.tmp 40) 27 (by rfl) w.heap.size 2 1 Try.underlying27 infoI64 (by rfl) (by decide) i64cells i64cells_len i64cells_one _ _ _ x (by rfl) (by rfl) HO.out (by first | rfl | simp [go_sem]) (by have := HOL.out; simp; omega) (by decide) HSZ.out ?_)
        intro z5 w5 ho5 hb5 _ _
        have HN : Hid (OwnsL w5 w.heap.size 2 1 i64cells z5 (o ++ [x])) := ho5
        have HBN := Lib.hid (HB.out.trans hb5)
        have HP : Hid (putF v (xs.take (k + 1)) = (o ++ [x], true)) := by rw [Hid, HS.out, HE.out]
        have HLQ : Hid ((o ++ [x]).length ≤ 1001) := by have := HLN.out; rw [HP.out] at this; exact this
        clear ho5
        go_wp2
        go_roundg (n - (k + 1))
        case measure => have := Hgk.out; omega
        case rel => exact ⟨k + 1, z5, _, true, by omega, rfl, by go_num, rfl, rfl, HP.out, HLQ.out, HBN.out, HN.out⟩
    · have hkn : k = n := by omega
      subst hkn
      have HPF : Hid (putF v xs = (o, b)) := by
        have := HF.out
        rw [List.take_of_length_le (by rw [HL.out]; exact Nat.le_refl _)] at this
        exact this
      cases b
      · have HP : Hid (putT v xs = o ++ [v]) := by rw [Hid]; unfold putT; rw [HPF.out]; rfl
        go_wp2_with (at_builtin; refine wpList_push2 (by rfl) (.tmp 44) (.tmp 46) 27 (by rfl) w.heap.size 2 1 Try.underlying27 infoI64 (by rfl) (by decide) i64cells i64cells_len i64cells_one _ _ _ v (by rfl) (by rfl) HO.out (by first | rfl | simp [go_sem]) (by have := HOL.out; simp; omega) (by decide) HSZ.out ?_)
        intro z5 w5 ho5 hb5 _ _
        have HN := Lib.hid ho5
        have HBN := Lib.hid (HB.out.trans hb5)
        clear ho5 hb5
        go_wp2
        go_ret
        exact RetP.mk (by rw [HP.out]; exact HN.out) HBN.out
      · have HP : Hid (putT v xs = o) := by rw [Hid]; unfold putT; rw [HPF.out]; rfl
        go_wp2
        go_ret
        exact RetP.mk (by rw [HP.out]; exact HO.out) HB.out
theorem nearT_in {g : Grid} {c k : Nat} (h : inC g c k = true) : nearT g c (k + 1) = putT (goC g c k) (nearT g c k) := by
  show (if inC g c k then putT (goC g c k) (nearT g c k) else nearT g c k) = _
  rw [h]; rfl
theorem nearT_out {g : Grid} {c k : Nat} (h : inC g c k = false) : nearT g c (k + 1) = nearT g c k := by
  show (if inC g c k then putT (goC g c k) (nearT g c k) else nearT g c k) = _
  rw [h]; rfl
def nearC (g : Grid) (cell : Int) : Int := if gridB g = false then 1 else if inB cell 0 ((g.heights.length : Int) - 1) = false then 2 else 0
def nearA (g : Grid) (cell : Int) : List Int := if nearC g cell = 0 then nearT g cell.toNat 8 else []
theorem nearA_len (g : Grid) (cell : Int) : (nearA g cell).length ≤ 1048576 := by
  unfold nearA
  split
  · have := nearT_len g cell.toNat (k := 8) (Nat.le_refl _); omega
  · simp
theorem nearC_zero {g : Grid} {cell : Int} (h : nearC g cell = 0) : gridB g = true ∧ ∃ c : Nat, cell = c ∧ c < g.heights.length := by
  unfold nearC at h
  cases h1 : gridB g <;> cases h2 : inB cell 0 ((g.heights.length : Int) - 1) <;> simp [h1, h2] at h
  have := inB_iff.1 h2
  exact ⟨rfl, cell.toNat, by omega, by omega⟩
set_option maxRecDepth 100000 in
set_option maxHeartbeats 1000000 in
theorem l09Near_any (g : GridR) (bg offg c : Nat) (w : World) (hgi : g.In w) (hgb : gridB g.val = true) (hc : c < g.heightsN) (hbg0 : bg < w.heap.size)
    (g0 : w.cell? ⟨bg, offg, none⟩ = some (.int .i64 g.rows)) (g1 : w.cell? ⟨bg, offg + 1, none⟩ = some (.int .i64 g.columns)) :
    Calls Try.prog 72 #[.pointer (some ⟨bg, offg, none⟩), .int .i64 c] w (RetL 2 1 i64cells (nearT g.val c 8) w) := by
  have HGB := Lib.hid hgb
  have HGl := Lib.hid hgi.1.len
  have G0 := Lib.hid g0
  have G1 := Lib.hid g1
  have hgn := hgi.1.le
  clear hgi hgb g0 g1
  go_enter Try.func72, Try.ntmps72
  go_wp2
  go_loopg [5, 6] 8 (fun gk u i wr => ∃ (k : Nat) (v : Value), k ≤ 8 ∧ gk = 8 - k ∧ i = .int .i64 k ∧ v = u ∧ Below w.heap.size w wr ∧ OwnsL wr w.heap.size 2 1 i64cells v (nearT g.val c k))
  case atStart => exact ⟨0, _, Nat.zero_le _, rfl, rfl, rfl, (Below.refl _ _).alloc (Nat.le_refl _) _, OwnsL.made _ _ _ _ _ (Nat.le_refl _)⟩
  case round =>
    obtain ⟨k, v, hk, hgk, rfl, rfl, hb, hown⟩ := hrel
    have Hgk := Lib.hid hgk
    have HO := Lib.hid hown
    have HB := Lib.hid hb
    clear hgk hown
    by_cases hlt : k < 8
    · have hbgr : bg < wr.heap.size := Nat.lt_of_lt_of_le hbg0 hb.size
      go_wp2_with fail
      refine (l09Go_any g bg offg c k _ HGB.out hc HGl.out hlt hbgr ((hb.cell hbg0).trans G0.out) ((hb.cell hbg0).trans G1.out)).mono ?_
      rintro e w1 ⟨rfl, hb1⟩
      have HO1 := Lib.hid (HO.out.below' hb1)
      have HB1 := Lib.hid (HB.out.trans (hb1.mono HB.out.size))
      clear hb1
      cases hin : inC g.val c k
      · have HN : Hid (goS g.val c k = -1) := by rw [Hid]; unfold goS; rw [hin]; rfl
        have HT := Lib.hid (nearT_out hin)
        rw [HN.out]
        go_wp2
        go_roundg (8 - (k + 1))
        case measure => have := Hgk.out; omega
        case rel => exact ⟨k + 1, v, by omega, rfl, by go_num, rfl, HB1.out, by rw [HT.out]; exact HO1.out⟩
      · obtain ⟨j, hj, hjl, _, _, _⟩ := goC_in HGB.out hin
        have HN : Hid (goS g.val c k = j) := by rw [Hid]; unfold goS; rw [if_pos hin, hj]
        have HT : Hid (nearT g.val c (k + 1) = putT j (nearT g.val c k)) := by rw [Hid, nearT_in hin, hj]
        rw [HN.out]
        have hj0 : decide ((0 : Int) ≤ (j : Int)) = true := decide_eq_true (by omega)
        obtain ⟨L, hL⟩ : ∃ L, nearT g.val c k = L := ⟨_, rfl⟩
        have hl8 : L.length ≤ 8 := by rw [← hL]; exact nearT_len g.val c hk
        have ho1 := HO1.out
        rw [hL] at ho1 HT
        obtain ⟨A, cap, rfl, _, _, hs⟩ := ho1.slice i64cells_len
        obtain ⟨p, hp⟩ : ∃ p, L.length = p := ⟨_, rfl⟩
        simp only [hp] at hs hl8 ⊢
        have HSL := Lib.hid hs
        clear ho1 hs hL hp hj hin
        go_wp2_with fail
        refine (l00Put_any A p cap L j _ HSL.out (by omega)).mono ?_
        rintro e w2 ⟨u, rfl, hu, hb2⟩
        have HU : Hid (OwnsL w2 w.heap.size 2 1 i64cells u (nearT g.val c (k + 1))) := by rw [Hid, HT.out]; exact hu.rebase HB1.out.size
        have HB2 := Lib.hid (HB1.out.trans (hb2.mono HB1.out.size))
        clear hu hb2
        go_wp2
        go_roundg (8 - (k + 1))
        case measure => have := Hgk.out; omega
        case rel => exact ⟨k + 1, u, by omega, rfl, by go_num, rfl, HB2.out, HU.out⟩
    · have hkn : k = 8 := by omega
      subst hkn
      go_wp2
      go_ret
      exact RetP.mk HO.out hb
set_option maxHeartbeats 1000000 in
theorem l09CellB_any (g : GridR) (bg offg : Nat) (cell cells : Int) (w : World) (hm : IntKind.i64.wrap (g.rows * g.columns) = g.rows * g.columns) (hgc : g.rows * g.columns = cells) (hc0 : 0 ≤ cells) (hc1 : cells ≤ 9223372036854775807) (hbg0 : bg < w.heap.size) (g0 : w.cell? ⟨bg, offg, none⟩ = some (.int .i64 g.rows)) (g1 : w.cell? ⟨bg, offg + 1, none⟩ = some (.int .i64 g.columns)) :
    Calls Try.prog 106 #[.pointer (some ⟨bg, offg, none⟩), .int .i64 cell] w (Ret (.bool (inB cell 0 (cells - 1))) w) := by
  rw [hgc] at hm
  have hsub := fun (g : Sub w) b o (h : b < w.heap.size) => g.cell b o h
  go_enter Try.func106, Try.ntmps106
  go_wp2_with fail
  refine wp_region_sub (by kernel_rfl) (by kernel_rfl) ?_
  repeat (go_big_quiet_step (exact Calls.sub_of_same (l00In_any _ _ _ _)))
  refine wpQuiet_nil ?_
  intro wg hg
  go_wp2
  go_ret
  exact Ret.b rfl hg
set_option maxHeartbeats 1000000 in
theorem l09Ask_any (g : GridR) (bg offg : Nat) (cell : Int) (w : World) (hgi : g.In w) (hbg0 : bg < w.heap.size)
    (g0 : w.cell? ⟨bg, offg, none⟩ = some (.int .i64 g.rows)) (g1 : w.cell? ⟨bg, offg + 1, none⟩ = some (.int .i64 g.columns)) (g2 : w.cell? ⟨bg, offg + 2, none⟩ = some (.int .i64 g.size)) (g3 : w.cell? ⟨bg, offg + 3, none⟩ = some (.slice g.heightsA g.heightsN g.heightsC)) :
    Calls Try.prog 71 #[.pointer (some ⟨bg, offg, none⟩), .int .i64 cell] w (Ret (.int .i64 (nearC g.val cell)) w) := by
  have HGl : Hid (g.val.heights.length = g.heightsN) := hgi.1.len
  have hgn := hgi.1.le
  have HI := Lib.hid hgi
  have G0 := Lib.hid g0
  have G1 := Lib.hid g1
  have G2 := Lib.hid g2
  have G3 := Lib.hid g3
  clear hgi g0 g1 g2 g3
  go_enter Try.func71, Try.ntmps71
  go_wp2_with fail
  refine (l09Ok_any g _ _ _ HI.out hbg0 G0.out G1.out G2.out G3.out).mono ?_
  rintro e w1 ⟨rfl, hb1⟩
  cases hgb : gridB g.val
  · have HF : Hid (nearC g.val cell = 1) := by rw [Hid]; unfold nearC; rw [if_pos hgb]
    go_wp2
    go_ret
    exact Ret.i HF.out.symm hb1
  have hp := (gridB_iff g.val).1 hgb
  have HM := Lib.hid (mul_i64 (inB_iff.1 hp.1) (inB_iff.1 hp.2.1))
  have HL : Hid (g.rows * g.columns = (g.heightsN : Int)) := by have h := of_decide_eq_true hp.2.2.2.1; exact h.symm.trans (congrArg (fun k : Nat => (k : Int)) HGl.out)
  have HGB := Lib.hid hgb
  clear hp
  go_wp2_with fail
  refine (l09CellB_any g _ _ cell (g.heightsN : Int) _ HM.out.1 HL.out (by omega) (by omega) (Nat.lt_of_lt_of_le hbg0 hb1.size) ((hb1.cell hbg0).trans G0.out) ((hb1.cell hbg0).trans G1.out)).mono ?_
  rintro e w2 ⟨rfl, hb2⟩
  cases hin : inB cell 0 ((g.heightsN : Int) - 1)
  · have HF : Hid (nearC g.val cell = 2) := by rw [Hid]; unfold nearC; rw [if_neg (by rw [HGB.out]; simp), if_pos (by rw [HGl.out]; exact hin)]
    go_wp2
    go_ret
    exact Ret.i HF.out.symm (hb1.trans (hb2.mono hb1.size))
  · have HF : Hid (nearC g.val cell = 0) := by rw [Hid]; unfold nearC; rw [if_neg (by rw [HGB.out]; simp), if_neg (by rw [HGl.out, hin]; simp)]
    go_wp2
    go_ret
    exact Ret.i HF.out.symm (hb1.trans (hb2.mono hb1.size))
set_option maxHeartbeats 1000000 in
theorem specNeighboursOf_any (g : GridR) (cell : Int) (w : World) (hgi : g.In w) :
    Calls Try.prog 27 #[.agg #[.int .i64 g.rows, .int .i64 g.columns, .int .i64 g.size, .slice g.heightsA g.heightsN g.heightsC], .int .i64 cell] w (RetLT 2 1 i64cells (nearA g.val cell) [.int .i64 (nearC g.val cell)] w) := by
  have hB : Below w.heap.size w (w.alloc (.cells #[.int .i64 g.rows, .int .i64 g.columns, .int .i64 g.size, .slice g.heightsA g.heightsN g.heightsC] 57)) := (Below.refl _ _).alloc (Nat.le_refl _) _
  have HO := Lib.hid (Own.new w 57 #[.int .i64 g.rows, .int .i64 g.columns, .int .i64 g.size, .slice g.heightsA g.heightsN g.heightsC])
  have HB := Lib.hid hB
  have HI := Lib.hid (hgi.below hB)
  have HGl : Hid (g.val.heights.length = g.heightsN) := hgi.1.len
  clear hgi hB
  by_cases hc : nearC g.val cell = 0
  · have HC := Lib.hid hc
    have hne : (nearC g.val cell != 0) = false := by simp [hc]
    obtain ⟨hgb, c, rfl, hcl⟩ := nearC_zero hc
    have HGB := Lib.hid hgb
    rw [HGl.out] at hcl
    have HA : Hid (nearA g.val c = nearT g.val c 8) := by rw [Hid]; unfold nearA; rw [if_pos hc, Int.toNat_natCast]
    clear hc hgb
    go_enter Try.func27, Try.ntmps27
    go_wp2_with fail
    refine (l09Ask_any g w.heap.size 0 _ _ HI.out (by simp) (HO.out.cell 0) (HO.out.cell 1) (HO.out.cell 2) (HO.out.cell 3)).mono ?_
    rintro e w1 ⟨rfl, hb1⟩
    have hO1 := Lib.hid (HO.out.below' hb1)
    have hI1 := Lib.hid (HI.out.below hb1)
    have hB1 := Lib.hid (HB.out.trans (hb1.mono HB.out.size))
    clear hb1
    go_wp2_with fail
    refine (l09Near_any g w.heap.size 0 c _ hI1.out HGB.out hcl hO1.out.lt (hO1.out.cell 0) (hO1.out.cell 1)).mono ?_
    rintro e w2 ⟨v, rfl, hv, hb2⟩
    have HV := Lib.hid hv
    have HB2 := Lib.hid (hB1.out.trans (hb2.mono hB1.out.size))
    have HLE := Lib.hid hB1.out.size
    clear hv hb2
    go_wp2
    go_ret2
    exact ⟨_, by rw [HC.out]; rfl, by rw [HA.out]; exact HV.out.rebase HLE.out, HB2.out⟩
  · have hne : (nearC g.val cell != 0) = true := by simp [hc]
    have HA : Hid (nearA g.val cell = []) := by rw [Hid]; unfold nearA; rw [if_neg hc]
    clear hc
    go_enter Try.func27, Try.ntmps27
    go_wp2_with fail
    refine (l09Ask_any g w.heap.size 0 _ _ HI.out (by simp) (HO.out.cell 0) (HO.out.cell 1) (HO.out.cell 2) (HO.out.cell 3)).mono ?_
    rintro e w1 ⟨rfl, hb1⟩
    have hB1 := Lib.hid (HB.out.trans (hb1.mono HB.out.size))
    clear hb1
    go_wp2
    go_ret2
    exact ⟨_, rfl, by rw [HA.out]; exact OwnsL.nil_ _ _ _ _ _, hB1.out⟩
theorem nearA_zero {g : Grid} {cell : Int} (h : nearC g cell = 0) : nearA g cell = ((nextT g cell.toNat 8).map Stp.cell).mergeSort fun x y => decide (x ≤ y) := by
  unfold nearA
  rw [if_pos h, near_sort]; rfl
theorem nearC_cell (g : Grid) (cell : Int) : cellC g [cell] = nearC g cell := by
  unfold cellC nearC
  simp
theorem map_take_snoc {NL : List Stp} {j : Nat} {y : Stp} (h : NL[j]? = some y) : (NL.map Stp.cell).take (j + 1) = (NL.map Stp.cell).take j ++ [y.cell] := by
  rw [take_snoc]
  rw [List.getElem?_map, h]; rfl
theorem stp_at6 {w : World} {A : Option Addr} {n : Nat} {xs : List Stp} (h : SliceOf w 3 Stp.cells A n xs) {k : Nat} (hk : k < n) :
    ∃ b off x, A = some ⟨b, off, none⟩ ∧ b < w.heap.size ∧ xs[k]? = some x ∧ w.cell? ⟨b, off + k * 3, none⟩ = some (.int .i64 x.cell) ∧ w.cell? ⟨b, off + k * 3 + 1, none⟩ = some (.int .i64 x.dir) ∧ w.cell? ⟨b, off + k * 3 + 2, none⟩ = some (.int .i64 x.slope) := by
  obtain ⟨b, off, x, hA, hb, hx, hc⟩ := h.at_ hk
  exact ⟨b, off, x, hA, hb, hx, hc 0 _ rfl, hc 1 _ rfl, hc 2 _ rfl⟩
set_option maxRecDepth 100000 in
set_option maxHeartbeats 1000000 in
theorem implNeighboursOf_any (g : GridR) (cell : Int) (w : World) (hgi : g.In w) :
    Calls Try.prog 29 #[.agg #[.int .i64 g.rows, .int .i64 g.columns, .int .i64 g.size, .slice g.heightsA g.heightsN g.heightsC], .int .i64 cell] w (RetLT 2 1 i64cells (nearA g.val cell) [.int .i64 (nearC g.val cell)] w) := by
  have hB : Below w.heap.size w (w.alloc (.cells #[.int .i64 g.rows, .int .i64 g.columns, .int .i64 g.size, .slice g.heightsA g.heightsN g.heightsC] 57)) := (Below.refl _ _).alloc (Nat.le_refl _) _
  have HO0 := Lib.hid (Own.new w 57 #[.int .i64 g.rows, .int .i64 g.columns, .int .i64 g.size, .slice g.heightsA g.heightsN g.heightsC])
  have HB0 := Lib.hid hB
  have HI0 := Lib.hid (hgi.below hB)
  have HGl : Hid (g.val.heights.length = g.heightsN) := hgi.1.len
  clear hgi hB
  go_enter Try.func29, Try.ntmps29
  go_wp2_with fail
  obtain ⟨w0, hw0⟩ : ∃ w0, (w.alloc (.cells #[.int .i64 g.rows, .int .i64 g.columns, .int .i64 g.size, .slice g.heightsA g.heightsN g.heightsC] 57)).alloc (.cells #[.int .i64 cell] 2) = w0 := ⟨_, rfl⟩
  have hBq : Below (w.alloc (.cells #[.int .i64 g.rows, .int .i64 g.columns, .int .i64 g.size, .slice g.heightsA g.heightsN g.heightsC] 57)).heap.size (w.alloc (.cells #[.int .i64 g.rows, .int .i64 g.columns, .int .i64 g.size, .slice g.heightsA g.heightsN g.heightsC] 57)) w0 := by rw [← hw0]; exact (Below.refl _ _).alloc (Nat.le_refl _) _
  have hcs : SliceOf w0 1 i64cells (some ⟨w.heap.size + 1, 0, none⟩) 1 [cell] := by
    have h := sliceOf_new (w.alloc (.cells #[.int .i64 g.rows, .int .i64 g.columns, .int .i64 g.size, .slice g.heightsA g.heightsN g.heightsC] 57)) 2 [cell] (by simp)
    rw [show (w.alloc (.cells #[.int .i64 g.rows, .int .i64 g.columns, .int .i64 g.size, .slice g.heightsA g.heightsN g.heightsC] 57)).heap.size = w.heap.size + 1 by simp] at h
    rw [← hw0]
    exact h
  rw [hw0]
  have HO1 := Lib.hid (HO0.out.below' hBq)
  have HB1 := Lib.hid (HB0.out.trans (hBq.mono HB0.out.size))
  have HI1 := Lib.hid (HI0.out.below hBq)
  clear hBq hw0
  refine (gridCode_any g _ 1 1 [cell] _ HI1.out hcs).mono ?_
  rintro e w1 ⟨rfl, hb1⟩
  have HO := Lib.hid (HO1.out.below' hb1)
  have HB := Lib.hid (HB1.out.trans (hb1.mono HB1.out.size))
  have HI := Lib.hid (HI1.out.below hb1)
  clear hb1 hcs
  rw [nearC_cell]
  by_cases hc : nearC g.val cell = 0
  · have HC := Lib.hid hc
    have hne : (nearC g.val cell != 0) = false := by simp [hc]
    have HZ := Lib.hid (nearA_zero hc)
    obtain ⟨hgb, c, rfl, hcn⟩ := nearC_zero hc
    have HGB := Lib.hid hgb
    rw [HGl.out] at hcn
    clear hc hgb
    have y0 : w1.cell? ⟨w.heap.size, 0, none⟩ = some (.int .i64 g.rows) := HO.out.cell 0
    have y1 : w1.cell? ⟨w.heap.size, 1, none⟩ = some (.int .i64 g.columns) := HO.out.cell 1
    have y2 : w1.cell? ⟨w.heap.size, 2, none⟩ = some (.int .i64 g.size) := HO.out.cell 2
    have y3 : w1.cell? ⟨w.heap.size, 3, none⟩ = some (.slice g.heightsA g.heightsN g.heightsC) := HO.out.cell 3
    go_wp2_with fail
    refine (next_any g c _ HI.out HGB.out hcn).mono ?_
    rintro e w3 ⟨u, rfl, hv, hb3⟩
    clear y0 y1 y2 y3
    obtain ⟨NL, hNL⟩ : ∃ NL, nextT g.val c 8 = NL := ⟨_, rfl⟩
    rw [hNL] at hv
    obtain ⟨AN, cN, rfl, _, _, hsn⟩ := hv.slice Stp.cells_len
    obtain ⟨p, hp⟩ : ∃ p, NL.length = p := ⟨_, rfl⟩
    simp only [hp] at hv hsn ⊢
    have hp8 : p ≤ 8 := by rw [← hp, ← hNL]; exact nextT_len _ _ _
    have HSN := Lib.hid hsn
    have HZ2 : Hid (nearA g.val c = (NL.map Stp.cell).mergeSort fun x y => decide (x ≤ y)) := by rw [Hid, HZ.out, Int.toNat_natCast, hNL]
    have HP := Lib.hid hp
    have HB3 := Lib.hid (HB.out.trans (hb3.mono HB.out.size))
    clear hv hsn hNL hp hb3 HZ
    go_wp2
    go_loopg [21, 7] p (fun gk i u wr => ∃ (j : Nat) (v : Value), j ≤ p ∧ gk = p - j ∧ i = .int .i64 j ∧ v = u ∧ Below w3.heap.size w3 wr ∧ OwnsL wr w3.heap.size 2 1 i64cells v ((NL.map Stp.cell).take j))
    case atStart => exact ⟨0, _, Nat.zero_le _, rfl, rfl, rfl, Below.refl _ _, OwnsL.nil_ _ _ _ _ _⟩
    case round =>
      obtain ⟨j, v, hj, hgj, rfl, rfl, hbj, hown⟩ := hrel
      have HGJ := Lib.hid hgj
      have HOJ := Lib.hid hown
      have HBJ := Lib.hid hbj
      clear hgj hown
      by_cases hjp : j < p
      · obtain ⟨bs, os, y, rfl, hbs, hyk, c0, c1, c2⟩ := stp_at6 (HSN.out.below hbj) hjp
        have HT := Lib.hid (map_take_snoc hyk)
        have HLC : Hid (((NL.map Stp.cell).take j).length ≤ 8) := by
          have h2 : ((NL.map Stp.cell).take j).length ≤ j := List.length_take_le _ _
          rw [Hid]; omega
        have hB4 : Below wr.heap.size wr (wr.alloc (.cells #[.int .i64 y.cell, .int .i64 y.dir, .int .i64 y.slope] 109)) := (Below.refl _ _).alloc (Nat.le_refl _) _
        have HO4 := Lib.hid (HOJ.out.below' hB4)
        have HB4 := Lib.hid (HBJ.out.trans (hB4.mono HBJ.out.size))
        have HS4 : Hid (w3.heap.size ≤ (wr.alloc (.cells #[.int .i64 y.cell, .int .i64 y.dir, .int .i64 y.slope] 109)).heap.size) := HB4.out.size
        clear hyk hB4
        go_wp2_with (at_builtin; refine wpList_push2 (by rfl) (.tmp 25) (.tmp 28) 27 (by rfl) w3.heap.size 2 1 Try.underlying27 infoI64 (by rfl) (by decide) i64cells i64cells_len i64cells_one _ v _ y.cell (by rfl) (by rfl) HO4.out (by first | rfl | simp [go_sem]) (by have := HLC.out; omega) (by decide) HS4.out ?_)
        intro v' w' hown' hb' hkp hob
        have HWN : Hid (OwnsL w' w3.heap.size 2 1 i64cells v' ((NL.map Stp.cell).take (j + 1))) := by rw [Hid, HT.out]; exact hown'
        have HBN := Lib.hid (HB4.out.trans hb')
        clear hown' hb' hkp hob
        go_wp2
        go_roundg (p - (j + 1))
        case measure => have := HGJ.out; omega
        case rel => exact ⟨j + 1, v', by omega, rfl, by go_num, rfl, HBN.out, HWN.out⟩
      · have hjp2 : j = p := by omega
        subst hjp2
        have HNX : Hid (OwnsL wr w3.heap.size 2 1 i64cells v (NL.map Stp.cell)) := by
          have h := HOJ.out
          rw [List.take_of_length_le (by rw [List.length_map, HP.out]; exact Nat.le_refl _)] at h
          exact h
        have HBK := Lib.hid (HB3.out.trans (HBJ.out.mono HB3.out.size))
        obtain ⟨fs, hfs⟩ : ∃ fs, NL.map Stp.cell = fs := ⟨_, rfl⟩
        have hl : fs.length ≤ 8 := by rw [← hfs, List.length_map, HP.out]; exact hp8
        rw [hfs] at HNX HZ2
        by_cases hne0 : fs = []
        · subst hne0
          obtain ⟨A0, c0, rfl, _, _, _⟩ := HNX.out.slice i64cells_len
          have HNX0 := HNX
          go_wp2_with fail
          refine (sort_nil _ _ _).mono ?_
          rintro e w4 ⟨rfl, rfl⟩
          go_wp2
          go_ret2
          exact ⟨_, by rw [HC.out]; rfl, by rw [HZ2.out, List.mergeSort_nil]; exact HNX0.out.rebase HB3.out.size, HBK.out⟩
        · obtain ⟨q, cap, rfl, hq, hql⟩ := HNX.out.block hne0
          obtain ⟨m, hm⟩ : ∃ m, fs.length = m := ⟨_, rfl⟩
          have hown := HNX.out
          rw [hm] at hown hl
          simp only [hm]
          have HOWN := Lib.hid hown
          clear hown hne0 hfs hm
          go_wp2_with fail
          refine (sort_own HOWN.out (by omega)).mono ?_
          rintro e w4 ⟨rfl, ho4, hg4⟩
          have HB4 := Lib.hid (HB3.out.trans ((HBJ.out.trans (Below.grownI hg4 HBJ.out.size hq)).mono HB3.out.size))
          have HO4 := Lib.hid (ho4.rebase HB3.out.size)
          clear ho4 hg4
          go_wp2
          go_ret2
          exact ⟨_, by rw [HC.out]; rfl, by rw [HZ2.out]; exact HO4.out, HB4.out⟩
  · have hne : (nearC g.val cell != 0) = true := by simp [hc]
    have HA : Hid (nearA g.val cell = []) := by rw [Hid]; unfold nearA; rw [if_neg hc]
    clear hc
    go_wp2
    go_ret2
    exact ⟨_, rfl, by rw [HA.out]; exact OwnsL.nil_ _ _ _ _ _, HB.out⟩

end Go.Proofs.Ytdpepdcbgocbcaa
