/- The masses that the laws of the routing draw. -/
import Derived.Test.YtphapakhoibamaaGreatDoorBase
import Derived.Test.YtphapakhoibamaaGreatDoorMem
import Derived.Test.YtphapakhoibamaaGreatDoorTInt64
import Derived.Test.YtphapakhoibamaaGreatDoorTGrid
import Derived.Test.YtphapakhoibamaaGreatDoorPush2
import Derived.Test.YtphapakhoibamaaGreatDoorSrc
import Derived.Test.YtphapakhoibamaaGreatDoorSrcK
namespace Go.Proofs.YtphapakhoibamaaGreatDoor
open Go.RowKit

set_option maxHeartbeats 1000000 in
theorem r8Masses_any (g : GridR) (A : Option Addr) (n c : Nat) (ds : List Int) (w : World) (hs : SliceOf w 1 u8cells A n ds) (hb : ∀ x ∈ ds, 0 ≤ x ∧ x ≤ 255) (hgl : g.heightsN ≤ 64) :
    Calls Tryz.prog 6 #[.slice A n c, .agg #[.int .i64 g.rows, .int .i64 g.columns, .int .i64 g.size, .slice g.heightsA g.heightsN g.heightsC]] w (fun e w' => ∃ (v : Value) (ms : List Int), e = .returned v ∧ OwnsL w' w.heap.size 2 1 i64cells v ms ∧ ms.length = g.heightsN ∧ (∀ m ∈ ms, 0 ≤ m ∧ m ≤ 2000) ∧ Below w.heap.size w w') := by
  have hB : Below w.heap.size w (w.alloc (.cells #[.int .i64 g.rows, .int .i64 g.columns, .int .i64 g.size, .slice g.heightsA g.heightsN g.heightsC] 26)) := (Below.refl _ _).alloc (Nat.le_refl _) _
  have HO := Lib.hid (Own.new w 26 #[.int .i64 g.rows, .int .i64 g.columns, .int .i64 g.size, .slice g.heightsA g.heightsN g.heightsC])
  have HB := Lib.hid hB
  have HS := Lib.hid (hs.below hB)
  have HY := Lib.hid hb
  clear hs hb hB
  go_enter Tryz.func6, Tryz.ntmps6
  go_wp2_with fail
  refine (srcFrom_any A n c ds _ HS.out HY.out).mono ?_
  rintro e w2 ⟨bs, rfl, hsrc, hb2⟩
  have HO2 := Lib.hid (HO.out.below' hb2)
  have HB2 := Lib.hid (HB.out.trans (hb2.mono HB.out.size))
  have HSR := Lib.hid hsrc
  have HLT : Hid (bs < w2.heap.size) := hsrc.lt
  clear hsrc hb2
  go_wp2
  go_loopg [6, 7] g.heightsN (fun gk u i wr => ∃ (k kk : Nat) (v : Value) (ms : List Int), k ≤ g.heightsN ∧ gk = g.heightsN - k ∧ i = .int .i64 k ∧ v = u ∧ ms.length = k ∧ (∀ m ∈ ms, 0 ≤ m ∧ m ≤ 2000) ∧ kk ≤ 2 * k ∧ SrcAt A n c ds bs kk (w.alloc (.cells #[.int .i64 g.rows, .int .i64 g.columns, .int .i64 g.size, .slice g.heightsA g.heightsN g.heightsC] 26)) wr ∧ OwnsL wr w2.heap.size 2 1 i64cells v ms ∧ w2.heap.size ≤ wr.heap.size)
  case atStart => exact ⟨0, 0, _, [], Nat.zero_le _, rfl, rfl, rfl, rfl, by simp, Nat.le_refl _, HSR.out.grow ((Below.refl _ _).alloc (Nat.le_refl _) _), OwnsL.made _ _ _ _ _ (Nat.le_refl _), by simp⟩
  case round =>
    obtain ⟨k, kk, v, ms, hk, hgk, rfl, rfl, hml, hmb, hkk, hsr, hown, hsz⟩ := hrel
    have Hgk := Lib.hid hgk
    have HML := Lib.hid hml
    have HMB := Lib.hid hmb
    have HSR := Lib.hid hsr
    have HOW := Lib.hid hown
    have HSZ := Lib.hid hsz
    have y3 : wr.cell? ⟨w.heap.size, 3, none⟩ = some (.slice g.heightsA g.heightsN g.heightsC) := (HSR.out.below.cell (p := ⟨w.heap.size, 3, none⟩) (by simp)).trans (HO.out.cell 3)
    have hwl : w.heap.size < wr.heap.size := Nat.lt_of_lt_of_le HO2.out.lt hsz
    clear hgk hml hmb hsr hown
    by_cases hlt : k < g.heightsN
    · go_wp2_with fail
      obtain ⟨wq, hwq⟩ : ∃ wq, wr.alloc (.cells #[.int .i64 0, .int .i64 0, .int .i64 0, .int .i64 1, .int .i64 7, .int .i64 100, .int .i64 350, .int .i64 2000] 2) = wq := ⟨_, rfl⟩
      have hBq : Below wr.heap.size wr wq := by rw [← hwq]; exact (Below.refl _ _).alloc (Nat.le_refl _) _
      have hcs : SliceOf wq 1 i64cells (some ⟨wr.heap.size, 0, none⟩) 8 [0, 0, 0, 1, 7, 100, 350, 2000] := by
        rw [← hwq]
        exact sliceOf_new wr 2 [0, 0, 0, 1, 7, 100, 350, 2000] (by simp)
      rw [hwq]
      have HSQ := Lib.hid (HSR.out.grow hBq)
      have HOQ := Lib.hid (HOW.out.below' hBq)
      have HZQ := Lib.hid (Nat.le_trans HSZ.out hBq.size)
      clear hwq hBq y3
      refine (srcAmong_any A n c ds bs kk 8 8 wr.heap.size 0 [0, 0, 0, 1, 7, 100, 350, 2000] _ wq HSQ.out (by omega) (by omega) (by omega) hcs (by have := HLT.out; have := HSZ.out; omega)).mono ?_
      rintro e w3 ⟨y, k', rfl, hy, hk', hs3, ha3⟩
      have hyb : 0 ≤ y ∧ y ≤ 2000 := by simp at hy; omega
      have HS3 := Lib.hid hs3
      have HO3 := Lib.hid (HOQ.out.span ha3 (fun b hb => .inr (by have := (HOQ.out.lt b hb).1; have := HLT.out; omega)))
      have HZ3 := Lib.hid (Nat.le_trans HZQ.out ha3.size)
      clear hs3 ha3 hcs hy
      go_wp2_with (at_builtin; refine wpList_push2 (by rfl) (.tmp 18) (.tmp 22) 24 (by rfl) w2.heap.size 2 1 Tryz.underlying24 infoI64 (by rfl) (by decide) i64cells i64cells_len i64cells_one _ v _ y (by rfl) (by rfl) HO3.out (by first | rfl | simp [go_sem]) (by have := HML.out; omega) (by decide) HZ3.out ?_)
      intro v' w' hown' hb' hkp hob
      have HSF : Hid (SrcAt A n c ds bs k' (w.alloc (.cells #[.int .i64 g.rows, .int .i64 g.columns, .int .i64 g.size, .slice g.heightsA g.heightsN g.heightsC] 26)) w') := by
        obtain ⟨s, ho⟩ := HS3.out.own
        refine ⟨HS3.out.sl, HS3.out.by_, HS3.out.below.trans (hb'.mono (Nat.le_trans HS3.out.base (Nat.le_of_lt HLT.out))), HS3.out.base, s, ho.below (hb'.mono (Nat.le_refl _)) HLT.out⟩
      have HON := Lib.hid hown'
      have HZN : Hid (w2.heap.size ≤ w'.heap.size) := Nat.le_trans HZ3.out (by simpa using hb'.size)
      clear hown' hb' hkp hob
      go_wp2
      go_roundg (g.heightsN - (k + 1))
      case measure => have := Hgk.out; omega
      case rel => exact ⟨k + 1, k', v', ms ++ [y], by omega, rfl, by go_num, rfl, by rw [List.length_append, HML.out]; rfl, fun m hm => by
        rcases List.mem_append.1 hm with h | h
        · exact HMB.out m h
        · simp at h; rw [h]; exact hyb, by omega, HSF.out, HON.out, HZN.out⟩
    · have hkn : k = g.heightsN := by omega
      have HBF := Lib.hid (HB.out.trans (HSR.out.below.mono HB.out.size))
      clear hsz
      go_wp2
      go_ret
      exact ⟨v, ms, rfl, HOW.out.rebase HB2.out.size, by rw [HML.out, hkn], HMB.out, HBF.out⟩

end Go.Proofs.YtphapakhoibamaaGreatDoor
