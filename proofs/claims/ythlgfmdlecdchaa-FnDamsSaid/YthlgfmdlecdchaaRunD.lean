/- The lowest one of some cells, on both sides. -/
import Derived.Test.YthlgfmdlecdchaaRunC
namespace Go.Proofs.Ythlgfmdlecdchaa
open Go.RowKit

def lowF (g : Grid) (b c : Int) : Int := if b < 0 ∨ ht g c < ht g b then c else b
def lowT (g : Grid) (cs : List Int) : Int := cs.foldl (lowF g) (-1)
theorem lowT_snoc (g : Grid) (l : List Int) (y : Int) : lowT g (l ++ [y]) = lowF g (lowT g l) y := by unfold lowT; rw [List.foldl_append]; rfl
theorem lowF_mem (g : Grid) : ∀ (cs : List Int) (b : Int), cs.foldl (lowF g) b = b ∨ cs.foldl (lowF g) b ∈ cs
  | [], b => .inl rfl
  | c :: cs, b => by
    rw [List.foldl_cons]
    rcases lowF_mem g cs (lowF g b c) with h | h
    · rw [h]
      unfold lowF
      split
      · right; simp
      · left; rfl
    · right; simp [h]
theorem lowT_cons (g : Grid) (c : Int) (cs : List Int) : lowT g (c :: cs) = cs.foldl (lowF g) c := by
  unfold lowT; rw [List.foldl_cons]; congr 1
theorem lowT_mem (g : Grid) {cs : List Int} (h : cs ≠ []) : lowT g cs ∈ cs := by
  cases cs with
  | nil => exact absurd rfl h
  | cons c cs =>
    rw [lowT_cons]
    rcases lowF_mem g cs c with h | h
    · rw [h]; simp
    · simp [h]
theorem lowF_yes {g : Grid} {b : Nat} {y : Int} (h : ht g y < ht g b) : lowF g b y = y := by unfold lowF; rw [if_pos (Or.inr h)]
theorem lowF_no {g : Grid} {b : Nat} {y : Int} (h : ¬ ht g y < ht g b) : lowF g b y = b := by unfold lowF; rw [if_neg (by omega)]
theorem lowF_neg {g : Grid} {y : Int} : lowF g (-1) y = y := by unfold lowF; rw [if_pos (Or.inl (by omega))]
set_option maxHeartbeats 1000000 in
theorem lowest_any (g : GridR) (A : Option Addr) (n c : Nat) (cs : List Int) (w : World) (hgi : g.In w) (hgb : gridB g.val = true) (hs : SliceOf w 1 i64cells A n cs) (hcs : ∀ x ∈ cs, ∃ c : Nat, x = c ∧ c < g.heightsN) :
    Calls Try.prog 37 #[.agg #[.int .i64 g.rows, .int .i64 g.columns, .int .i64 g.size, .slice g.heightsA g.heightsN g.heightsC], .slice A n c] w (Ret (.int .i64 (lowT g.val cs)) w) := by
  have hle := hs.le
  have hgn := hgi.1.le
  have hB : Below w.heap.size w (w.alloc (.cells #[.int .i64 g.rows, .int .i64 g.columns, .int .i64 g.size, .slice g.heightsA g.heightsN g.heightsC] 26)) := (Below.refl _ _).alloc (Nat.le_refl _) _
  have HO := Lib.hid (Own.new w 26 #[.int .i64 g.rows, .int .i64 g.columns, .int .i64 g.size, .slice g.heightsA g.heightsN g.heightsC])
  have HB0 := Lib.hid hB
  have HI := Lib.hid (hgi.below hB)
  have HGB := Lib.hid hgb
  have HSL := Lib.hid (hs.below hB)
  have HCS := Lib.hid hcs
  clear hgi hgb hs hcs hB
  go_enter Try.func37, Try.ntmps37
  go_wp2
  obtain ⟨w0, hw0⟩ : ∃ w0, w.alloc (.cells #[.int .i64 g.rows, .int .i64 g.columns, .int .i64 g.size, .slice g.heightsA g.heightsN g.heightsC] 26) = w0 := ⟨_, rfl⟩
  rw [hw0] at HB0 HI HSL HO
  rw [hw0]
  have hws : w.heap.size < w0.heap.size := HO.out.lt
  clear hw0
  go_loopg [10, 5] n (fun gk i bb wr => ∃ (k : Nat) (L : Int), k ≤ n ∧ gk = n - k ∧ i = .int .i64 k ∧ bb = .int .i64 L ∧ (L = -1 ∨ ∃ b : Nat, L = b ∧ b < g.heightsN) ∧ lowT g.val (cs.take k) = L ∧ Below w0.heap.size w0 wr)
  case atStart => exact ⟨0, -1, Nat.zero_le _, rfl, rfl, rfl, .inl rfl, rfl, Below.refl _ _⟩
  case round =>
    obtain ⟨k, L, hk, hgk, rfl, rfl, hL, hlow, hb⟩ := hrel
    have Hgk := Lib.hid hgk
    have HLW := Lib.hid hlow
    have HB := Lib.hid hb
    clear hgk hlow
    by_cases hlt : k < n
    · obtain ⟨b1, o1, y, rfl, hb1, hy, y0⟩ := ints_at (HSL.out.below hb) hlt
      obtain ⟨cy, rfl, hcy⟩ := HCS.out y (List.mem_of_getElem? hy)
      have HTS : Hid (lowT g.val (cs.take (k + 1)) = lowF g.val L cy) := by rw [Hid, take_snoc hy, lowT_snoc, HLW.out]
      have hbox := HO.out.below' hb
      have hwr : w.heap.size < wr.heap.size := hbox.lt
      have hsub := fun (g : Sub wr) b o (h : b < wr.heap.size) => g.cell b o h
      clear hy
      rcases hL with rfl | ⟨b, rfl, hbN⟩
      · have HV : Hid (lowF g.val (-1) cy = cy) := lowF_neg
        clear hbox
        go_wp2_with fail
        refine wp_region_sub (by kernel_rfl) (by kernel_rfl) ?_
        repeat (go_big_quiet_step (fail))
        refine wpQuiet_nil ?_
        intro wg hg
        have HBG := Lib.hid (HB.out.trans (hg.mono HB.out.size))
        clear hsub y0 hg
        go_wp2
        go_roundg (n - (k + 1))
        case measure => have := Hgk.out; omega
        case rel => exact ⟨k + 1, cy, by omega, rfl, by go_num, rfl, .inr ⟨cy, rfl, hcy⟩, by rw [HTS.out, HV.out], HBG.out⟩
      · have hb0 : decide ((b : Int) < 0) = false := decide_eq_false (by omega)
        obtain ⟨b3, o3, hA, hb3, hc3, _, _⟩ := hts_at (HI.out.below hb) HGB.out hcy
        obtain ⟨b4, o4, hA', hb4, hc4, _, _⟩ := hts_at (HI.out.below hb) HGB.out hbN
        rw [hA] at hA'
        injection hA' with e
        injection e with e1 e2 _
        subst e1 e2
        obtain ⟨H1, hH1⟩ : ∃ H1, ht g.val cy = H1 := ⟨_, rfl⟩
        obtain ⟨H2, hH2⟩ : ∃ H2, ht g.val b = H2 := ⟨_, rfl⟩
        have g3 : wr.cell? ⟨w.heap.size, 3, none⟩ = some (.slice (some ⟨b3, o3, none⟩) g.heightsN g.heightsC) := by rw [← hA]; exact hbox.cell 3
        rw [hH1] at hc3
        rw [hH2] at hc4
        clear hA hbox
        by_cases hlo : H1 < H2
        · have HV : Hid (lowF g.val b cy = cy) := lowF_yes (by rw [hH1, hH2]; exact hlo)
          clear hH1 hH2
          go_wp2_with fail
          refine wp_region_sub (by kernel_rfl) (by kernel_rfl) ?_
          repeat (go_big_quiet_step (fail))
          refine wpQuiet_nil ?_
          intro wg hg
          have HBG := Lib.hid (HB.out.trans (hg.mono HB.out.size))
          clear hsub y0 g3 hc3 hc4 hg
          go_wp2
          go_roundg (n - (k + 1))
          case measure => have := Hgk.out; omega
          case rel => exact ⟨k + 1, cy, by omega, rfl, by go_num, rfl, .inr ⟨cy, rfl, hcy⟩, by rw [HTS.out, HV.out], HBG.out⟩
        · have hd : decide (H1 < H2) = false := decide_eq_false hlo
          have HV : Hid (lowF g.val b cy = b) := lowF_no (by rw [hH1, hH2]; exact hlo)
          clear hH1 hH2
          go_wp2_with fail
          refine wp_region_sub (by kernel_rfl) (by kernel_rfl) ?_
          repeat (go_big_quiet_step (fail))
          refine wpQuiet_nil ?_
          intro wg hg
          have HBG := Lib.hid (HB.out.trans (hg.mono HB.out.size))
          clear hsub y0 g3 hc3 hc4 hg
          go_wp2
          go_roundg (n - (k + 1))
          case measure => have := Hgk.out; omega
          case rel => exact ⟨k + 1, b, by omega, rfl, by go_num, rfl, .inr ⟨b, rfl, hbN⟩, by rw [HTS.out, HV.out], HBG.out⟩
    · have hkn : k = n := by omega
      subst hkn
      have HE : Hid (lowT g.val cs = L) := by
        have := HLW.out
        rw [List.take_of_length_le (by rw [HSL.out.len]; exact Nat.le_refl _)] at this
        exact this
      go_wp2
      go_ret
      exact Ret.i HE.out.symm (HB0.out.trans (hb.mono HB0.out.size))

end Go.Proofs.Ythlgfmdlecdchaa
