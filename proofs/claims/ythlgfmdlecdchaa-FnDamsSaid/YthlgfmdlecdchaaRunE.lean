/- LowestOf on both sides. -/
import Derived.Test.YthlgfmdlecdchaaRunD
import Derived.Deep.RegionHeld3
namespace Go.Proofs.Ythlgfmdlecdchaa
open Go.RowKit

def lowK (g : Grid) (ms : List Int) (fr : Int) : Int := if runC g ms fr = 0 then if reachL g ms fr = [] then 3 else 0 else runC g ms fr
def lowA (g : Grid) (ms : List Int) (fr : Int) : Int := if runC g ms fr = 0 then if reachL g ms fr = [] then 0 else lowT g (reachL g ms fr) else 0
theorem reachL_in {g : GridR} {w : World} {ms : List Int} {fr : Int} (hgi : g.In w) (hk : RunOk g.val ms fr) : ∀ x ∈ reachL g.val ms fr, ∃ c : Nat, x = c ∧ c < g.heightsN := fun x hx => by
  unfold reachL at hx
  obtain ⟨c, rfl, hc, _⟩ := reachT_mem hx
  exact ⟨c, rfl, by rw [hk.len, show g.val.heights.length = g.heightsN from hgi.1.len] at hc; exact hc⟩
theorem lowT_nn {g : Grid} {cs : List Int} {N : Nat} (hcs : ∀ x ∈ cs, ∃ c : Nat, x = c ∧ c < N) : (cs = [] ∧ lowT g cs = -1) ∨ (cs ≠ [] ∧ ∃ b : Nat, lowT g cs = b ∧ b < N) := by
  by_cases h : cs = []
  · left; subst h; exact ⟨rfl, rfl⟩
  · right
    obtain ⟨b, hb, hN⟩ := hcs _ (lowT_mem g h)
    exact ⟨h, b, hb, hN⟩
theorem RunOk.call {g : GridR} {w : World} {ms : List Int} {fr : Int} {B : Option Addr} {n d : Nat} (hk : RunOk g.val ms fr) (hgi : g.In w) (hr : SliceOf w 1 i64cells B n ms) : Calls Try.prog 38 #[.agg #[.int .i64 g.rows, .int .i64 g.columns, .int .i64 g.size, .slice g.heightsA g.heightsN g.heightsC], .slice B n d, .int .i64 fr] w (fun e w' => ∃ (AU : Option Addr) (m cu : Nat) (s : Int) (AV : Option Addr) (cv : Nat) (ts : List Int), e = .returned (.agg #[.slice AU m cu, .int .i64 s, .slice AV n cv]) ∧ SliceOf w' 1 i64cells AV n ts ∧ ts = (stT g.val fr ms (runN g.val fr ms)).times ∧ Below w.heap.size w w') := by
  refine (run_any g _ n d ms fr _ hgi hk.grid hr (hk.n hgi hr) hk.f1 hk.pos hk.sum).mono ?_
  rintro e w2 ⟨u, v, rfl, hu, hv, hb2⟩
  obtain ⟨AU, cU, rfl, _, _, _⟩ := hu.slice i64cells_len
  obtain ⟨AV, cV, rfl, _, _, hsv⟩ := hv.slice i64cells_len
  have htl : (stT g.val fr ms (runN g.val fr ms)).times.length = n := by rw [times_len hk, hr.len]
  rw [htl] at hsv ⊢
  exact ⟨AU, _, cU, _, AV, cV, _, rfl, hsv, rfl, hb2⟩
theorem orNotFound_any (n : Int) (b : Bool) (w : World) : Calls Try.prog 40 #[.int .i64 n, .bool b] w (RetS (.tuple #[.int .i64 (if b then n else 0), .int .i64 (if b then 0 else 3)]) w) := by
  cases b
  · go_enter Try.func40, Try.ntmps40
    go_wp2
    go_ret2
    exact RetS.ii rfl rfl
  · go_enter Try.func40, Try.ntmps40
    go_wp2
    go_ret2
    exact RetS.ii rfl rfl
set_option maxHeartbeats 2000000 in
theorem implLowestOf_any (g : GridR) (B : Option Addr) (n d : Nat) (ms : List Int) (fr : Int) (w : World) (hgi : g.In w) (hr : SliceOf w 1 i64cells B n ms) :
    Calls Try.prog 11 #[.agg #[.int .i64 g.rows, .int .i64 g.columns, .int .i64 g.size, .slice g.heightsA g.heightsN g.heightsC], .slice B n d, .int .i64 fr] w (Ret (.tuple #[.int .i64 (lowA g.val ms fr), .int .i64 (lowK g.val ms fr)]) w) := by
  have hB : Below w.heap.size w (w.alloc (.cells #[.int .i64 g.rows, .int .i64 g.columns, .int .i64 g.size, .slice g.heightsA g.heightsN g.heightsC] 26)) := (Below.refl _ _).alloc (Nat.le_refl _) _
  have HO := Lib.hid (Own.new w 26 #[.int .i64 g.rows, .int .i64 g.columns, .int .i64 g.size, .slice g.heightsA g.heightsN g.heightsC])
  have HB := Lib.hid hB
  have HI := Lib.hid (hgi.below hB)
  have HR := Lib.hid (hr.below hB)
  have HLn := Lib.hid hr.len
  clear hgi hB hr
  by_cases hc : runC g.val ms fr = 0
  · have HC := Lib.hid hc
    have hne : (runC g.val ms fr != 0) = false := by simp [hc]
    have HK := Lib.hid (runC_zero hc)
    have HK1 : Hid (lowK g.val ms fr = if reachL g.val ms fr = [] then 3 else 0) := by rw [Hid]; unfold lowK; rw [if_pos hc]
    have HA1 : Hid (lowA g.val ms fr = if reachL g.val ms fr = [] then 0 else lowT g.val (reachL g.val ms fr)) := by rw [Hid]; unfold lowA; rw [if_pos hc]
    have HIN := Lib.hid (reachL_in HI.out HK.out)
    have HN64 : Hid (n ≤ 64) := by rw [Hid, ← HLn.out]; exact (runOk_n64 HK.out).2
    have HRL : Hid (reachT (stT g.val fr ms (runN g.val fr ms)).times n = reachL g.val ms fr) := by rw [Hid]; unfold reachL; rw [HLn.out]
    clear hc
    go_enter Try.func11, Try.ntmps11
    go_wp2_with fail
    refine (routeCode_any g _ _ _ ms fr _ _ _ [] _ HI.out HR.out SliceOf.nil_).mono ?_
    rintro e w1 ⟨rfl, hb1⟩
    rw [runCx_nil]
    have hO1 := Lib.hid (HO.out.below' hb1)
    have hI1 := Lib.hid (HI.out.below hb1)
    have hR1 := Lib.hid (HR.out.below hb1)
    have hB1 := Lib.hid (HB.out.trans (hb1.mono HB.out.size))
    clear hb1
    go_wp2_with fail
    have s1X : w.heap.size < w1.heap.size := hO1.out.lt
    have HS : ∀ w', Below w1.heap.size w1 w' → w'.cell? ⟨w.heap.size, 0, none⟩ = some (.int .i64 g.rows) ∧ w'.cell? ⟨w.heap.size, 1, none⟩ = some (.int .i64 g.columns) ∧ w'.cell? ⟨w.heap.size, 2, none⟩ = some (.int .i64 g.size) ∧ w'.cell? ⟨w.heap.size, 3, none⟩ = some (.slice g.heightsA g.heightsN g.heightsC) ∧ Below w1.heap.size w1 w' := fun w' h => ⟨(h.cell (p := ⟨w.heap.size, 0, none⟩) s1X).trans (hO1.out.cell 0), (h.cell (p := ⟨w.heap.size, 1, none⟩) s1X).trans (hO1.out.cell 1), (h.cell (p := ⟨w.heap.size, 2, none⟩) s1X).trans (hO1.out.cell 2), (h.cell (p := ⟨w.heap.size, 3, none⟩) s1X).trans (hO1.out.cell 3), h⟩
    go_region_held3 (fun w' => w'.cell? ⟨w.heap.size, 0, none⟩ = some (.int .i64 g.rows) ∧ w'.cell? ⟨w.heap.size, 1, none⟩ = some (.int .i64 g.columns) ∧ w'.cell? ⟨w.heap.size, 2, none⟩ = some (.int .i64 g.size) ∧ w'.cell? ⟨w.heap.size, 3, none⟩ = some (.slice g.heightsA g.heightsN g.heightsC) ∧ Below w1.heap.size w1 w') (first | exact HS _ (Below.refl _ _) | exact HS _ (Below.drew (Below.refl _ _)) | exact HS _ hBv | exact HS _ (Below.drew hBv) | exact HS _ hBu | exact HS _ (Below.drew hBu) | exact HS _ hBw | exact HS _ (Below.drew hBw)) (first | (go_at_call 38; refine (HK.out.call (hI1.out.below (‹_ ∧ _ ∧ _ ∧ _ ∧ Below w1.heap.size w1 _›.2.2.2.2)) (hR1.out.below (‹_ ∧ _ ∧ _ ∧ _ ∧ Below w1.heap.size w1 _›.2.2.2.2))).mono ?_; rintro e wq ⟨AU, mu, cu, sN, AV, cv, ts, rfl, hsv, hts, hbq⟩; have hBw := (‹_ ∧ _ ∧ _ ∧ _ ∧ Below w1.heap.size w1 _›.2.2.2.2).trans (hbq.mono (‹_ ∧ _ ∧ _ ∧ _ ∧ Below w1.heap.size w1 _›.2.2.2.2).size)) | (go_at_call 39; refine (reached_any _ _ _ _ _ _ _ ts _ (by first | exact hsv | exact hsv.below ((Below.refl _ _).drew)) HN64.out).mono ?_; rintro e wr ⟨v2, rfl, hv2, hbr⟩; have hBu := (‹_ ∧ _ ∧ _ ∧ _ ∧ Below w1.heap.size w1 _›.2.2.2.2).trans (hbr.mono (‹_ ∧ _ ∧ _ ∧ _ ∧ Below w1.heap.size w1 _›.2.2.2.2).size); rw [hts, HRL.out] at hv2; obtain ⟨A2, c2, rfl, _, _, hs2⟩ := hv2.slice i64cells_len) | (go_at_call 37; refine (lowest_any g _ _ _ (reachL g.val ms fr) _ (hI1.out.below (‹_ ∧ _ ∧ _ ∧ _ ∧ Below w1.heap.size w1 _›.2.2.2.2)) HK.out.grid (by first | exact hs2 | exact hs2.below ((Below.refl _ _).drew)) HIN.out).mono ?_; rintro e ws ⟨rfl, hbs⟩; have hBv := (‹_ ∧ _ ∧ _ ∧ _ ∧ Below w1.heap.size w1 _›.2.2.2.2).trans (hbs.mono (‹_ ∧ _ ∧ _ ∧ _ ∧ Below w1.heap.size w1 _›.2.2.2.2).size)))
    have HB3 := Lib.hid (hB1.out.trans (hBv.mono hB1.out.size))
    clear HS hBu hBw hBv hsv hts hv2 hs2 hbq hbr hbs
    rcases lowT_nn (g := g.val) HIN.out with ⟨hnil, hlo⟩ | ⟨hnil, b, hlo, _⟩
    · have HK2 : Hid (lowK g.val ms fr = 3) := by rw [Hid, HK1.out, if_pos hnil]
      have HA2 : Hid (lowA g.val ms fr = 0) := by rw [Hid, HA1.out, if_pos hnil]
      rw [hlo]
      clear hnil hlo
      go_wp2_with (go_at_call 40; refine (orNotFound_any _ _ _).mono ?_; rintro e w' ⟨rfl, rfl⟩)
      go_ret2
      exact Ret.ii HA2.out.symm HK2.out.symm HB3.out
    · have HK2 : Hid (lowK g.val ms fr = 0) := by rw [Hid, HK1.out, if_neg hnil]
      have HA2 : Hid (lowA g.val ms fr = b) := by rw [Hid, HA1.out, if_neg hnil, hlo]
      rw [hlo]
      have hd : decide ((0 : Int) ≤ b) = true := decide_eq_true (by omega)
      clear hnil hlo
      go_wp2_with (go_at_call 40; refine (orNotFound_any _ _ _).mono ?_; rintro e w' ⟨rfl, rfl⟩)
      go_ret2
      exact Ret.ii HA2.out.symm HK2.out.symm HB3.out
  · have HC := Lib.hid hc
    have hne : (runC g.val ms fr != 0) = true := by simp [hc]
    have HK1 : Hid (lowK g.val ms fr = runC g.val ms fr) := by rw [Hid]; unfold lowK; rw [if_neg hc]
    have HA1 : Hid (lowA g.val ms fr = 0) := by rw [Hid]; unfold lowA; rw [if_neg hc]
    clear hc
    go_enter Try.func11, Try.ntmps11
    go_wp2_with fail
    refine (routeCode_any g _ _ _ ms fr _ _ _ [] _ HI.out HR.out SliceOf.nil_).mono ?_
    rintro e w1 ⟨rfl, hb1⟩
    rw [runCx_nil]
    have hB1 := Lib.hid (HB.out.trans (hb1.mono HB.out.size))
    clear hb1
    go_wp2
    go_ret2
    exact Ret.ii HA1.out.symm HK1.out.symm hB1.out

end Go.Proofs.Ythlgfmdlecdchaa
