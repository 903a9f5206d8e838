/- ArrivalOf of the program. The plain law of FnRunout. The plain law of FnRunout, in the words of its walk. The plain law of FnDams, in the words of its walk. RaiseCell of the program, where it succeeds. RaiseCell of the reference, where it succeeds. -/
import Derived.Test.YthlgfmdlecdchaaRunE
import Derived.Test.YthlgfmdlecdchaaRunF
import Derived.Test.YthlgfmdlecdchaaFricI
import Derived.Test.YthlgfmdlecdchaaR8
import Derived.Test.YthlgfmdlecdchaaDamP
import Derived.Test.YthlgfmdlecdchaaPutP
import Derived.Test.YthlgfmdlecdchaaExposeT
import Derived.Test.YthlgfmdlecdchaaDamG
import Derived.Test.YthlgfmdlecdchaaDamI
import Derived.Test.YthlgfmdlecdchaaRunCode
import Derived.Deep.RegionHeld3
namespace Go.Proofs.Ythlgfmdlecdchaa
open Go.RowKit

def arivT (g : Grid) (ms : List Int) (fr cell : Int) : Int := (stT g fr ms (runN g fr ms)).times.getD cell.toNat 0
def arivA (g : Grid) (ms : List Int) (fr cell : Int) : Int := if runCx g ms fr [cell] = 0 then if 0 ≤ arivT g ms fr cell then arivT g ms fr cell else 0 else 0
def arivK (g : Grid) (ms : List Int) (fr cell : Int) : Int := if runCx g ms fr [cell] = 0 then if 0 ≤ arivT g ms fr cell then 0 else 3 else runCx g ms fr [cell]
theorem runCx_cell {g : Grid} {ms : List Int} {fr cell : Int} (h : runCx g ms fr [cell] = 0) : RunOk g ms fr ∧ ∃ c : Nat, cell = c ∧ c < ms.length := by
  unfold runCx at h
  cases h1 : gridB g <;> cases h2 : inB fr 1 5000 <;> cases h3 : ([cell].all fun y => inB y 0 ((g.heights.length : Int) - 1)) <;> cases h4 : massB g ms <;> simp [h1, h2, h3, h4] at h
  have hm := massB_parts h1 h4
  have hc := inB_iff.1 (List.all_eq_true.1 h3 cell (by simp))
  have hf := inB_iff.1 h2
  exact ⟨⟨h1, by omega, by omega, hm.1, fun x hx => (hm.2.1 x hx).1, hm.2.2⟩, cell.toNat, by omega, by rw [hm.1]; omega⟩
set_option maxHeartbeats 1000000 in
theorem implArrivalOf_any (g : GridR) (B : Option Addr) (n d : Nat) (ms : List Int) (fr cell : Int) (w : World) (hgi : g.In w) (hr : SliceOf w 1 i64cells B n ms) :
    Calls Try.prog 13 #[.agg #[.int .i64 g.rows, .int .i64 g.columns, .int .i64 g.size, .slice g.heightsA g.heightsN g.heightsC], .slice B n d, .int .i64 fr, .int .i64 cell] w (Ret (.tuple #[.int .i64 (arivA g.val ms fr cell), .int .i64 (arivK g.val ms fr cell)]) w) := by
  have hB : Below w.heap.size w (w.alloc (.cells #[.int .i64 g.rows, .int .i64 g.columns, .int .i64 g.size, .slice g.heightsA g.heightsN g.heightsC] 26)) := (Below.refl _ _).alloc (Nat.le_refl _) _
  have HO0 := Lib.hid (Own.new w 26 #[.int .i64 g.rows, .int .i64 g.columns, .int .i64 g.size, .slice g.heightsA g.heightsN g.heightsC])
  have HB0 := Lib.hid hB
  have HI0 := Lib.hid (hgi.below hB)
  have HR0 := Lib.hid (hr.below hB)
  have HLn := Lib.hid hr.len
  have hnle := hr.le
  clear hgi hB hr
  go_enter Try.func13, Try.ntmps13
  go_wp2_with fail
  obtain ⟨w0, hw0⟩ : ∃ w0, (w.alloc (.cells #[.int .i64 g.rows, .int .i64 g.columns, .int .i64 g.size, .slice g.heightsA g.heightsN g.heightsC] 26)).alloc (.cells #[.int .i64 cell] 2) = w0 := ⟨_, rfl⟩
  have hBq : Below (w.alloc (.cells #[.int .i64 g.rows, .int .i64 g.columns, .int .i64 g.size, .slice g.heightsA g.heightsN g.heightsC] 26)).heap.size (w.alloc (.cells #[.int .i64 g.rows, .int .i64 g.columns, .int .i64 g.size, .slice g.heightsA g.heightsN g.heightsC] 26)) w0 := by rw [← hw0]; exact (Below.refl _ _).alloc (Nat.le_refl _) _
  have hcs : SliceOf w0 1 i64cells (some ⟨w.heap.size + 1, 0, none⟩) 1 [cell] := by
    have h := sliceOf_new (w.alloc (.cells #[.int .i64 g.rows, .int .i64 g.columns, .int .i64 g.size, .slice g.heightsA g.heightsN g.heightsC] 26)) 2 [cell] (by simp)
    rw [show (w.alloc (.cells #[.int .i64 g.rows, .int .i64 g.columns, .int .i64 g.size, .slice g.heightsA g.heightsN g.heightsC] 26)).heap.size = w.heap.size + 1 by simp] at h
    rw [← hw0]
    exact h
  rw [hw0]
  have HO1 := Lib.hid (HO0.out.below' hBq)
  have HB1 := Lib.hid (HB0.out.trans (hBq.mono HB0.out.size))
  have HI1 := Lib.hid (HI0.out.below hBq)
  have HR1 := Lib.hid (HR0.out.below hBq)
  clear hBq hw0
  refine (routeCode_any g B n d ms fr _ 1 1 [cell] _ HI1.out HR1.out hcs).mono ?_
  rintro e w1 ⟨rfl, hb1⟩
  have HO := Lib.hid (HO1.out.below' hb1)
  have HB := Lib.hid (HB1.out.trans (hb1.mono HB1.out.size))
  have HI := Lib.hid (HI1.out.below hb1)
  have HR := Lib.hid (HR1.out.below hb1)
  clear hb1 hcs
  by_cases hc : runCx g.val ms fr [cell] = 0
  · have HC := Lib.hid hc
    have hne : (runCx g.val ms fr [cell] != 0) = false := by simp [hc]
    obtain ⟨hk0, c, rfl, hcn⟩ := runCx_cell hc
    have HK := Lib.hid hk0
    rw [HLn.out] at hcn
    clear hk0 hc
    have y0 : w1.cell? ⟨w.heap.size, 0, none⟩ = some (.int .i64 g.rows) := HO.out.cell 0
    have y1 : w1.cell? ⟨w.heap.size, 1, none⟩ = some (.int .i64 g.columns) := HO.out.cell 1
    have y2 : w1.cell? ⟨w.heap.size, 2, none⟩ = some (.int .i64 g.size) := HO.out.cell 2
    have y3 : w1.cell? ⟨w.heap.size, 3, none⟩ = some (.slice g.heightsA g.heightsN g.heightsC) := HO.out.cell 3
    go_wp2_with fail
    refine (HK.out.call HI.out HR.out).mono ?_
    rintro e w6 ⟨AU, mu, cu, sN, AV, cv, ts, rfl, hsv, hts, hb6⟩
    have hfd : ∀ w : World, (Instr.field 63 (.agg #[.slice AU mu cu, .int .i64 sN, .slice AV n cv]) 2).run Try.prog w = .ok (.slice AV n cv) w := fun _ => by kernel_rfl
    obtain ⟨bV, oV, t, hAV, hbV, htc, t0⟩ := ints_at hsv hcn
    subst hAV
    have HT : Hid (arivT g.val ms fr c = t) := by
      rw [Hid]; unfold arivT; rw [← hts, List.getD_eq_getElem?_getD, Int.toNat_natCast, htc]; rfl
    have HB6 := Lib.hid (HB.out.trans (hb6.mono HB.out.size))
    clear hsv hts htc hb6 y0 y1 y2 y3
    by_cases htp : 0 ≤ t
    · have HA : Hid (arivA g.val ms fr c = t) := by rw [Hid]; unfold arivA; rw [if_pos HC.out, HT.out, if_pos htp]
      have HKV : Hid (arivK g.val ms fr c = 0) := by rw [Hid]; unfold arivK; rw [if_pos HC.out, HT.out, if_pos htp]
      go_wp2_with (go_at_call 40; refine (orNotFound_any _ _ _).mono ?_; rintro e w' ⟨rfl, rfl⟩)
      go_ret2
      exact Ret.ii HA.out.symm HKV.out.symm HB6.out
    · have hd : decide (0 ≤ t) = false := decide_eq_false htp
      have HA : Hid (arivA g.val ms fr c = 0) := by rw [Hid]; unfold arivA; rw [if_pos HC.out, HT.out, if_neg htp]
      have HKV : Hid (arivK g.val ms fr c = 3) := by rw [Hid]; unfold arivK; rw [if_pos HC.out, HT.out, if_neg htp]
      go_wp2_with (go_at_call 40; refine (orNotFound_any _ _ _).mono ?_; rintro e w' ⟨rfl, rfl⟩)
      go_ret2
      exact Ret.ii HA.out.symm HKV.out.symm HB6.out
  · have hne : (runCx g.val ms fr [cell] != 0) = true := by simp [hc]
    have HA : Hid (arivA g.val ms fr cell = 0) := by rw [Hid]; unfold arivA; rw [if_neg hc]
    have HKV : Hid (arivK g.val ms fr cell = runCx g.val ms fr [cell]) := by rw [Hid]; unfold arivK; rw [if_neg hc]
    clear hc
    go_wp2
    go_ret2
    exact Ret.ii HA.out.symm HKV.out.symm HB.out

end Go.Proofs.Ythlgfmdlecdchaa

namespace Go.Proofs.Ythlgfmdlecdchaa
open Go.RowKit

/-- Cells with mass are reached at once, all others later or never. -/
theorem times_zero {g : Grid} {fr : Int} {ms : List Int} (h : RunOk g ms fr) : ∀ (j k : Nat) (m t : Int), ms[k]? = some m → (stT g fr ms j).times[k]? = some t → (0 < m → t = 0) ∧ (¬ 0 < m → t = -1 ∨ 1 ≤ t)
  | 0, k, m, t, hm, ht => by
    have e : (stT g fr ms 0).times = ms.map fun m => if 0 < m then (0 : Int) else -1 := rfl
    rw [e, List.getElem?_map, hm] at ht
    injection ht with ht
    by_cases hp : 0 < m
    · simp only [hp, if_true] at ht
      exact ⟨fun _ => ht.symm, fun h => absurd hp h⟩
    · simp only [hp, if_false] at ht
      exact ⟨fun h => absurd h hp, fun _ => .inl ht.symm⟩
  | j + 1, k, m, t, hm, ht => by
    have e : (stT g fr ms (j + 1)).times = List.zipWith (timeOf (j + 1)) (stT g fr ms j).times (stT g fr ms (j + 1)).now := rfl
    have hk := (List.getElem?_eq_some_iff.1 hm).1
    obtain ⟨t0, ht0⟩ : ∃ t, (stT g fr ms j).times[k]? = some t := ⟨_, List.getElem?_eq_getElem (by rw [times_len h]; exact hk)⟩
    obtain ⟨y, hy⟩ : ∃ y, (stT g fr ms (j + 1)).now[k]? = some y := ⟨_, List.getElem?_eq_getElem (by rw [(stT_ok (fr := fr) h.grid h.len h.f1 h.pos (j + 1)).l1]; exact hk)⟩
    rw [e, List.getElem?_zipWith, ht0, hy] at ht
    injection ht with ht
    have ih := times_zero h j k m t0 hm ht0
    unfold timeOf at ht
    by_cases hc : t0 < 0 ∧ 0 < y
    · rw [if_pos hc] at ht
      refine ⟨fun hp => ?_, fun _ => .inr (by omega)⟩
      have := ih.1 hp
      omega
    · rw [if_neg hc] at ht
      rw [← ht]; exact ih
theorem reach_none {g : Grid} {fr : Int} {ms : List Int} (_h : RunOk g ms fr) (hz : ∀ m ∈ ms, ¬ 0 < m) : reachL g ms fr = [] := by
  have hr : runN g fr ms = 0 := runN_of (Nat.zero_le _) (by
    show zeroB ms = true
    unfold zeroB
    rw [List.all_eq_true]
    intro x hx
    exact decide_eq_true (by have := hz x hx; omega)) (fun j hj => absurd hj (by omega))
  unfold reachL
  rw [hr]
  apply List.eq_nil_iff_forall_not_mem.2
  intro x hx
  obtain ⟨c, rfl, hc, h0⟩ := reachT_mem hx
  have hm : ms[c]? = some ms[c] := List.getElem?_eq_getElem hc
  have e : (stT g fr ms 0).times[c]? = some (-1) := by
    show (ms.map fun m => if 0 < m then (0 : Int) else -1)[c]? = _
    rw [List.getElem?_map, hm]
    have := hz ms[c] (List.getElem_mem hc)
    simp [this]
  rw [List.getD_eq_getElem?_getD, e] at h0
  simp at h0
theorem lowF_min (g : Grid) : ∀ (cs : List Int) (b : Int), 0 ≤ b → (∀ x ∈ cs, 0 ≤ x) → ht g (cs.foldl (lowF g) b) ≤ ht g b ∧ ∀ x ∈ cs, ht g (cs.foldl (lowF g) b) ≤ ht g x
  | [], b, _, _ => ⟨Int.le_refl _, by simp⟩
  | c :: cs, b, hb, hc => by
    rw [List.foldl_cons]
    have h0 : 0 ≤ lowF g b c := by
      unfold lowF
      split
      · exact hc c (by simp)
      · exact hb
    have ih := lowF_min g cs (lowF g b c) h0 (fun x hx => hc x (by simp [hx]))
    have h1 : ht g (lowF g b c) ≤ ht g b ∧ ht g (lowF g b c) ≤ ht g c := by
      unfold lowF
      by_cases h : b < 0 ∨ ht g c < ht g b
      · rw [if_pos h]
        exact ⟨by omega, Int.le_refl _⟩
      · rw [if_neg h]
        exact ⟨Int.le_refl _, by omega⟩
    refine ⟨Int.le_trans ih.1 h1.1, fun x hx => ?_⟩
    rcases List.mem_cons.1 hx with rfl | hx
    · exact Int.le_trans ih.1 h1.2
    · exact ih.2 x hx
theorem lowT_min {g : Grid} {cs : List Int} (hc : ∀ x ∈ cs, 0 ≤ x) : ∀ x ∈ cs, ht g (lowT g cs) ≤ ht g x := by
  cases cs with
  | nil => simp
  | cons c cs =>
    intro x hx
    rw [lowT_cons]
    have h := lowF_min g cs c (hc c (by simp)) (fun y hy => hc y (by simp [hy]))
    rcases List.mem_cons.1 hx with rfl | hx
    · exact h.1
    · exact h.2 x hx
theorem topT_ge {g : Grid} {ms : List Int} : ∀ (k i : Nat) (m : Int), i < k → ms[i]? = some m → 0 < m → ht g (i : Int) ≤ topT g ms k
  | 0, i, _, h, _, _ => absurd h (by omega)
  | k + 1, i, m, h, hm, hp => by
    by_cases e : i = k
    · subst e
      rw [topT_yes hm hp]; omega
    · have ih := topT_ge (g := g) k i m (by omega) hm hp
      cases hk : ms[k]? with
      | none =>
        have : topT g ms (k + 1) = topT g ms k := by
          unfold topT; rw [List.range_succ, List.foldl_append, List.foldl_cons, List.foldl_nil, show ms.getD k 0 = 0 by rw [List.getD_eq_getElem?_getD, hk]; rfl, if_neg (by omega)]
        omega
      | some y =>
        by_cases hy : 0 < y
        · rw [topT_yes hk hy]; omega
        · rw [topT_no hk hy]; exact ih
/-- The highest start is no lower than the lowest cell that is reached. -/
theorem drop_nn {g : Grid} {fr : Int} {ms : List Int} (h : RunOk g ms fr) (hne : reachL g ms fr ≠ []) : ht g (lowT g (reachL g ms fr)) ≤ topT g ms ms.length := by
  by_cases hz : ∀ m ∈ ms, ¬ 0 < m
  · exact absurd (reach_none h hz) hne
  · obtain ⟨m, hm, hp⟩ : ∃ m, m ∈ ms ∧ 0 < m := by
      apply Classical.byContradiction
      intro hn
      exact hz (fun m hm hp => hn ⟨m, hm, hp⟩)
    obtain ⟨i, hi⟩ := List.mem_iff_getElem?.1 hm
    have hil := (List.getElem?_eq_some_iff.1 hi).1
    obtain ⟨t, ht⟩ : ∃ t, (stT g fr ms (runN g fr ms)).times[i]? = some t := ⟨_, List.getElem?_eq_getElem (by rw [times_len h]; exact hil)⟩
    have h0 := (times_zero h _ i m t hi ht).1 hp
    have hmem : (i : Int) ∈ reachL g ms fr := by
      unfold reachL reachT
      refine List.mem_map.2 ⟨i, ?_, rfl⟩
      rw [List.mem_filter, List.mem_range, decide_eq_true_eq]
      refine ⟨hil, ?_⟩
      rw [List.getD_eq_getElem?_getD, ht, h0]; simp
    have h1 := lowT_min (g := g) (cs := reachL g ms fr) (fun x hx => by
      unfold reachL at hx
      obtain ⟨c, rfl, _, _⟩ := reachT_mem hx
      omega) i hmem
    have h2 := topT_ge (g := g) ms.length i m hil hi hp
    omega
/-! ### Between two candidates nothing changes -/
theorem stepT_same {g : Grid} {f f' : Int} {ms : List Int} : ∀ k, (∀ c, c < k → waysT g f c 8 = waysT g f' c 8) → stepT g f ms k = stepT g f' ms k
  | 0, _ => rfl
  | k + 1, h => by
    rw [stepT_succ, stepT_succ, stepT_same k (fun c hc => h c (by omega))]
    unfold stepC
    rw [h k (by omega)]
theorem stT_same {g : Grid} {f f' : Int} {ms : List Int} (h : ∀ c, c < ms.length → waysT g f c 8 = waysT g f' c 8) : ∀ n, stT g f ms n = stT g f' ms n
  | 0 => rfl
  | n + 1 => by
    have ih := stT_same h n
    unfold stT
    rw [ih, stepT_same _ h]
theorem miss_same {g : Grid} {f f' : Int} {ms : List Int} (h : ∀ c, c < ms.length → waysT g f c 8 = waysT g f' c 8) (cell : Nat) : missB g ms cell f = missB g ms cell f' := by
  have hr : runN g f ms = runN g f' ms := by
    unfold runN
    simp only [stT_same h]
  unfold missB
  rw [hr, stT_same h]
theorem waysT_same {g : Grid} {f f' : Int} {c : Nat} (h1 : f' ≤ f) (h : ∀ x ∈ nextT g c 8, f' ≤ x.slope → f ≤ x.slope) : waysT g f c 8 = waysT g f' c 8 := by
  unfold waysT
  apply List.filter_congr
  intro x hx
  unfold wayB
  congr 1
  by_cases h2 : f' ≤ x.slope
  · rw [decide_eq_true h2, decide_eq_true (h x hx h2)]
  · rw [decide_eq_false h2, decide_eq_false (by omega)]
theorem candL_mem {g : Grid} {n c : Nat} {x : Stp} (hc : c < n) (hx : x ∈ nextT g c 8) (h1 : 1 ≤ x.slope) (h2 : x.slope ≤ 4999) : x.slope + 1 ∈ candL g n := by
  induction n with
  | zero => omega
  | succ k ih =>
    unfold candL
    rw [List.mem_append]
    by_cases e : c = k
    · subst e
      right
      unfold candC
      exact List.mem_map.2 ⟨x, List.mem_filter.2 ⟨hx, inB_iff.2 ⟨h1, h2⟩⟩, rfl⟩
    · exact .inl (ih (by omega))
/-- The greatest one of some numbers that is no greater than f. -/
theorem exists_below {f : Int} : ∀ (l : List Int), (∃ x ∈ l, x ≤ f) → ∃ m ∈ l, m ≤ f ∧ ∀ x ∈ l, x ≤ f → x ≤ m
  | [], h => by obtain ⟨x, hx, _⟩ := h; simp at hx
  | y :: l, h => by
    by_cases hl : ∃ x ∈ l, x ≤ f
    · obtain ⟨m, hm, hmf, hmx⟩ := exists_below l hl
      by_cases hy : y ≤ f ∧ m < y
      · refine ⟨y, by simp, hy.1, fun x hx hxf => ?_⟩
        rcases List.mem_cons.1 hx with rfl | hx
        · exact Int.le_refl _
        · have := hmx x hx hxf; omega
      · refine ⟨m, by simp [hm], hmf, fun x hx hxf => ?_⟩
        rcases List.mem_cons.1 hx with rfl | hx
        · omega
        · exact hmx x hx hxf
    · obtain ⟨x, hx, hxf⟩ := h
      rcases List.mem_cons.1 hx with rfl | hx
      · refine ⟨x, by simp, hxf, fun z hz hzf => ?_⟩
        rcases List.mem_cons.1 hz with rfl | hz
        · exact Int.le_refl _
        · exact absurd ⟨z, hz, hzf⟩ hl
      · exact absurd ⟨x, hx, hxf⟩ hl
theorem fric_some {p : Int → Bool} {l : List Int} {L : Int} (h : fricO p l = some L) : p L = true ∧ L ∈ 1 :: l ∧ ∀ x ∈ 1 :: l, p x = true → L ≤ x := by
  unfold fricO at h
  obtain ⟨hy, l1, l2, hL, has⟩ := List.find?_eq_some_iff_append.1 h
  have hmem : L ∈ (1 :: l).mergeSort fun x y => decide (x ≤ y) := by rw [hL]; simp
  refine ⟨hy, (List.mergeSort_perm _ _).mem_iff.1 hmem, fun x hx hpx => ?_⟩
  have hx2 : x ∈ (1 :: l).mergeSort fun x y => decide (x ≤ y) := (List.mergeSort_perm _ _).mem_iff.2 hx
  have hs := sorted_merge (1 :: l)
  rw [hL] at hx2 hs
  rcases List.mem_append.1 hx2 with h3 | h3
  · have := has x h3; rw [hpx] at this; cases this
  · rcases List.mem_cons.1 h3 with h3 | h3
    · omega
    · exact (List.pairwise_cons.1 (List.pairwise_append.1 hs).2.1).1 x h3
/-- Below the least friction the cell is reached. -/
theorem below_least {g : Grid} {ms : List Int} {cell : Nat} {L f : Int} (hl : ms.length = g.heights.length) (h : fricO (missB g ms cell) (candL g g.heights.length) = some L) (h1 : 1 ≤ f) (h2 : f < L) : missB g ms cell f = false := by
  obtain ⟨_, hLm, hmin⟩ := fric_some h
  have hL5 : L ≤ 5000 := by
    rcases List.mem_cons.1 hLm with e | hm
    · omega
    · exact (candL_in g _ L hm).2
  obtain ⟨f', hf', hle, hmax⟩ := exists_below (f := f) (1 :: candL g g.heights.length) ⟨1, by simp, h1⟩
  have hf1 : 1 ≤ f' := hmax 1 (by simp) h1
  have hsame : missB g ms cell f = missB g ms cell f' := miss_same (fun c hc => waysT_same hle (fun x hx hs => by
    rcases Int.lt_or_le x.slope f with hlt | hge
    · have hm := candL_mem (n := g.heights.length) (by omega) hx (by omega) (by omega)
      have := hmax (x.slope + 1) (List.mem_cons.2 (.inr hm)) (by omega)
      omega
    · exact hge)) cell
  cases hb : missB g ms cell f with
  | false => rfl
  | true =>
    rw [hsame] at hb
    have := hmin f' hf' hb
    omega

end Go.Proofs.Ythlgfmdlecdchaa

namespace Go.Proofs.Ythlgfmdlecdchaa
open Go.RowKit

theorem hasQ_reach {ts : List Int} {n c : Nat} (hc : c < n) : hasQ (reachT ts n) c = decide (0 ≤ ts.getD c 0) := by
  rw [← reach_has hc]
  unfold hasQ hasB
  congr 1
  funext z
  rw [Bool.eq_iff_iff]
  simp only [decide_eq_true_eq]
  exact ⟨fun h => h.symm, fun h => h.symm⟩
/-- What a law of the routing draws may be run at any friction. -/
structure DrawnM (g : Grid) (ms : List Int) : Prop where
  grid : gridB g = true
  len : ms.length = g.heights.length
  bd : ∀ m ∈ ms, 0 ≤ m ∧ m ≤ 2000
theorem DrawnM.run {g : Grid} {ms : List Int} (h : DrawnM g ms) {fr : Int} (h1 : 1 ≤ fr) (h2 : fr ≤ 5000) : runC g ms fr = 0 ∧ RunOk g ms fr := by
  have hm : massB g ms = true := by
    unfold massB
    rw [Bool.and_eq_true, decide_eq_true_eq, List.all_eq_true]
    exact ⟨h.len, fun y hy => inB_iff.2 ⟨(h.bd y hy).1, by have := (h.bd y hy).2; omega⟩⟩
  have hc : runC g ms fr = 0 := by
    unfold runC
    rw [if_neg (by rw [h.grid]; simp), if_neg (by rw [inB_iff.2 ⟨h1, h2⟩]; simp), if_neg (by rw [hm]; simp)]
  exact ⟨hc, runC_zero hc⟩
theorem DrawnM.cell {g : Grid} {ms : List Int} (h : DrawnM g ms) {fr : Int} (h1 : 1 ≤ fr) (h2 : fr ≤ 5000) {c : Nat} (hc : c < ms.length) : runCx g ms fr [(c : Int)] = 0 := by
  have hm : massB g ms = true := by
    unfold massB
    rw [Bool.and_eq_true, decide_eq_true_eq, List.all_eq_true]
    exact ⟨h.len, fun y hy => inB_iff.2 ⟨(h.bd y hy).1, by have := (h.bd y hy).2; omega⟩⟩
  unfold runCx
  rw [if_neg (by rw [h.grid]; simp), if_neg, if_neg (by rw [hm]; simp)]
  have h3 : inB (c : Int) 0 ((g.heights.length : Int) - 1) = true := inB_iff.2 ⟨by omega, by have := h.len; omega⟩
  rw [inB_iff.2 ⟨h1, h2⟩]
  simp [h3]
/-- Each cell's arrival. -/
theorem arrive {g : Grid} {ms : List Int} {fr : Int} (h : DrawnM g ms) (h1 : 1 ≤ fr) (h2 : fr ≤ 5000) {k : Nat} {m : Int} (hm : ms[k]? = some m) :
    ∃ t : Int, arivA g ms fr k = t ∧ ((arivK g ms fr k = 0 ∧ hasQ (reachL g ms fr) k = true ∧ ((t = 0 ∧ 0 < m) ∨ (1 ≤ t ∧ m ≤ 0))) ∨ (arivK g ms fr k = 3 ∧ hasQ (reachL g ms fr) k = false)) := by
  have hk := (List.getElem?_eq_some_iff.1 hm).1
  have hc := h.cell h1 h2 hk
  have hr := (h.run h1 h2).2
  obtain ⟨ts, hts⟩ : ∃ ts, (stT g fr ms (runN g fr ms)).times = ts := ⟨_, rfl⟩
  have hl : ts.length = ms.length := by rw [← hts]; exact times_len hr _
  obtain ⟨t, ht⟩ : ∃ t, ts[k]? = some t := ⟨_, List.getElem?_eq_getElem (by omega)⟩
  have hz := times_zero hr (runN g fr ms) k m t hm (by rw [hts]; exact ht)
  have hT : arivT g ms fr k = t := by unfold arivT; rw [hts, Int.toNat_natCast, List.getD_eq_getElem?_getD, ht]; rfl
  have hH : hasQ (reachL g ms fr) k = decide (0 ≤ t) := by
    unfold reachL
    rw [hts, hasQ_reach hk, List.getD_eq_getElem?_getD, ht]; rfl
  by_cases h0 : 0 ≤ t
  · refine ⟨t, by unfold arivA; rw [if_pos hc, hT, if_pos h0], .inl ⟨by unfold arivK; rw [if_pos hc, hT, if_pos h0], by rw [hH]; exact decide_eq_true h0, ?_⟩⟩
    by_cases hp : 0 < m
    · exact .inl ⟨hz.1 hp, hp⟩
    · exact .inr ⟨by have := hz.2 hp; omega, by omega⟩
  · exact ⟨0, by unfold arivA; rw [if_pos hc, hT, if_neg h0], .inr ⟨by unfold arivK; rw [if_pos hc, hT, if_neg h0], by rw [hH]; exact decide_eq_false h0⟩⟩
/-- The lowest cell and the drop. -/
theorem lowest {g : Grid} {ms : List Int} {fr : Int} (h : DrawnM g ms) (h1 : 1 ≤ fr) (h2 : fr ≤ 5000) : (reachL g ms fr = [] ∧ lowK g ms fr = 3) ∨ (reachL g ms fr ≠ [] ∧ lowK g ms fr = 0 ∧ ∃ b : Nat, lowA g ms fr = b ∧ b < ms.length ∧ hasQ (reachL g ms fr) b = true ∧ dropA g ms fr = topT g ms ms.length - g.heights.getD b 0 ∧ 0 ≤ dropA g ms fr ∧ ∀ x ∈ reachL g ms fr, ∃ c : Nat, x = c ∧ c < ms.length ∧ g.heights.getD b 0 ≤ g.heights.getD c 0) := by
  obtain ⟨hc, hr⟩ := h.run h1 h2
  by_cases hR : reachL g ms fr = []
  · exact .inl ⟨hR, by unfold lowK; rw [if_pos hc, if_pos hR]⟩
  · right
    have hmem := lowT_mem g hR
    have hall : ∀ x ∈ reachL g ms fr, ∃ c : Nat, x = c ∧ c < ms.length := fun x hx => by
      unfold reachL at hx
      obtain ⟨c, e, hc, _⟩ := reachT_mem hx
      exact ⟨c, e, hc⟩
    obtain ⟨b, hb, hbl⟩ := hall _ hmem
    have hK : lowK g ms fr = 0 := by unfold lowK; rw [if_pos hc, if_neg hR]
    have hA : lowA g ms fr = b := by unfold lowA; rw [if_pos hc, if_neg hR, hb]
    have hD : dropA g ms fr = topT g ms ms.length - g.heights.getD b 0 := by
      unfold dropA; rw [if_pos hK, hA]; rfl
    have hnn := drop_nn hr hR
    rw [hb] at hnn
    have hht : ht g (b : Int) = g.heights.getD b 0 := rfl
    refine ⟨hR, hK, b, hA, hbl, ?_, hD, by rw [hD]; omega, fun x hx => ?_⟩
    · rw [hb] at hmem
      unfold reachL at hmem ⊢
      rw [hasQ_iff]; exact hmem
    · obtain ⟨c, rfl, hcl⟩ := hall x hx
      have := lowT_min (g := g) (cs := reachL g ms fr) (fun y hy => by obtain ⟨d, rfl, _⟩ := hall y hy; omega) _ hx
      rw [hb] at this
      exact ⟨c, rfl, hcl, this⟩
/-- The least friction that keeps a cell free. -/
theorem friction {g : Grid} {ms : List Int} (h : DrawnM g ms) {c : Nat} {m : Int} (hm : ms[c]? = some m) : (0 < m ∧ fricK g ms c = 6) ∨ (m ≤ 0 ∧ fricK g ms c = 3) ∨ (m ≤ 0 ∧ fricK g ms c = 0 ∧ 1 ≤ fricA g ms c ∧ fricA g ms c ≤ 5000 ∧ hasQ (reachL g ms (fricA g ms c)) c = false ∧ ∀ f, 1 ≤ f → f < fricA g ms c → hasQ (reachL g ms f) c = true) := by
  have hk := (List.getElem?_eq_some_iff.1 hm).1
  have hc := h.cell (fr := 1) (by omega) (by omega) hk
  have hmd : ms.getD c 0 = m := by rw [List.getD_eq_getElem?_getD, hm]; rfl
  by_cases hp : 0 < m
  · exact .inl ⟨hp, by unfold fricK; rw [if_pos hc, Int.toNat_natCast, hmd, if_pos hp]⟩
  · right
    cases hv : fricV g ms c with
    | none => exact .inl ⟨by omega, by unfold fricK; rw [if_pos hc, Int.toNat_natCast, hmd, if_neg hp, hv]; rfl⟩
    | some L =>
      right
      have hA : fricA g ms c = L := by unfold fricA; rw [if_pos hc, Int.toNat_natCast, hmd, if_neg hp, hv]; rfl
      have hv' : fricO (missB g ms c) (candL g g.heights.length) = some L := by
        unfold fricV at hv
        rw [Int.toNat_natCast] at hv; exact hv
      obtain ⟨hmiss, hmem, _⟩ := fric_some hv'
      have hL : 1 ≤ L ∧ L ≤ 5000 := by
        rcases List.mem_cons.1 hmem with e | hm'
        · omega
        · have := candL_in g _ L hm'
          omega
      rw [hA]
      have hq : ∀ f, hasQ (reachL g ms f) c = !missB g ms c f := fun f => by
        unfold reachL missB
        rw [hasQ_reach hk]
        by_cases h0 : 0 ≤ (stT g f ms (runN g f ms)).times.getD c 0
        · rw [decide_eq_true h0, decide_eq_false (by omega)]; rfl
        · rw [decide_eq_false h0, decide_eq_true (by omega)]; rfl
      refine ⟨by omega, by unfold fricK; rw [if_pos hc, Int.toNat_natCast, hmd, if_neg hp, hv]; rfl, hL.1, hL.2, by rw [hq, hmiss]; rfl, fun f hf1 hf2 => ?_⟩
      rw [hq, below_least h.len hv' hf1 hf2]; rfl

end Go.Proofs.Ythlgfmdlecdchaa

namespace Go.Proofs.Ythlgfmdlecdchaa
open Go.RowKit

theorem damT_spec (g : Grid) (xs : List Asset) (ms : List Int) (fr b : Int) : ∀ k, (damT g xs ms fr b k = (-1, 0) ∧ ∀ c, c < k → damOk g ms b c = false) ∨ (∃ c0 : Nat, c0 < k ∧ damOk g ms b c0 = true ∧ damT g xs ms fr b k = ((c0 : Int), damW g xs ms fr b c0) ∧ ∀ c, c < k → damOk g ms b c = true → damW g xs ms fr b c0 ≤ damW g xs ms fr b c)
  | 0 => .inl ⟨rfl, fun c hc => absurd hc (by omega)⟩
  | k + 1 => by
    cases hok : damOk g ms b k
    · rw [damT_no hok]
      rcases damT_spec g xs ms fr b k with ⟨h1, h2⟩ | ⟨c0, h1, h2, h3, h4⟩
      · refine .inl ⟨h1, fun c hc => ?_⟩
        by_cases e : c = k
        · rw [e]; exact hok
        · exact h2 c (by omega)
      · refine .inr ⟨c0, by omega, h2, h3, fun c hc hcok => ?_⟩
        by_cases e : c = k
        · rw [e, hok] at hcok; cases hcok
        · exact h4 c (by omega) hcok
    · right
      rcases damT_spec g xs ms fr b k with ⟨h1, h2⟩ | ⟨c0, h1, h2, h3, h4⟩
      · refine ⟨k, by omega, hok, damT_yes hok (by rw [h1]; exact .inl (by simp)), fun c hc hcok => ?_⟩
        by_cases e : c = k
        · rw [e]; exact Int.le_refl _
        · rw [h2 c (by omega)] at hcok; cases hcok
      · by_cases hw : damW g xs ms fr b k < damW g xs ms fr b c0
        · refine ⟨k, by omega, hok, damT_yes hok (by rw [h3]; exact .inr hw), fun c hc hcok => ?_⟩
          by_cases e : c = k
          · rw [e]; exact Int.le_refl _
          · have := h4 c (by omega) hcok; omega
        · refine ⟨c0, by omega, h2, by rw [damT_worse hok (by rw [h3]; simp only; omega), h3], fun c hc hcok => ?_⟩
          by_cases e : c = k
          · rw [e]; omega
          · exact h4 c (by omega) hcok
theorem reachT_pw (ts : List Int) (k : Nat) : (reachT ts k).Pairwise (· < ·) := by
  unfold reachT
  rw [List.pairwise_map]
  refine List.Pairwise.imp (R := fun a b : Nat => a < b) (fun h => by first | omega | (show ((_ : Nat) : Int) < ((_ : Nat) : Int); omega)) ?_
  exact List.Pairwise.filter _ (List.pairwise_lt_range)
theorem reach_cells {g : Grid} {ms : List Int} {fr : Int} (h : RunOk g ms fr) : cellsG g (reachL g ms fr) = true := by
  unfold cellsG
  rw [cellsB_eq, Bool.and_eq_true, List.all_eq_true]
  unfold reachL
  refine ⟨risesB_of (reachT_pw _ _), fun y hy => ?_⟩
  obtain ⟨c, rfl, hc, _⟩ := reachT_mem hy
  exact inB_iff.2 ⟨by omega, by have := h.len; omega⟩
theorem raise_assets {g : Grid} {xs : List Asset} {ms : List Int} {fr b : Int} {c : Nat} (h : RunOk (raiseG g c b) ms fr) (ha : assetsB g xs = true) : assetsB (raiseG g c b) xs = true := by
  have hl : (raiseG g c b).heights.length = g.heights.length := by simp [raiseG]
  unfold assetsB at ha ⊢
  rw [Bool.and_eq_true] at ha
  rw [h.grid, hl, ha.2]; rfl
/-- The worth left exposed of a raised grid, by the reference's function. -/
theorem raise_worth {g : Grid} {xs : List Asset} {ms : List Int} {fr b : Int} {c : Nat} (h : RunOk (raiseG g c b) ms fr) (ha : assetsB g xs = true) : exposeC (raiseG g c b) xs (reachL (raiseG g c b) ms fr) = 0 ∧ worthA (raiseG g c b) xs (reachL (raiseG g c b) ms fr) = damW g xs ms fr b c := by
  have hc : exposeC (raiseG g c b) xs (reachL (raiseG g c b) ms fr) = 0 := by
    unfold exposeC
    rw [if_neg (by rw [raise_assets h ha]; simp), if_neg (by rw [reach_cells h]; simp)]
  exact ⟨hc, by unfold worthA; rw [if_pos hc]; rfl⟩
/-- The best dam of what the law draws. -/
theorem dams {g : Grid} {xs : List Asset} {ms : List Int} {fr b : Int} (h : DrawnM g ms) (ha : assetsB g xs = true) (h1 : 1 ≤ fr) (h2 : fr ≤ 5000) (hb0 : 0 ≤ b) (hb1 : b ≤ 100) (hh : ∀ y ∈ g.heights, y + b ≤ 5000) :
    (damK g xs ms fr b = 3 ∧ ∀ m ∈ ms, 0 < m) ∨ (damK g xs ms fr b = 0 ∧ ∃ c0 : Nat, damA g xs ms fr b = c0 ∧ c0 < ms.length ∧ ms[c0]? = some 0 ∧ damV g xs ms fr b = damW g xs ms fr b c0 ∧ ∀ c : Nat, ms[c]? = some 0 → damV g xs ms fr b ≤ damW g xs ms fr b c) := by
  have hrun := h.run h1 h2
  have hC : damC g xs ms fr b = 0 := by
    unfold damC
    rw [if_neg (by rw [ha]; simp), if_neg (by rw [inB_iff.2 ⟨hb0, hb1⟩]; simp)]
    exact hrun.1
  have hok : ∀ (c : Nat) (m : Int), ms[c]? = some m → damOk g ms b c = decide (m ≤ 0) := fun c m hm => by
    have hcl : c < g.heights.length := by rw [← h.len]; exact (List.getElem?_eq_some_iff.1 hm).1
    have hy : g.heights[c]? = some g.heights[c] := List.getElem?_eq_getElem hcl
    rw [damOk_of hm hy, decide_eq_true (hh _ (List.getElem_mem _)), Bool.and_true]
  rcases damT_spec g xs ms fr b ms.length with ⟨e1, e2⟩ | ⟨c0, e1, e2, e3, e4⟩
  · left
    refine ⟨by unfold damK damB; rw [if_pos hC, e1]; simp, fun m hm => ?_⟩
    obtain ⟨c, hc⟩ := List.mem_iff_getElem?.1 hm
    have h5 := e2 c (List.getElem?_eq_some_iff.1 hc).1
    rw [hok c m hc] at h5
    have := of_decide_eq_false h5
    omega
  · right
    have hneg : ¬ ((c0 : Int) < 0) := by omega
    have hV : damV g xs ms fr b = damW g xs ms fr b c0 := by unfold damV damB; rw [if_pos hC, e3, if_neg hneg]
    have hm0 : ms[c0]? = some ms[c0] := List.getElem?_eq_getElem e1
    have hz : ms[c0] = 0 := by
      rw [hok c0 _ hm0] at e2
      have h5 := of_decide_eq_true e2
      have h6 := (h.bd _ (List.getElem_mem e1)).1
      omega
    refine ⟨by unfold damK damB; rw [if_pos hC, e3, if_neg hneg], c0, by unfold damA damB; rw [if_pos hC, e3, if_neg hneg], e1, by rw [hm0, hz], hV, fun c hc => ?_⟩
    rw [hV]
    exact e4 c (List.getElem?_eq_some_iff.1 hc).1 (by rw [hok c 0 hc]; simp)

end Go.Proofs.Ythlgfmdlecdchaa

namespace Go.Proofs.Ythlgfmdlecdchaa
open Go.RowKit

theorem box_end {w w3 wf : World} {p : GridR} {R base : Nat} (hR : w.heap.size ≤ R) (hbase : R < base) (ho : Own w3 R 26 #[.int .i64 0, .int .i64 0, .int .i64 0, .slice none 0 0]) (hw : OwnsL w3 base 2 1 i64cells (.slice p.heightsA p.heightsN p.heightsC) p.heights) (hb : Below w.heap.size w w3)
    (hf : (((w3.setCell ⟨R, 0, none⟩ (.int .i64 p.rows)).setCell ⟨R, 1, none⟩ (.int .i64 p.columns)).setCell ⟨R, 2, none⟩ (.int .i64 p.size)).setCell ⟨R, 3, none⟩ (.slice p.heightsA p.heightsN p.heightsC) = wf) :
    Own wf R 26 #[.int .i64 p.rows, .int .i64 p.columns, .int .i64 p.size, .slice p.heightsA p.heightsN p.heightsC] ∧ p.In wf ∧ Below w.heap.size w wf := by
  subst hf
  refine ⟨(((ho.put 0 _).put 1 _).put 2 _).put 3 _, GridR.in_of (hw.kept (fun b hb => ?_)), (((hb.setCell (p := ⟨R, 0, none⟩) hR _).setCell (p := ⟨R, 1, none⟩) hR _).setCell (p := ⟨R, 2, none⟩) hR _).setCell (p := ⟨R, 3, none⟩) hR _⟩
  have hne : b ≠ R := by have h1 := (hw.lt b hb).1; omega
  exact (Below.heap_setCell _ ⟨R, 3, none⟩ _ b hne).trans ((Below.heap_setCell _ ⟨R, 2, none⟩ _ b hne).trans ((Below.heap_setCell _ ⟨R, 1, none⟩ _ b hne).trans (Below.heap_setCell _ ⟨R, 0, none⟩ _ b hne)))
set_option maxHeartbeats 2000000 in
theorem implRaiseCell_ok (g : GridR) (c : Nat) (b y : Int) (w : World) (hgi : g.In w) (hgb : gridB g.val = true) (hn : g.heightsN ≤ 64) (hy : g.heights[c]? = some y) (hb0 : 0 ≤ b) (hb1 : b ≤ 100) (hyb : y + b ≤ 5000) :
    Calls Try.prog 28 #[.agg #[.int .i64 g.rows, .int .i64 g.columns, .int .i64 g.size, .slice g.heightsA g.heightsN g.heightsC], .int .i64 c, .int .i64 b] w (fun e w' => ∃ p : GridR, e = .returned (.tuple #[.agg #[.int .i64 p.rows, .int .i64 p.columns, .int .i64 p.size, .slice p.heightsA p.heightsN p.heightsC], .int .i64 0]) ∧ p.In w' ∧ p.val = raiseG g.val c b ∧ Below w.heap.size w w') := by
  have hcn : c < g.heightsN := by rw [← hgi.1.len]; exact (List.getElem?_eq_some_iff.1 hy).1
  obtain ⟨ga, go, _, hA, -, -, -⟩ := ints_at hgi.1 hcn
  have HGA := Lib.hid hA
  have HY := Lib.hid hy
  have hyb0 := (heights_bd hgb hy).1
  have HCC : Hid (cellC g.val [(c : Int)] = 0) := by
    rw [Hid, cellC_ok hgb]
    have h1 : inB (c : Int) 0 ((g.val.heights.length : Int) - 1) = true := inB_iff.2 ⟨by omega, by have := hgi.1.len; show (c : Int) ≤ ((g.heights.length : Nat) : Int) - 1; omega⟩
    simp [h1]
  have hB : Below w.heap.size w ((w.alloc (.cells #[.int .i64 g.rows, .int .i64 g.columns, .int .i64 g.size, .slice g.heightsA g.heightsN g.heightsC] 26)).alloc (.cells #[.int .i64 0, .int .i64 0, .int .i64 0, .slice none 0 0] 26)) := ((Below.refl _ _).alloc (Nat.le_refl _) _).alloc (by simp) _
  have hOX : Own ((w.alloc (.cells #[.int .i64 g.rows, .int .i64 g.columns, .int .i64 g.size, .slice g.heightsA g.heightsN g.heightsC] 26)).alloc (.cells #[.int .i64 0, .int .i64 0, .int .i64 0, .slice none 0 0] 26)) w.heap.size 26 #[.int .i64 g.rows, .int .i64 g.columns, .int .i64 g.size, .slice g.heightsA g.heightsN g.heightsC] := (Own.new w 26 #[.int .i64 g.rows, .int .i64 g.columns, .int .i64 g.size, .slice g.heightsA g.heightsN g.heightsC]).alloc _
  have hOR : Own ((w.alloc (.cells #[.int .i64 g.rows, .int .i64 g.columns, .int .i64 g.size, .slice g.heightsA g.heightsN g.heightsC] 26)).alloc (.cells #[.int .i64 0, .int .i64 0, .int .i64 0, .slice none 0 0] 26)) (w.heap.size + 1) 26 #[.int .i64 0, .int .i64 0, .int .i64 0, .slice none 0 0] := by have := Own.new (w.alloc (.cells #[.int .i64 g.rows, .int .i64 g.columns, .int .i64 g.size, .slice g.heightsA g.heightsN g.heightsC] 26)) 26 #[.int .i64 0, .int .i64 0, .int .i64 0, .slice none 0 0]; simpa using this
  have hI := hgi.below hB
  obtain ⟨X, hX⟩ : ∃ X, w.heap.size = X := ⟨_, rfl⟩
  have HXX := Lib.hid hX
  obtain ⟨w0, hw0⟩ : ∃ w0, (w.alloc (.cells #[.int .i64 g.rows, .int .i64 g.columns, .int .i64 g.size, .slice g.heightsA g.heightsN g.heightsC] 26)).alloc (.cells #[.int .i64 0, .int .i64 0, .int .i64 0, .slice none 0 0] 26) = w0 := ⟨_, rfl⟩
  rw [hw0] at hB hOX hOR hI
  rw [hX] at hOX hOR
  have HB0 := Lib.hid hB
  have HO0 : Hid (BoxD X g w0) := ⟨hOX, hI⟩
  have HR0 := Lib.hid hOR
  obtain ⟨y0, y1, y2, y3, ly⟩ := HO0.out.cells
  clear hgi hB hOX hOR hI hA hy
  go_enter Try.func28, Try.ntmps28
  go_wp2_with fail
  try rw [hw0]
  try rw [hX]
  clear hw0 hX y0 y1 y2 y3 ly
  obtain ⟨w1, hw1⟩ : ∃ w1, w0.alloc (.cells #[.int .i64 (c : Int)] 2) = w1 := ⟨_, rfl⟩
  have hb01 : Below w0.heap.size w0 w1 := by rw [← hw1]; exact (Below.refl _ _).alloc (Nat.le_refl _) _
  have hsl : SliceOf w1 1 i64cells (some ⟨w0.heap.size, 0, none⟩) 1 [(c : Int)] := by rw [← hw1]; exact sliceOf_new w0 2 [(c : Int)] (by simp)
  rw [hw1]
  refine (gridCode_any g (some ⟨w0.heap.size, 0, none⟩) 1 1 [(c : Int)] w1 (HO0.out.gi.below hb01) hsl).mono ?_
  rintro e w2 ⟨rfl, hb2⟩
  rw [HCC.out]
  have hb02 := hb01.trans (hb2.mono hb01.size)
  have HO2 := Lib.hid (HO0.out.grow hb02)
  have HR2 := Lib.hid (HR0.out.below' hb02)
  have HB2 := Lib.hid (HB0.out.trans (hb02.mono HB0.out.size))
  clear hw1 hb01 hsl hb2 hb02
  have hby : inB b 0 100 = true := inB_iff.2 ⟨hb0, hb1⟩
  go_wp2_with fail
  refine (within_any _ _ _ _).mono ?_
  rintro e w' ⟨rfl, rfl⟩
  rw [hby]
  obtain ⟨y0, y1, y2, y3, ly⟩ := HO2.out.cells
  rw [HGA.out] at y3
  obtain ⟨y', hy', ycell, glt⟩ := HO2.out.ht HGA.out hcn
  rw [HY.out] at hy'
  injection hy' with hy'
  subst hy'
  have hws : IntKind.i64.wrap (y + b) = y + b := IntWalk.i64_in _ (by omega)
  have hd5 : decide (5000 < y + b) = false := decide_eq_false (by omega)
  go_wp2_with fail
  have HCR := raised_any g c b y w2 HO2.out.gi hn HY.out (by omega) (by omega)
  rw [HGA.out] at HCR
  refine HCR.mono ?_
  clear HCR y0 y1 y2 y3 ly ycell glt hws hd5 hby
  rintro e w3 ⟨p, rfl, hpi, hpo, hpv, hb3⟩
  have HR3 := Lib.hid (HR2.out.below' hb3)
  have HB3 := Lib.hid (HB2.out.trans (hb3.mono HB2.out.size))
  have HPO := Lib.hid hpo
  have HPV := Lib.hid hpv
  have HLR := Lib.hid HR2.out.lt
  have r0 := HR3.out.cell 0
  have r1 := HR3.out.cell 1
  have r2 := HR3.out.cell 2
  have r3 := HR3.out.cell 3
  have dR := HR3.out.frozen
  have lR := HR3.out.lt
  simp at r0 r1 r2 r3
  clear hpi hpo hpv hb3
  go_wp2_with fail
  obtain ⟨wf, hwf⟩ : ∃ wf, (((w3.setCell ⟨X + 1, 0, none⟩ (.int .i64 p.rows)).setCell ⟨X + 1, 1, none⟩ (.int .i64 p.columns)).setCell ⟨X + 1, 2, none⟩ (.int .i64 p.size)).setCell ⟨X + 1, 3, none⟩ (.slice p.heightsA p.heightsN p.heightsC) = wf := ⟨_, rfl⟩
  obtain ⟨ho, hpw, hb⟩ := box_end (w := w) (R := X + 1) (by have := HXX.out; omega) HLR.out HR3.out HPO.out HB3.out hwf
  rw [hwf]
  have f0 := ho.cell 0
  have f1 := ho.cell 1
  have f2 := ho.cell 2
  have f3 := ho.cell 3
  simp at f0 f1 f2 f3
  refine bodyPost_ret (v := .tuple #[.agg #[.int .i64 p.rows, .int .i64 p.columns, .int .i64 p.size, .slice p.heightsA p.heightsN p.heightsC], .int .i64 0]) (by simp [results, Try.results28, go_sem, f0, f1, f2, f3]) rfl ⟨p, rfl, hpw, HPV.out, hb⟩

end Go.Proofs.Ythlgfmdlecdchaa

namespace Go.Proofs.Ythlgfmdlecdchaa
open Go.RowKit

set_option maxHeartbeats 1000000 in
theorem l09CellD_any (g : GridR) (bg offg : Nat) (cell cells : Int) (w : World) (hm : IntKind.i64.wrap (g.rows * g.columns) = g.rows * g.columns) (hgc : g.rows * g.columns = cells) (hc0 : 0 ≤ cells) (hc1 : cells ≤ 9223372036854775807) (hbg0 : bg < w.heap.size) (g0 : w.cell? ⟨bg, offg, none⟩ = some (.int .i64 g.rows)) (g1 : w.cell? ⟨bg, offg + 1, none⟩ = some (.int .i64 g.columns)) :
    Calls Try.prog 82 #[.pointer (some ⟨bg, offg, none⟩), .int .i64 cell] w (Ret (.bool (inB cell 0 (cells - 1))) w) := by
  rw [hgc] at hm
  have hsub := fun (g : Sub w) b o (h : b < w.heap.size) => g.cell b o h
  go_enter Try.func82, Try.ntmps82
  go_wp2_with fail
  refine wp_region_sub (by kernel_rfl) (by kernel_rfl) ?_
  repeat (go_big_quiet_step (exact Calls.sub_of_same (l00In_any _ _ _ _)))
  refine wpQuiet_nil ?_
  intro wg hg
  go_wp2
  go_ret
  exact Ret.b rfl hg
set_option maxHeartbeats 1000000 in
theorem l09AskD_any (g : GridR) (bg : Nat) (c : Nat) (w : World) (hgb : gridB g.val = true) (hcn : c < g.heightsN) (ho : BoxD bg g w) :
    Calls Try.prog 59 #[.pointer (some ⟨bg, 0, none⟩), .int .i64 c] w (Ret (.int .i64 0) w) := by
  have HO := Lib.hid ho
  have HGB := Lib.hid hgb
  have hp := (gridB_iff g.val).1 hgb
  have hgn := ho.gi.1.le
  have HM := Lib.hid (mul_i64 (inB_iff.1 hp.1) (inB_iff.1 hp.2.1))
  have HL : Hid (g.rows * g.columns = (g.heightsN : Int)) := by have h := of_decide_eq_true hp.2.2.2.1; exact h.symm.trans (congrArg (fun k : Nat => (k : Int)) ho.gi.1.len)
  clear hp ho hgb
  go_enter Try.func59, Try.ntmps59
  go_wp2_with fail
  refine (l09Ok_any g bg 0 w HO.out.gi HO.out.own.lt (HO.out.own.cell 0) (HO.out.own.cell 1) (HO.out.own.cell 2) (HO.out.own.cell 3)).mono ?_
  rintro e w1 ⟨rfl, hb1⟩
  rw [HGB.out]
  have HO1 := Lib.hid (HO.out.grow hb1)
  go_wp2_with fail
  refine (l09CellD_any g bg 0 (c : Int) (g.heightsN : Int) w1 HM.out.1 HL.out (by omega) (by omega) HO1.out.own.lt (HO1.out.own.cell 0) (HO1.out.own.cell 1)).mono ?_
  rintro e w2 ⟨rfl, hb2⟩
  have hin : inB (c : Int) 0 ((g.heightsN : Int) - 1) = true := inB_iff.2 ⟨by omega, by omega⟩
  rw [hin]
  go_wp2
  go_ret
  exact Ret.i rfl (hb1.trans (hb2.mono hb1.size))
set_option maxHeartbeats 2000000 in
theorem specRaiseCell_ok (g : GridR) (c : Nat) (b y : Int) (w : World) (hgi : g.In w) (hgb : gridB g.val = true) (hn : g.heightsN ≤ 64) (hy : g.heights[c]? = some y) (hb0 : 0 ≤ b) (hb1 : b ≤ 100) (hyb : y + b ≤ 5000) :
    Calls Try.prog 29 #[.agg #[.int .i64 g.rows, .int .i64 g.columns, .int .i64 g.size, .slice g.heightsA g.heightsN g.heightsC], .int .i64 c, .int .i64 b] w (fun e w' => ∃ p : GridR, e = .returned (.tuple #[.agg #[.int .i64 p.rows, .int .i64 p.columns, .int .i64 p.size, .slice p.heightsA p.heightsN p.heightsC], .int .i64 0]) ∧ p.In w' ∧ p.val = raiseG g.val c b ∧ Below w.heap.size w w') := by
  have hcn : c < g.heightsN := by rw [← hgi.1.len]; exact (List.getElem?_eq_some_iff.1 hy).1
  obtain ⟨ga, go, _, hA, -, -, -⟩ := ints_at hgi.1 hcn
  have HGA := Lib.hid hA
  have HY := Lib.hid hy
  have hyb0 := (heights_bd hgb hy).1
  have HGB := Lib.hid hgb
  have hB : Below w.heap.size w ((w.alloc (.cells #[.int .i64 g.rows, .int .i64 g.columns, .int .i64 g.size, .slice g.heightsA g.heightsN g.heightsC] 26)).alloc (.cells #[.int .i64 0, .int .i64 0, .int .i64 0, .slice none 0 0] 26)) := ((Below.refl _ _).alloc (Nat.le_refl _) _).alloc (by simp) _
  have hOX : Own ((w.alloc (.cells #[.int .i64 g.rows, .int .i64 g.columns, .int .i64 g.size, .slice g.heightsA g.heightsN g.heightsC] 26)).alloc (.cells #[.int .i64 0, .int .i64 0, .int .i64 0, .slice none 0 0] 26)) w.heap.size 26 #[.int .i64 g.rows, .int .i64 g.columns, .int .i64 g.size, .slice g.heightsA g.heightsN g.heightsC] := (Own.new w 26 #[.int .i64 g.rows, .int .i64 g.columns, .int .i64 g.size, .slice g.heightsA g.heightsN g.heightsC]).alloc _
  have hOR : Own ((w.alloc (.cells #[.int .i64 g.rows, .int .i64 g.columns, .int .i64 g.size, .slice g.heightsA g.heightsN g.heightsC] 26)).alloc (.cells #[.int .i64 0, .int .i64 0, .int .i64 0, .slice none 0 0] 26)) (w.heap.size + 1) 26 #[.int .i64 0, .int .i64 0, .int .i64 0, .slice none 0 0] := by have := Own.new (w.alloc (.cells #[.int .i64 g.rows, .int .i64 g.columns, .int .i64 g.size, .slice g.heightsA g.heightsN g.heightsC] 26)) 26 #[.int .i64 0, .int .i64 0, .int .i64 0, .slice none 0 0]; simpa using this
  have hI := hgi.below hB
  obtain ⟨X, hX⟩ : ∃ X, w.heap.size = X := ⟨_, rfl⟩
  have HXX := Lib.hid hX
  obtain ⟨w0, hw0⟩ : ∃ w0, (w.alloc (.cells #[.int .i64 g.rows, .int .i64 g.columns, .int .i64 g.size, .slice g.heightsA g.heightsN g.heightsC] 26)).alloc (.cells #[.int .i64 0, .int .i64 0, .int .i64 0, .slice none 0 0] 26) = w0 := ⟨_, rfl⟩
  rw [hw0] at hB hOX hOR hI
  rw [hX] at hOX hOR
  have HB0 := Lib.hid hB
  have HO0 : Hid (BoxD X g w0) := ⟨hOX, hI⟩
  have HR0 := Lib.hid hOR
  obtain ⟨y0, y1, y2, y3, ly⟩ := HO0.out.cells
  clear hgi hB hOX hOR hI hA hy
  go_enter Try.func29, Try.ntmps29
  go_wp2_with fail
  try rw [hw0]
  try rw [hX]
  clear hw0 hX y0 y1 y2 y3 ly
  refine (l09AskD_any g X c w0 HGB.out hcn HO0.out).mono ?_
  rintro e w2 ⟨rfl, hb2⟩
  have HO2 := Lib.hid (HO0.out.grow hb2)
  have HR2 := Lib.hid (HR0.out.below' hb2)
  have HB2 := Lib.hid (HB0.out.trans (hb2.mono HB0.out.size))
  clear hb2
  have hby : inB b 0 100 = true := inB_iff.2 ⟨hb0, hb1⟩
  go_wp2_with fail
  refine (l15By_any b w2).mono ?_
  rintro e w' ⟨rfl, rfl⟩
  rw [hby]
  obtain ⟨y0, y1, y2, y3, ly⟩ := HO2.out.cells
  rw [HGA.out] at y3
  obtain ⟨y', hy', ycell, glt⟩ := HO2.out.ht HGA.out hcn
  rw [HY.out] at hy'
  injection hy' with hy'
  subst hy'
  have hws : IntKind.i64.wrap (y + b) = y + b := IntWalk.i64_in _ (by omega)
  have hd5 : decide (5000 < y + b) = false := decide_eq_false (by omega)
  go_wp2_with fail
  refine (l15Raise_any g X c b y w2 HO2.out.gi HO2.out.own hn HY.out (by omega) (by omega)).mono ?_
  clear y0 y1 y2 y3 ly ycell glt hws hd5 hby
  rintro e w3 ⟨p, rfl, hpi, hpo, hpv, hb3⟩
  have HR3 := Lib.hid (HR2.out.below' hb3)
  have HB3 := Lib.hid (HB2.out.trans (hb3.mono HB2.out.size))
  have HPO := Lib.hid hpo
  have HPV := Lib.hid hpv
  have HLR := Lib.hid HR2.out.lt
  have r0 := HR3.out.cell 0
  have r1 := HR3.out.cell 1
  have r2 := HR3.out.cell 2
  have r3 := HR3.out.cell 3
  have dR := HR3.out.frozen
  have lR := HR3.out.lt
  simp at r0 r1 r2 r3
  clear hpi hpo hpv hb3
  go_wp2_with fail
  obtain ⟨wf, hwf⟩ : ∃ wf, (((w3.setCell ⟨X + 1, 0, none⟩ (.int .i64 p.rows)).setCell ⟨X + 1, 1, none⟩ (.int .i64 p.columns)).setCell ⟨X + 1, 2, none⟩ (.int .i64 p.size)).setCell ⟨X + 1, 3, none⟩ (.slice p.heightsA p.heightsN p.heightsC) = wf := ⟨_, rfl⟩
  obtain ⟨ho, hpw, hb⟩ := box_end (w := w) (R := X + 1) (by have := HXX.out; omega) HLR.out HR3.out HPO.out HB3.out hwf
  rw [hwf]
  have f0 := ho.cell 0
  have f1 := ho.cell 1
  have f2 := ho.cell 2
  have f3 := ho.cell 3
  simp at f0 f1 f2 f3
  refine bodyPost_ret (v := .tuple #[.agg #[.int .i64 p.rows, .int .i64 p.columns, .int .i64 p.size, .slice p.heightsA p.heightsN p.heightsC], .int .i64 0]) (by simp [results, Try.results29, go_sem, f0, f1, f2, f3]) rfl ⟨p, rfl, hpw, HPV.out, hb⟩

end Go.Proofs.Ythlgfmdlecdchaa
