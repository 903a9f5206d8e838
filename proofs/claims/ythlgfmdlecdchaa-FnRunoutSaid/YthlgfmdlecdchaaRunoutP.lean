/- The plain law of FnRunout. -/
import Derived.Test.YthlgfmdlecdchaaFricI
import Derived.Test.YthlgfmdlecdchaaRunF
namespace Go.Proofs.Ythlgfmdlecdchaa
open Go.RowKit

/-- Cells with mass are reached at once, all others later or never. -/
theorem times_zero {g : Grid} {fr : Int} {ms : List Int} (h : RunOk g ms fr) : ∀ (j k : Nat) (m t : Int), ms[k]? = some m → (stT g fr ms j).times[k]? = some t → (0 < m → t = 0) ∧ (¬ 0 < m → t = -1 ∨ 1 ≤ t)
  | 0, k, m, t, hm, ht => by
    have e : (stT g fr ms 0).times = ms.map fun m => if 0 < m then (0 : Int) else -1 := rfl
    rw [e, List.getElem?_map, hm] at ht
    injection ht with ht
    by_cases hp : 0 < m
    · simp only [hp, if_true] at ht
      exact ⟨fun _ => ht.symm, fun h => absurd hp h⟩
    · simp only [hp, if_false] at ht
      exact ⟨fun h => absurd h hp, fun _ => .inl ht.symm⟩
  | j + 1, k, m, t, hm, ht => by
    have e : (stT g fr ms (j + 1)).times = List.zipWith (timeOf (j + 1)) (stT g fr ms j).times (stT g fr ms (j + 1)).now := rfl
    have hk := (List.getElem?_eq_some_iff.1 hm).1
    obtain ⟨t0, ht0⟩ : ∃ t, (stT g fr ms j).times[k]? = some t := ⟨_, List.getElem?_eq_getElem (by rw [times_len h]; exact hk)⟩
    obtain ⟨y, hy⟩ : ∃ y, (stT g fr ms (j + 1)).now[k]? = some y := ⟨_, List.getElem?_eq_getElem (by rw [(stT_ok (fr := fr) h.grid h.len h.f1 h.pos (j + 1)).l1]; exact hk)⟩
    rw [e, List.getElem?_zipWith, ht0, hy] at ht
    injection ht with ht
    have ih := times_zero h j k m t0 hm ht0
    unfold timeOf at ht
    by_cases hc : t0 < 0 ∧ 0 < y
    · rw [if_pos hc] at ht
      refine ⟨fun hp => ?_, fun _ => .inr (by omega)⟩
      have := ih.1 hp
      omega
    · rw [if_neg hc] at ht
      rw [← ht]; exact ih
theorem reach_none {g : Grid} {fr : Int} {ms : List Int} (_h : RunOk g ms fr) (hz : ∀ m ∈ ms, ¬ 0 < m) : reachL g ms fr = [] := by
  have hr : runN g fr ms = 0 := runN_of (Nat.zero_le _) (by
    show zeroB ms = true
    unfold zeroB
    rw [List.all_eq_true]
    intro x hx
    exact decide_eq_true (by have := hz x hx; omega)) (fun j hj => absurd hj (by omega))
  unfold reachL
  rw [hr]
  apply List.eq_nil_iff_forall_not_mem.2
  intro x hx
  obtain ⟨c, rfl, hc, h0⟩ := reachT_mem hx
  have hm : ms[c]? = some ms[c] := List.getElem?_eq_getElem hc
  have e : (stT g fr ms 0).times[c]? = some (-1) := by
    show (ms.map fun m => if 0 < m then (0 : Int) else -1)[c]? = _
    rw [List.getElem?_map, hm]
    have := hz ms[c] (List.getElem_mem hc)
    simp [this]
  rw [List.getD_eq_getElem?_getD, e] at h0
  simp at h0
theorem lowF_min (g : Grid) : ∀ (cs : List Int) (b : Int), 0 ≤ b → (∀ x ∈ cs, 0 ≤ x) → ht g (cs.foldl (lowF g) b) ≤ ht g b ∧ ∀ x ∈ cs, ht g (cs.foldl (lowF g) b) ≤ ht g x
  | [], b, _, _ => ⟨Int.le_refl _, by simp⟩
  | c :: cs, b, hb, hc => by
    rw [List.foldl_cons]
    have h0 : 0 ≤ lowF g b c := by
      unfold lowF
      split
      · exact hc c (by simp)
      · exact hb
    have ih := lowF_min g cs (lowF g b c) h0 (fun x hx => hc x (by simp [hx]))
    have h1 : ht g (lowF g b c) ≤ ht g b ∧ ht g (lowF g b c) ≤ ht g c := by
      unfold lowF
      by_cases h : b < 0 ∨ ht g c < ht g b
      · rw [if_pos h]
        exact ⟨by omega, Int.le_refl _⟩
      · rw [if_neg h]
        exact ⟨Int.le_refl _, by omega⟩
    refine ⟨Int.le_trans ih.1 h1.1, fun x hx => ?_⟩
    rcases List.mem_cons.1 hx with rfl | hx
    · exact Int.le_trans ih.1 h1.2
    · exact ih.2 x hx
theorem lowT_min {g : Grid} {cs : List Int} (hc : ∀ x ∈ cs, 0 ≤ x) : ∀ x ∈ cs, ht g (lowT g cs) ≤ ht g x := by
  cases cs with
  | nil => simp
  | cons c cs =>
    intro x hx
    rw [lowT_cons]
    have h := lowF_min g cs c (hc c (by simp)) (fun y hy => hc y (by simp [hy]))
    rcases List.mem_cons.1 hx with rfl | hx
    · exact h.1
    · exact h.2 x hx
theorem topT_ge {g : Grid} {ms : List Int} : ∀ (k i : Nat) (m : Int), i < k → ms[i]? = some m → 0 < m → ht g (i : Int) ≤ topT g ms k
  | 0, i, _, h, _, _ => absurd h (by omega)
  | k + 1, i, m, h, hm, hp => by
    by_cases e : i = k
    · subst e
      rw [topT_yes hm hp]; omega
    · have ih := topT_ge (g := g) k i m (by omega) hm hp
      cases hk : ms[k]? with
      | none =>
        have : topT g ms (k + 1) = topT g ms k := by
          unfold topT; rw [List.range_succ, List.foldl_append, List.foldl_cons, List.foldl_nil, show ms.getD k 0 = 0 by rw [List.getD_eq_getElem?_getD, hk]; rfl, if_neg (by omega)]
        omega
      | some y =>
        by_cases hy : 0 < y
        · rw [topT_yes hk hy]; omega
        · rw [topT_no hk hy]; exact ih
/-- The highest start is no lower than the lowest cell that is reached. -/
theorem drop_nn {g : Grid} {fr : Int} {ms : List Int} (h : RunOk g ms fr) (hne : reachL g ms fr ≠ []) : ht g (lowT g (reachL g ms fr)) ≤ topT g ms ms.length := by
  by_cases hz : ∀ m ∈ ms, ¬ 0 < m
  · exact absurd (reach_none h hz) hne
  · obtain ⟨m, hm, hp⟩ : ∃ m, m ∈ ms ∧ 0 < m := by
      apply Classical.byContradiction
      intro hn
      exact hz (fun m hm hp => hn ⟨m, hm, hp⟩)
    obtain ⟨i, hi⟩ := List.mem_iff_getElem?.1 hm
    have hil := (List.getElem?_eq_some_iff.1 hi).1
    obtain ⟨t, ht⟩ : ∃ t, (stT g fr ms (runN g fr ms)).times[i]? = some t := ⟨_, List.getElem?_eq_getElem (by rw [times_len h]; exact hil)⟩
    have h0 := (times_zero h _ i m t hi ht).1 hp
    have hmem : (i : Int) ∈ reachL g ms fr := by
      unfold reachL reachT
      refine List.mem_map.2 ⟨i, ?_, rfl⟩
      rw [List.mem_filter, List.mem_range, decide_eq_true_eq]
      refine ⟨hil, ?_⟩
      rw [List.getD_eq_getElem?_getD, ht, h0]; simp
    have h1 := lowT_min (g := g) (cs := reachL g ms fr) (fun x hx => by
      unfold reachL at hx
      obtain ⟨c, rfl, _, _⟩ := reachT_mem hx
      omega) i hmem
    have h2 := topT_ge (g := g) ms.length i m hil hi hp
    omega
/-! ### Between two candidates nothing changes -/
theorem stepT_same {g : Grid} {f f' : Int} {ms : List Int} : ∀ k, (∀ c, c < k → waysT g f c 8 = waysT g f' c 8) → stepT g f ms k = stepT g f' ms k
  | 0, _ => rfl
  | k + 1, h => by
    rw [stepT_succ, stepT_succ, stepT_same k (fun c hc => h c (by omega))]
    unfold stepC
    rw [h k (by omega)]
theorem stT_same {g : Grid} {f f' : Int} {ms : List Int} (h : ∀ c, c < ms.length → waysT g f c 8 = waysT g f' c 8) : ∀ n, stT g f ms n = stT g f' ms n
  | 0 => rfl
  | n + 1 => by
    have ih := stT_same h n
    unfold stT
    rw [ih, stepT_same _ h]
theorem miss_same {g : Grid} {f f' : Int} {ms : List Int} (h : ∀ c, c < ms.length → waysT g f c 8 = waysT g f' c 8) (cell : Nat) : missB g ms cell f = missB g ms cell f' := by
  have hr : runN g f ms = runN g f' ms := by
    unfold runN
    simp only [stT_same h]
  unfold missB
  rw [hr, stT_same h]
theorem waysT_same {g : Grid} {f f' : Int} {c : Nat} (h1 : f' ≤ f) (h : ∀ x ∈ nextT g c 8, f' ≤ x.slope → f ≤ x.slope) : waysT g f c 8 = waysT g f' c 8 := by
  unfold waysT
  apply List.filter_congr
  intro x hx
  unfold wayB
  congr 1
  by_cases h2 : f' ≤ x.slope
  · rw [decide_eq_true h2, decide_eq_true (h x hx h2)]
  · rw [decide_eq_false h2, decide_eq_false (by omega)]
theorem candL_mem {g : Grid} {n c : Nat} {x : Stp} (hc : c < n) (hx : x ∈ nextT g c 8) (h1 : 1 ≤ x.slope) (h2 : x.slope ≤ 4999) : x.slope + 1 ∈ candL g n := by
  induction n with
  | zero => omega
  | succ k ih =>
    unfold candL
    rw [List.mem_append]
    by_cases e : c = k
    · subst e
      right
      unfold candC
      exact List.mem_map.2 ⟨x, List.mem_filter.2 ⟨hx, inB_iff.2 ⟨h1, h2⟩⟩, rfl⟩
    · exact .inl (ih (by omega))
/-- The greatest one of some numbers that is no greater than f. -/
theorem exists_below {f : Int} : ∀ (l : List Int), (∃ x ∈ l, x ≤ f) → ∃ m ∈ l, m ≤ f ∧ ∀ x ∈ l, x ≤ f → x ≤ m
  | [], h => by obtain ⟨x, hx, _⟩ := h; simp at hx
  | y :: l, h => by
    by_cases hl : ∃ x ∈ l, x ≤ f
    · obtain ⟨m, hm, hmf, hmx⟩ := exists_below l hl
      by_cases hy : y ≤ f ∧ m < y
      · refine ⟨y, by simp, hy.1, fun x hx hxf => ?_⟩
        rcases List.mem_cons.1 hx with rfl | hx
        · exact Int.le_refl _
        · have := hmx x hx hxf; omega
      · refine ⟨m, by simp [hm], hmf, fun x hx hxf => ?_⟩
        rcases List.mem_cons.1 hx with rfl | hx
        · omega
        · exact hmx x hx hxf
    · obtain ⟨x, hx, hxf⟩ := h
      rcases List.mem_cons.1 hx with rfl | hx
      · refine ⟨x, by simp, hxf, fun z hz hzf => ?_⟩
        rcases List.mem_cons.1 hz with rfl | hz
        · exact Int.le_refl _
        · exact absurd ⟨z, hz, hzf⟩ hl
      · exact absurd ⟨x, hx, hxf⟩ hl
theorem fric_some {p : Int → Bool} {l : List Int} {L : Int} (h : fricO p l = some L) : p L = true ∧ L ∈ 1 :: l ∧ ∀ x ∈ 1 :: l, p x = true → L ≤ x := by
  unfold fricO at h
  obtain ⟨hy, l1, l2, hL, has⟩ := List.find?_eq_some_iff_append.1 h
  have hmem : L ∈ (1 :: l).mergeSort fun x y => decide (x ≤ y) := by rw [hL]; simp
  refine ⟨hy, (List.mergeSort_perm _ _).mem_iff.1 hmem, fun x hx hpx => ?_⟩
  have hx2 : x ∈ (1 :: l).mergeSort fun x y => decide (x ≤ y) := (List.mergeSort_perm _ _).mem_iff.2 hx
  have hs := sorted_merge (1 :: l)
  rw [hL] at hx2 hs
  rcases List.mem_append.1 hx2 with h3 | h3
  · have := has x h3; rw [hpx] at this; cases this
  · rcases List.mem_cons.1 h3 with h3 | h3
    · omega
    · exact (List.pairwise_cons.1 (List.pairwise_append.1 hs).2.1).1 x h3
/-- Below the least friction the cell is reached. -/
theorem below_least {g : Grid} {ms : List Int} {cell : Nat} {L f : Int} (hl : ms.length = g.heights.length) (h : fricO (missB g ms cell) (candL g g.heights.length) = some L) (h1 : 1 ≤ f) (h2 : f < L) : missB g ms cell f = false := by
  obtain ⟨_, hLm, hmin⟩ := fric_some h
  have hL5 : L ≤ 5000 := by
    rcases List.mem_cons.1 hLm with e | hm
    · omega
    · exact (candL_in g _ L hm).2
  obtain ⟨f', hf', hle, hmax⟩ := exists_below (f := f) (1 :: candL g g.heights.length) ⟨1, by simp, h1⟩
  have hf1 : 1 ≤ f' := hmax 1 (by simp) h1
  have hsame : missB g ms cell f = missB g ms cell f' := miss_same (fun c hc => waysT_same hle (fun x hx hs => by
    rcases Int.lt_or_le x.slope f with hlt | hge
    · have hm := candL_mem (n := g.heights.length) (by omega) hx (by omega) (by omega)
      have := hmax (x.slope + 1) (List.mem_cons.2 (.inr hm)) (by omega)
      omega
    · exact hge)) cell
  cases hb : missB g ms cell f with
  | false => rfl
  | true =>
    rw [hsame] at hb
    have := hmin f' hf' hb
    omega

end Go.Proofs.Ythlgfmdlecdchaa
