/- The plain law of FnTerrain: slopes seen from both ends, the steepest step, the sum of the curvatures. -/
import Derived.Test.YtmldijckjenbcaaGreatDoorWays
import Derived.Test.YtmldijckjenbcaaGreatDoorNearP
import Derived.Test.YtmldijckjenbcaaGreatDoorRndB
import Derived.Test.YtmldijckjenbcaaGreatDoorR8
namespace Go.Proofs.YtmldijckjenbcaaGreatDoor
open Go.RowKit

def opp (k : Nat) : Nat := if k < 4 then k + 4 else k - 4
theorem opp_lt {k : Nat} (h : k < 8) : opp k < 8 := by unfold opp; split <;> omega
theorem opp_dr {k : Nat} (h : k < 8) : dr (opp k) = -dr k := by
  have hk : k = 0 ∨ k = 1 ∨ k = 2 ∨ k = 3 ∨ k = 4 ∨ k = 5 ∨ k = 6 ∨ k = 7 := by omega
  rcases hk with rfl | rfl | rfl | rfl | rfl | rfl | rfl | rfl <;> rfl
theorem opp_dc {k : Nat} (h : k < 8) : dc (opp k) = -dc k := by
  have hk : k = 0 ∨ k = 1 ∨ k = 2 ∨ k = 3 ∨ k = 4 ∨ k = 5 ∨ k = 6 ∨ k = 7 := by omega
  rcases hk with rfl | rfl | rfl | rfl | rfl | rfl | rfl | rfl <;> rfl
theorem opp_mod {k : Nat} (h : k < 8) : opp k % 2 = k % 2 := by unfold opp; split <;> omega
theorem rndDiv_neg {a b : Int} (hb : 1 ≤ b) : rndDiv (-a) b = -rndDiv a b := by
  unfold rndDiv
  rw [if_neg (by omega), if_neg (by omega)]
  unfold rnd
  rcases Int.lt_trichotomy a 0 with h | h | h
  · rw [if_pos (show 0 ≤ -a by omega), if_neg (show ¬ 0 ≤ a by omega), Int.neg_neg]
    congr 1; omega
  · subst h
    have e : (b : Int) / (2 * b) = 0 := Int.ediv_eq_zero_of_lt (by omega) (by omega)
    simp [e]
  · rw [if_neg (show ¬ 0 ≤ -a by omega), if_pos (show 0 ≤ a by omega)]
    congr 2; omega
theorem rndDiv_pos {a b : Int} (hb : 1 ≤ b) (h : b ≤ 2 * a) : 1 ≤ rndDiv a b := by
  unfold rndDiv
  rw [if_neg (by omega)]
  unfold rnd
  rw [if_pos (by omega)]
  exact (Int.le_ediv_iff_mul_le (by omega)).2 (by omega)
theorem rndDiv_zero {b : Int} (hb : 1 ≤ b) : rndDiv 0 b = 0 := by
  unfold rndDiv
  rw [if_neg (by omega)]
  unfold rnd
  rw [if_pos (by omega)]
  exact Int.ediv_eq_zero_of_lt (by omega) (by omega)
theorem row_col {g : Grid} {c : Nat} (hg : gridB g = true) (hc : c < g.heights.length) : 0 ≤ (c : Int).tdiv g.columns ∧ (c : Int).tdiv g.columns ≤ g.rows - 1 ∧ 0 ≤ (c : Int).tmod g.columns ∧ (c : Int).tmod g.columns ≤ g.columns - 1 ∧ (c : Int).tdiv g.columns * g.columns + (c : Int).tmod g.columns = c := by
  obtain ⟨h1, h2, _, h4, _⟩ := gridB_parts hg
  rw [Int.tdiv_eq_ediv_of_nonneg (by omega), Int.tmod_eq_emod_of_nonneg (by omega)]
  have a := Int.emod_nonneg (c : Int) (show g.columns ≠ 0 by omega)
  have b := Int.emod_lt_of_pos (c : Int) (show 0 < g.columns by omega)
  have d := Int.ediv_nonneg (show (0 : Int) ≤ c by omega) (show 0 ≤ g.columns by omega)
  have e : (c : Int) / g.columns < g.rows := Int.ediv_lt_of_lt_mul (by omega) (by omega)
  have f := Int.mul_ediv_add_emod (c : Int) g.columns
  have f2 := Int.mul_comm g.columns ((c : Int) / g.columns)
  omega
theorem go_row {g : Grid} {c k d : Nat} (hg : gridB g = true) (hin : inC g c k = true) (hd : goC g c k = d) : (d : Int).tdiv g.columns = rowC g c k ∧ (d : Int).tmod g.columns = colC g c k := by
  obtain ⟨h1, h2, _, h4, _⟩ := gridB_parts hg
  unfold inC at hin
  rw [Bool.and_eq_true] at hin
  have c1 := inB_iff.1 hin.2
  rw [Int.tdiv_eq_ediv_of_nonneg (by omega), Int.tmod_eq_emod_of_nonneg (by omega), ← hd]
  unfold goC
  constructor
  · rw [Int.add_comm, Int.add_mul_ediv_right _ _ (by omega), Int.ediv_eq_zero_of_lt c1.1 (by omega)]; omega
  · rw [Int.add_comm, Int.add_mul_emod_self_right, Int.emod_eq_of_lt c1.1 (by omega)]
/-- A step seen from its other end. -/
theorem opp_step {g : Grid} {c k d : Nat} (hg : gridB g = true) (hc : c < g.heights.length) (hk : k < 8) (hin : inC g c k = true) (hd : goC g c k = d) : inC g d (opp k) = true ∧ goC g d (opp k) = c ∧ slC g d (opp k) = -slC g c k := by
  obtain ⟨e1, e2⟩ := go_row hg hin hd
  obtain ⟨r1, r2, r3, r4, r5⟩ := row_col hg hc
  obtain ⟨_, _, hs, _, _⟩ := gridB_parts hg
  have hr : rowC g d (opp k) = (c : Int).tdiv g.columns := by
    unfold rowC
    rw [e1, opp_dr hk]; unfold rowC; omega
  have hcc : colC g d (opp k) = (c : Int).tmod g.columns := by
    unfold colC
    rw [e2, opp_dc hk]; unfold colC; omega
  have hgo : goC g d (opp k) = c := by unfold goC; rw [hr, hcc]; exact r5
  refine ⟨?_, hgo, ?_⟩
  · unfold inC
    rw [hr, hcc, Bool.and_eq_true]
    exact ⟨inB_iff.2 ⟨r1, r2⟩, inB_iff.2 ⟨r3, r4⟩⟩
  · unfold slC
    rw [hgo, hd, opp_mod hk]
    by_cases h2 : k % 2 = 0
    · rw [if_pos h2, if_pos h2, ← rndDiv_neg hs.1]; congr 1; omega
    · rw [if_neg h2, if_neg h2, ← rndDiv_neg (by omega)]; congr 1; omega
/-- What a step from a cell is. -/
structure StepOf (g : Grid) (c : Nat) (x : Stp) (d : Nat) : Prop where
  cell : x.cell = d
  lt : d < g.heights.length
  dir : 0 ≤ x.dir ∧ x.dir ≤ 7
  back : ∃ y ∈ nextT g d 8, y.cell = c ∧ y.slope = -x.slope
  low : ht g d < ht g c → 1 ≤ x.slope
  eq_ : ht g d = ht g c → x.slope = 0
  high : ht g c < ht g d → x.slope ≤ -1
theorem stepOf {g : Grid} {c : Nat} {x : Stp} (hg : gridB g = true) (hc : c < g.heights.length) (hx : x ∈ nextT g c 8) : ∃ d, StepOf g c x d := by
  unfold nextT at hx
  obtain ⟨k, hk, rfl⟩ := List.mem_map.1 hx
  rw [List.mem_filter, List.mem_range] at hk
  obtain ⟨d, hd, hdl, _⟩ := goC_in hg hk.2
  obtain ⟨o1, o2, o3⟩ := opp_step hg hc hk.1 hk.2 hd
  obtain ⟨_, _, hs, _, _⟩ := gridB_parts hg
  have h2 : k % 2 = 0 ∨ k % 2 ≠ 0 := by omega
  refine ⟨d, hd, hdl, ⟨by simp only; omega, by simp only; omega⟩, ⟨⟨goC g d (opp k), opp k, slC g d (opp k)⟩, ?_, o2, o3⟩, fun h => ?_, fun h => ?_, fun h => ?_⟩
  · unfold nextT
    exact List.mem_map.2 ⟨opp k, List.mem_filter.2 ⟨List.mem_range.2 (opp_lt hk.1), o1⟩, rfl⟩
  · show 1 ≤ slC g c k
    unfold slC
    rw [hd]
    rcases h2 with h2 | h2
    · rw [if_pos h2]; exact rndDiv_pos hs.1 (by omega)
    · rw [if_neg h2]; exact rndDiv_pos (by omega) (by omega)
  · show slC g c k = 0
    unfold slC
    rw [hd, h, Int.sub_self]
    rcases h2 with h2 | h2
    · rw [if_pos h2]; exact rndDiv_zero hs.1
    · rw [if_neg h2]; exact rndDiv_zero (by omega)
  · show slC g c k ≤ -1
    unfold slC
    rw [hd]
    rcases h2 with h2 | h2
    · rw [if_pos h2]
      have h3 := rndDiv_pos (a := 1000 * (ht g d - ht g c)) (b := g.size) hs.1 (by omega)
      have h4 := rndDiv_neg (a := 1000 * (ht g d - ht g c)) (b := g.size) hs.1
      rw [show 1000 * (ht g c - ht g (d : Int)) = -(1000 * (ht g d - ht g c)) by omega, h4]; omega
    · rw [if_neg h2]
      have h3 := rndDiv_pos (a := 1000000 * (ht g d - ht g c)) (b := 1414 * g.size) (by omega) (by omega)
      have h4 := rndDiv_neg (a := 1000000 * (ht g d - ht g c)) (b := 1414 * g.size) (by omega)
      rw [show 1000000 * (ht g c - ht g (d : Int)) = -(1000000 * (ht g d - ht g c)) by omega, h4]; omega
theorem cells_nodup (g : Grid) (c : Nat) : ((nextT g c 8).map Stp.cell).Pairwise (· ≠ ·) := by
  unfold nextT
  rw [List.map_map, List.pairwise_map]
  refine List.Pairwise.imp_of_mem (R := fun a b : Nat => a < b) (fun {a b} ha hb h => ?_) (List.Pairwise.filter _ List.pairwise_lt_range)
  rw [List.mem_filter, List.mem_range] at ha hb
  intro e
  have := goC_inj ha.2 hb.2 ha.1 hb.1 e
  omega
theorem pw_inj {α β : Type} {f : α → β} : ∀ {l : List α}, (l.map f).Pairwise (· ≠ ·) → ∀ {x y : α}, x ∈ l → y ∈ l → f x = f y → x = y
  | [], _, _, _, hx, _, _ => absurd hx (by simp)
  | a :: l, h, x, y, hx, hy, e => by
    rw [List.map_cons, List.pairwise_cons] at h
    rcases List.mem_cons.1 hx with h1 | h1
    · rcases List.mem_cons.1 hy with h2 | h2
      · rw [h1, h2]
      · rw [h1] at e; exact absurd e (h.1 _ (List.mem_map.2 ⟨y, h2, rfl⟩))
    · rcases List.mem_cons.1 hy with h2 | h2
      · rw [h2] at e; exact absurd e.symm (h.1 _ (List.mem_map.2 ⟨x, h1, rfl⟩))
      · exact pw_inj h.2 h1 h2 e
def toF (y : Int) (x : Stp) : Bool := decide (x.cell = y)
theorem find_to {g : Grid} {c : Nat} {x : Stp} (hx : x ∈ nextT g c 8) : (nextT g c 8).find? (toF x.cell) = some x := by
  obtain ⟨z, hz⟩ : ∃ z, (nextT g c 8).find? (toF x.cell) = some z := by
    cases h : (nextT g c 8).find? (toF x.cell) with
    | some z => exact ⟨z, rfl⟩
    | none =>
      have := List.find?_eq_none.1 h x hx
      exact absurd (by simp [toF]) this
  have hm := List.mem_of_find?_eq_some hz
  have hp : toF x.cell z = true := by have := List.find?_some hz; exact this
  rw [hz, pw_inj (cells_nodup g c) hm hx (of_decide_eq_true hp)]
/-! ### The steepest step -/
def stepF (g : Grid) (c : Nat) (a : Stp × Bool) (x : Stp) : Stp × Bool := if ht g x.cell < ht g c ∧ (a.2 = false ∨ a.1.slope < x.slope) then (x, true) else a
def steepL (g : Grid) (c : Nat) (l : List Stp) : Stp × Bool := l.foldl (stepF g c) (⟨0, 0, 0⟩, false)
def steepT (g : Grid) (c : Nat) : Stp × Bool := steepL g c (nextT g c 8)
theorem steepL_snoc (g : Grid) (c : Nat) (l : List Stp) (x : Stp) : steepL g c (l ++ [x]) = stepF g c (steepL g c l) x := by unfold steepL; rw [List.foldl_append]; rfl
theorem steep_fold (g : Grid) (c : Nat) : ∀ (l : List Stp) (a : Stp × Bool) (P : List Stp), (a.2 = false ∧ (∀ x ∈ P, ¬ ht g x.cell < ht g c) ∨ a.2 = true ∧ a.1 ∈ P ∧ ht g a.1.cell < ht g c ∧ ∀ x ∈ P, ht g x.cell < ht g c → x.slope ≤ a.1.slope) →
    ((l.foldl (stepF g c) a).2 = false ∧ (∀ x ∈ P ++ l, ¬ ht g x.cell < ht g c) ∨ (l.foldl (stepF g c) a).2 = true ∧ (l.foldl (stepF g c) a).1 ∈ P ++ l ∧ ht g (l.foldl (stepF g c) a).1.cell < ht g c ∧ ∀ x ∈ P ++ l, ht g x.cell < ht g c → x.slope ≤ (l.foldl (stepF g c) a).1.slope)
  | [], a, P, h => by rw [List.append_nil]; exact h
  | y :: l, a, P, h => by
    rw [List.foldl_cons, show P ++ y :: l = (P ++ [y]) ++ l by simp]
    refine steep_fold g c l _ (P ++ [y]) ?_
    unfold stepF
    by_cases hy : ht g y.cell < ht g c
    · by_cases h2 : a.2 = false ∨ a.1.slope < y.slope
      · rw [if_pos ⟨hy, h2⟩]
        refine .inr ⟨rfl, by simp, hy, fun x hx hxl => ?_⟩
        rcases List.mem_append.1 hx with hx | hx
        · rcases h with ⟨_, h4⟩ | ⟨h3, _, _, h6⟩
          · exact absurd hxl (h4 x hx)
          · have := h6 x hx hxl
            rcases h2 with h2 | h2
            · rw [h3] at h2; cases h2
            · simp only; omega
        · rw [List.mem_singleton.1 hx]; exact Int.le_refl _
      · rw [if_neg (fun h => h2 h.2)]
        rcases h with ⟨h3, _⟩ | ⟨h3, h4, h5, h6⟩
        · exact absurd (.inl h3) h2
        · refine .inr ⟨h3, by simp [h4], h5, fun x hx hxl => ?_⟩
          rcases List.mem_append.1 hx with hx | hx
          · exact h6 x hx hxl
          · rw [List.mem_singleton.1 hx]
            rcases Int.lt_or_le a.1.slope y.slope with h7 | h7
            · exact absurd (.inr h7) h2
            · exact h7
    · rw [if_neg (fun h => hy h.1)]
      rcases h with ⟨h3, h4⟩ | ⟨h3, h4, h5, h6⟩
      · refine .inl ⟨h3, fun x hx => ?_⟩
        rcases List.mem_append.1 hx with hx | hx
        · exact h4 x hx
        · rw [List.mem_singleton.1 hx]; exact hy
      · refine .inr ⟨h3, by simp [h4], h5, fun x hx hxl => ?_⟩
        rcases List.mem_append.1 hx with hx | hx
        · exact h6 x hx hxl
        · rw [List.mem_singleton.1 hx] at hxl; exact absurd hxl hy
theorem steep_spec (g : Grid) (c : Nat) : ((steepT g c).2 = false ∧ ∀ x ∈ nextT g c 8, ¬ ht g x.cell < ht g c) ∨ ((steepT g c).2 = true ∧ (steepT g c).1 ∈ nextT g c 8 ∧ ht g (steepT g c).1.cell < ht g c ∧ ∀ x ∈ nextT g c 8, ht g x.cell < ht g c → x.slope ≤ (steepT g c).1.slope) := by
  have h := steep_fold g c (nextT g c 8) (⟨0, 0, 0⟩, false) [] (.inl ⟨rfl, by simp⟩)
  rw [List.nil_append] at h
  exact h
/-! ### Pits and peaks -/
def lowB (g : Grid) (c : Nat) (x : Stp) : Bool := decide (ht g x.cell < ht g c)
def upB (g : Grid) (c : Nat) (x : Stp) : Bool := decide (ht g c < ht g x.cell)
def whereT (p : Nat → Bool) (n : Nat) : List Int := ((List.range n).filter p).map fun c : Nat => (c : Int)
theorem whereT_yes {p : Nat → Bool} {k : Nat} (h : p k = true) : whereT p (k + 1) = whereT p k ++ [(k : Int)] := by
  unfold whereT; rw [List.range_succ, List.filter_append, List.map_append]; simp [h]
theorem whereT_no {p : Nat → Bool} {k : Nat} (h : p k = false) : whereT p (k + 1) = whereT p k := by
  unfold whereT; rw [List.range_succ, List.filter_append, List.map_append]; simp [h]
theorem whereT_len (p : Nat → Bool) (k : Nat) : (whereT p k).length ≤ k := by
  unfold whereT; rw [List.length_map]; exact Nat.le_trans (List.length_filter_le _ _) (by simp)
theorem where_has {p : Nat → Bool} {n k : Nat} (hk : k < n) : hasQ (whereT p n) k = p k := by
  rw [Bool.eq_iff_iff, hasQ_iff]
  unfold whereT
  rw [List.mem_map]
  constructor
  · rintro ⟨c, hc, he⟩
    have e : c = k := by omega
    subst e
    exact (List.mem_filter.1 hc).2
  · intro h
    exact ⟨k, List.mem_filter.2 ⟨List.mem_range.2 hk, h⟩, rfl⟩
def pitB (g : Grid) (c : Nat) : Bool := !(nextT g c 8).any (lowB g c)
def peakB (g : Grid) (c : Nat) : Bool := !(nextT g c 8).any (upB g c)
theorem pit_steep (g : Grid) (c : Nat) : pitB g c = !(steepT g c).2 := by
  unfold pitB
  congr 1
  rcases steep_spec g c with ⟨h1, h2⟩ | ⟨h1, h2, h3, _⟩
  · rw [h1, List.any_eq_false]
    intro x hx
    unfold lowB
    simp [h2 x hx]
  · rw [h1, List.any_eq_true]
    exact ⟨_, h2, decide_eq_true h3⟩
theorem exists_least (f : Nat → Int) : ∀ n, ∃ c, c < n + 1 ∧ ∀ d, d < n + 1 → f c ≤ f d
  | 0 => ⟨0, by omega, fun d hd => by have : d = 0 := by omega
                                      subst this; exact Int.le_refl _⟩
  | n + 1 => by
    obtain ⟨c, hc, h⟩ := exists_least f n
    by_cases hn : f (n + 1) < f c
    · refine ⟨n + 1, by omega, fun d hd => ?_⟩
      by_cases e : d = n + 1
      · subst e; exact Int.le_refl _
      · have := h d (by omega); omega
    · refine ⟨c, by omega, fun d hd => ?_⟩
      by_cases e : d = n + 1
      · subst e; omega
      · exact h d (by omega)
theorem pits_some {g : Grid} (hg : gridB g = true) : 0 < (whereT (pitB g) g.heights.length).length := by
  obtain ⟨h1, h2, _, h4, _⟩ := gridB_parts hg
  have hm := (mul_i64 h1 h2).2
  obtain ⟨n, hn⟩ : ∃ n, g.heights.length = n + 1 := ⟨g.heights.length - 1, by omega⟩
  obtain ⟨c, hc, h⟩ := exists_least (fun i => ht g (i : Int)) n
  have hp : pitB g c = true := by
    unfold pitB
    rw [Bool.not_eq_true', List.any_eq_false]
    intro x hx
    obtain ⟨d, hd⟩ := stepOf hg (by omega) hx
    have := h d (by have := hd.lt; omega)
    unfold lowB
    rw [hd.cell]
    simp only [decide_eq_true_eq]
    omega
  have hq := where_has (p := pitB g) (n := g.heights.length) (k := c) (by omega)
  rw [hp, hasQ_iff] at hq
  exact List.length_pos_of_mem hq
theorem peaks_some {g : Grid} (hg : gridB g = true) : 0 < (whereT (peakB g) g.heights.length).length := by
  obtain ⟨h1, h2, _, h4, _⟩ := gridB_parts hg
  have hm := (mul_i64 h1 h2).2
  obtain ⟨n, hn⟩ : ∃ n, g.heights.length = n + 1 := ⟨g.heights.length - 1, by omega⟩
  obtain ⟨c, hc, h⟩ := exists_least (fun i => -ht g (i : Int)) n
  have hp : peakB g c = true := by
    unfold peakB
    rw [Bool.not_eq_true', List.any_eq_false]
    intro x hx
    obtain ⟨d, hd⟩ := stepOf hg (by omega) hx
    have := h d (by have := hd.lt; omega)
    unfold upB
    rw [hd.cell]
    simp only [decide_eq_true_eq]
    omega
  have hq := where_has (p := peakB g) (n := g.heights.length) (k := c) (by omega)
  rw [hp, hasQ_iff] at hq
  exact List.length_pos_of_mem hq
/-! ### The curvatures add up to nothing -/
def sumR (n : Nat) (f : Nat → Int) : Int := ((List.range n).map f).sum
theorem sumR_succ (n : Nat) (f : Nat → Int) : sumR (n + 1) f = sumR n f + f n := by unfold sumR; rw [List.range_succ, List.map_append, List.sum_append]; simp
theorem sumR_congr {f h : Nat → Int} : ∀ {n : Nat}, (∀ i, i < n → f i = h i) → sumR n f = sumR n h
  | 0, _ => rfl
  | n + 1, e => by rw [sumR_succ, sumR_succ, sumR_congr (fun i hi => e i (by omega)), e n (by omega)]
theorem sumR_add (f h : Nat → Int) : ∀ n, sumR n (fun i => f i + h i) = sumR n f + sumR n h
  | 0 => rfl
  | n + 1 => by rw [sumR_succ, sumR_succ, sumR_succ, sumR_add f h n]; omega
theorem sumR_neg (f : Nat → Int) : ∀ n, sumR n (fun i => -f i) = -sumR n f
  | 0 => rfl
  | n + 1 => by rw [sumR_succ, sumR_succ, sumR_neg f n]; omega
theorem sumR_zero : ∀ n, sumR n (fun _ => 0) = 0
  | 0 => rfl
  | n + 1 => by rw [sumR_succ, sumR_zero n]; rfl
theorem sumR_swap (f : Nat → Nat → Int) (m : Nat) : ∀ n, sumR n (fun i => sumR m (f i)) = sumR m (fun j => sumR n (fun i => f i j))
  | 0 => (sumR_zero m).symm
  | n + 1 => by
    rw [sumR_succ, sumR_swap f m n, ← sumR_add]
    exact sumR_congr (fun j _ => (sumR_succ n fun i => f i j).symm)
theorem sumR_one {n a : Nat} {v : Int} (ha : a < n) : sumR n (fun d => if d = a then v else 0) = v := by
  induction n with
  | zero => omega
  | succ n ih =>
    rw [sumR_succ]
    by_cases e : a = n
    · subst e
      rw [if_pos rfl, sumR_congr (h := fun _ => 0) (fun i hi => if_neg (by omega)), sumR_zero]; omega
    · rw [if_neg (fun h => e h.symm), ih (by omega)]; omega
theorem sum_ind {n : Nat} {f : Int → Int} : ∀ (l : List Int), l.Pairwise (· ≠ ·) → (∀ y ∈ l, ∃ d : Nat, y = d ∧ d < n) → (l.map f).sum = sumR n (fun d => if (d : Int) ∈ l then f d else 0)
  | [], _, _ => by simp [sumR_zero]
  | y :: l, hp, hl => by
    rw [List.pairwise_cons] at hp
    obtain ⟨a, rfl, ha⟩ := hl y (by simp)
    rw [List.map_cons, List.sum_cons, sum_ind l hp.2 (fun z hz => hl z (by simp [hz])), ← sumR_one (v := f a) ha, ← sumR_add]
    refine sumR_congr (fun d _ => ?_)
    by_cases e : d = a
    · subst e
      have hn : (d : Int) ∉ l := fun hm => hp.1 _ hm rfl
      simp [hn]
    · have e2 : ¬ (d : Int) = (a : Int) := by omega
      simp [e, e2]
def bendT (g : Grid) (c : Nat) : Int := ((nextT g c 8).map fun x => ht g x.cell - ht g c).sum
def nearB (g : Grid) (c d : Nat) : Prop := (d : Int) ∈ (nextT g c 8).map Stp.cell
theorem near_sym {g : Grid} {c d : Nat} (hg : gridB g = true) (hc : c < g.heights.length) (h : (d : Int) ∈ (nextT g c 8).map Stp.cell) : (c : Int) ∈ (nextT g d 8).map Stp.cell := by
  obtain ⟨x, hx, he⟩ := List.mem_map.1 h
  obtain ⟨e, hs⟩ := stepOf hg hc hx
  have : e = d := by have := hs.cell; omega
  subst this
  obtain ⟨y, hy, hyc, _⟩ := hs.back
  exact List.mem_map.2 ⟨y, hy, hyc⟩
theorem bend_sum {g : Grid} {c : Nat} (hg : gridB g = true) (hc : c < g.heights.length) : bendT g c = sumR g.heights.length (fun d => if (d : Int) ∈ (nextT g c 8).map Stp.cell then ht g d - ht g c else 0) := by
  have h := sum_ind (n := g.heights.length) (f := fun y => ht g y - ht g c) ((nextT g c 8).map Stp.cell) (cells_nodup g c) (fun y hy => by
    obtain ⟨x, hx, rfl⟩ := List.mem_map.1 hy
    obtain ⟨d, hs⟩ := stepOf hg hc hx
    exact ⟨d, hs.cell, hs.lt⟩)
  rw [List.map_map] at h
  exact h
theorem bend_zero {g : Grid} (hg : gridB g = true) : sumR g.heights.length (bendT g) = 0 := by
  have h1 : sumR g.heights.length (bendT g) = sumR g.heights.length (fun c => sumR g.heights.length (fun d => if (d : Int) ∈ (nextT g c 8).map Stp.cell then ht g d - ht g c else 0)) := sumR_congr (fun c hc => bend_sum hg hc)
  have h2 : sumR g.heights.length (bendT g) = -sumR g.heights.length (bendT g) := by
    rw [← sumR_neg]
    rw [h1, sumR_swap]
    refine sumR_congr (fun d hd => ?_)
    rw [bend_sum hg hd, ← sumR_neg]
    refine sumR_congr (fun c hc => ?_)
    by_cases hm : (d : Int) ∈ (nextT g c 8).map Stp.cell
    · rw [if_pos hm, if_pos (near_sym hg hc hm)]; omega
    · rw [if_neg hm, if_neg (fun h => hm (near_sym hg hd h))]; rfl
  omega
theorem bend_le {g : Grid} {c : Nat} (hg : gridB g = true) (hc : c < g.heights.length) (j : Nat) : -5000 * (j : Int) ≤ (((nextT g c 8).take j).map fun x => ht g x.cell - ht g c).sum ∧ (((nextT g c 8).take j).map fun x => ht g x.cell - ht g c).sum ≤ 5000 * (j : Int) := by
  have hh : ∀ d : Nat, d < g.heights.length → 0 ≤ ht g d ∧ ht g d ≤ 5000 := fun d hd => by
    have := (gridB_parts hg).2.2.2.2 _ (List.getElem_mem hd)
    unfold ht
    rw [Int.toNat_natCast, List.getD_eq_getElem?_getD, List.getElem?_eq_getElem hd]; exact this
  induction j with
  | zero => simp
  | succ j ih =>
    rcases Nat.lt_or_ge j (nextT g c 8).length with hj | hj
    · rw [List.take_succ_eq_append_getElem hj, List.map_append, List.sum_append]
      obtain ⟨d, hs⟩ := stepOf hg hc (List.getElem_mem hj)
      have e : ((nextT g c 8)[j]).cell = d := hs.cell
      have a1 := hh d hs.lt
      have a2 := hh c hc
      simp only [List.map_cons, List.map_nil, List.sum_cons, List.sum_nil, e]
      omega
    · rw [List.take_of_length_le (by omega)]
      rw [List.take_of_length_le (by omega)] at ih
      omega
/-! ### A way down -/
/-- A way of steepest descent from a cell. -/
structure WayTo (g : Grid) (c d : Nat) (ys : List Int) : Prop where
  head : ys[0]? = some (c : Int)
  last : ys.getLast? = some (d : Int)
  lt : d < g.heights.length
  len : (ys.length : Int) + ht g d ≤ 5001
  in_ : ∀ y ∈ ys, ∃ e : Nat, y = e ∧ e < g.heights.length
  down : ∀ (k : Nat) (a b : Int), ys[k]? = some a → ys[k + 1]? = some b → ht g b < ht g a
theorem ht_bd {g : Grid} (hg : gridB g = true) {d : Nat} (hd : d < g.heights.length) : 0 ≤ ht g d ∧ ht g d ≤ 5000 := by
  have := (gridB_parts hg).2.2.2.2 _ (List.getElem_mem hd)
  unfold ht
  rw [Int.toNat_natCast, List.getD_eq_getElem?_getD, List.getElem?_eq_getElem hd]; exact this
theorem WayTo.start {g : Grid} {c : Nat} (hg : gridB g = true) (hc : c < g.heights.length) : WayTo g c c [(c : Int)] :=
  ⟨rfl, rfl, hc, by have := ht_bd hg hc; simp; omega, fun y hy => ⟨c, by simpa using hy, hc⟩, fun k a b _ hb => by simp at hb⟩
theorem WayTo.next {g : Grid} {c d e : Nat} {ys : List Int} (h : WayTo g c d ys) (he : e < g.heights.length) (hl : ht g e < ht g d) : WayTo g c e (ys ++ [(e : Int)]) := by
  have hne : 0 < ys.length := (List.getElem?_eq_some_iff.1 h.head).1
  refine ⟨by rw [List.getElem?_append_left hne]; exact h.head, by simp, he, by have := h.len; simp; omega, fun y hy => ?_, fun k a b ha hb => ?_⟩
  · rcases List.mem_append.1 hy with hy | hy
    · exact h.in_ y hy
    · exact ⟨e, by simpa using hy, he⟩
  · have hk := (List.getElem?_eq_some_iff.1 hb).1
    simp at hk
    rw [List.getElem?_append_left (by omega)] at ha
    by_cases hk2 : k + 1 < ys.length
    · rw [List.getElem?_append_left hk2] at hb
      exact h.down k a b ha hb
    · have hk3 : k + 1 = ys.length := by omega
      rw [hk3, List.getElem?_append_right (Nat.le_refl _), Nat.sub_self] at hb
      injection hb with hb
      have hl2 := h.last
      rw [List.getLast?_eq_getElem?, show ys.length - 1 = k by omega, ha] at hl2
      injection hl2 with hl2
      rw [← hb, hl2]; exact hl

end Go.Proofs.YtmldijckjenbcaaGreatDoor
