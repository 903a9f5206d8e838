/- The plain law of FnTerrain, in the words of its walk. -/
import Derived.Test.YtmldijckjenbcaaGreatDoorTerrP
import Derived.Test.YtmldijckjenbcaaGreatDoorNear
import Derived.Test.YtmldijckjenbcaaGreatDoorTerr
import Derived.Test.YtmldijckjenbcaaGreatDoorRunCode
import Derived.Test.YtmldijckjenbcaaGreatDoorRndB
namespace Go.Proofs.YtmldijckjenbcaaGreatDoor
open Go.RowKit

theorem near_zero {g : Grid} {c : Nat} (hg : gridB g = true) (hc : c < g.heights.length) : nearC g (c : Int) = 0 := by
  rw [← nearC_cell]
  unfold cellC
  rw [if_neg (by rw [hg]; simp), if_neg (by simp [inB]; omega)]
theorem near_mem {g : Grid} {c : Nat} (hg : gridB g = true) (hc : c < g.heights.length) {y : Int} : y ∈ nearA g (c : Int) ↔ y ∈ (nextT g c 8).map Stp.cell := by
  rw [nearA_zero (near_zero hg hc), Int.toNat_natCast]
  exact (List.mergeSort_perm _ _).mem_iff
theorem rndDiv_bd {a b m : Int} (hb : 1 ≤ b) (h1 : -m ≤ a) (h2 : a ≤ m) : -(m + 1) ≤ rndDiv a b ∧ rndDiv a b ≤ m + 1 := by
  rcases Int.lt_or_le a 0 with h | h
  · have h3 := rndDiv_le (a := -a) (b := b) (by omega) hb
    rw [rndDiv_neg hb] at h3
    omega
  · have h3 := rndDiv_le h hb
    omega
theorem slope_bd {g : Grid} {c : Nat} {x : Stp} (hg : gridB g = true) (hc : c < g.heights.length) (hx : x ∈ nextT g c 8) : -6000000000 ≤ x.slope ∧ x.slope ≤ 6000000000 := by
  unfold nextT at hx
  obtain ⟨k, hk, rfl⟩ := List.mem_map.1 hx
  rw [List.mem_filter, List.mem_range] at hk
  obtain ⟨d, hd, hdl, _⟩ := goC_in hg hk.2
  obtain ⟨_, _, hs, _, _⟩ := gridB_parts hg
  have b1 := ht_bd hg hc
  have b2 := ht_bd hg hdl
  show -6000000000 ≤ slC g c k ∧ slC g c k ≤ 6000000000
  unfold slC
  rw [hd]
  split
  · have := rndDiv_bd (a := 1000 * (ht g c - ht g d)) (b := g.size) (m := 5000000) hs.1 (by omega) (by omega)
    omega
  · have := rndDiv_bd (a := 1000000 * (ht g c - ht g d)) (b := 1414 * g.size) (m := 5000000000) (by omega) (by omega) (by omega)
    omega
/-- What the law asks of a cell e next to a cell c. -/
structure NearAt (g : Grid) (c e : Nat) (x z : Stp) (sl : Int) : Prop where
  lt : e < g.heights.length
  mem : x ∈ nextT g c 8
  cell : x.cell = e
  slope : x.slope = sl
  there : (nextT g c 8).find? (toF e) = some x
  back : (nextT g e 8).find? (toF c) = some z
  neg : z.slope = -sl
  top : decide (0 ≤ sl) = decide (ht g e ≤ ht g c)
  low : ht g e < ht g c → 1 ≤ sl
  high : ¬ ht g e < ht g c → sl ≤ 0
  bd : -6000000000 ≤ sl ∧ sl ≤ 6000000000
theorem near_at {g : Grid} {c : Nat} (hg : gridB g = true) (hc : c < g.heights.length) {y : Int} (hy : y ∈ nearA g (c : Int)) : ∃ (e : Nat) (x z : Stp) (sl : Int), y = e ∧ NearAt g c e x z sl := by
  rw [near_mem hg hc] at hy
  obtain ⟨x, hx, rfl⟩ := List.mem_map.1 hy
  obtain ⟨e, he⟩ := stepOf hg hc hx
  obtain ⟨z, hz, hzc, hzs⟩ := he.back
  have f1 := find_to hx
  have f2 := find_to hz
  rw [he.cell] at f1
  rw [hzc] at f2
  refine ⟨e, x, z, x.slope, he.cell, he.lt, hx, he.cell, rfl, f1, f2, hzs, ?_, he.low, fun h => ?_, slope_bd hg hc hx⟩
  · rcases Int.lt_trichotomy (ht g e) (ht g c) with h | h | h
    · have := he.low h
      rw [decide_eq_true (by omega), decide_eq_true (by omega)]
    · have := he.eq_ h
      rw [decide_eq_true (by omega), decide_eq_true (by omega)]
    · have := he.high h
      rw [decide_eq_false (by omega), decide_eq_false (by omega)]
  · rcases Int.lt_trichotomy (ht g e) (ht g c) with h' | h' | h'
    · exact absurd h' h
    · have := he.eq_ h'; omega
    · have := he.high h'; omega
theorem near_flat {g : Grid} {c e : Nat} {x z s : Stp} {sl : Int} (h : NearAt g c e x z sl) (hs : steepT g c = (s, false)) : sl ≤ 0 := by
  have hsp := steep_spec g c
  rw [hs] at hsp
  rcases hsp with ⟨_, h2⟩ | ⟨h1, _⟩
  · exact h.high (by have := h2 x h.mem; rw [h.cell] at this; exact this)
  · cases h1
theorem steep_in {g : Grid} {c : Nat} {s : Stp} (hg : gridB g = true) (hc : c < g.heights.length) (hs : steepT g c = (s, true)) : ∃ e k : Nat, s.cell = e ∧ e < g.heights.length ∧ s.dir = k ∧ k < 8 ∧ hasQ (nearA g (c : Int)) e = true ∧ 1 ≤ s.slope ∧ s.slope ≤ 6000000000 := by
  have hsp := steep_spec g c
  rw [hs] at hsp
  rcases hsp with ⟨h1, _⟩ | ⟨_, h2, h3, _⟩
  · cases h1
  · simp only at h2 h3
    obtain ⟨e, he⟩ := stepOf hg hc h2
    have hd := he.dir
    refine ⟨e, s.dir.toNat, he.cell, he.lt, by omega, by omega, ?_, he.low (by rw [← he.cell]; exact h3), (slope_bd hg hc h2).2⟩
    rw [hasQ_iff, near_mem hg hc, ← he.cell]
    exact List.mem_map.2 ⟨s, h2, rfl⟩
theorem near_steep {g : Grid} {c e : Nat} {x z s : Stp} {sl : Int} (hg : gridB g = true) (hc : c < g.heights.length) (h : NearAt g c e x z sl) (hs : steepT g c = (s, true)) : sl ≤ s.slope ∧ (s.cell = (e : Int) → sl = s.slope) := by
  obtain ⟨_, _, _, _, _, _, _, h6, _⟩ := steep_in hg hc hs
  have hsp := steep_spec g c
  rw [hs] at hsp
  rcases hsp with ⟨h1, _⟩ | ⟨_, h2, h3, h4⟩
  · cases h1
  · simp only at h2 h3 h4
    refine ⟨?_, fun he => ?_⟩
    · by_cases hl : ht g e < ht g c
      · have := h4 x h.mem (by rw [h.cell]; exact hl)
        rw [h.slope] at this; exact this
      · have h5 := h.high hl
        omega
    · have := pw_inj (cells_nodup g c) h.mem h2 (by rw [h.cell, he])
      rw [← h.slope, this]
def topL (g : Grid) (c : Nat) (ys : List Int) : Bool := ys.all fun y => decide (ht g y ≤ ht g c)
theorem topL_snoc (g : Grid) (c : Nat) (ys : List Int) (y : Int) : topL g c (ys ++ [y]) = (topL g c ys && decide (ht g y ≤ ht g c)) := by unfold topL; rw [List.all_append]; simp
theorem top_peak {g : Grid} {c : Nat} (hg : gridB g = true) (hc : c < g.heights.length) : topL g c (nearA g (c : Int)) = peakB g c := by
  unfold topL peakB
  rw [Bool.eq_iff_iff, Bool.not_eq_true', List.all_eq_true, List.any_eq_false]
  constructor
  · intro h x hx
    have := h x.cell ((near_mem hg hc).2 (List.mem_map.2 ⟨x, hx, rfl⟩))
    unfold upB
    simp only [decide_eq_true_eq] at this ⊢
    omega
  · intro h y hy
    obtain ⟨x, hx, rfl⟩ := List.mem_map.1 ((near_mem hg hc).1 hy)
    have := h x hx
    unfold upB at this
    simp only [decide_eq_true_eq] at this ⊢
    omega
theorem bend_bd {g : Grid} {c : Nat} (hg : gridB g = true) (hc : c < g.heights.length) : -40000 ≤ bendT g c ∧ bendT g c ≤ 40000 := by
  have h := bend_le hg hc (nextT g c 8).length
  have hl := nextT_len g c 8
  rw [List.take_length] at h
  unfold bendT
  omega

end Go.Proofs.YtmldijckjenbcaaGreatDoor
