/- The plain law of FnRunout, in the words of its walk. -/
import Derived.Test.YthlgfmdlecdchaaRunoutP
import Derived.Test.YthlgfmdlecdchaaRunH
import Derived.Test.YthlgfmdlecdchaaR8
namespace Go.Proofs.Ythlgfmdlecdchaa
open Go.RowKit

theorem hasQ_reach {ts : List Int} {n c : Nat} (hc : c < n) : hasQ (reachT ts n) c = decide (0 ≤ ts.getD c 0) := by
  rw [← reach_has hc]
  unfold hasQ hasB
  congr 1
  funext z
  rw [Bool.eq_iff_iff]
  simp only [decide_eq_true_eq]
  exact ⟨fun h => h.symm, fun h => h.symm⟩
/-- What a law of the routing draws may be run at any friction. -/
structure DrawnM (g : Grid) (ms : List Int) : Prop where
  grid : gridB g = true
  len : ms.length = g.heights.length
  bd : ∀ m ∈ ms, 0 ≤ m ∧ m ≤ 2000
theorem DrawnM.run {g : Grid} {ms : List Int} (h : DrawnM g ms) {fr : Int} (h1 : 1 ≤ fr) (h2 : fr ≤ 5000) : runC g ms fr = 0 ∧ RunOk g ms fr := by
  have hm : massB g ms = true := by
    unfold massB
    rw [Bool.and_eq_true, decide_eq_true_eq, List.all_eq_true]
    exact ⟨h.len, fun y hy => inB_iff.2 ⟨(h.bd y hy).1, by have := (h.bd y hy).2; omega⟩⟩
  have hc : runC g ms fr = 0 := by
    unfold runC
    rw [if_neg (by rw [h.grid]; simp), if_neg (by rw [inB_iff.2 ⟨h1, h2⟩]; simp), if_neg (by rw [hm]; simp)]
  exact ⟨hc, runC_zero hc⟩
theorem DrawnM.cell {g : Grid} {ms : List Int} (h : DrawnM g ms) {fr : Int} (h1 : 1 ≤ fr) (h2 : fr ≤ 5000) {c : Nat} (hc : c < ms.length) : runCx g ms fr [(c : Int)] = 0 := by
  have hm : massB g ms = true := by
    unfold massB
    rw [Bool.and_eq_true, decide_eq_true_eq, List.all_eq_true]
    exact ⟨h.len, fun y hy => inB_iff.2 ⟨(h.bd y hy).1, by have := (h.bd y hy).2; omega⟩⟩
  unfold runCx
  rw [if_neg (by rw [h.grid]; simp), if_neg, if_neg (by rw [hm]; simp)]
  have h3 : inB (c : Int) 0 ((g.heights.length : Int) - 1) = true := inB_iff.2 ⟨by omega, by have := h.len; omega⟩
  rw [inB_iff.2 ⟨h1, h2⟩]
  simp [h3]
/-- Each cell's arrival. -/
theorem arrive {g : Grid} {ms : List Int} {fr : Int} (h : DrawnM g ms) (h1 : 1 ≤ fr) (h2 : fr ≤ 5000) {k : Nat} {m : Int} (hm : ms[k]? = some m) :
    ∃ t : Int, arivA g ms fr k = t ∧ ((arivK g ms fr k = 0 ∧ hasQ (reachL g ms fr) k = true ∧ ((t = 0 ∧ 0 < m) ∨ (1 ≤ t ∧ m ≤ 0))) ∨ (arivK g ms fr k = 3 ∧ hasQ (reachL g ms fr) k = false)) := by
  have hk := (List.getElem?_eq_some_iff.1 hm).1
  have hc := h.cell h1 h2 hk
  have hr := (h.run h1 h2).2
  obtain ⟨ts, hts⟩ : ∃ ts, (stT g fr ms (runN g fr ms)).times = ts := ⟨_, rfl⟩
  have hl : ts.length = ms.length := by rw [← hts]; exact times_len hr _
  obtain ⟨t, ht⟩ : ∃ t, ts[k]? = some t := ⟨_, List.getElem?_eq_getElem (by omega)⟩
  have hz := times_zero hr (runN g fr ms) k m t hm (by rw [hts]; exact ht)
  have hT : arivT g ms fr k = t := by unfold arivT; rw [hts, Int.toNat_natCast, List.getD_eq_getElem?_getD, ht]; rfl
  have hH : hasQ (reachL g ms fr) k = decide (0 ≤ t) := by
    unfold reachL
    rw [hts, hasQ_reach hk, List.getD_eq_getElem?_getD, ht]; rfl
  by_cases h0 : 0 ≤ t
  · refine ⟨t, by unfold arivA; rw [if_pos hc, hT, if_pos h0], .inl ⟨by unfold arivK; rw [if_pos hc, hT, if_pos h0], by rw [hH]; exact decide_eq_true h0, ?_⟩⟩
    by_cases hp : 0 < m
    · exact .inl ⟨hz.1 hp, hp⟩
    · exact .inr ⟨by have := hz.2 hp; omega, by omega⟩
  · exact ⟨0, by unfold arivA; rw [if_pos hc, hT, if_neg h0], .inr ⟨by unfold arivK; rw [if_pos hc, hT, if_neg h0], by rw [hH]; exact decide_eq_false h0⟩⟩
/-- The lowest cell and the drop. -/
theorem lowest {g : Grid} {ms : List Int} {fr : Int} (h : DrawnM g ms) (h1 : 1 ≤ fr) (h2 : fr ≤ 5000) : (reachL g ms fr = [] ∧ lowK g ms fr = 3) ∨ (reachL g ms fr ≠ [] ∧ lowK g ms fr = 0 ∧ ∃ b : Nat, lowA g ms fr = b ∧ b < ms.length ∧ hasQ (reachL g ms fr) b = true ∧ dropA g ms fr = topT g ms ms.length - g.heights.getD b 0 ∧ 0 ≤ dropA g ms fr ∧ ∀ x ∈ reachL g ms fr, ∃ c : Nat, x = c ∧ c < ms.length ∧ g.heights.getD b 0 ≤ g.heights.getD c 0) := by
  obtain ⟨hc, hr⟩ := h.run h1 h2
  by_cases hR : reachL g ms fr = []
  · exact .inl ⟨hR, by unfold lowK; rw [if_pos hc, if_pos hR]⟩
  · right
    have hmem := lowT_mem g hR
    have hall : ∀ x ∈ reachL g ms fr, ∃ c : Nat, x = c ∧ c < ms.length := fun x hx => by
      unfold reachL at hx
      obtain ⟨c, e, hc, _⟩ := reachT_mem hx
      exact ⟨c, e, hc⟩
    obtain ⟨b, hb, hbl⟩ := hall _ hmem
    have hK : lowK g ms fr = 0 := by unfold lowK; rw [if_pos hc, if_neg hR]
    have hA : lowA g ms fr = b := by unfold lowA; rw [if_pos hc, if_neg hR, hb]
    have hD : dropA g ms fr = topT g ms ms.length - g.heights.getD b 0 := by
      unfold dropA; rw [if_pos hK, hA]; rfl
    have hnn := drop_nn hr hR
    rw [hb] at hnn
    have hht : ht g (b : Int) = g.heights.getD b 0 := rfl
    refine ⟨hR, hK, b, hA, hbl, ?_, hD, by rw [hD]; omega, fun x hx => ?_⟩
    · rw [hb] at hmem
      unfold reachL at hmem ⊢
      rw [hasQ_iff]; exact hmem
    · obtain ⟨c, rfl, hcl⟩ := hall x hx
      have := lowT_min (g := g) (cs := reachL g ms fr) (fun y hy => by obtain ⟨d, rfl, _⟩ := hall y hy; omega) _ hx
      rw [hb] at this
      exact ⟨c, rfl, hcl, this⟩
/-- The least friction that keeps a cell free. -/
theorem friction {g : Grid} {ms : List Int} (h : DrawnM g ms) {c : Nat} {m : Int} (hm : ms[c]? = some m) : (0 < m ∧ fricK g ms c = 6) ∨ (m ≤ 0 ∧ fricK g ms c = 3) ∨ (m ≤ 0 ∧ fricK g ms c = 0 ∧ 1 ≤ fricA g ms c ∧ fricA g ms c ≤ 5000 ∧ hasQ (reachL g ms (fricA g ms c)) c = false ∧ ∀ f, 1 ≤ f → f < fricA g ms c → hasQ (reachL g ms f) c = true) := by
  have hk := (List.getElem?_eq_some_iff.1 hm).1
  have hc := h.cell (fr := 1) (by omega) (by omega) hk
  have hmd : ms.getD c 0 = m := by rw [List.getD_eq_getElem?_getD, hm]; rfl
  by_cases hp : 0 < m
  · exact .inl ⟨hp, by unfold fricK; rw [if_pos hc, Int.toNat_natCast, hmd, if_pos hp]⟩
  · right
    cases hv : fricV g ms c with
    | none => exact .inl ⟨by omega, by unfold fricK; rw [if_pos hc, Int.toNat_natCast, hmd, if_neg hp, hv]; rfl⟩
    | some L =>
      right
      have hA : fricA g ms c = L := by unfold fricA; rw [if_pos hc, Int.toNat_natCast, hmd, if_neg hp, hv]; rfl
      have hv' : fricO (missB g ms c) (candL g g.heights.length) = some L := by
        unfold fricV at hv
        rw [Int.toNat_natCast] at hv; exact hv
      obtain ⟨hmiss, hmem, _⟩ := fric_some hv'
      have hL : 1 ≤ L ∧ L ≤ 5000 := by
        rcases List.mem_cons.1 hmem with e | hm'
        · omega
        · have := candL_in g _ L hm'
          omega
      rw [hA]
      have hq : ∀ f, hasQ (reachL g ms f) c = !missB g ms c f := fun f => by
        unfold reachL missB
        rw [hasQ_reach hk]
        by_cases h0 : 0 ≤ (stT g f ms (runN g f ms)).times.getD c 0
        · rw [decide_eq_true h0, decide_eq_false (by omega)]; rfl
        · rw [decide_eq_false h0, decide_eq_true (by omega)]; rfl
      refine ⟨by omega, by unfold fricK; rw [if_pos hc, Int.toNat_natCast, hmd, if_neg hp, hv]; rfl, hL.1, hL.2, by rw [hq, hmiss]; rfl, fun f hf1 hf2 => ?_⟩
      rw [hq, below_least h.len hv' hf1 hf2]; rfl

end Go.Proofs.Ythlgfmdlecdchaa
