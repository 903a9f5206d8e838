/- The plain law of FnRaised: what the search for levels finds. -/
import Derived.Test.YtpibiieibofggaaRaiP
namespace Go.Proofs.Ytpibiieibofggaa
open Go.RowKit

def lvAt (lv : List Int) (i : Nat) : Int := (lv[i]?).getD 0
/-- By how much the first k levels are raised. -/
def ownK (xs : List Region) (lv : List Int) : Nat → Int
  | 0 => 0
  | k + 1 => ownK xs lv k + (lvAt lv k - levelAt xs k)
theorem lvAt_snoc_old {lv : List Int} {x : Int} {i : Nat} (h : i < lv.length) : lvAt (lv ++ [x]) i = lvAt lv i := by
  unfold lvAt; rw [List.getElem?_append_left h]
theorem lvAt_snoc_new {lv : List Int} {x : Int} : lvAt (lv ++ [x]) lv.length = x := by
  unfold lvAt; rw [List.getElem?_append_right (Nat.le_refl _), Nat.sub_self]; rfl
theorem ownK_snoc {xs : List Region} {lv : List Int} {x : Int} : ∀ k, k ≤ lv.length → ownK xs (lv ++ [x]) k = ownK xs lv k
  | 0, _ => rfl
  | k + 1, h => by rw [ownK, ownK, ownK_snoc k (by omega), lvAt_snoc_old (by omega)]
/-- Levels that are at least the own ones. -/
structure UpTo (xs : List Region) (lv : List Int) (m : Nat) : Prop where
  len : lv.length = m
  lo : ∀ i, i < m → levelAt xs i ≤ lvAt lv i ∧ lvAt lv i ≤ 5
theorem UpTo.snoc {xs : List Region} {lv : List Int} {m : Nat} (h : UpTo xs lv m) {x : Int} (h1 : levelAt xs m ≤ x) (h2 : x ≤ 5) : UpTo xs (lv ++ [x]) (m + 1) :=
  ⟨by simp [h.len], fun i hi => by
    have hl := h.len
    by_cases e : i = m
    · subst e; subst hl; rw [lvAt_snoc_new]; exact ⟨h1, h2⟩
    · rw [lvAt_snoc_old (by omega)]; exact h.lo i (by omega)⟩
theorem UpTo.own_nonneg {xs : List Region} {lv : List Int} {m : Nat} (h : UpTo xs lv m) : ∀ k, k ≤ m → 0 ≤ ownK xs lv k
  | 0, _ => Int.le_refl _
  | k + 1, hk => by
    have ih := h.own_nonneg k (by omega)
    have := h.lo k (by omega)
    rw [ownK]; omega
theorem UpTo.own_zero {xs : List Region} {lv : List Int} {m : Nat} (h : UpTo xs lv m) : ∀ k, k ≤ m → ownK xs lv k = 0 → ∀ i, i < k → lvAt lv i = levelAt xs i
  | 0, _, _, i, hi => absurd hi (by omega)
  | k + 1, hk, h0, i, hi => by
    have h1 := h.own_nonneg k (by omega)
    have h2 := h.lo k (by omega)
    rw [ownK] at h0
    by_cases e : i = k
    · subst e; omega
    · exact h.own_zero k (by omega) (by omega) i (by omega)
theorem withLv_self : ∀ (xs : List Region) (lv : List Int), lv.length = xs.length → (∀ i, i < xs.length → lvAt lv i = levelAt xs i) → withLv xs lv = xs
  | [], [], _, _ => rfl
  | x :: xs, [], h, _ => by simp at h
  | [], l :: lv, h, _ => by simp at h
  | x :: xs, l :: lv, h, hs => by
    have h0 := hs 0 (by simp)
    have h1 := withLv_self xs lv (by simpa using h) (fun i hi => by have := hs (i + 1) (by simp; omega); simpa [lvAt, levelAt] using this)
    have h0' : l = x.level := by simpa [lvAt, levelAt] using h0
    unfold withLv at h1 ⊢
    rw [List.zipWith_cons_cons, h1, h0']
/-- What a state has found. -/
def Found (xs : List Region) (most : Int) (st : RSt) : Prop := st.least < 0 ∨ (UpTo xs st.best xs.length ∧ st.least = ownK xs st.best xs.length ∧ (compsR (withLv xs st.best) : Int) ≤ most)
section
variable {xs : List Region} {most : Int}
theorem goR_found (hlv : ∀ i, i < xs.length → 1 ≤ levelAt xs i ∧ levelAt xs i ≤ 5) : ∀ (f : Nat) (lv : List Int) (sum : Int) (st : RSt), UpTo xs lv lv.length → lv.length + f = xs.length → sum = ownK xs lv lv.length → Found xs most st → Found xs most (goR xs most f lv sum st)
  | 0, lv, sum, st, hu, hl, hs, h => by
    rw [goR_zero]
    have e : lv.length = xs.length := by omega
    by_cases hc : (st.least < 0 ∨ sum < st.least) ∧ (compsR (withLv xs lv) : Int) ≤ most
    · rw [leafR_yes rfl hc.1 hc.2]
      right
      rw [e] at hu hs
      exact ⟨hu, hs, hc.2⟩
    · rw [leafR_no rfl hc]; exact h
  | f + 1, lv, sum, st, hu, hl, hs, h => by
    rw [goR_succ]
    have key : ∀ k, k ≤ roundsAt xs lv.length → Found xs most (goRK xs most f lv sum st k) := by
      intro k
      induction k with
      | zero => intro _; exact h
      | succ k ih =>
        intro hk
        have ih := ih (by omega)
        have hll := hlv lv.length (by omega)
        have hkk : levelAt xs lv.length + (k : Int) ≤ 5 := by unfold roundsAt at hk; omega
        rw [goRK_succ]
        split
        · exact ih
        · split
          · exact ih
          · refine goR_found hlv f _ _ _ ?_ (by simp; omega) ?_ ih
            · rw [List.length_append, List.length_singleton]; exact hu.snoc (by omega) hkk
            · rw [List.length_append, List.length_singleton, ownK, ownK_snoc _ (Nat.le_refl _), lvAt_snoc_new, hs]; omega
    exact key _ (Nat.le_refl _)
theorem goR_zero_keep : ∀ (f : Nat) (lv : List Int) (sum : Int) (st : RSt), 0 ≤ sum → st.least = 0 → (goR xs most f lv sum st).least = 0
  | 0, lv, sum, st, h0, h => by
    rw [goR_zero, leafR_no rfl (by omega)]; exact h
  | f + 1, lv, sum, st, h0, h => by
    rw [goR_succ]
    generalize roundsAt xs lv.length = r
    induction r with
    | zero => exact h
    | succ k ih =>
      rw [goRK_succ]
      split
      · exact ih
      · split
        · exact ih
        · exact goR_zero_keep f _ _ _ (by omega) ih
theorem goR_first (hlv : ∀ i, i < xs.length → 1 ≤ levelAt xs i ∧ levelAt xs i ≤ 5) (hfew : (compsR xs : Int) ≤ most) : ∀ (f : Nat) (lv : List Int) (st : RSt), lv.length + f = xs.length → (∀ i, i < lv.length → lvAt lv i = levelAt xs i) → 0 ≤ st.bud → st.least = -1 → 0 ≤ (goR xs most f lv 0 st).bud → (goR xs most f lv 0 st).least = 0
  | 0, lv, st, hl, hs, hb, h, hr => by
    rw [goR_zero]
    have e : withLv xs lv = xs := withLv_self xs lv (by omega) (fun i hi => hs i (by omega))
    rw [leafR_yes (M := compsR xs) (by rw [e]) (by omega) hfew]
  | f + 1, lv, st, hl, hs, hb, h, hr => by
    rw [goR_succ] at hr ⊢
    have hll := hlv lv.length (by omega)
    obtain ⟨r, hr1⟩ : ∃ r, roundsAt xs lv.length = r + 1 := ⟨roundsAt xs lv.length - 1, by unfold roundsAt; omega⟩
    rw [hr1] at hr ⊢
    have key : ∀ k, 0 ≤ (goRK xs most f lv 0 st (k + 1)).bud → (goRK xs most f lv 0 st (k + 1)).least = 0 := by
      intro k
      induction k with
      | zero =>
        intro hk
        by_cases hb1 : st.bud - 1 < 0
        · rw [goRK_out goRK_zero hb hb1] at hk; simp only at hk; omega
        · rw [goRK_on goRK_zero hb hb1] at hk ⊢
          have e1 : levelAt xs lv.length + ((0 : Nat) : Int) = levelAt xs lv.length := by omega
          have e2 : (0 : Int) + ((0 : Nat) : Int) = 0 := rfl
          rw [e1, e2] at hk ⊢
          refine goR_first hlv hfew f _ _ (by simp; omega) (fun i hi => ?_) (by simp only; omega) h hk
          by_cases e : i = lv.length
          · subst e; exact lvAt_snoc_new
          · simp at hi
            rw [lvAt_snoc_old (by omega)]; exact hs i (by omega)
      | succ k ih =>
        intro hk
        by_cases hb0 : (goRK xs most f lv 0 st (k + 1)).bud < 0
        · rw [goRK_stop hb0 1] at hk; omega
        · have ih := ih (by omega)
          by_cases hb1 : (goRK xs most f lv 0 st (k + 1)).bud - 1 < 0
          · rw [goRK_out rfl (by omega) hb1]; exact ih
          · rw [goRK_on rfl (by omega) hb1]
            exact goR_zero_keep f _ _ _ (by omega) ih
    exact key r hr
end
/-- The levels that are handed back. -/
structure RaisedOk (xs : List Region) (most least : Int) (best : List Int) : Prop where
  up : UpTo xs best xs.length
  own : least = ownK xs best xs.length
  few : (compsR (withLv xs best) : Int) ≤ most
  zero : (compsR xs : Int) ≤ most ↔ least = 0
  small : least ≤ 40
theorem raised_ok {xs : List Region} {most budget : Int} (h : raiC xs most budget = 0) : regionsB xs = true ∧ RaisedOk xs most (raiL xs most budget) (raiR xs most budget) := by
  cases hr : regionsB xs
  · rw [raiC_bad hr] at h; cases h
  refine ⟨rfl, ?_⟩
  cases hm : inB most 0 8
  · rw [raiC_range hr (.inl hm)] at h; cases h
  cases hb : inB budget 1 20000
  · rw [raiC_range hr (.inr hb)] at h; cases h
  have hon := raiC_on hr hm hb
  rw [h] at hon
  have hin := raise0_in (most := most) hr hb
  rw [(rai_yes h).1, (rai_yes h).2]
  have hlv := regionsB_levels hr
  rw [inB_iff] at hb
  have hf : Found xs most (raise0 xs most budget) := goR_found hlv xs.length [] 0 _ ⟨rfl, fun i hi => absurd hi (by simp)⟩ (by simp) rfl (.inl (by simp))
  by_cases hbud : (raise0 xs most budget).bud < 0
  · rw [if_pos hbud] at hon; cases hon
  by_cases hle : (raise0 xs most budget).least < 0
  · rw [if_neg hbud, if_pos hle] at hon; cases hon
  rcases hf with hf | ⟨h1, h2, h3⟩
  · exact absurd hf hle
  refine ⟨h1, h2, h3, ⟨fun hfew => ?_, fun h0 => ?_⟩, hin.least.2⟩
  · exact goR_first hlv hfew xs.length [] _ (by simp) (fun i hi => absurd hi (by simp)) (by simp only; omega) rfl (by unfold raise0 at hbud; omega)
  · have e : withLv xs (raise0 xs most budget).best = xs := withLv_self _ _ h1.len (h1.own_zero _ (Nat.le_refl _) (by omega))
    rw [e] at h3
    exact h3

end Go.Proofs.Ytpibiieibofggaa
