/- The least raise of levels, in plain Lean: the search over all levels, by what is left of its budget. -/
import Derived.Test.YtpibiieibofggaaCompS
namespace Go.Proofs.Ytpibiieibofggaa
open Go.RowKit

theorem takeR_snoc {l : List Int} {k : Nat} {x : Int} (h : l[k]? = some x) : l.take (k + 1) = l.take k ++ [x] := by
  obtain ⟨hk, rfl⟩ := List.getElem?_eq_some_iff.1 h
  rw [List.take_succ_eq_append_getElem hk]
structure RSt where
  bud : Int
  best : List Int
  least : Int
noncomputable def leafR (xs : List Region) (most : Int) (lv : List Int) (sum : Int) (st : RSt) : RSt := if (st.least < 0 ∨ sum < st.least) ∧ (compsR (withLv xs lv) : Int) ≤ most then ⟨st.bud, lv, sum⟩ else st
theorem leafR_yes {xs : List Region} {most sum : Int} {lv : List Int} {st : RSt} {M : Nat} (hM : compsR (withLv xs lv) = M) (h1 : st.least < 0 ∨ sum < st.least) (h2 : (M : Int) ≤ most) : leafR xs most lv sum st = ⟨st.bud, lv, sum⟩ := by
  unfold leafR; rw [hM, if_pos ⟨h1, h2⟩]
theorem leafR_no {xs : List Region} {most sum : Int} {lv : List Int} {st : RSt} {M : Nat} (hM : compsR (withLv xs lv) = M) (h : ¬ ((st.least < 0 ∨ sum < st.least) ∧ (M : Int) ≤ most)) : leafR xs most lv sum st = st := by
  unfold leafR; rw [hM, if_neg h]
def levelAt (xs : List Region) (i : Nat) : Int := (xs[i]?.map Region.level).getD 0
/-- How many levels a region can have from its own one on. -/
def roundsAt (xs : List Region) (i : Nat) : Nat := (6 - levelAt xs i).toNat
noncomputable def goR (xs : List Region) (most : Int) : Nat → List Int → Int → RSt → RSt
  | 0, lv, sum, st => leafR xs most lv sum st
  | f + 1, lv, sum, st => (List.range (roundsAt xs lv.length)).foldl (fun (s : RSt) (j : Nat) => if s.bud < 0 then s else if s.bud - 1 < 0 then { s with bud := s.bud - 1 } else goR xs most f (lv ++ [levelAt xs lv.length + (j : Int)]) (sum + (j : Int)) { s with bud := s.bud - 1 }) st
noncomputable def goRK (xs : List Region) (most : Int) (f : Nat) (lv : List Int) (sum : Int) (st : RSt) (k : Nat) : RSt :=
  (List.range k).foldl (fun (s : RSt) (j : Nat) => if s.bud < 0 then s else if s.bud - 1 < 0 then { s with bud := s.bud - 1 } else goR xs most f (lv ++ [levelAt xs lv.length + (j : Int)]) (sum + (j : Int)) { s with bud := s.bud - 1 }) st
section
variable {xs : List Region} {most sum : Int} {f : Nat} {lv : List Int} {st s : RSt} {k : Nat}
theorem goR_zero : goR xs most 0 lv sum st = leafR xs most lv sum st := by rw [goR]
theorem goR_succ : goR xs most (f + 1) lv sum st = goRK xs most f lv sum st (roundsAt xs lv.length) := by rw [goR, goRK]
theorem goRK_zero : goRK xs most f lv sum st 0 = st := rfl
theorem goRK_succ : goRK xs most f lv sum st (k + 1) = (if (goRK xs most f lv sum st k).bud < 0 then goRK xs most f lv sum st k else if (goRK xs most f lv sum st k).bud - 1 < 0 then { goRK xs most f lv sum st k with bud := (goRK xs most f lv sum st k).bud - 1 } else goR xs most f (lv ++ [levelAt xs lv.length + (k : Int)]) (sum + (k : Int)) { goRK xs most f lv sum st k with bud := (goRK xs most f lv sum st k).bud - 1 }) := by
  unfold goRK
  rw [List.range_succ, List.foldl_append]
  rfl
theorem goRK_out (h : goRK xs most f lv sum st k = s) (h0 : 0 ≤ s.bud) (hb : s.bud - 1 < 0) : goRK xs most f lv sum st (k + 1) = { s with bud := s.bud - 1 } := by
  rw [goRK_succ, h, if_neg (Int.not_lt.2 h0), if_pos hb]
theorem goRK_on (h : goRK xs most f lv sum st k = s) (h0 : 0 ≤ s.bud) (hb : ¬ s.bud - 1 < 0) : goRK xs most f lv sum st (k + 1) = goR xs most f (lv ++ [levelAt xs lv.length + (k : Int)]) (sum + (k : Int)) { s with bud := s.bud - 1 } := by
  rw [goRK_succ, h, if_neg (Int.not_lt.2 h0), if_neg hb]
theorem goRK_stop (h : (goRK xs most f lv sum st k).bud < 0) : ∀ d, goRK xs most f lv sum st (k + d) = goRK xs most f lv sum st k
  | 0 => rfl
  | d + 1 => by
    have ih := goRK_stop h d
    rw [show k + (d + 1) = (k + d) + 1 by omega, goRK_succ, ih, if_pos h]
end
/-- What holds of a search's state. -/
structure RIn (b : Int) (st : RSt) : Prop where
  lo : -1 ≤ st.bud
  hi : st.bud ≤ b
  len : st.best.length ≤ 8
  least : -1 ≤ st.least ∧ st.least ≤ 40
theorem leafR_in {xs : List Region} {most sum b : Int} {lv : List Int} {st : RSt} (h : RIn b st) (hl : lv.length ≤ 8) (h0 : 0 ≤ sum) (h1 : sum ≤ 40) : RIn b (leafR xs most lv sum st) := by
  unfold leafR
  split
  · exact ⟨h.lo, h.hi, hl, by simp only; omega, by simp only; omega⟩
  · exact h
theorem goR_in {xs : List Region} {most b : Int} (hlv : ∀ i, i < xs.length → 1 ≤ levelAt xs i ∧ levelAt xs i ≤ 5) (h8 : xs.length ≤ 8) : ∀ (f : Nat) (lv : List Int) (sum : Int) (st : RSt), 0 ≤ st.bud → RIn b st → lv.length + f = xs.length → 0 ≤ sum → sum + 4 * (f : Int) ≤ 40 → RIn b (goR xs most f lv sum st)
  | 0, lv, sum, st, _, h, hl, h0, h1 => by rw [goR_zero]; exact leafR_in h (by omega) h0 (by omega)
  | f + 1, lv, sum, st, hb0, h, hl, h0, h1 => by
    rw [goR_succ]
    have key : ∀ k, k ≤ roundsAt xs lv.length → RIn b (goRK xs most f lv sum st k) := by
      intro k
      induction k with
      | zero => intro _; exact h
      | succ k ih =>
        intro hk
        have ih := ih (by omega)
        have hll := hlv lv.length (by omega)
        have hkk : (k : Int) ≤ 4 := by unfold roundsAt at hk; omega
        rw [goRK_succ]
        split
        · exact ih
        · split
          · exact ⟨by simp only; omega, by have := ih.hi; simp only; omega, ih.len, ih.least⟩
          · exact goR_in hlv h8 f _ _ _ (by simp only; omega) ⟨by simp only; omega, by have := ih.hi; simp only; omega, ih.len, ih.least⟩ (by simp; omega) (by omega) (by omega)
    exact key _ (Nat.le_refl _)
theorem goRK_in {xs : List Region} {most b sum : Int} {f : Nat} {lv : List Int} {st : RSt} (hlv : ∀ i, i < xs.length → 1 ≤ levelAt xs i ∧ levelAt xs i ≤ 5) (h8 : xs.length ≤ 8) (h : RIn b st) (hl : lv.length + (f + 1) = xs.length) (h0 : 0 ≤ sum) (h1 : sum + 4 * ((f + 1 : Nat) : Int) ≤ 40) : ∀ k, k ≤ roundsAt xs lv.length → RIn b (goRK xs most f lv sum st k) := by
  intro k
  induction k with
  | zero => intro _; exact h
  | succ k ih =>
    intro hk
    have ih := ih (by omega)
    have hll := hlv lv.length (by omega)
    have hkk : (k : Int) ≤ 4 := by unfold roundsAt at hk; omega
    rw [goRK_succ]
    split
    · exact ih
    · split
      · exact ⟨by simp only; omega, by have := ih.hi; simp only; omega, ih.len, ih.least⟩
      · exact goR_in hlv h8 f _ _ _ (by simp only; omega) ⟨by simp only; omega, by have := ih.hi; simp only; omega, ih.len, ih.least⟩ (by simp; omega) (by omega) (by omega)
theorem regionsB_levels {xs : List Region} (h : regionsB xs = true) : ∀ i, i < xs.length → 1 ≤ levelAt xs i ∧ levelAt xs i ≤ 5 := fun i hi => by
  unfold levelAt
  rw [List.getElem?_eq_getElem hi]
  exact regionsB_level h (List.getElem_mem hi)
noncomputable def raise0 (xs : List Region) (most budget : Int) : RSt := goR xs most xs.length [] 0 ⟨budget, [], -1⟩
noncomputable def raiC (xs : List Region) (most budget : Int) : Int :=
  if regionsB xs = false then 1 else if inB most 0 8 = false ∨ inB budget 1 20000 = false then 2 else if (raise0 xs most budget).bud < 0 then 5 else if (raise0 xs most budget).least < 0 then 3 else 0
noncomputable def raiL (xs : List Region) (most budget : Int) : Int := if raiC xs most budget = 0 then (raise0 xs most budget).least else 0
noncomputable def raiR (xs : List Region) (most budget : Int) : List Int := if raiC xs most budget = 0 then (raise0 xs most budget).best else []
theorem rai_no {xs : List Region} {most budget : Int} (h : raiC xs most budget ≠ 0) : raiL xs most budget = 0 ∧ raiR xs most budget = [] := by
  unfold raiL raiR; rw [if_neg h, if_neg h]; exact ⟨rfl, rfl⟩
theorem rai_yes {xs : List Region} {most budget : Int} (h : raiC xs most budget = 0) : raiL xs most budget = (raise0 xs most budget).least ∧ raiR xs most budget = (raise0 xs most budget).best := by
  unfold raiL raiR; rw [if_pos h, if_pos h]; exact ⟨rfl, rfl⟩
theorem raiC_bad {xs : List Region} {most budget : Int} (h : regionsB xs = false) : raiC xs most budget = 1 := by
  unfold raiC; rw [if_pos h]
theorem raiC_range {xs : List Region} {most budget : Int} (h : regionsB xs = true) (h2 : inB most 0 8 = false ∨ inB budget 1 20000 = false) : raiC xs most budget = 2 := by
  unfold raiC; rw [if_neg (by rw [h]; simp), if_pos h2]
theorem raiC_on {xs : List Region} {most budget : Int} (h : regionsB xs = true) (hm : inB most 0 8 = true) (hb : inB budget 1 20000 = true) : raiC xs most budget = if (raise0 xs most budget).bud < 0 then 5 else if (raise0 xs most budget).least < 0 then 3 else 0 := by
  unfold raiC; rw [if_neg (by rw [h]; simp), if_neg (by rw [hm, hb]; simp)]
theorem raise0_in {xs : List Region} {most budget : Int} (h : regionsB xs = true) (hb : inB budget 1 20000 = true) : RIn budget (raise0 xs most budget) := by
  have h8 := regionsB_len h
  rw [inB_iff] at hb
  exact goR_in (regionsB_levels h) h8 xs.length [] 0 _ (by simp only; omega) ⟨by simp only; omega, Int.le_refl _, by simp, by simp, by simp⟩ (by simp) (Int.le_refl _) (by omega)
theorem raiR_len (xs : List Region) (most budget : Int) : (raiR xs most budget).length ≤ 1048576 := by
  by_cases h : raiC xs most budget = 0
  · rw [(rai_yes h).2]
    cases hr : regionsB xs
    · rw [raiC_bad hr] at h; cases h
    · cases hb : inB budget 1 20000
      · rw [raiC_range hr (.inr hb)] at h; cases h
      · have := (raise0_in (most := most) hr hb).len
        omega
  · rw [(rai_no h).2]; simp

end Go.Proofs.Ytpibiieibofggaa
