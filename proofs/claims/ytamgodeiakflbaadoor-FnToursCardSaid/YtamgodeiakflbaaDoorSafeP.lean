/- The safest route within a time, in plain Lean: the search over all routes, by what is left of its budget. -/
import Derived.Test.YtamgodeiakflbaaDoorFastP
import Derived.Test.YtamgodeiakflbaaDoorHasP
namespace Go.Proofs.YtamgodeiakflbaaDoor
open Go.RowKit

structure St where
  bud : Int
  best : List Int
  least : Int
def unseen (n : Nat) (rt : List Int) : Nat := ((List.range n).filter fun q : Nat => !hasB rt (q : Int)).length
theorem unseen_le (n : Nat) (rt : List Int) : unseen n rt ≤ n := by
  unfold unseen
  have := List.length_filter_le (fun q : Nat => !hasB rt (q : Int)) (List.range n)
  simpa using this
theorem unseen_lt {n : Nat} {rt : List Int} {p : Nat} (hp : p < n) (h : hasB rt (p : Int) = false) : unseen n (rt ++ [(p : Int)]) < unseen n rt := by
  unfold unseen
  refine filter_lt _ (fun x _ hx => ?_) p (List.mem_range.2 hp) (by simp [h]) ?_
  · unfold hasB at hx ⊢
    rw [List.any_append] at hx
    simp only [Bool.not_or, Bool.and_eq_true] at hx
    exact hx.1
  · unfold hasB
    rw [List.any_append]
    simp
def lastI (rt : List Int) : Int := rt.getLastD 0
def legOf (xs : List Leg) (rt : List Int) (p : Nat) : Leg := legD xs (lastI rt, (p : Int))
/-- May one go on to point p? -/
def stepOk (xs : List Leg) (rt : List Int) (left : Int) (p : Nat) : Bool := hasLeg xs (lastI rt, (p : Int)) && (decide ((legOf xs rt p).minutes ≤ left) && !hasB rt (p : Int))
def goS (xs : List Leg) (n : Nat) (g : Int) : Nat → List Int → Int → Int → St → St
  | 0, _, _, _, st => st
  | f + 1, rt, left, expo, st =>
    if st.bud - 1 < 0 then { st with bud := st.bud - 1 } else
    if lastI rt = g then (if st.least < 0 ∨ expo < st.least then ⟨st.bud - 1, rt, expo⟩ else { st with bud := st.bud - 1 }) else
    (List.range n).foldl (fun s p => if s.bud < 0 then s else if stepOk xs rt left p = true then goS xs n g f (rt ++ [(p : Int)]) (left - (legOf xs rt p).minutes) (expo + (legOf xs rt p).exposure) s else s) { st with bud := st.bud - 1 }
/-- The search at a point, gone through the next points below k. -/
def goK (xs : List Leg) (n : Nat) (g : Int) (f : Nat) (rt : List Int) (left expo : Int) (st : St) (k : Nat) : St :=
  (List.range k).foldl (fun s p => if s.bud < 0 then s else if stepOk xs rt left p = true then goS xs n g f (rt ++ [(p : Int)]) (left - (legOf xs rt p).minutes) (expo + (legOf xs rt p).exposure) s else s) st
theorem goK_zero (xs : List Leg) (n : Nat) (g : Int) (f : Nat) (rt : List Int) (left expo : Int) (st : St) : goK xs n g f rt left expo st 0 = st := rfl
theorem goK_succ (xs : List Leg) (n : Nat) (g : Int) (f : Nat) (rt : List Int) (left expo : Int) (st : St) (k : Nat) : goK xs n g f rt left expo st (k + 1) = (if (goK xs n g f rt left expo st k).bud < 0 then goK xs n g f rt left expo st k else if stepOk xs rt left k = true then goS xs n g f (rt ++ [(k : Int)]) (left - (legOf xs rt k).minutes) (expo + (legOf xs rt k).exposure) (goK xs n g f rt left expo st k) else goK xs n g f rt left expo st k) := by
  unfold goK
  rw [List.range_succ, List.foldl_append]
  rfl
theorem goK_stop {xs : List Leg} {n : Nat} {g : Int} {f : Nat} {rt : List Int} {left expo : Int} {st : St} {k : Nat} (h : (goK xs n g f rt left expo st k).bud < 0) : ∀ d, goK xs n g f rt left expo st (k + d) = goK xs n g f rt left expo st k
  | 0 => rfl
  | d + 1 => by
    have ih := goK_stop h d
    rw [show k + (d + 1) = (k + d) + 1 by omega, goK_succ, ih, if_pos h]
theorem goS_out {xs : List Leg} {n : Nat} {g : Int} {f : Nat} {rt : List Int} {left expo : Int} {st : St} (h : st.bud - 1 < 0) : goS xs n g (f + 1) rt left expo st = { st with bud := st.bud - 1 } := by
  unfold goS; rw [if_pos h]
theorem goS_goal {xs : List Leg} {n : Nat} {g : Int} {f : Nat} {rt : List Int} {left expo : Int} {st : St} (h : ¬ st.bud - 1 < 0) (hg : lastI rt = g) (hl : st.least < 0 ∨ expo < st.least) : goS xs n g (f + 1) rt left expo st = ⟨st.bud - 1, rt, expo⟩ := by
  unfold goS; rw [if_neg h, if_pos hg, if_pos hl]
theorem goS_worse {xs : List Leg} {n : Nat} {g : Int} {f : Nat} {rt : List Int} {left expo : Int} {st : St} (h : ¬ st.bud - 1 < 0) (hg : lastI rt = g) (hl : ¬ (st.least < 0 ∨ expo < st.least)) : goS xs n g (f + 1) rt left expo st = { st with bud := st.bud - 1 } := by
  unfold goS; rw [if_neg h, if_pos hg, if_neg hl]
theorem goS_on {xs : List Leg} {n : Nat} {g : Int} {f : Nat} {rt : List Int} {left expo : Int} {st : St} (h : ¬ st.bud - 1 < 0) (hg : lastI rt ≠ g) : goS xs n g (f + 1) rt left expo st = goK xs n g f rt left expo { st with bud := st.bud - 1 } n := by
  unfold goS goK; rw [if_neg h, if_neg hg]
def safe0 (xs : List Leg) (n : Nat) (s g limit budget : Int) : St := goS xs n g (n + 1) [s] limit 0 ⟨budget, [], -1⟩
def safeC (pts : Int) (xs : List Leg) (s g limit budget : Int) : Int :=
  if legsOk pts xs = false then 1 else if (inB s 0 (pts - 1) && inB g 0 (pts - 1)) = false then 2 else if (inB limit 0 10000 && inB budget 1 20000) = false then 2 else
  if (safe0 xs pts.toNat s g limit budget).bud < 0 then 5 else if (safe0 xs pts.toNat s g limit budget).least < 0 then 3 else 0
def safeL (pts : Int) (xs : List Leg) (s g limit budget : Int) : Int := if safeC pts xs s g limit budget = 0 then (safe0 xs pts.toNat s g limit budget).least else 0
def safeR (pts : Int) (xs : List Leg) (s g limit budget : Int) : List Int := if safeC pts xs s g limit budget = 0 then (safe0 xs pts.toNat s g limit budget).best else []
structure StIn (b M : Int) (st : St) : Prop where
  lo : -1 ≤ st.bud
  hi : st.bud ≤ b
  len : (st.best.length : Int) ≤ M
theorem goS_in (xs : List Leg) (n : Nat) (g b M : Int) : ∀ (f : Nat) (rt : List Int) (left expo : Int) (st : St), 0 ≤ st.bud → st.bud ≤ b → (st.best.length : Int) ≤ M → (rt.length : Int) + f ≤ M + 1 → StIn b M (goS xs n g f rt left expo st)
  | 0, rt, left, expo, st, h0, h1, h2, _ => by
    unfold goS
    exact ⟨by omega, h1, h2⟩
  | f + 1, rt, left, expo, st, h0, h1, h2, h3 => by
    by_cases hb : st.bud - 1 < 0
    · rw [goS_out hb]
      exact ⟨by simp only; omega, by simp only; omega, h2⟩
    · by_cases hg : lastI rt = g
      · by_cases hl : st.least < 0 ∨ expo < st.least
        · rw [goS_goal hb hg hl]
          exact ⟨by simp only; omega, by simp only; omega, by simp only; omega⟩
        · rw [goS_worse hb hg hl]
          exact ⟨by simp only; omega, by simp only; omega, h2⟩
      · rw [goS_on hb hg]
        have key : ∀ k, StIn b M (goK xs n g f rt left expo { st with bud := st.bud - 1 } k) := by
          intro k
          induction k with
          | zero => exact ⟨by rw [goK_zero]; simp only; omega, by rw [goK_zero]; simp only; omega, by rw [goK_zero]; exact h2⟩
          | succ k ih =>
            rw [goK_succ]
            split
            · exact ih
            · split
              · rename_i hb2 _
                exact goS_in xs n g b M f _ _ _ _ (by omega) ih.hi ih.len (by rw [List.length_append]; simp; omega)
              · exact ih
        exact key n
theorem goK_in (xs : List Leg) (n : Nat) (g b M : Int) (f : Nat) (rt : List Int) (left expo : Int) (st : St) (h0 : 0 ≤ st.bud) (h1 : st.bud ≤ b) (h2 : (st.best.length : Int) ≤ M) (h3 : (rt.length : Int) + f ≤ M) (k : Nat) : StIn b M (goK xs n g f rt left expo st k) := by
  induction k with
  | zero => exact ⟨by rw [goK_zero]; omega, by rw [goK_zero]; omega, by rw [goK_zero]; exact h2⟩
  | succ k ih =>
    rw [goK_succ]
    split
    · exact ih
    · split
      · rename_i hb2 _
        exact goS_in xs n g b M f _ _ _ _ (by omega) ih.hi ih.len (by rw [List.length_append]; simp; omega)
      · exact ih
theorem safe0_in {xs : List Leg} {n : Nat} {s g limit budget : Int} (hn : n ≤ 12) (hb : 1 ≤ budget) : StIn budget 14 (safe0 xs n s g limit budget) := by
  unfold safe0
  exact goS_in xs n g budget 14 (n + 1) [s] limit 0 _ (by simp only; omega) (Int.le_refl _) (by simp) (by simp; omega)
theorem safe_zero {pts : Int} {xs : List Leg} {s g limit budget : Int} (h : safeC pts xs s g limit budget = 0) : legsOk pts xs = true ∧ 1 ≤ budget := by
  unfold safeC at h
  cases h1 : legsOk pts xs
  · rw [if_pos h1] at h; cases h
  · rw [if_neg (by rw [h1]; simp)] at h
    refine ⟨rfl, ?_⟩
    cases h2 : (inB s 0 (pts - 1) && inB g 0 (pts - 1))
    · rw [if_pos h2] at h; cases h
    · rw [if_neg (by rw [h2]; simp)] at h
      cases h3 : (inB limit 0 10000 && inB budget 1 20000)
      · rw [if_pos h3] at h; cases h
      · rw [Bool.and_eq_true, inB_iff, inB_iff] at h3
        omega
theorem goK_bud (xs : List Leg) (n : Nat) (g b : Int) (f : Nat) (rt : List Int) (left expo : Int) (st : St) (h0 : 0 ≤ st.bud) (h1 : st.bud ≤ b) (k : Nat) : -1 ≤ (goK xs n g f rt left expo st k).bud ∧ (goK xs n g f rt left expo st k).bud ≤ b := by
  have := goK_in xs n g b ((st.best.length : Int) + (rt.length : Int) + (f : Int)) f rt left expo st h0 h1 (by omega) (by omega) k
  exact ⟨this.lo, this.hi⟩

end Go.Proofs.YtamgodeiakflbaaDoor
