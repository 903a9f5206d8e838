/- The search for the safest way: it finds one of the least exposure within the time, and its budget is enough (plain law of FnTours, second part). -/
import Derived.Test.YtamgodeiakflbaaDoorTourQ
namespace Go.Proofs.YtamgodeiakflbaaDoor
open Go.RowKit

theorem lastI_snoc2 (l : List Int) (x : Int) : lastI (l ++ [x]) = x := by unfold lastI; simp
theorem hasB_no {rt : List Int} {p : Int} (h : hasB rt p = false) : p ∉ rt := fun hm => by rw [hasB_iff.2 hm] at h; cases h
theorem stepOk_parts {xs : List Leg} {rt : List Int} {left : Int} {p : Nat} (h : stepOk xs rt left p = true) : hasLeg xs (lastI rt, (p : Int)) = true ∧ (legOf xs rt p).minutes ≤ left ∧ hasB rt (p : Int) = false := by
  unfold stepOk at h
  simp only [Bool.and_eq_true, decide_eq_true_eq, Bool.not_eq_true'] at h
  exact ⟨h.1, h.2.1, h.2.2⟩
/-- A way from s within the limit. -/
structure Pre (xs : List Leg) (n : Nat) (s limit : Int) (rt : List Int) (left expo : Int) : Prop where
  head : ∃ r, rt = s :: r
  walk : Walk xs rt
  mins : minutesF xs rt = limit - left
  left0 : 0 ≤ left
  exp : exposeF xs rt = expo
  in_ : ∀ z, z ∈ rt → ∃ p : Nat, z = p ∧ p < n
  nodup : rt.Nodup
theorem Pre.ne {xs : List Leg} {n : Nat} {s limit left expo : Int} {rt : List Int} (h : Pre xs n s limit rt left expo) : rt ≠ [] := by obtain ⟨r, hr⟩ := h.head; rw [hr]; simp
theorem Pre.step {xs : List Leg} {n : Nat} {s limit left expo : Int} {rt : List Int} (h : Pre xs n s limit rt left expo) {p : Nat} (hp : p < n) (hs : stepOk xs rt left p = true) : Pre xs n s limit (rt ++ [(p : Int)]) (left - (legOf xs rt p).minutes) (expo + (legOf xs rt p).exposure) := by
  obtain ⟨h1, h2, h3⟩ := stepOk_parts hs
  obtain ⟨r, hr⟩ := h.head
  refine ⟨⟨r ++ [(p : Int)], by rw [hr]; rfl⟩, (walk_snoc h.ne).2 ⟨h.walk, h1⟩, ?_, by omega, ?_, fun z hz => ?_, ?_⟩
  · rw [min_snoc _ _ h.ne, h.mins]; unfold legOf; omega
  · rw [exp_snoc _ _ h.ne, h.exp]; rfl
  · rcases List.mem_append.1 hz with hz | hz
    · exact h.in_ z hz
    · exact ⟨p, List.mem_singleton.1 hz, hp⟩
  · rw [List.nodup_append]
    refine ⟨h.nodup, by simp, fun a ha b hb e => ?_⟩
    rw [List.mem_singleton.1 hb] at e
    exact hasB_no h3 (e ▸ ha)
/-- What the search has found so far is such a way to the goal. -/
def Found (xs : List Leg) (n : Nat) (s g limit : Int) (st : St) : Prop := st.least < 0 ∨ ∃ left, Pre xs n s limit st.best left st.least ∧ lastI st.best = g
theorem goS_found {xs : List Leg} {n : Nat} {s g limit : Int} : ∀ (f : Nat) (rt : List Int) (left expo : Int) (st : St), Pre xs n s limit rt left expo → Found xs n s g limit st → Found xs n s g limit (goS xs n g f rt left expo st)
  | 0, _, _, _, _, _, h => h
  | f + 1, rt, left, expo, st, hp, h => by
    by_cases hb : st.bud - 1 < 0
    · rw [goS_out hb]; exact h
    by_cases hg : lastI rt = g
    · by_cases hl : st.least < 0 ∨ expo < st.least
      · rw [goS_goal hb hg hl]; exact .inr ⟨left, hp, hg⟩
      · rw [goS_worse hb hg hl]; exact h
    · rw [goS_on hb hg]
      have key : ∀ k, k ≤ n → Found xs n s g limit (goK xs n g f rt left expo { st with bud := st.bud - 1 } k) := by
        intro k
        induction k with
        | zero => intro _; exact h
        | succ k ih =>
          intro hk
          have ih := ih (by omega)
          rw [goK_succ]
          split
          · exact ih
          · split
            · rename_i hs; exact goS_found f _ _ _ _ (hp.step (by omega) hs) ih
            · exact ih
      exact key n (Nat.le_refl _)
/-- A way as good as e is found. -/
def Cov (st : St) (e : Int) : Prop := 0 ≤ st.least ∧ st.least ≤ e
theorem goS_cov {xs : List Leg} {n : Nat} {pts g : Int} (hv : legsOk pts xs = true) : ∀ (f : Nat) (rt : List Int) (left expo : Int) (st : St) (e : Int), 0 ≤ expo → Cov st e → Cov (goS xs n g f rt left expo st) e
  | 0, _, _, _, _, _, _, h => h
  | f + 1, rt, left, expo, st, e, he, h => by
    by_cases hb : st.bud - 1 < 0
    · rw [goS_out hb]; exact h
    by_cases hg : lastI rt = g
    · by_cases hl : st.least < 0 ∨ expo < st.least
      · rw [goS_goal hb hg hl]
        have h1 := h.1
        have h2 := h.2
        exact ⟨he, by show expo ≤ e; omega⟩
      · rw [goS_worse hb hg hl]; exact h
    · rw [goS_on hb hg]
      have key : ∀ k, Cov (goK xs n g f rt left expo { st with bud := st.bud - 1 } k) e := by
        intro k
        induction k with
        | zero => exact h
        | succ k ih =>
          rw [goK_succ]
          split
          · exact ih
          · split
            · exact goS_cov hv f _ _ _ _ _ (by have := (legD_bounds (xs := xs) (p := (lastI rt, (k : Int))) hv).2.2.1; unfold legOf; omega) ih
            · exact ih
      exact key n
theorem goK_cov {xs : List Leg} {n : Nat} {pts g : Int} (hv : legsOk pts xs = true) {f : Nat} {rt : List Int} {left expo : Int} {st : St} {e : Int} (he : 0 ≤ expo) {k : Nat} (h : Cov (goK xs n g f rt left expo st k) e) : ∀ d, Cov (goK xs n g f rt left expo st (k + d)) e
  | 0 => h
  | d + 1 => by
    have ih := goK_cov hv he h d
    rw [show k + (d + 1) = (k + d) + 1 by omega, goK_succ]
    split
    · exact ih
    · split
      · exact goS_cov hv f _ _ _ _ _ (by have := (legD_bounds (xs := xs) (p := (lastI rt, ((k + d : Nat) : Int))) hv).2.2.1; unfold legOf; omega) ih
      · exact ih
/-- How a way goes on from a point. -/
def exM (xs : List Leg) : Int → List Nat → Int
  | _, [] => 0
  | l, p :: r => (legD xs (l, (p : Int))).minutes + exM xs p r
def exE (xs : List Leg) : Int → List Nat → Int
  | _, [] => 0
  | l, p :: r => (legD xs (l, (p : Int))).exposure + exE xs p r
def exW (xs : List Leg) : Int → List Nat → Prop
  | _, [] => True
  | l, p :: r => hasLeg xs (l, (p : Int)) = true ∧ exW xs p r
def exL : Int → List Nat → Int
  | l, [] => l
  | _, p :: r => exL p r
theorem exM_pos {xs : List Leg} {pts : Int} (hv : legsOk pts xs = true) : ∀ (r : List Nat) (l : Int), 0 ≤ exM xs l r
  | [], _ => Int.le_refl _
  | p :: r, l => by
    have h1 := exM_pos hv r p
    have h2 := (legD_bounds (xs := xs) (p := (l, (p : Int))) hv).1
    unfold exM
    omega
theorem exL_mem : ∀ (r : List Nat) (p : Nat), ∃ q : Nat, exL (p : Int) r = q ∧ q ∈ p :: r
  | [], p => ⟨p, rfl, List.mem_cons_self ..⟩
  | q :: r, p => by
    obtain ⟨z, hz, hm⟩ := exL_mem r q
    exact ⟨z, hz, List.mem_cons_of_mem _ hm⟩
theorem lastI_mem {rt : List Int} (h : rt ≠ []) : lastI rt ∈ rt := by
  cases rt with
  | nil => exact absurd rfl h
  | cons a r => unfold lastI; rw [List.getLastD_cons]; exact List.getLastD_mem_cons
/-- Every simple way on is looked at. -/
theorem goS_all {xs : List Leg} {n : Nat} {pts g : Int} (hv : legsOk pts xs = true) : ∀ (ext : List Nat) (f : Nat) (rt : List Int) (left expo : Int) (st : St), rt ≠ [] → ext.length < f → 0 ≤ expo → exW xs (lastI rt) ext → exL (lastI rt) ext = g → exM xs (lastI rt) ext ≤ left → (∀ p, p ∈ ext → p < n ∧ (p : Int) ∉ rt) → ext.Nodup → 0 ≤ (goS xs n g f rt left expo st).bud → Cov (goS xs n g f rt left expo st) (expo + exE xs (lastI rt) ext)
  | _, 0, _, _, _, _, _, hf, _, _, _, _, _, _, _ => absurd hf (Nat.not_lt_zero _)
  | [], f + 1, rt, left, expo, st, _, _, he, _, hl, _, _, _, hb0 => by
    by_cases hb : st.bud - 1 < 0
    · rw [goS_out hb] at hb0
      exact absurd hb0 (by show ¬ 0 ≤ st.bud - 1; omega)
    have hg : lastI rt = g := hl
    unfold exE
    by_cases hls : st.least < 0 ∨ expo < st.least
    · rw [goS_goal hb hg hls]; exact ⟨he, by show expo ≤ expo + 0; omega⟩
    · rw [goS_worse hb hg hls]; exact ⟨by show 0 ≤ st.least; omega, by show st.least ≤ expo + 0; omega⟩
  | p :: ext, f + 1, rt, left, expo, st, hne, hf, he, hw, hl, hm, hin, hnd, hb0 => by
    by_cases hb : st.bud - 1 < 0
    · rw [goS_out hb] at hb0
      exact absurd hb0 (by show ¬ 0 ≤ st.bud - 1; omega)
    have hpn := hin p (List.mem_cons_self ..)
    have hg : lastI rt ≠ g := fun e => by
      obtain ⟨q, hq, hqm⟩ := exL_mem ext p
      have h1 : exL (p : Int) ext = g := hl
      rw [hq] at h1
      have h2 := lastI_mem hne
      rw [e, ← h1] at h2
      exact (hin q hqm).2 h2
    rw [goS_on hb hg] at hb0 ⊢
    have hstay : ∀ k, k ≤ n → 0 ≤ (goK xs n g f rt left expo { st with bud := st.bud - 1 } k).bud := fun k hk => by
      rcases Int.lt_or_le (goK xs n g f rt left expo { st with bud := st.bud - 1 } k).bud 0 with h | h
      · have h1 := goK_stop h (n - k)
        rw [show k + (n - k) = n by omega] at h1
        rw [h1] at hb0
        omega
      · exact h
    have hmp := exM_pos hv ext (p : Int)
    have hm2 : (legD xs (lastI rt, (p : Int))).minutes + exM xs p ext ≤ left := hm
    have hs : stepOk xs rt left p = true := by
      unfold stepOk
      have h3 : hasB rt (p : Int) = false := by
        cases h : hasB rt (p : Int)
        · rfl
        · exact absurd (hasB_iff.1 h) hpn.2
      rw [hw.1, h3]
      have : (legOf xs rt p).minutes ≤ left := by unfold legOf; omega
      simp [this]
    have hk1 := goK_succ xs n g f rt left expo { st with bud := st.bud - 1 } p
    rw [if_neg (by have := hstay p (by omega); omega), if_pos hs] at hk1
    have hb1 := hstay (p + 1) (by omega)
    rw [hk1] at hb1
    have hx := (legD_bounds (xs := xs) (p := (lastI rt, (p : Int))) hv).2.2.1
    have ih := goS_all hv ext f (rt ++ [(p : Int)]) (left - (legOf xs rt p).minutes) (expo + (legOf xs rt p).exposure) _ (by simp) (by simpa using hf) (by unfold legOf; omega) (by rw [lastI_snoc2]; exact hw.2) (by rw [lastI_snoc2]; exact hl) (by rw [lastI_snoc2]; unfold legOf; omega) (fun q hq => ⟨(hin q (List.mem_cons_of_mem _ hq)).1, fun hqm => by
      rcases List.mem_append.1 hqm with h | h
      · exact (hin q (List.mem_cons_of_mem _ hq)).2 h
      · have h4 := List.mem_singleton.1 h
        have h5 : q = p := by omega
        rw [h5] at hq
        exact (List.nodup_cons.1 hnd).1 hq⟩) (List.nodup_cons.1 hnd).2 hb1
    rw [← hk1] at ih
    have hc := goK_cov hv he ih (n - (p + 1))
    rw [show p + 1 + (n - (p + 1)) = n by omega] at hc
    rw [lastI_snoc2] at hc
    unfold exE
    unfold legOf at hc
    rw [show expo + ((legD xs (lastI rt, (p : Int))).exposure + exE xs p ext) = expo + (legD xs (lastI rt, (p : Int))).exposure + exE xs p ext by omega]
    exact hc
/-- How many points a search may visit that has u points left. -/
def cost : Nat → Int
  | 0 => 1
  | u + 1 => 1 + ((u : Int) + 1) * cost u
theorem cost_pos : ∀ u, 1 ≤ cost u
  | 0 => Int.le_refl _
  | u + 1 => by
    have h := cost_pos u
    have : 0 ≤ ((u : Int) + 1) * cost u := Int.mul_nonneg (by omega) (by omega)
    unfold cost
    omega
theorem cost_mono : ∀ u, cost u ≤ cost (u + 1) := fun u => by
  have h := cost_pos u
  have h2 : 0 ≤ (u : Int) * cost u := Int.mul_nonneg (by omega) (by omega)
  rw [cost, Int.add_mul]
  omega
theorem cost_le {u v : Nat} (h : u ≤ v) : cost u ≤ cost v := by
  induction h with
  | refl => exact Int.le_refl _
  | step _ ih => exact Int.le_trans ih (cost_mono _)
theorem unseen_succ (k : Nat) (rt : List Int) : unseen (k + 1) rt = unseen k rt + (if hasB rt (k : Int) = true then 0 else 1) := by
  unfold unseen
  rw [List.range_succ, List.filter_append, List.length_append]
  by_cases h : hasB rt (k : Int) = true
  · simp [h]
  · simp [h]
theorem unseen_upto {n : Nat} {rt : List Int} : ∀ d k, k + d = n → unseen k rt ≤ unseen n rt
  | 0, k, h => by rw [show k = n by omega]; exact Nat.le_refl _
  | d + 1, k, h => by
    have := unseen_upto (rt := rt) d (k + 1) (show k + 1 + d = n by omega)
    rw [unseen_succ] at this
    omega
theorem goS_budget {xs : List Leg} {n : Nat} {g : Int} : ∀ (f : Nat) (rt : List Int) (left expo : Int) (st : St) (u : Nat), unseen n rt ≤ u → cost u ≤ st.bud → st.bud - cost u ≤ (goS xs n g f rt left expo st).bud
  | 0, _, _, _, st, u, _, _ => by have := cost_pos u; unfold goS; omega
  | f + 1, rt, left, expo, st, u, hu, hc => by
    have hcp := cost_pos u
    by_cases hb : st.bud - 1 < 0
    · omega
    by_cases hg : lastI rt = g
    · by_cases hl : st.least < 0 ∨ expo < st.least
      · rw [goS_goal hb hg hl]; show st.bud - cost u ≤ st.bud - 1; omega
      · rw [goS_worse hb hg hl]; show st.bud - cost u ≤ st.bud - 1; omega
    · rw [goS_on hb hg]
      obtain ⟨c, hcc, hcpos, hstep⟩ : ∃ c : Int, cost u = 1 + (u : Int) * c ∧ 0 ≤ c ∧ ∀ v, v < u → cost v ≤ c := by
        cases u with
        | zero => exact ⟨0, rfl, Int.le_refl _, fun v h => absurd h (Nat.not_lt_zero v)⟩
        | succ u => exact ⟨cost u, by rw [cost]; push_cast; rfl, by have := cost_pos u; omega, fun v h => cost_le (by omega)⟩
      have key : ∀ k, k ≤ n → st.bud - 1 - (unseen k rt : Int) * c ≤ (goK xs n g f rt left expo { st with bud := st.bud - 1 } k).bud := by
        intro k
        induction k with
        | zero => intro _; rw [goK_zero]; show _ ≤ st.bud - 1; have : unseen 0 rt = 0 := rfl; rw [this]; omega
        | succ k ih =>
          intro hk
          have ih := ih (by omega)
          have hle : unseen (k + 1) rt ≤ unseen n rt := unseen_upto (rt := rt) (n - (k + 1)) (k + 1) (by omega)
          have hsu := unseen_succ k rt
          have hmul : (unseen (k + 1) rt : Int) * c ≤ (u : Int) * c := Int.mul_le_mul_of_nonneg_right (by omega) hcpos
          have hge : (unseen k rt : Int) * c ≤ (unseen (k + 1) rt : Int) * c := Int.mul_le_mul_of_nonneg_right (by rw [hsu]; push_cast; omega) hcpos
          rw [goK_succ]
          split
          · omega
          · split
            · rename_i hs
              obtain ⟨_, _, h3⟩ := stepOk_parts hs
              have hlt := unseen_lt (n := n) (rt := rt) (p := k) (by omega) h3
              have e1 : (unseen (k + 1) rt : Int) = unseen k rt + 1 := by rw [hsu, h3]; simp
              have e2 : (unseen (k + 1) rt : Int) * c = (unseen k rt : Int) * c + c := by rw [e1, Int.add_mul, Int.one_mul]
              have hv := hstep (unseen n (rt ++ [(k : Int)])) (by omega)
              have := goS_budget (xs := xs) (n := n) (g := g) f (rt ++ [(k : Int)]) (left - (legOf xs rt k).minutes) (expo + (legOf xs rt k).exposure) (goK xs n g f rt left expo { st with bud := st.bud - 1 } k) _ (Nat.le_refl _) (by omega)
              omega
            · omega
      have h1 := key n (Nat.le_refl _)
      have hmul : (unseen n rt : Int) * c ≤ (u : Int) * c := Int.mul_le_mul_of_nonneg_right (by omega) hcpos
      omega
theorem cost_six : cost 6 = 1957 := by decide

end Go.Proofs.YtamgodeiakflbaaDoor
