/- Ways over legs: the fastest one is no slower than any (plain law of FnTours, first part). -/
import Derived.Test.YtamgodeiakflbaaDoorSafeP
namespace Go.Proofs.YtamgodeiakflbaaDoor
open Go.RowKit

theorem pairs_cons2 (a b : Int) (r : List Int) : pairs (a :: b :: r) = (a, b) :: pairs (b :: r) := by simp [pairs]
theorem pairs_one (a : Int) : pairs [a] = [] := rfl
theorem lastI_cons2 (a b : Int) (r : List Int) : lastI (a :: b :: r) = lastI (b :: r) := by unfold lastI; simp
theorem lastI_one (a : Int) : lastI [a] = a := rfl
theorem pairs_snoc : ∀ (rt : List Int) (p : Int), rt ≠ [] → pairs (rt ++ [p]) = pairs rt ++ [(lastI rt, p)]
  | [], _, h => absurd rfl h
  | [a], p, _ => rfl
  | a :: b :: r, p, _ => by
    have ih := pairs_snoc (b :: r) p (by simp)
    rw [List.cons_append, List.cons_append, pairs_cons2, lastI_cons2, pairs_cons2, List.cons_append, ← ih]
    rfl
theorem sum_cons {α : Type} (f : α → Int) (x : α) (l : List α) : sumBy f (x :: l) = f x + sumBy f l := by unfold sumBy; simp
theorem sum_snoc {α : Type} (f : α → Int) (l : List α) (x : α) : sumBy f (l ++ [x]) = sumBy f l + f x := by unfold sumBy; simp
/-- Two by two joined by legs. -/
def Walk (xs : List Leg) (rt : List Int) : Prop := ∀ p, p ∈ pairs rt → hasLeg xs p = true
theorem walk_cons {xs : List Leg} {a b : Int} {r : List Int} : Walk xs (a :: b :: r) ↔ hasLeg xs (a, b) = true ∧ Walk xs (b :: r) := by
  unfold Walk
  rw [pairs_cons2]
  exact ⟨fun h => ⟨h _ (List.mem_cons_self ..), fun p hp => h p (List.mem_cons_of_mem _ hp)⟩, fun h p hp => by
    rcases List.mem_cons.1 hp with rfl | hp
    · exact h.1
    · exact h.2 p hp⟩
theorem walk_snoc {xs : List Leg} {rt : List Int} {p : Int} (h0 : rt ≠ []) : Walk xs (rt ++ [p]) ↔ Walk xs rt ∧ hasLeg xs (lastI rt, p) = true := by
  unfold Walk
  rw [pairs_snoc _ _ h0]
  exact ⟨fun h => ⟨fun q hq => h q (List.mem_append.2 (.inl hq)), h _ (List.mem_append.2 (.inr (List.mem_singleton.2 rfl)))⟩, fun h q hq => by
    rcases List.mem_append.1 hq with hq | hq
    · exact h.1 q hq
    · rw [List.mem_singleton.1 hq]; exact h.2⟩
theorem min_one (xs : List Leg) (a : Int) : minutesF xs [a] = 0 := rfl
theorem min_cons (xs : List Leg) (a b : Int) (r : List Int) : minutesF xs (a :: b :: r) = (legD xs (a, b)).minutes + minutesF xs (b :: r) := by unfold minutesF; rw [pairs_cons2, sum_cons]
theorem min_snoc (xs : List Leg) {rt : List Int} (p : Int) (h0 : rt ≠ []) : minutesF xs (rt ++ [p]) = minutesF xs rt + (legD xs (lastI rt, p)).minutes := by unfold minutesF; rw [pairs_snoc _ _ h0, sum_snoc]
theorem exp_snoc (xs : List Leg) {rt : List Int} (p : Int) (h0 : rt ≠ []) : exposeF xs (rt ++ [p]) = exposeF xs rt + (legD xs (lastI rt, p)).exposure := by unfold exposeF; rw [pairs_snoc _ _ h0, sum_snoc]
section
variable {pts : Int} {xs : List Leg} {n g : Nat}
theorem leg_nat (hn : pts = n) (hv : legsOk pts xs = true) {x y : Int} (h : hasLeg xs (x, y) = true) : ∃ a b : Nat, x = a ∧ y = b ∧ a < n ∧ b < n := by
  obtain ⟨k, hk, _⟩ := leg_ix h
  have hf := legs_fit hv _ (List.mem_of_getElem? hk)
  have hp : legP x y (legD xs (x, y)) = true := by
    unfold hasLeg at h
    unfold legD
    cases hd : xs.find? (legP x y) with
    | none =>
      rw [List.find?_eq_none] at hd
      obtain ⟨z, hz, hz2⟩ := List.any_eq_true.1 h
      exact absurd hz2 (hd z hz)
    | some z => exact List.find?_some hd
  unfold legP at hp
  simp only [Bool.and_eq_true, decide_eq_true_eq] at hp
  have h1 := hf.f0
  have h2 := hf.t1
  have h3 := hf.ft
  rw [hp.1] at h1 h3
  rw [hp.2] at h2 h3
  refine ⟨x.toNat, y.toNat, ?_, ?_, ?_, ?_⟩ <;> omega
/-- No walk to the goal is faster than what is known. -/
theorem walk_lower (hn : pts = n) (hv : legsOk pts xs = true) (hg : g < n) : ∀ (r : List Int) (a : Nat), Walk xs ((a : Int) :: r) → lastI ((a : Int) :: r) = (g : Int) → 0 ≤ val (farL xs n g) a ∧ val (farL xs n g) a ≤ minutesF xs ((a : Int) :: r)
  | [], a, _, hl => by
    rw [lastI_one] at hl
    obtain rfl : a = g := by omega
    have := (farL_tight (xs := xs) hn hv hg).goal
    rw [this]
    exact ⟨by decide, by rw [min_one]; decide⟩
  | y :: r, a, hw, hl => by
    obtain ⟨h1, h2⟩ := walk_cons.1 hw
    obtain ⟨a', b, he, rfl, ha, hb⟩ := leg_nat hn hv h1
    rw [lastI_cons2] at hl
    obtain ⟨h3, h4⟩ := walk_lower hn hv hg r b h2 hl
    have he := (edge_of_leg hv h1).1
    obtain ⟨h5, h6⟩ := farL_closed hn hv hg _ he h3
    rw [min_cons]
    simp only at h5 h6
    exact ⟨h5, by omega⟩
/-- The fastest route. -/
structure FastOk (xs : List Leg) (n g a : Nat) (L : List Int) : Prop where
  head : ∃ r, L = (a : Int) :: r
  last : lastI L = (g : Int)
  walk : Walk xs L
  mins : minutesF xs L = val (farL xs n g) a
  in_ : ∀ z, z ∈ L → ∃ p : Nat, z = p ∧ p < n ∧ 0 ≤ val (farL xs n g) p ∧ val (farL xs n g) p ≤ val (farL xs n g) a
  nodup : L.Nodup
theorem far_zero (hn : pts = n) (hv : legsOk pts xs = true) (hg : g < n) {a : Nat} (h : val (farL xs n g) a = 0) : a = g := by
  by_cases e : a = g
  · exact e
  · obtain ⟨p, _, hp⟩ := next_some hn hv hg (a := a) (by omega) e
    have h1 := goOn_less hv hp
    have h2 := (goOn_iff.1 hp).2.1
    omega
theorem routeF_ok (hn : pts = n) (hv : legsOk pts xs = true) (hg : g < n) : ∀ (k a : Nat), a < n → 0 ≤ val (farL xs n g) a → val (farL xs n g) a ≤ k → FastOk xs n g a ((routeF xs (farL xs n g) n g k a).map Int.ofNat)
  | 0, a, ha, h0, hk => by
    have hag := far_zero hn hv hg (a := a) (by omega)
    subst hag
    refine ⟨⟨[], rfl⟩, rfl, fun p hp => (by cases hp), ?_, fun z hz => ?_, by simp [routeF]⟩
    · rw [(farL_tight (xs := xs) hn hv hg).goal]; rfl
    · rw [List.mem_singleton.1 hz]; exact ⟨a, rfl, ha, h0, Int.le_refl _⟩
  | k + 1, a, ha, h0, hk => by
    by_cases hag : a = g
    · subst hag
      have e : routeF xs (farL xs n a) n a (k + 1) a = [a] := by unfold routeF; rw [if_pos rfl]
      rw [e]
      refine ⟨⟨[], rfl⟩, rfl, fun p hp => (by cases hp), ?_, fun z hz => ?_, by simp⟩
      · rw [(farL_tight (xs := xs) hn hv hg).goal]; rfl
      · rw [List.mem_singleton.1 hz]; exact ⟨a, rfl, ha, h0, Int.le_refl _⟩
    · have e : routeF xs (farL xs n g) n g (k + 1) a = a :: routeF xs (farL xs n g) n g k (nextOf xs (farL xs n g) n a) := by rw [routeF, if_neg hag]
      obtain ⟨hb, hon, _⟩ := nextOf_spec hn hv hg h0 hag
      obtain ⟨b, hbe⟩ : ∃ b, nextOf xs (farL xs n g) n a = b := ⟨_, rfl⟩
      rw [hbe] at hb hon e
      have h1 := goOn_iff.1 hon
      have h2 := goOn_less hv hon
      have ih := routeF_ok hn hv hg k b hb h1.2.1 (by omega)
      obtain ⟨r, hr⟩ := ih.head
      rw [e, List.map_cons, hr]
      rw [hr] at ih
      refine ⟨⟨_, rfl⟩, by rw [lastI_cons2]; exact ih.last, walk_cons.2 ⟨h1.1, ih.walk⟩, ?_, fun z hz => ?_, List.nodup_cons.2 ⟨fun hm => ?_, ih.nodup⟩⟩
      · show minutesF xs ((a : Int) :: (b : Int) :: r) = _
        rw [min_cons, ih.mins]; omega
      · rcases List.mem_cons.1 hz with rfl | hz
        · exact ⟨a, rfl, ha, h0, Int.le_refl _⟩
        · obtain ⟨p, hp, hp1, hp2, hp3⟩ := ih.in_ z hz
          exact ⟨p, hp, hp1, hp2, by omega⟩
      · obtain ⟨p, hp, _, _, hp3⟩ := ih.in_ _ hm
        have : a = p := by have : ((a : Nat) : Int) = (p : Int) := hp; omega
        subst this
        omega
end

end Go.Proofs.YtamgodeiakflbaaDoor
