/- Routes over legs, in plain Lean: the leg between two points, minutes and exposure of a route, turn times, the worst leg. -/
import Derived.Test.YtamgodeiakflbaaDoorLegs
namespace Go.Proofs.YtamgodeiakflbaaDoor
open Go.RowKit

def legP (a b : Int) (x : Leg) : Bool := decide (x.from_ = min a b) && decide (x.to_ = max a b)
def hasLeg (xs : List Leg) (p : Int × Int) : Bool := xs.any (legP p.1 p.2)
def legZ : Leg := ⟨0, 0, 0, 0⟩
def legD (xs : List Leg) (p : Int × Int) : Leg := (xs.find? (legP p.1 p.2)).getD legZ
def pairs (rt : List Int) : List (Int × Int) := rt.zip (rt.drop 1)
def onB (pts : Int) (rt : List Int) : Bool := decide (1 ≤ rt.length) && decide (rt.length ≤ 64) && rt.all (fun r => inB r 0 (pts - 1))
def routeC (pts : Int) (xs : List Leg) (rt : List Int) : Int := if legsOk pts xs = false then 1 else if onB pts rt = false then 7 else if (pairs rt).all (hasLeg xs) = false then 6 else 0
def minutesF (xs : List Leg) (rt : List Int) : Int := sumBy (fun p => (legD xs p).minutes) (pairs rt)
def exposeF (xs : List Leg) (rt : List Int) : Int := sumBy (fun p => (legD xs p).exposure) (pairs rt)

theorem pairs_at {rt : List Int} {k : Nat} {a b : Int} (ha : rt[k]? = some a) (hb : rt[k + 1]? = some b) : (pairs rt)[k]? = some (a, b) := by
  unfold pairs
  rw [List.getElem?_zip_eq_some]
  exact ⟨ha, by rw [List.getElem?_drop, Nat.add_comm]; exact hb⟩
theorem pairs_len (rt : List Int) : (pairs rt).length = rt.length - 1 := by
  unfold pairs; rw [List.length_zip, List.length_drop]; omega
theorem pairs_nil : pairs [] = [] := rfl
theorem pairs_cons (a : Int) (r : List Int) : pairs (a :: r) = (a :: r).zip r := by simp [pairs]
theorem zip_take_aux : ∀ (k : Nat) (a : Int) (r : List Int), (a :: r.take k).zip (r.take k) = ((a :: r).zip r).take k
  | 0, a, r => by simp
  | k + 1, a, [] => by simp
  | k + 1, a, b :: r => by
    simp only [List.take_succ_cons, List.zip_cons_cons]
    rw [zip_take_aux k b r]
theorem pairs_take (rt : List Int) (k : Nat) : pairs (rt.take (k + 1)) = (pairs rt).take k := by
  cases rt with
  | nil => simp [pairs]
  | cons a r => rw [List.take_succ_cons, pairs_cons, pairs_cons, zip_take_aux]

section
variable {xs : List Leg} {p : Int × Int}
theorem leg_hit {k : Nat} {x : Leg} (h : NoneTo (legP p.1 p.2) xs k) (hx : xs[k]? = some x) (hp : legP p.1 p.2 x = true) : findI (legP p.1 p.2) xs = k ∧ hasLeg xs p = true ∧ legD xs p = x := by
  have hk := (List.getElem?_eq_some_iff.1 hx).1
  refine ⟨findI_hit h hx hp, List.any_eq_true.2 ⟨x, List.mem_of_getElem? hx, hp⟩, ?_⟩
  unfold legD
  have : xs.find? (legP p.1 p.2) = some x := by
    rw [List.find?_eq_some_iff_getElem]
    refine ⟨hp, k, hk, (List.getElem?_eq_some_iff.1 hx).2, fun j hj => ?_⟩
    rw [h j _ hj (List.getElem?_eq_getElem (by omega))]; rfl
  rw [this]; rfl
theorem leg_none {n : Nat} (hn : xs.length ≤ n) (h : NoneTo (legP p.1 p.2) xs n) : findI (legP p.1 p.2) xs = -1 ∧ hasLeg xs p = false ∧ legD xs p = legZ := by
  have hall : ∀ x ∈ xs, legP p.1 p.2 x = false := fun x hx => by
    obtain ⟨k, hk, rfl⟩ := List.getElem_of_mem hx
    exact h k _ (by omega) (List.getElem?_eq_getElem hk)
  refine ⟨findI_none hn h, ?_, ?_⟩
  · unfold hasLeg; rw [List.any_eq_false]; intro x hx; rw [hall x hx]; simp
  · unfold legD
    rw [List.find?_eq_none.2 (fun x hx => by rw [hall x hx]; simp)]; rfl
theorem leg_cases : (∃ (k : Nat) (x : Leg), xs[k]? = some x ∧ findI (legP p.1 p.2) xs = k ∧ hasLeg xs p = true ∧ legD xs p = x) ∨ (findI (legP p.1 p.2) xs = -1 ∧ hasLeg xs p = false ∧ legD xs p = legZ) := by
  rcases findI_cases (p := legP p.1 p.2) (xs := xs) with ⟨k, x, hx, hp, hn, _⟩ | ⟨h, _⟩
  · exact .inl ⟨k, x, hx, leg_hit hn hx hp⟩
  · exact .inr (leg_none (n := xs.length) (Nat.le_refl _) (h _))
theorem leg_ix (h : hasLeg xs p = true) : ∃ k : Nat, xs[k]? = some (legD xs p) ∧ findI (legP p.1 p.2) xs = k := by
  rcases leg_cases (xs := xs) (p := p) with ⟨k, x, hx, h1, _, h3⟩ | ⟨_, h2, _⟩
  · exact ⟨k, by rw [h3]; exact hx, h1⟩
  · rw [h2] at h; cases h
theorem legD_fits {pts : Int} (hv : legsOk pts xs = true) (h : hasLeg xs p = true) : Leg.oneB pts (legD xs p) = true := by
  obtain ⟨k, hx, _⟩ := leg_ix h
  unfold legsOk at hv
  rw [Bool.and_eq_true] at hv
  exact validL_good (one := Leg.oneB pts) hv.2 hx
end
theorem legD_bounds {pts : Int} {xs : List Leg} {p : Int × Int} (hv : legsOk pts xs = true) : 0 ≤ (legD xs p).minutes ∧ (legD xs p).minutes ≤ 600 ∧ 0 ≤ (legD xs p).exposure ∧ (legD xs p).exposure ≤ 1000 := by
  cases h : hasLeg xs p with
  | true =>
    have := legD_fits hv h
    unfold Leg.oneB at this
    simp only [Bool.and_eq_true, inB_iff] at this
    omega
  | false =>
    rcases leg_cases (xs := xs) (p := p) with ⟨_, _, _, _, h2, _⟩ | ⟨_, _, h3⟩
    · rw [h2] at h; cases h
    · rw [h3]; simp [legZ]
theorem sumBy_bounds {α : Type} {f : α → Int} {M : Int} (hf : ∀ x, 0 ≤ f x ∧ f x ≤ M) : ∀ (xs : List α), 0 ≤ sumBy f xs ∧ sumBy f xs ≤ M * xs.length
  | [] => by simp [sumBy]
  | x :: xs => by
    have h1 := hf x
    have h2 := sumBy_bounds hf xs
    have e : sumBy f (x :: xs) = f x + sumBy f xs := by simp [sumBy]
    rw [e, List.length_cons, Int.natCast_add, Int.mul_add]
    omega
/-- All of the first n. -/
def AllTo {α : Type} (p : α → Bool) (xs : List α) (n : Nat) : Prop := ∀ (j : Nat) (y : α), j < n → xs[j]? = some y → p y = true
section
variable {α : Type} {p : α → Bool} {xs : List α}
theorem AllTo.zero : AllTo p xs 0 := fun _ _ h => absurd h (by omega)
theorem AllTo.step {k : Nat} {x : α} (h : AllTo p xs k) (hx : xs[k]? = some x) (hp : p x = true) : AllTo p xs (k + 1) := fun j y hj hy => by
  by_cases e : j = k
  · subst e; rw [hx] at hy; cases hy; exact hp
  · exact h j y (by omega) hy
theorem AllTo.all {n : Nat} (hn : xs.length ≤ n) (h : AllTo p xs n) : xs.all p = true := by
  rw [List.all_eq_true]
  intro x hx
  obtain ⟨k, hk, rfl⟩ := List.getElem_of_mem hx
  exact h k _ (by omega) (List.getElem?_eq_getElem hk)
theorem all_no {k : Nat} {x : α} (hx : xs[k]? = some x) (hp : p x = false) : xs.all p = false := by
  rw [List.all_eq_false]
  exact ⟨x, List.mem_of_getElem? hx, by rw [hp]; simp⟩
theorem all_at {k : Nat} {x : α} (h : xs.all p = true) (hx : xs[k]? = some x) : p x = true := List.all_eq_true.1 h x (List.mem_of_getElem? hx)
end
/-- The turn times: the deadline less the minutes so far. -/
def turnL (xs : List Leg) (rt : List Int) (d : Int) (n : Nat) : List Int := (List.range n).map fun k => d - sumBy (fun p => (legD xs p).minutes) ((pairs rt).take k)
theorem turnL_succ (xs : List Leg) (rt : List Int) (d : Int) (n : Nat) : turnL xs rt d (n + 1) = turnL xs rt d n ++ [d - sumBy (fun p => (legD xs p).minutes) ((pairs rt).take n)] := by
  unfold turnL; rw [List.range_succ, List.map_append]; rfl
theorem turnL_len (xs : List Leg) (rt : List Int) (d : Int) (n : Nat) : (turnL xs rt d n).length = n := by simp [turnL]
theorem turnL_at (xs : List Leg) (rt : List Int) (d : Int) {n k : Nat} (h : k < n) : (turnL xs rt d n)[k]? = some (d - sumBy (fun p => (legD xs p).minutes) ((pairs rt).take k)) := by
  simp [turnL, h]

end Go.Proofs.YtamgodeiakflbaaDoor
