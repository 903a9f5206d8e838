/- The fastest route over legs, in plain Lean: where it goes on, that it ends at the goal. -/
import Derived.Test.YtamgodeiakflbaaDoorFastQ
import Derived.Test.YtamgodeiakflbaaDoorTourP
namespace Go.Proofs.YtamgodeiakflbaaDoor
open Go.RowKit

def legE (x : Leg) : List (Nat × Nat × Int) := [(x.from_.toNat, x.to_.toNat, x.minutes), (x.to_.toNat, x.from_.toNat, x.minutes)]
def edges (xs : List Leg) : List (Nat × Nat × Int) := xs.flatMap legE
def farL (xs : List Leg) (n g : Nat) : List Int := farN (edges xs) n g n
def goOn (xs : List Leg) (f : List Int) (a : Nat) (p : Nat) : Bool := hasLeg xs ((a : Int), (p : Int)) && (decide (0 ≤ val f p) && decide (val f p + (legD xs ((a : Int), (p : Int))).minutes = val f a))
/-- The least point over which one goes on. -/
def nextOf (xs : List Leg) (f : List Int) (n a : Nat) : Nat := ((List.range n).find? (goOn xs f a)).getD 0
def routeF (xs : List Leg) (f : List Int) (n g : Nat) : Nat → Nat → List Nat
  | 0, a => [a]
  | k + 1, a => if a = g then [a] else a :: routeF xs f n g k (nextOf xs f n a)
structure LegFit (pts : Int) (x : Leg) : Prop where
  f0 : 0 ≤ x.from_
  ft : x.from_ < x.to_
  t1 : x.to_ < pts
  m1 : 1 ≤ x.minutes
  m2 : x.minutes ≤ 600
theorem legs_fit {pts : Int} {xs : List Leg} (hv : legsOk pts xs = true) : ∀ x ∈ xs, LegFit pts x := fun x hx => by
  obtain ⟨k, hk⟩ := List.mem_iff_getElem?.1 hx
  unfold legsOk at hv
  rw [Bool.and_eq_true] at hv
  have h := validL_good (one := Leg.oneB pts) hv.2 hk
  unfold Leg.oneB at h
  simp only [Bool.and_eq_true, inB_iff] at h
  exact ⟨by omega, by omega, by omega, by omega, by omega⟩
theorem mem_edges {xs : List Leg} {e : Nat × Nat × Int} : e ∈ edges xs ↔ ∃ x ∈ xs, e = (x.from_.toNat, x.to_.toNat, x.minutes) ∨ e = (x.to_.toNat, x.from_.toNat, x.minutes) := by
  unfold edges
  simp [List.mem_flatMap, legE]
theorem edges_ok {pts : Int} {xs : List Leg} {n : Nat} (hn : pts = n) (hv : legsOk pts xs = true) : EdgesOk n (edges xs) := fun e he => by
  obtain ⟨x, hx, h⟩ := mem_edges.1 he
  have hf := legs_fit hv x hx
  have := hf.f0
  have := hf.ft
  have := hf.t1
  have := hf.m1
  rcases h with rfl | rfl <;> simp only <;> omega
/-- The ends of a leg name it. -/
theorem leg_one {pts : Int} {xs : List Leg} (hv : legsOk pts xs = true) {x y : Leg} (hx : x ∈ xs) (hy : y ∈ xs) (h1 : x.from_ = y.from_) (h2 : x.to_ = y.to_) : x = y := by
  have hv' := hv
  unfold legsOk at hv'
  rw [Bool.and_eq_true] at hv'
  have up : ∀ (d i : Nat) (a b : Leg), xs[i]? = some a → xs[i + d + 1]? = some b → a.from_ < b.from_ ∨ a.from_ = b.from_ ∧ a.to_ < b.to_ := by
    intro d
    induction d with
    | zero =>
      intro i a b ha hb
      have h := validL_goodrel (one := Leg.oneB pts) hv'.2 ha (by simpa using hb)
      unfold Leg.rel at h
      simp only [Bool.or_eq_true, Bool.and_eq_true, decide_eq_true_eq, beq_iff_eq] at h
      exact h
    | succ d ih =>
      intro i a b ha hb
      have hlt := (List.getElem?_eq_some_iff.1 hb).1
      have hc : xs[i + 1]? = some (xs[i + 1]'(by omega)) := List.getElem?_eq_getElem (by omega)
      have h := validL_goodrel (one := Leg.oneB pts) hv'.2 ha hc
      unfold Leg.rel at h
      simp only [Bool.or_eq_true, Bool.and_eq_true, decide_eq_true_eq, beq_iff_eq] at h
      have h' := ih (i + 1) _ b hc (by rw [show i + 1 + d + 1 = i + (d + 1) + 1 by omega]; exact hb)
      omega
  obtain ⟨i, hi⟩ := List.mem_iff_getElem?.1 hx
  obtain ⟨j, hj⟩ := List.mem_iff_getElem?.1 hy
  rcases Nat.lt_trichotomy i j with h | h | h
  · have := up (j - i - 1) i x y hi (by rw [show i + (j - i - 1) + 1 = j by omega]; exact hj)
    omega
  · subst h; rw [hi] at hj; injection hj
  · have := up (i - j - 1) j y x hj (by rw [show j + (i - j - 1) + 1 = i by omega]; exact hi)
    omega
theorem leg_of_edge {pts : Int} {xs : List Leg} (hv : legsOk pts xs = true) {a b : Nat} {m : Int} (h : (a, b, m) ∈ edges xs) : hasLeg xs ((b : Int), (a : Int)) = true ∧ (legD xs ((b : Int), (a : Int))).minutes = m := by
  obtain ⟨x, hx, he⟩ := mem_edges.1 h
  have hf := legs_fit hv x hx
  have h0 := hf.f0
  have h1 := hf.ft
  have hp : legP (b : Int) (a : Int) x = true := by
    unfold legP
    simp only [Bool.and_eq_true, decide_eq_true_eq]
    rcases he with he | he
    all_goals
      simp only [Prod.mk.injEq] at he
      omega
  have hl : hasLeg xs ((b : Int), (a : Int)) = true := List.any_eq_true.2 ⟨x, hx, hp⟩
  refine ⟨hl, ?_⟩
  obtain ⟨k, hk, _⟩ := leg_ix hl
  have hy : legP (b : Int) (a : Int) (legD xs ((b : Int), (a : Int))) = true := by
    unfold legD
    cases hfd : xs.find? (legP (b : Int) (a : Int)) with
    | none => rw [List.find?_eq_none] at hfd; exact absurd hp (hfd x hx)
    | some y => exact List.find?_some hfd
  have hpq : (legD xs ((b : Int), (a : Int))) = x := by
    refine leg_one hv (List.mem_of_getElem? hk) hx ?_ ?_
    · unfold legP at hp hy; simp only [Bool.and_eq_true, decide_eq_true_eq] at hp hy; omega
    · unfold legP at hp hy; simp only [Bool.and_eq_true, decide_eq_true_eq] at hp hy; omega
  rw [hpq]
  rcases he with he | he
  all_goals
    simp only [Prod.mk.injEq] at he
    exact he.2.2.symm
theorem edge_of_leg {pts : Int} {xs : List Leg} (hv : legsOk pts xs = true) {a b : Nat} (h : hasLeg xs ((a : Int), (b : Int)) = true) : ((b, a, (legD xs ((a : Int), (b : Int))).minutes) ∈ edges xs) ∧ ((a, b, (legD xs ((a : Int), (b : Int))).minutes) ∈ edges xs) := by
  obtain ⟨k, hk, _⟩ := leg_ix h
  have hx := List.mem_of_getElem? hk
  have hf := legs_fit hv _ hx
  have h0 := hf.f0
  have h1 := hf.ft
  have hy : legP (a : Int) (b : Int) (legD xs ((a : Int), (b : Int))) = true := by
    unfold legD
    cases hfd : xs.find? (legP (a : Int) (b : Int)) with
    | none =>
      rw [List.find?_eq_none] at hfd
      unfold hasLeg at h
      rw [List.any_eq_true] at h
      obtain ⟨z, hz, hz2⟩ := h
      exact absurd hz2 (hfd z hz)
    | some y => exact List.find?_some hfd
  unfold legP at hy
  simp only [Bool.and_eq_true, decide_eq_true_eq] at hy
  rcases Nat.le_total a b with hab | hab
  · refine ⟨mem_edges.2 ⟨_, hx, .inr ?_⟩, mem_edges.2 ⟨_, hx, .inl ?_⟩⟩
    · simp only [Prod.mk.injEq, and_true]; omega
    · simp only [Prod.mk.injEq, and_true]; omega
  · refine ⟨mem_edges.2 ⟨_, hx, .inl ?_⟩, mem_edges.2 ⟨_, hx, .inr ?_⟩⟩
    · simp only [Prod.mk.injEq, and_true]; omega
    · simp only [Prod.mk.injEq, and_true]; omega
section
variable {pts : Int} {xs : List Leg} {n g : Nat}
theorem farL_tight (hn : pts = n) (hv : legsOk pts xs = true) (hg : g < n) : Tight g (edges xs) (farL xs n g) := farN_tight hg (edges_ok hn hv) n
theorem farL_closed (hn : pts = n) (hv : legsOk pts xs = true) (hg : g < n) : Closed (farL xs n g) (edges xs) := (far_end hg (edges_ok hn hv) n (by omega)).2.2
theorem farL_len : (farL xs n g).length = n := farN_len n
theorem goOn_iff {f : List Int} {a p : Nat} : goOn xs f a p = true ↔ hasLeg xs ((a : Int), (p : Int)) = true ∧ 0 ≤ val f p ∧ val f p + (legD xs ((a : Int), (p : Int))).minutes = val f a := by simp [goOn]
/-- From every point but the goal one goes on. -/
theorem next_some (hn : pts = n) (hv : legsOk pts xs = true) (hg : g < n) {a : Nat} (h0 : 0 ≤ val (farL xs n g) a) (ha : a ≠ g) : ∃ p, p < n ∧ goOn xs (farL xs n g) a p = true := by
  obtain ⟨⟨q, b, m⟩, he, hb, hq0, hq1⟩ := (farL_tight hn hv hg).pred a h0 ha
  simp only at hb hq0 hq1
  subst hb
  have hl := leg_of_edge hv he
  have ho := edges_ok hn hv _ he
  have hc := farL_closed hn hv hg _ he hq0
  simp only at ho hc
  exact ⟨q, ho.1, goOn_iff.2 ⟨hl.1, hq0, by rw [hl.2]; omega⟩⟩
theorem find_range {P : Nat → Bool} : ∀ {n : Nat}, (∃ p, p < n ∧ P p = true) → ∃ p, (List.range n).find? P = some p ∧ p < n ∧ P p = true ∧ ∀ q, q < p → P q = false := by
  intro n h
  cases hf : (List.range n).find? P with
  | none =>
    obtain ⟨p, hp, hP⟩ := h
    rw [List.find?_eq_none] at hf
    exact absurd hP (hf p (List.mem_range.2 hp))
  | some p =>
    have h1 := List.find?_some hf
    rw [List.find?_eq_some_iff_getElem] at hf
    obtain ⟨_, i, hi, hip, hlt⟩ := hf
    simp only [List.getElem_range] at hip
    subst hip
    refine ⟨i, rfl, by simpa using hi, h1, fun q hq => ?_⟩
    have := hlt q hq
    simpa using this
theorem nextOf_spec (hn : pts = n) (hv : legsOk pts xs = true) (hg : g < n) {a : Nat} (h0 : 0 ≤ val (farL xs n g) a) (ha : a ≠ g) : nextOf xs (farL xs n g) n a < n ∧ goOn xs (farL xs n g) a (nextOf xs (farL xs n g) n a) = true ∧ ∀ q, q < nextOf xs (farL xs n g) n a → goOn xs (farL xs n g) a q = false := by
  obtain ⟨p, h1, h2, h3, h4⟩ := find_range (next_some hn hv hg h0 ha)
  have e : nextOf xs (farL xs n g) n a = p := by unfold nextOf; rw [h1]; rfl
  rw [e]
  exact ⟨h2, h3, h4⟩
theorem nextOf_eq {f : List Int} {a p : Nat} (hp : p < n) (h : goOn xs f a p = true) (hall : ∀ q, q < p → goOn xs f a q = false) : nextOf xs f n a = p := by
  obtain ⟨p', h1, h2, h3, h4⟩ := find_range (n := n) (P := goOn xs f a) ⟨p, hp, h⟩
  have e : p' = p := by
    rcases Nat.lt_trichotomy p p' with h' | h' | h'
    · rw [h4 p h'] at h; cases h
    · exact h'.symm
    · rw [hall p' h'] at h3; cases h3
  unfold nextOf; rw [h1, e]; rfl
theorem goOn_less (hv : legsOk pts xs = true) {f : List Int} {a p : Nat} (h : goOn xs f a p = true) : val f p < val f a := by
  have h1 := goOn_iff.1 h
  obtain ⟨k, hk, _⟩ := leg_ix h1.1
  have := (legs_fit hv _ (List.mem_of_getElem? hk)).m1
  omega
/-- With enough left, more does not change the route. -/
theorem routeF_more (hn : pts = n) (hv : legsOk pts xs = true) (hg : g < n) : ∀ (k a : Nat), 0 ≤ val (farL xs n g) a → val (farL xs n g) a ≤ k → ∀ d, routeF xs (farL xs n g) n g (k + d) a = routeF xs (farL xs n g) n g k a
  | 0, a, h0, h1, d => by
    have ha : a = g := by
      rcases Nat.decEq a g with h | h
      · have hs := nextOf_spec hn hv hg h0 h
        have h2 := goOn_less hv hs.2.1
        have h3 := (goOn_iff.1 hs.2.1).2.1
        omega
      · exact h
    rw [Nat.zero_add]
    cases d with
    | zero => rfl
    | succ d => unfold routeF; rw [if_pos ha]
  | k + 1, a, h0, h1, d => by
    rw [show k + 1 + d = (k + d) + 1 by omega]
    by_cases ha : a = g
    · unfold routeF; rw [if_pos ha, if_pos ha]
    · have hs := nextOf_spec hn hv hg h0 ha
      have h2 := goOn_less hv hs.2.1
      have h3 := (goOn_iff.1 hs.2.1).2.1
      have ih := routeF_more hn hv hg k (nextOf xs (farL xs n g) n a) h3 (by omega) d
      unfold routeF
      rw [if_neg ha, if_neg ha, ih]
end
def fastC (pts : Int) (xs : List Leg) (s g : Int) : Int := if legsOk pts xs = false then 1 else if (inB s 0 (pts - 1) && inB g 0 (pts - 1)) = false then 2 else if val (farL xs pts.toNat g.toNat) s.toNat < 0 then 3 else 0
def fastM (pts : Int) (xs : List Leg) (s g : Int) : Int := if fastC pts xs s g = 0 then val (farL xs pts.toNat g.toNat) s.toNat else 0
def fastR (pts : Int) (xs : List Leg) (s g : Int) : List Int := if fastC pts xs s g = 0 then (routeF xs (farL xs pts.toNat g.toNat) pts.toNat g.toNat (val (farL xs pts.toNat g.toNat) s.toNat).toNat s.toNat).map Int.ofNat else []
theorem edges_len : ∀ xs : List Leg, (edges xs).length = 2 * xs.length
  | [] => rfl
  | x :: xs => by
    have := edges_len xs
    unfold edges at this ⊢
    rw [List.flatMap_cons, List.length_append, this, List.length_cons]
    simp [legE]; omega
theorem edges_600 {pts : Int} {xs : List Leg} (hv : legsOk pts xs = true) : ∀ e ∈ edges xs, e.2.2 ≤ 600 := fun e he => by
  obtain ⟨x, hx, h⟩ := mem_edges.1 he
  have := (legs_fit hv x hx).m2
  rcases h with rfl | rfl <;> exact this
theorem legs_24 {pts : Int} {xs : List Leg} (hv : legsOk pts xs = true) : xs.length ≤ 24 := by
  unfold legsOk at hv
  rw [Bool.and_eq_true] at hv
  exact (validL_spec.1 hv.2).1
theorem farL_bnd {pts : Int} {xs : List Leg} {n g : Nat} (hn : pts = n) (hv : legsOk pts xs = true) (hg : g < n) (k p : Nat) : val (farN (edges xs) n g k) p ≤ 28800 * k :=
  farN_bnd hg (edges_ok hn hv) (edges_600 hv) (by rw [edges_len]; have := legs_24 hv; omega) k p
theorem routeF_len (xs : List Leg) (f : List Int) (n g : Nat) : ∀ k a, (routeF xs f n g k a).length ≤ k + 1
  | 0, a => by simp [routeF]
  | k + 1, a => by
    unfold routeF
    split
    · simp
    · have := routeF_len xs f n g k (nextOf xs f n a)
      simp; omega
theorem fast_zero {pts : Int} {xs : List Leg} {s g : Int} (h : fastC pts xs s g = 0) : legsOk pts xs = true ∧ (0 ≤ s ∧ s ≤ pts - 1) ∧ (0 ≤ g ∧ g ≤ pts - 1) ∧ 0 ≤ val (farL xs pts.toNat g.toNat) s.toNat ∧ 1 ≤ pts ∧ pts ≤ 12 := by
  unfold fastC at h
  cases h1 : legsOk pts xs
  · rw [if_pos h1] at h; cases h
  · rw [if_neg (by rw [h1]; simp)] at h
    cases h2 : (inB s 0 (pts - 1) && inB g 0 (pts - 1))
    · rw [if_pos h2] at h; cases h
    · rw [if_neg (by rw [h2]; simp)] at h
      by_cases h3 : val (farL xs pts.toNat g.toNat) s.toNat < 0
      · rw [if_pos h3] at h; cases h
      · rw [Bool.and_eq_true, inB_iff, inB_iff] at h2
        have h4 := h1
        unfold legsOk at h4
        rw [Bool.and_eq_true, inB_iff] at h4
        exact ⟨rfl, h2.1, h2.2, by omega, h4.1⟩
theorem fastR_len (pts : Int) (xs : List Leg) (s g : Int) : (fastR pts xs s g).length ≤ 1048576 := by
  unfold fastR
  by_cases h : fastC pts xs s g = 0
  · rw [if_pos h, List.length_map]
    obtain ⟨hv, hs, hg, h0, hp1, hp2⟩ := fast_zero h
    have h1 := farL_bnd (pts := pts) (xs := xs) (n := pts.toNat) (g := g.toNat) (by omega) hv (by omega) pts.toNat s.toNat
    have h2 := routeF_len xs (farL xs pts.toNat g.toNat) pts.toNat g.toNat (val (farL xs pts.toNat g.toNat) s.toNat).toNat s.toNat
    unfold farL at h2 h0 ⊢
    omega
  · rw [if_neg h]; simp

end Go.Proofs.YtamgodeiakflbaaDoor
