/- A rising list of numbers with one more put in. -/
import Derived.Test.YthlgfmdlecdchaaBase
import Derived.Test.YthlgfmdlecdchaaMem
import Derived.Test.YthlgfmdlecdchaaTInt64
import Derived.Test.YthlgfmdlecdchaaGrids
namespace Go.Proofs.Ythlgfmdlecdchaa
open Go.RowKit

/-- What has been copied of xs behind i places, x put in where d is true. -/
structure PutInv (xs : List Int) (x : Int) (i : Nat) (o : List Int) (d : Bool) : Prop where
  pw : o.Pairwise (· < ·)
  mem : ∀ y ∈ o, y = x ∨ y ∈ xs
  lt : ∀ y ∈ o, ∀ j z, i ≤ j → xs[j]? = some z → y < z
  nd : d = false → ∀ y ∈ o, y < x
  len : o.length ≤ i + 1
  len0 : d = false → o.length ≤ i
theorem PutInv.zero (xs : List Int) (x : Int) : PutInv xs x 0 [] false := ⟨List.Pairwise.nil, by simp, by simp, by simp, by simp, by simp⟩
theorem pw_snoc {o : List Int} {y : Int} (h : o.Pairwise (· < ·)) (hy : ∀ z ∈ o, z < y) : (o ++ [y]).Pairwise (· < ·) := by
  rw [List.pairwise_append]
  exact ⟨h, List.pairwise_singleton _ _, fun a ha b hb => by simp at hb; rw [hb]; exact hy a ha⟩
theorem pw_at {xs : List Int} (h : xs.Pairwise (· < ·)) {i j : Nat} {y z : Int} (hi : xs[i]? = some y) (hj : xs[j]? = some z) (hij : i < j) : y < z := by
  obtain ⟨h1, e1⟩ := List.getElem?_eq_some_iff.1 hi
  obtain ⟨h2, e2⟩ := List.getElem?_eq_some_iff.1 hj
  rw [← e1, ← e2]
  exact List.pairwise_iff_getElem.1 h i j h1 h2 hij
/-- The next place is copied. -/
theorem PutInv.copy {xs : List Int} {x y : Int} {i : Nat} {o : List Int} {d : Bool} (h : PutInv xs x i o d) (hxs : xs.Pairwise (· < ·)) (hy : xs[i]? = some y) (hd : d = false → y < x) : PutInv xs x (i + 1) (o ++ [y]) d where
  pw := pw_snoc h.pw (fun z hz => h.lt z hz i y (Nat.le_refl _) hy)
  mem := fun z hz => by
    rcases List.mem_append.1 hz with hz | hz
    · exact h.mem z hz
    · simp at hz; rw [hz]; exact .inr (List.mem_of_getElem? hy)
  lt := fun z hz j u hj hu => by
    rcases List.mem_append.1 hz with hz | hz
    · exact h.lt z hz j u (by omega) hu
    · simp at hz; rw [hz]; exact pw_at hxs hy hu (by omega)
  nd := fun hd' z hz => by
    rcases List.mem_append.1 hz with hz | hz
    · exact h.nd hd' z hz
    · simp at hz; rw [hz]; exact hd hd'
  len := by have := h.len; simp; omega
  len0 := fun hd' => by have := h.len0 hd'; simp; omega
/-- The next place is x itself. -/
theorem PutInv.same {xs : List Int} {x : Int} {i : Nat} {o : List Int} (h : PutInv xs x i o false) (hxs : xs.Pairwise (· < ·)) (hy : xs[i]? = some x) : PutInv xs x (i + 1) (o ++ [x]) true where
  pw := pw_snoc h.pw (fun z hz => h.lt z hz i x (Nat.le_refl _) hy)
  mem := fun z hz => by
    rcases List.mem_append.1 hz with hz | hz
    · exact h.mem z hz
    · simp at hz; exact .inl hz
  lt := fun z hz j u hj hu => by
    rcases List.mem_append.1 hz with hz | hz
    · exact h.lt z hz j u (by omega) hu
    · simp at hz; rw [hz]; exact pw_at hxs hy hu (by omega)
  nd := by simp
  len := by have := h.len0 rfl; simp; omega
  len0 := by simp
/-- x is put in ahead of the next place. -/
theorem PutInv.put {xs : List Int} {x y : Int} {i : Nat} {o : List Int} (h : PutInv xs x i o false) (hxs : xs.Pairwise (· < ·)) (hy : xs[i]? = some y) (hlt : x < y) : PutInv xs x (i + 1) (o ++ [x] ++ [y]) true where
  pw := pw_snoc (pw_snoc h.pw (h.nd rfl)) (fun z hz => by
    rcases List.mem_append.1 hz with hz | hz
    · exact h.lt z hz i y (Nat.le_refl _) hy
    · simp at hz; rw [hz]; exact hlt)
  mem := fun z hz => by
    rcases List.mem_append.1 hz with hz | hz
    · rcases List.mem_append.1 hz with hz | hz
      · exact h.mem z hz
      · simp at hz; exact .inl hz
    · simp at hz; rw [hz]; exact .inr (List.mem_of_getElem? hy)
  lt := fun z hz j u hj hu => by
    have hyu := pw_at hxs hy hu (by omega)
    rcases List.mem_append.1 hz with hz | hz
    · rcases List.mem_append.1 hz with hz | hz
      · exact h.lt z hz j u (by omega) hu
      · simp at hz; rw [hz]; omega
    · simp at hz; rw [hz]; exact hyu
  nd := by simp
  len := by have := h.len0 rfl; simp; omega
  len0 := by simp
/-- What comes out. -/
structure Put1 (xs : List Int) (x : Int) (o : List Int) : Prop where
  pw : o.Pairwise (· < ·)
  mem : ∀ y ∈ o, y = x ∨ y ∈ xs
  len : o.length ≤ xs.length + 1
  pos : 0 < o.length
theorem PutInv.done {xs : List Int} {x : Int} {o : List Int} {n : Nat} (h : PutInv xs x n o true) (hn : xs.length = n) (hp : 0 < o.length) : Put1 xs x o := ⟨h.pw, h.mem, by have := h.len; omega, hp⟩
theorem PutInv.more {xs : List Int} {x : Int} {o : List Int} {n : Nat} (h : PutInv xs x n o false) (hn : xs.length = n) : Put1 xs x (o ++ [x]) :=
  ⟨pw_snoc h.pw (h.nd rfl), fun z hz => by
    rcases List.mem_append.1 hz with hz | hz
    · exact h.mem z hz
    · simp at hz; exact .inl hz, by have := h.len0 rfl; simp; omega, by simp⟩
/-- A rising list within bounds is good cells. -/
theorem rises_of {q : Option Int} : ∀ (xs : List Int), xs.Pairwise (· < ·) → (∀ p, q = some p → ∀ y ∈ xs, p < y) → goodFrom (fun _ => true) risesRel q xs = true
  | [], _, _ => by simp [goodFrom]
  | y :: ys, h, hq => by
    obtain ⟨h1, h2⟩ := List.pairwise_cons.1 h
    have ih := rises_of (q := some y) ys h2 (fun p hp z hz => by injection hp with hp; rw [← hp]; exact h1 z hz)
    cases q with
    | none => unfold goodFrom; simp [ih]
    | some p =>
      have := hq p rfl y (by simp)
      unfold goodFrom
      simp [ih, risesRel, this]
theorem risesB_of {xs : List Int} (h : xs.Pairwise (· < ·)) : risesB xs = true := rises_of xs h (by simp)

end Go.Proofs.Ythlgfmdlecdchaa
