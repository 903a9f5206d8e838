/- The plain law of NeighboursOf: putting numbers to their places one by one is the sort, where no two are equal. -/
import Derived.Test.YtmldijckjenbcaaGreatDoorBase
import Derived.Test.YtmldijckjenbcaaGreatDoorWays
import Derived.Test.YtmldijckjenbcaaGreatDoorSpecGo
namespace Go.Proofs.YtmldijckjenbcaaGreatDoor
open Go.RowKit

def insT (n : Int) : List Int → List Int
  | [] => [n]
  | x :: xs => if n < x then n :: x :: xs else x :: insT n xs
theorem insT_cons (n x : Int) (l : List Int) : insT n (x :: l) = if n < x then n :: x :: l else x :: insT n l := rfl
theorem insT_perm (n : Int) : ∀ l, (insT n l).Perm (n :: l)
  | [] => List.Perm.refl _
  | x :: xs => by
    unfold insT
    split
    · exact List.Perm.refl _
    · exact ((insT_perm n xs).cons x).trans (List.Perm.swap n x xs)
theorem insT_sorted {n : Int} : ∀ {l : List Int}, l.Pairwise (· ≤ ·) → (insT n l).Pairwise (· ≤ ·)
  | [], _ => by simp [insT]
  | x :: xs, h => by
    have h2 := List.pairwise_cons.1 h
    unfold insT
    split
    · rename_i hlt
      refine List.pairwise_cons.2 ⟨fun y hy => ?_, h⟩
      rcases List.mem_cons.1 hy with e | hy
      · omega
      · have := h2.1 y hy; omega
    · rename_i hlt
      refine List.pairwise_cons.2 ⟨fun y hy => ?_, insT_sorted h2.2⟩
      rcases List.mem_cons.1 ((insT_perm n xs).mem_iff.1 hy) with e | hy
      · omega
      · exact h2.1 y hy
/-- The reference's way of putting a number to its place. -/
def putStep (n : Int) (a : List Int × Bool) (x : Int) : List Int × Bool := if a.2 = false ∧ n ≤ x then ((if n < x then a.1 ++ [n] else a.1) ++ [x], true) else (a.1 ++ [x], a.2)
def putF (n : Int) (l : List Int) : List Int × Bool := l.foldl (putStep n) ([], false)
def putT (n : Int) (l : List Int) : List Int := if (putF n l).2 then (putF n l).1 else (putF n l).1 ++ [n]
theorem putF_snoc (n : Int) (l : List Int) (x : Int) : putF n (l ++ [x]) = putStep n (putF n l) x := by unfold putF; rw [List.foldl_append]; rfl
theorem putF_len (n : Int) (l : List Int) : (putF n l).1.length ≤ l.length + 1 := by
  unfold putF
  have key : ∀ (l : List Int) (a : List Int × Bool), (a.2 = false → (l.foldl (putStep n) a).1.length ≤ a.1.length + l.length + 1) ∧ (a.2 = true → (l.foldl (putStep n) a).1.length = a.1.length + l.length) := by
    intro l
    induction l with
    | nil => intro a; exact ⟨fun _ => by simp, fun _ => by simp⟩
    | cons x l ih =>
      intro a
      rw [List.foldl_cons]
      constructor
      · intro ha
        by_cases h : a.2 = false ∧ n ≤ x
        · have e : putStep n a x = ((if n < x then a.1 ++ [n] else a.1) ++ [x], true) := by unfold putStep; rw [if_pos h]
          rw [e]
          have := (ih ((if n < x then a.1 ++ [n] else a.1) ++ [x], true)).2 rfl
          rw [this]
          simp only [List.length_append, List.length_cons, List.length_nil]
          split <;> simp <;> omega
        · have e : putStep n a x = (a.1 ++ [x], a.2) := by unfold putStep; rw [if_neg h]
          rw [e]
          have := (ih (a.1 ++ [x], a.2)).1 ha
          simp only [List.length_append, List.length_cons, List.length_nil] at this ⊢
          omega
      · intro ha
        have e : putStep n a x = (a.1 ++ [x], a.2) := by unfold putStep; rw [if_neg (fun h => by rw [ha] at h; cases h.1)]
        rw [e]
        have := (ih (a.1 ++ [x], a.2)).2 ha
        simp only [List.length_append, List.length_cons, List.length_nil] at this ⊢
        omega
  have := (key l ([], false)).1 rfl
  simpa using this
theorem put_true (n : Int) : ∀ (l o : List Int), l.foldl (putStep n) (o, true) = (o ++ l, true)
  | [], o => by simp
  | x :: l, o => by
    rw [List.foldl_cons, show putStep n (o, true) x = (o ++ [x], true) by unfold putStep; rw [if_neg (fun h => by cases h.1)], put_true n l]
    simp
theorem put_ins (n : Int) : ∀ (l o : List Int), n ∉ l → (if (l.foldl (putStep n) (o, false)).2 then (l.foldl (putStep n) (o, false)).1 else (l.foldl (putStep n) (o, false)).1 ++ [n]) = o ++ insT n l
  | [], o, _ => by simp [insT]
  | x :: l, o, h => by
    have hx : n ≠ x := fun e => h (by simp [e])
    have hl : n ∉ l := fun e => h (by simp [e])
    rw [List.foldl_cons]
    by_cases hlt : n < x
    · rw [show putStep n (o, false) x = (o ++ [n] ++ [x], true) by unfold putStep; rw [if_pos ⟨rfl, by omega⟩, if_pos hlt], put_true]
      rw [insT_cons, if_pos rfl, if_pos hlt]
      simp
    · rw [show putStep n (o, false) x = (o ++ [x], false) by unfold putStep; rw [if_neg (fun h => by have := h.2; omega)], put_ins n l _ hl]
      rw [insT_cons, if_neg hlt]
      simp
theorem putT_ins {n : Int} {l : List Int} (h : n ∉ l) : putT n l = insT n l := by
  have := put_ins n l [] h
  unfold putT putF
  rw [this]; rfl
theorem sorted_unique : ∀ {a b : List Int}, a.Perm b → a.Pairwise (· ≤ ·) → b.Pairwise (· ≤ ·) → a = b
  | [], b, h, _, _ => h.nil_eq
  | x :: a, [], h, _, _ => absurd h.length_eq (by simp)
  | x :: a, y :: b, h, ha, hb => by
    have h1 := List.pairwise_cons.1 ha
    have h2 := List.pairwise_cons.1 hb
    have hxy : x = y := by
      have hx : x ∈ y :: b := h.mem_iff.1 (by simp)
      have hy : y ∈ x :: a := h.mem_iff.2 (by simp)
      rcases List.mem_cons.1 hx with e | hx
      · exact e
      · rcases List.mem_cons.1 hy with e | hy
        · exact e.symm
        · have := h2.1 x hx
          have := h1.1 y hy
          omega
    subst hxy
    rw [sorted_unique h.cons_inv h1.2 h2.2]
/-- The cells next to a cell in the first k directions, by directions. -/
def cellsT (g : Grid) (c k : Nat) : List Int := (nextT g c k).map Stp.cell
/-- The same, put to their places one by one. -/
def nearT (g : Grid) (c : Nat) : Nat → List Int
  | 0 => []
  | k + 1 => if inC g c k then putT (goC g c k) (nearT g c k) else nearT g c k
theorem cellsT_in {g : Grid} {c k : Nat} (h : inC g c k = true) : cellsT g c (k + 1) = cellsT g c k ++ [goC g c k] := by unfold cellsT; rw [nextT_in h, List.map_append]; rfl
theorem cellsT_out {g : Grid} {c k : Nat} (h : inC g c k = false) : cellsT g c (k + 1) = cellsT g c k := by unfold cellsT; rw [nextT_out h]
theorem goC_inj {g : Grid} {c j k : Nat} (hj : inC g c j = true) (hk : inC g c k = true) (hj8 : j < 8) (hk8 : k < 8) (h : goC g c j = goC g c k) : j = k := by
  unfold inC at hj hk
  rw [Bool.and_eq_true] at hj hk
  have c1 := inB_iff.1 hj.2
  have c2 := inB_iff.1 hk.2
  unfold goC at h
  have hdiv : ∀ r q m : Int, 0 ≤ q → q ≤ m - 1 → (r * m + q) / m = r := fun r q m h1 h2 => by
    rw [Int.add_comm, Int.add_mul_ediv_right _ _ (by omega), Int.ediv_eq_zero_of_lt h1 (by omega)]; omega
  have hr : rowC g c j = rowC g c k := by
    rw [← hdiv (rowC g c j) (colC g c j) g.columns c1.1 c1.2, h, hdiv (rowC g c k) (colC g c k) g.columns c2.1 c2.2]
  have hcc : colC g c j = colC g c k := by rw [hr] at h; omega
  unfold rowC at hr
  unfold colC at hcc
  have h1 : dr j = dr k := by omega
  have h2 : dc j = dc k := by omega
  have hj' : j = 0 ∨ j = 1 ∨ j = 2 ∨ j = 3 ∨ j = 4 ∨ j = 5 ∨ j = 6 ∨ j = 7 := by omega
  have hk' : k = 0 ∨ k = 1 ∨ k = 2 ∨ k = 3 ∨ k = 4 ∨ k = 5 ∨ k = 6 ∨ k = 7 := by omega
  rcases hj' with rfl | rfl | rfl | rfl | rfl | rfl | rfl | rfl <;> rcases hk' with rfl | rfl | rfl | rfl | rfl | rfl | rfl | rfl <;> first | rfl | (exfalso; revert h1 h2; decide)
theorem near_perm {g : Grid} {c : Nat} : ∀ k, k ≤ 8 → (nearT g c k).Perm (cellsT g c k) ∧ (nearT g c k).Pairwise (· ≤ ·)
  | 0, _ => ⟨List.Perm.refl _, List.Pairwise.nil⟩
  | k + 1, hk => by
    have ih := near_perm (g := g) (c := c) k (by omega)
    unfold nearT
    cases hin : inC g c k
    · rw [cellsT_out hin, if_neg (by simp)]; exact ih
    · have hni : goC g c k ∉ nearT g c k := fun hm => by
        have hm := ih.1.mem_iff.1 hm
        unfold cellsT nextT at hm
        rw [List.map_map] at hm
        obtain ⟨j, hj, he⟩ := List.mem_map.1 hm
        rw [List.mem_filter, List.mem_range] at hj
        have := goC_inj hj.2 hin (by omega) (by omega) he
        omega
      rw [if_pos rfl, putT_ins hni, cellsT_in hin]
      exact ⟨(insT_perm _ _).trans ((ih.1.cons _).trans (List.perm_append_singleton _ _).symm), insT_sorted ih.2⟩
theorem near_sort (g : Grid) (c : Nat) : nearT g c 8 = (cellsT g c 8).mergeSort fun x y => decide (x ≤ y) := by
  have h := near_perm (g := g) (c := c) 8 (Nat.le_refl _)
  have hs := List.pairwise_mergeSort (le := fun x y : Int => decide (x ≤ y)) (fun a b c h1 h2 => by simp at h1 h2 ⊢; omega) (fun a b => by simp; omega) (cellsT g c 8)
  exact sorted_unique (h.1.trans (List.mergeSort_perm _ _).symm) h.2 (hs.imp (fun h => by simpa using h))
theorem nearT_len (g : Grid) (c : Nat) {k : Nat} (hk : k ≤ 8) : (nearT g c k).length ≤ 8 := by
  rw [(near_perm k hk).1.length_eq]
  unfold cellsT
  rw [List.length_map]
  have := nextT_len g c k
  omega

end Go.Proofs.YtmldijckjenbcaaGreatDoor
