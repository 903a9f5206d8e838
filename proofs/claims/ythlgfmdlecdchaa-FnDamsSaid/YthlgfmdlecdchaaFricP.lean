/- The plain law of the least friction: the first one of the sorted candidates is what a search keeps. -/
import Derived.Test.YthlgfmdlecdchaaRunE
import Derived.Test.YthlgfmdlecdchaaHits
import Derived.Lib.SlicesCompact
namespace Go.Proofs.Ythlgfmdlecdchaa
open Go.RowKit

def candC (l : List Stp) : List Int := (l.filter fun x => inB x.slope 1 4999).map fun x => x.slope + 1
def candL (g : Grid) : Nat → List Int
  | 0 => []
  | k + 1 => candL g k ++ candC (nextT g k 8)
def searchL (g : Grid) : Nat → List Int
  | 0 => []
  | k + 1 => searchL g k ++ (waysT g 1 k 8).map fun x => x.slope + 1
def missB (g : Grid) (ms : List Int) (cell : Nat) (f : Int) : Bool := decide ((stT g f ms (runN g f ms)).times.getD cell 0 < 0)
def leI (x y : Int) : Bool := decide (x ≤ y)
def fricO (p : Int → Bool) (l : List Int) : Option Int := ((1 :: l).mergeSort fun x y => decide (x ≤ y)).find? p
theorem find_least {p : Int → Bool} {L : List Int} {m : Int} (hs : L.Pairwise (· ≤ ·)) (hm : m ∈ L) (hp : p m = true) (hl : ∀ x ∈ L, p x = true → m ≤ x) : L.find? p = some m := by
  cases hf : L.find? p with
  | none => rw [List.find?_eq_none] at hf; exact absurd hp (hf m hm)
  | some y =>
    obtain ⟨hy, l1, l2, hL, has⟩ := List.find?_eq_some_iff_append.1 hf
    have h1 := hl y (by rw [hL]; simp) hy
    have h2 : y ≤ m := by
      rw [hL] at hm hs
      rcases List.mem_append.1 hm with h | h
      · have := has m h; rw [hp] at this; cases this
      · rcases List.mem_cons.1 h with h | h
        · rw [h]; exact Int.le_refl _
        · exact (List.pairwise_cons.1 (List.pairwise_append.1 hs).2.1).1 m h
    rw [show y = m by omega]
theorem sorted_merge (l : List Int) : (l.mergeSort fun x y => decide (x ≤ y)).Pairwise (· ≤ ·) := by
  have h := List.pairwise_mergeSort (le := fun x y : Int => decide (x ≤ y)) (fun a b c h1 h2 => by simp at h1 h2 ⊢; omega) (fun a b => by simp; omega) l
  exact h.imp (fun h => by simpa using h)
/-- What the search has kept of the candidates it has seen. -/
structure Kept (p : Int → Bool) (seen : List Int) (b : Int) (fd : Bool) : Prop where
  no : fd = false → b = 5000 ∧ ∀ f ∈ seen, f ≤ 5000 → p f = false
  yes : fd = true → b ∈ seen ∧ b ≤ 5000 ∧ p b = true ∧ ∀ f ∈ seen, f ≤ 5000 → p f = true → b ≤ f
theorem Kept.start (p : Int → Bool) : Kept p [] 5000 false := ⟨fun _ => ⟨rfl, by simp⟩, fun h => by cases h⟩
theorem Kept.take {p : Int → Bool} {seen : List Int} {b f : Int} {fd : Bool} (h : Kept p seen b fd) (h1 : f ≤ b) (h2 : f ≤ 5000) (h3 : p f = true) : Kept p (seen ++ [f]) f true := by
  refine ⟨fun h => (by cases h), fun _ => ⟨by simp, h2, h3, fun x hx hx5 hpx => ?_⟩⟩
  rcases List.mem_append.1 hx with hx | hx
  · cases fd with
    | false => rw [(h.no rfl).2 x hx hx5] at hpx; cases hpx
    | true => have := (h.yes rfl).2.2.2 x hx hx5 hpx; omega
  · simp at hx; omega
theorem Kept.leave {p : Int → Bool} {seen : List Int} {b f : Int} {fd : Bool} (h : Kept p seen b fd) (hn : ¬ (f ≤ b ∧ f ≤ 5000 ∧ p f = true)) : Kept p (seen ++ [f]) b fd := by
  refine ⟨fun hf => ⟨(h.no hf).1, fun x hx hx5 => ?_⟩, fun hf => ?_⟩
  · rcases List.mem_append.1 hx with hx | hx
    · exact (h.no hf).2 x hx hx5
    · simp at hx
      subst hx
      have := (h.no hf).1
      cases hp : p x with
      | false => rfl
      | true => exact absurd ⟨by omega, hx5, hp⟩ hn
  · obtain ⟨a1, a2, a3, a4⟩ := h.yes hf
    refine ⟨by simp [a1], a2, a3, fun x hx hx5 hpx => ?_⟩
    rcases List.mem_append.1 hx with hx | hx
    · exact a4 x hx hx5 hpx
    · simp at hx
      subst hx
      rcases Int.lt_or_le b x with h5 | h5
      · omega
      · exact absurd ⟨h5, hx5, hpx⟩ hn
theorem slC_down {g : Grid} {c k : Nat} (hgb : gridB g = true) (hs : 1 ≤ slC g c k) : ht g (goC g c k) < ht g c := by
  have hp := gridB_parts hgb
  rcases Int.lt_or_le (ht g (goC g c k)) (ht g c) with h | h
  · exact h
  · exfalso
    have key : ∀ a b : Int, a ≤ 0 → 1 ≤ b → rndDiv a b ≤ 0 := by
      intro a b ha hb
      unfold rndDiv
      rw [if_neg (by omega)]
      unfold rnd
      rcases Int.lt_or_le a 0 with hn | hn
      · rw [if_neg (by omega)]
        have h0 : 0 ≤ (b - 2 * a) / (2 * b) := Int.ediv_nonneg (by omega) (by omega)
        omega
      · have : a = 0 := by omega
        subst this
        rw [if_pos (by omega)]
        have : (2 * 0 + b) / (2 * b) = 0 := Int.ediv_eq_zero_of_lt (by omega) (by omega)
        omega
    have h1 : slC g c k ≤ 0 := by
      unfold slC
      split
      · exact key _ _ (by omega) (by omega)
      · exact key _ _ (by omega) (by omega)
    omega
theorem cand_search {g : Grid} (hgb : gridB g = true) (n : Nat) (f : Int) : f ∈ candL g n ↔ f ∈ searchL g n ∧ f ≤ 5000 := by
  induction n with
  | zero => simp [candL, searchL]
  | succ k ih =>
    unfold candL searchL
    rw [List.mem_append, List.mem_append, ih]
    have h2 : f ∈ candC (nextT g k 8) ↔ f ∈ ((waysT g 1 k 8).map fun x => x.slope + 1) ∧ f ≤ 5000 := by
      unfold candC waysT
      rw [List.mem_map, List.mem_map]
      constructor
      · rintro ⟨x, hx, rfl⟩
        rw [List.mem_filter] at hx
        obtain ⟨hx, hb⟩ := hx
        have hb := inB_iff.1 hb
        refine ⟨⟨x, ?_, rfl⟩, by omega⟩
        rw [List.mem_filter]
        refine ⟨hx, ?_⟩
        unfold nextT at hx
        obtain ⟨d, _, rfl⟩ := List.mem_map.1 hx
        unfold wayB
        rw [Bool.and_eq_true, decide_eq_true_eq, decide_eq_true_eq]
        exact ⟨slC_down hgb hb.1, hb.1⟩
      · rintro ⟨⟨x, hx, rfl⟩, h5⟩
        rw [List.mem_filter] at hx
        obtain ⟨hx, hb⟩ := hx
        unfold wayB at hb
        rw [Bool.and_eq_true, decide_eq_true_eq, decide_eq_true_eq] at hb
        refine ⟨x, ?_, rfl⟩
        rw [List.mem_filter]
        exact ⟨hx, inB_iff.2 ⟨hb.2, by omega⟩⟩
    rw [h2]
    constructor
    · rintro (h | h)
      · exact ⟨.inl h.1, h.2⟩
      · exact ⟨.inr h.1, h.2⟩
    · rintro ⟨h | h, h5⟩
      · exact .inl ⟨h, h5⟩
      · exact .inr ⟨h, h5⟩
theorem fric_one {p : Int → Bool} {l : List Int} (hp : p 1 = true) (hl : ∀ x ∈ l, 1 ≤ x) : fricO p l = some 1 := by
  refine find_least (sorted_merge _) ((List.mergeSort_perm _ _).mem_iff.2 (by simp)) hp (fun x hx _ => ?_)
  rcases List.mem_cons.1 ((List.mergeSort_perm _ _).mem_iff.1 hx) with h | h
  · omega
  · exact hl x h
theorem fric_kept {p : Int → Bool} {l seen : List Int} {b : Int} {fd : Bool} (h1 : p 1 = false) (hc : ∀ f, f ∈ l ↔ f ∈ seen ∧ f ≤ 5000) (h : Kept p seen b fd) : fricO p l = if fd then some b else none := by
  cases fd with
  | false =>
    rw [if_neg (by simp)]
    unfold fricO
    rw [List.find?_eq_none]
    intro x hx
    rcases List.mem_cons.1 ((List.mergeSort_perm _ _).mem_iff.1 hx) with e | hx
    · rw [e, h1]; simp
    · have := (hc x).1 hx
      rw [(h.no rfl).2 x this.1 this.2]; simp
  | true =>
    rw [if_pos rfl]
    obtain ⟨a1, a2, a3, a4⟩ := h.yes rfl
    refine find_least (sorted_merge _) ((List.mergeSort_perm _ _).mem_iff.2 (List.mem_cons.2 (.inr ((hc b).2 ⟨a1, a2⟩)))) a3 (fun x hx hpx => ?_)
    rcases List.mem_cons.1 ((List.mergeSort_perm _ _).mem_iff.1 hx) with e | hx
    · rw [e, h1] at hpx; cases hpx
    · have := (hc x).1 hx
      exact a4 x this.1 this.2 hpx
theorem compactUpTo_find (d : Array Int) (p : Int → Bool) : ∀ m, m ≤ d.size → (Lib.compactUpTo d m).find? p = (d.toList.take m).find? p
  | 0, _ => by simp [Lib.compactUpTo]
  | m + 1, h => by
    have ih := compactUpTo_find d p m (by omega)
    have hd : d.toList[m]? = some d[m]! := by rw [getElem!_pos d m (by omega)]; simp
    rw [Lib.compactUpTo_succ, List.find?_append, ih, take_snoc hd, List.find?_append]
    by_cases hk : Lib.keeps d m = true
    · rw [if_pos hk]
    · rw [if_neg hk]
      cases hf : (d.toList.take m).find? p with
      | some y => rfl
      | none =>
        have hm : m ≠ 0 := fun e => hk (by subst e; exact Lib.keeps_lt_one d 0 (by omega))
        have he : d[m]! = d[m - 1]! := by
          by_cases h2 : d[m]! = d[m - 1]!
          · exact h2
          · exact absurd (Lib.keeps_pos h2) hk
        rw [List.find?_eq_none] at hf
        have hmem : d[m - 1]! ∈ d.toList.take m := by
          rw [getElem!_pos d (m - 1) (by omega)]
          refine List.mem_iff_getElem?.2 ⟨m - 1, ?_⟩
          rw [List.getElem?_take_of_lt (by omega)]
          simp
        have := hf _ hmem
        rw [he]
        simp [this]
theorem compact_find (zs : List Int) (p : Int → Bool) : (Lib.compact zs).find? p = zs.find? p := by
  unfold Lib.compact
  rw [compactUpTo_find _ _ _ (by simp)]
  simp
theorem reach_has {ts : List Int} {n c : Nat} (hc : c < n) : hasB (reachT ts n) c = decide (0 ≤ ts.getD c 0) := by
  unfold hasB
  rw [Bool.eq_iff_iff, List.any_eq_true, decide_eq_true_eq]
  constructor
  · rintro ⟨x, hx, he⟩
    obtain ⟨k, rfl, _, h⟩ := reachT_mem hx
    have : c = k := by have := of_decide_eq_true he; omega
    subst this; exact h
  · intro h
    refine ⟨(c : Int), ?_, by simp⟩
    unfold reachT
    refine List.mem_map.2 ⟨c, ?_, rfl⟩
    rw [List.mem_filter, List.mem_range, decide_eq_true_eq]
    exact ⟨hc, h⟩

end Go.Proofs.Ythlgfmdlecdchaa
