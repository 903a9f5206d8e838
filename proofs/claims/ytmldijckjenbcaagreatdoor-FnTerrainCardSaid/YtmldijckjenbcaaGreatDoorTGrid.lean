/- The struct type Grid of the laws, which holds a slice: how it lies in memory, how an argument of it is opened, and what the laws' own helpers of it return. -/
import Derived.Test.YtmldijckjenbcaaGreatDoorBase
import Derived.Test.YtmldijckjenbcaaGreatDoorMem
import Derived.Test.YtmldijckjenbcaaGreatDoorTInt64
namespace Go.Proofs.YtmldijckjenbcaaGreatDoor
open Go.RowKit

structure Grid where
  rows : Int
  columns : Int
  size : Int
  heights : List Int
structure GridR where
  rows : Int
  columns : Int
  size : Int
  heightsA : Option Addr
  heightsN : Nat
  heightsC : Nat
  heights : List Int
def GridR.val (x : GridR) : Grid := ⟨x.rows, x.columns, x.size, x.heights⟩
def GridR.cells (x : GridR) : List Value := [.int .i64 x.rows, .int .i64 x.columns, .int .i64 x.size, .slice x.heightsA x.heightsN x.heightsC]
instance : Inhabited GridR := ⟨⟨0, 0, 0, none, 0, 0, []⟩⟩
theorem GridR.cells_len (x : GridR) : x.cells.length = 4 := rfl
theorem GridR.cells_one (x : GridR) : ∀ u ∈ x.cells, u.oneCell' = true := by intro u hu; simp [GridR.cells] at hu; rcases hu with rfl | rfl | rfl | rfl <;> rfl
def GridR.In (x : GridR) (w : World) : Prop := SliceOf w 1 i64cells x.heightsA x.heightsN x.heights ∧ x.heightsN ≤ x.heightsC ∧ x.heightsC ≤ maxLen
theorem GridR.In.below {x : GridR} {w w' : World} (h : x.In w) (hb : Below w.heap.size w w') : x.In w' := ⟨h.1.below hb, h.2⟩
def Grid.Good (x : Grid) : Prop := I64 x.rows ∧ I64 x.columns ∧ I64 x.size ∧ ∀ y ∈ x.heights, I64 y
def Grid.eqB (x y : Grid) : Bool := decide (x.rows = y.rows) && decide (x.columns = y.columns) && decide (x.size = y.size) && Int64.eqSB x.heights y.heights
theorem Grid.eqB_self (x : Grid) : x.eqB x = true := by simp [Grid.eqB, Int64.eqSB_self]
def Grid.Sl (w : World) (A : Option Addr) (n : Nat) (xs : List Grid) : Prop := ∃ ps : List GridR, SliceOf w 4 GridR.cells A n ps ∧ (∀ p ∈ ps, p.In w) ∧ xs = ps.map GridR.val
section
variable {w w' : World} {A : Option Addr} {n : Nat} {xs : List Grid}
theorem Grid.Sl.len (h : Grid.Sl w A n xs) : xs.length = n := by obtain ⟨ps, h1, _, rfl⟩ := h; rw [List.length_map]; exact h1.len
theorem Grid.Sl.le (h : Grid.Sl w A n xs) : n ≤ 9223372036854775807 := by obtain ⟨ps, h1, _, rfl⟩ := h; exact h1.le
theorem Grid.Sl.below (h : Grid.Sl w A n xs) (hb : Below w.heap.size w w') : Grid.Sl w' A n xs := by
  obtain ⟨ps, h1, h2, rfl⟩ := h
  exact ⟨ps, h1.below hb, fun p hp => (h2 p hp).below hb, rfl⟩
theorem Grid.Sl.at_ (h : Grid.Sl w A n xs) {k : Nat} (hk : k < n) :
    ∃ b off r, A = some ⟨b, off, none⟩ ∧ b < w.heap.size ∧ xs[k]? = some (r : GridR).val ∧ r.In w ∧ w.cell? ⟨b, off + k * 4, none⟩ = some (.int .i64 r.rows) ∧ w.cell? ⟨b, off + k * 4 + 1, none⟩ = some (.int .i64 r.columns) ∧ w.cell? ⟨b, off + k * 4 + 2, none⟩ = some (.int .i64 r.size) ∧ w.cell? ⟨b, off + k * 4 + 3, none⟩ = some (.slice r.heightsA r.heightsN r.heightsC) := by
  obtain ⟨ps, h1, h2, rfl⟩ := h
  obtain ⟨b, off, r, hA, hb, hx, hc⟩ := h1.at_ hk
  exact ⟨b, off, r, hA, hb, by rw [List.getElem?_map, hx]; rfl, h2 r (List.mem_of_getElem? hx), hc 0 _ rfl, hc 1 _ rfl, hc 2 _ rfl, hc 3 _ rfl⟩
end
def Grid.Own (w : World) (base : Nat) (v : Value) (xs : List Grid) : Prop := ∃ ps : List GridR, OwnsL w base 26 4 GridR.cells v ps ∧ (∀ p ∈ ps, OwnsL w base 2 1 i64cells (.slice p.heightsA p.heightsN p.heightsC) p.heights) ∧ xs = ps.map GridR.val
theorem GridR.in_of {w : World} {base : Nat} {e : TypeId} {p : GridR} (h : OwnsL w base e 1 i64cells (.slice p.heightsA p.heightsN p.heightsC) p.heights) : p.In w := by
  obtain ⟨A', c', h1, h2, h3, h4⟩ := h.slice i64cells_len
  injection h1 with e1 e2 e3
  unfold GridR.In
  rw [e1, e2, e3]
  exact ⟨h4, h2, h3⟩
section
variable {w w' : World} {base : Nat} {v : Value} {xs : List Grid}
theorem Grid.Own.slice (h : Grid.Own w base v xs) : ∃ A c, v = .slice A xs.length c ∧ xs.length ≤ c ∧ c ≤ maxLen ∧ Grid.Sl w A xs.length xs := by
  obtain ⟨ps, h1, h2, rfl⟩ := h
  obtain ⟨A, c, h3, h4, h5, h6⟩ := h1.slice GridR.cells_len
  rw [List.length_map]
  exact ⟨A, c, h3, h4, h5, ps, h6, fun p hp => GridR.in_of (h2 p hp), rfl⟩
theorem Grid.Own.sl {A : Option Addr} {n c : Nat} (h : Grid.Own w base (.slice A n c) xs) : Grid.Sl w A n xs := by
  obtain ⟨A', c', h1, _, _, h2⟩ := h.slice
  injection h1 with e1 e2 e3
  subst e1 e2 e3
  exact h2
theorem Grid.Own.below' (h : Grid.Own w base v xs) (hb : Below w.heap.size w w') : Grid.Own w' base v xs := by
  obtain ⟨ps, h1, h2, h3⟩ := h
  exact ⟨ps, h1.below' hb, fun p hp => (h2 p hp).below' hb, h3⟩
theorem Grid.Own.span {lo hi : Nat} (h : Grid.Own w base v xs) (hs : Span lo hi w w') (hb : hi ≤ base) : Grid.Own w' base v xs := by
  obtain ⟨ps, h1, h2, h3⟩ := h
  exact ⟨ps, h1.span hs (fun k hk => .inr (Nat.le_trans hb (h1.lt k hk).1)), fun p hp => (h2 p hp).span hs (fun k hk => .inr (Nat.le_trans hb ((h2 p hp).lt k hk).1)), h3⟩
end

section
variable {H : Type} {enc : TypeId × Value → H} {w : World} {spare : Nat → Bool} {held : Bool}
end



def GridR.Ret (y : Grid) (w : World) (e : Ending) (w' : World) : Prop := ∃ p : GridR, e = .returned (.agg #[.int .i64 p.rows, .int .i64 p.columns, .int .i64 p.size, .slice p.heightsA p.heightsN p.heightsC]) ∧ p.val = y ∧ OwnsL w' w.heap.size 2 1 i64cells (.slice p.heightsA p.heightsN p.heightsC) p.heights ∧ Below w.heap.size w w'



def Grid.eqSB (xs ys : List Grid) : Bool := xs.length == ys.length && (xs.zip ys).all fun p => p.1.eqB p.2
theorem Grid.eqSB_self (xs : List Grid) : Grid.eqSB xs xs = true := by
  unfold Grid.eqSB
  rw [Bool.and_eq_true]
  refine ⟨by simp, List.all_eq_true.2 fun p hp => ?_⟩
  obtain ⟨k, hk⟩ := List.mem_iff_getElem?.1 hp
  rw [List.getElem?_zip_eq_some] at hk
  have e : p.1 = p.2 := by have := hk.1.symm.trans hk.2; injection this
  rw [e]; exact Grid.eqB_self _
theorem Grid.eqSB_no {xs ys : List Grid} {k : Nat} {x y : Grid} (hx : xs[k]? = some x) (hy : ys[k]? = some y) (h : x.eqB y = false) : Grid.eqSB xs ys = false := by
  unfold Grid.eqSB
  rw [Bool.and_eq_false_iff]; right
  rw [List.all_eq_false]
  exact ⟨(x, y), List.mem_iff_getElem?.2 ⟨k, by rw [List.getElem?_zip_eq_some]; exact ⟨hx, hy⟩⟩, by simp [h]⟩
theorem Grid.eqSB_len {xs ys : List Grid} (h : xs.length ≠ ys.length) : Grid.eqSB xs ys = false := by simp [Grid.eqSB, h]
theorem Grid.eqSB_yes {xs ys : List Grid} (h : xs.length = ys.length) (ha : ∀ (j : Nat) (x y : Grid), xs[j]? = some x → ys[j]? = some y → x.eqB y = true) : Grid.eqSB xs ys = true := by
  unfold Grid.eqSB
  rw [Bool.and_eq_true]
  refine ⟨by simp [h], List.all_eq_true.2 fun p hp => ?_⟩
  obtain ⟨k, hk⟩ := List.mem_iff_getElem?.1 hp
  rw [List.getElem?_zip_eq_some] at hk
  exact ha k _ _ hk.1 hk.2
theorem Grid.eqSB_step {xs ys : List Grid} {k : Nat} {x y : Grid} (h : ∀ (j : Nat) (x y : Grid), j < k → xs[j]? = some x → ys[j]? = some y → x.eqB y = true) (hx : xs[k]? = some x) (hy : ys[k]? = some y) (he : x.eqB y = true) :
    ∀ (j : Nat) (x y : Grid), j < k + 1 → xs[j]? = some x → ys[j]? = some y → x.eqB y = true := fun j x' y' hj h1 h2 => by
  by_cases e : j = k
  · subst e; rw [hx] at h1; rw [hy] at h2; cases h1; cases h2; exact he
  · exact h j x' y' (by omega) h1 h2


end Go.Proofs.YtmldijckjenbcaaGreatDoor
