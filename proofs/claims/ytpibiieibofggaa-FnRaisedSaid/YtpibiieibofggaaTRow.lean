/- Slices of slices of int64 in the laws: how they lie in memory, how an argument is opened, and what the laws' own helpers of them return. -/
import Derived.Test.YtpibiieibofggaaBase
import Derived.Test.YtpibiieibofggaaMem
import Derived.Test.YtpibiieibofggaaTInt64
import Derived.Test.YtpibiieibofggaaPush2
namespace Go.Proofs.Ytpibiieibofggaa
open Go.RowKit

structure Row where
  list : List Int
structure RowR where
  listA : Option Addr
  listN : Nat
  listC : Nat
  list : List Int
def RowR.val (x : RowR) : Row := ⟨x.list⟩
def RowR.cells (x : RowR) : List Value := [.slice x.listA x.listN x.listC]
instance : Inhabited RowR := ⟨⟨none, 0, 0, []⟩⟩
theorem RowR.cells_len (x : RowR) : x.cells.length = 1 := rfl
theorem RowR.cells_one (x : RowR) : ∀ u ∈ x.cells, u.oneCell' = true := by intro u hu; simp [RowR.cells] at hu; subst hu; rfl
def RowR.In (x : RowR) (w : World) : Prop := SliceOf w 1 i64cells x.listA x.listN x.list ∧ x.listN ≤ x.listC ∧ x.listC ≤ maxLen
theorem RowR.In.below {x : RowR} {w w' : World} (h : x.In w) (hb : Below w.heap.size w w') : x.In w' := ⟨h.1.below hb, h.2⟩
def Row.Good (x : Row) : Prop := ∀ y ∈ x.list, I64 y
def Row.eqB (x y : Row) : Bool := Int64.eqSB x.list y.list
theorem Row.eqB_self (x : Row) : x.eqB x = true := by simp [Row.eqB, Int64.eqSB_self]
def Row.Sl (w : World) (A : Option Addr) (n : Nat) (xs : List Row) : Prop := ∃ ps : List RowR, SliceOf w 1 RowR.cells A n ps ∧ (∀ p ∈ ps, p.In w) ∧ xs = ps.map RowR.val
section
variable {w w' : World} {A : Option Addr} {n : Nat} {xs : List Row}
theorem Row.Sl.len (h : Row.Sl w A n xs) : xs.length = n := by obtain ⟨ps, h1, _, rfl⟩ := h; rw [List.length_map]; exact h1.len
theorem Row.Sl.le (h : Row.Sl w A n xs) : n ≤ 9223372036854775807 := by obtain ⟨ps, h1, _, rfl⟩ := h; exact h1.le
theorem Row.Sl.below (h : Row.Sl w A n xs) (hb : Below w.heap.size w w') : Row.Sl w' A n xs := by
  obtain ⟨ps, h1, h2, rfl⟩ := h
  exact ⟨ps, h1.below hb, fun p hp => (h2 p hp).below hb, rfl⟩
theorem Row.Sl.at_ (h : Row.Sl w A n xs) {k : Nat} (hk : k < n) :
    ∃ b off r, A = some ⟨b, off, none⟩ ∧ b < w.heap.size ∧ xs[k]? = some (r : RowR).val ∧ r.In w ∧ w.cell? ⟨b, off + k, none⟩ = some (.slice r.listA r.listN r.listC) := by
  obtain ⟨ps, h1, h2, rfl⟩ := h
  obtain ⟨b, off, r, hA, hb, hx, hc⟩ := h1.at_ hk
  exact ⟨b, off, r, hA, hb, by rw [List.getElem?_map, hx]; rfl, h2 r (List.mem_of_getElem? hx), by simpa using hc 0 _ rfl⟩
end
def RowR.own (p : RowR) : Option Nat := (Value.slice p.listA p.listN p.listC).ownBlock
/-- The inner slices lie in blocks of their own, apart from the outer one's. -/
def RowR.Apart (v : Value) (ps : List RowR) : Prop := (∀ p ∈ ps, ∀ b, p.own = some b → v.ownBlock ≠ some b) ∧ ps.Pairwise fun p q => ∀ b, p.own = some b → q.own ≠ some b
def Row.Own (w : World) (base : Nat) (v : Value) (xs : List Row) : Prop := ∃ ps : List RowR, OwnsL w base 27 1 RowR.cells v ps ∧ (∀ p ∈ ps, OwnsL w base 2 1 i64cells (.slice p.listA p.listN p.listC) p.list) ∧ RowR.Apart v ps ∧ xs = ps.map RowR.val
theorem RowR.in_of {w : World} {base : Nat} {e : TypeId} {p : RowR} (h : OwnsL w base e 1 i64cells (.slice p.listA p.listN p.listC) p.list) : p.In w := by
  obtain ⟨A', c', h1, h2, h3, h4⟩ := h.slice i64cells_len
  injection h1 with e1 e2 e3
  unfold RowR.In
  rw [e1, e2, e3]
  exact ⟨h4, h2, h3⟩
section
variable {w w' : World} {base : Nat} {v : Value} {xs : List Row}
theorem Row.Own.slice (h : Row.Own w base v xs) : ∃ A c, v = .slice A xs.length c ∧ xs.length ≤ c ∧ c ≤ maxLen ∧ Row.Sl w A xs.length xs := by
  obtain ⟨ps, h1, h2, _, rfl⟩ := h
  obtain ⟨A, c, h3, h4, h5, h6⟩ := h1.slice RowR.cells_len
  rw [List.length_map]
  exact ⟨A, c, h3, h4, h5, ps, h6, fun p hp => RowR.in_of (h2 p hp), rfl⟩
theorem Row.Own.sl {A : Option Addr} {n c : Nat} (h : Row.Own w base (.slice A n c) xs) : Row.Sl w A n xs := by
  obtain ⟨A', c', h1, _, _, h2⟩ := h.slice
  injection h1 with e1 e2 e3
  subst e1 e2 e3
  exact h2
theorem Row.Own.below' (h : Row.Own w base v xs) (hb : Below w.heap.size w w') : Row.Own w' base v xs := by
  obtain ⟨ps, h1, h2, h3⟩ := h
  exact ⟨ps, h1.below' hb, fun p hp => (h2 p hp).below' hb, h3⟩
theorem Row.Own.span {lo hi : Nat} (h : Row.Own w base v xs) (hs : Span lo hi w w') (hb : hi ≤ base) : Row.Own w' base v xs := by
  obtain ⟨ps, h1, h2, h3⟩ := h
  exact ⟨ps, h1.span hs (fun k hk => .inr (Nat.le_trans hb (h1.lt k hk).1)), fun p hp => (h2 p hp).span hs (fun k hk => .inr (Nat.le_trans hb ((h2 p hp).lt k hk).1)), h3⟩
end

section
variable {H : Type} {enc : TypeId × Value → H} {w : World} {spare : Nat → Bool} {held : Bool}
theorem RowR.of_trod (m : Nat) (cs : List Value) (y : DataW H × List MemPlace) (h : DataW.trod enc Try.prog w 0 spare held m 27 cs = some y) : ∃ x : RowR, x.cells = cs ∧ x.In w ∧ x.val.Good := by
  obtain ⟨A0, n0, d0, x0, rfl, p0, q0, s0, k0⟩ := sliceOf_trod (cells := i64cells) Try.underlying27 (show Try.prog.cellsOf 2 = 1 by kernel_rfl) (by decide) (fun _ _ _ h => trod_int64 Try.underlying2 h) h
  exact ⟨⟨A0, n0, d0, x0⟩, rfl, ⟨s0, p0, q0⟩, k0⟩
end

theorem infoRow : (Try.prog.info? 27).map (fun i => (i.zero, i.size, i.bytes)) = some (some (.slice none 0 0), 1, 24) := by kernel_rfl
def Row.eqSB (xs ys : List Row) : Bool := xs.length == ys.length && (xs.zip ys).all fun p => p.1.eqB p.2
theorem Row.eqSB_self (xs : List Row) : Row.eqSB xs xs = true := by
  unfold Row.eqSB
  rw [Bool.and_eq_true]
  refine ⟨by simp, List.all_eq_true.2 fun p hp => ?_⟩
  obtain ⟨k, hk⟩ := List.mem_iff_getElem?.1 hp
  rw [List.getElem?_zip_eq_some] at hk
  have e : p.1 = p.2 := by have := hk.1.symm.trans hk.2; injection this
  rw [e]; exact Row.eqB_self _
theorem Row.eqSB_no {xs ys : List Row} {k : Nat} {x y : Row} (hx : xs[k]? = some x) (hy : ys[k]? = some y) (h : x.eqB y = false) : Row.eqSB xs ys = false := by
  unfold Row.eqSB
  rw [Bool.and_eq_false_iff]; right
  rw [List.all_eq_false]
  exact ⟨(x, y), List.mem_iff_getElem?.2 ⟨k, by rw [List.getElem?_zip_eq_some]; exact ⟨hx, hy⟩⟩, by simp [h]⟩
theorem Row.eqSB_len {xs ys : List Row} (h : xs.length ≠ ys.length) : Row.eqSB xs ys = false := by simp [Row.eqSB, h]
theorem Row.eqSB_yes {xs ys : List Row} (h : xs.length = ys.length) (ha : ∀ (j : Nat) (x y : Row), xs[j]? = some x → ys[j]? = some y → x.eqB y = true) : Row.eqSB xs ys = true := by
  unfold Row.eqSB
  rw [Bool.and_eq_true]
  refine ⟨by simp [h], List.all_eq_true.2 fun p hp => ?_⟩
  obtain ⟨k, hk⟩ := List.mem_iff_getElem?.1 hp
  rw [List.getElem?_zip_eq_some] at hk
  exact ha k _ _ hk.1 hk.2
theorem Row.eqSB_step {xs ys : List Row} {k : Nat} {x y : Row} (h : ∀ (j : Nat) (x y : Row), j < k → xs[j]? = some x → ys[j]? = some y → x.eqB y = true) (hx : xs[k]? = some x) (hy : ys[k]? = some y) (he : x.eqB y = true) :
    ∀ (j : Nat) (x y : Row), j < k + 1 → xs[j]? = some x → ys[j]? = some y → x.eqB y = true := fun j x' y' hj h1 h2 => by
  by_cases e : j = k
  · subst e; rw [hx] at h1; rw [hy] at h2; cases h1; cases h2; exact he
  · exact h j x' y' (by omega) h1 h2
/-- A list known to lie between two blocks. -/
def Row.OwnU (w : World) (base hi : Nat) (v : Value) (xs : List Row) : Prop := ∃ ps : List RowR, OwnsL w base 27 1 RowR.cells v ps ∧ (∀ p ∈ ps, OwnsL w base 2 1 i64cells (.slice p.listA p.listN p.listC) p.list) ∧ RowR.Apart v ps ∧ ((∀ b, v.ownBlock = some b → b < hi) ∧ ∀ p ∈ ps, ∀ b, p.own = some b → b < hi) ∧ xs = ps.map RowR.val
section
variable {w w' : World} {base hi : Nat} {v : Value} {xs : List Row}
theorem Row.Own.bound (h : Row.Own w base v xs) : Row.OwnU w base w.heap.size v xs := by
  obtain ⟨ps, h1, h2, h3, h4⟩ := h
  exact ⟨ps, h1, h2, h3, ⟨fun b hb => (h1.lt b hb).2, fun p hp b hb => ((h2 p hp).lt b hb).2⟩, h4⟩
theorem Row.OwnU.own (h : Row.OwnU w base hi v xs) : Row.Own w base v xs := by
  obtain ⟨ps, h1, h2, h3, _, h4⟩ := h
  exact ⟨ps, h1, h2, h3, h4⟩
theorem Row.OwnU.sl {A : Option Addr} {n c : Nat} (h : Row.OwnU w base hi (.slice A n c) xs) : Row.Sl w A n xs := h.own.sl
theorem Row.OwnU.below' (h : Row.OwnU w base hi v xs) (hb : Below w.heap.size w w') : Row.OwnU w' base hi v xs := by
  obtain ⟨ps, h1, h2, h3⟩ := h
  exact ⟨ps, h1.below' hb, fun p hp => (h2 p hp).below' hb, h3⟩
theorem Row.OwnU.span {lo' hi' : Nat} (h : Row.OwnU w base hi v xs) (hs : Span lo' hi' w w') (hb : hi' ≤ base) : Row.OwnU w' base hi v xs := by
  obtain ⟨ps, h1, h2, h3⟩ := h
  exact ⟨ps, h1.span hs (fun k hk => .inr (Nat.le_trans hb (h1.lt k hk).1)), fun p hp => (h2 p hp).span hs (fun k hk => .inr (Nat.le_trans hb ((h2 p hp).lt k hk).1)), h3⟩
end

end Go.Proofs.Ytpibiieibofggaa
