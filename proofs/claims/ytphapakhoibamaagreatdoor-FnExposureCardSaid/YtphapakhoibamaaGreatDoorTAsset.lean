/- The struct type Asset of the laws, which holds a slice: how it lies in memory, how an argument of it is opened, and what the laws' own helpers of it return. -/
import Derived.Test.YtphapakhoibamaaGreatDoorBase
import Derived.Test.YtphapakhoibamaaGreatDoorMem
import Derived.Test.YtphapakhoibamaaGreatDoorTInt64
namespace Go.Proofs.YtphapakhoibamaaGreatDoor
open Go.RowKit

structure Asset where
  id : ByteArray
  spots : List Int
  worth : Int
structure AssetR where
  id : ByteArray
  spotsA : Option Addr
  spotsN : Nat
  spotsC : Nat
  spots : List Int
  worth : Int
def AssetR.val (x : AssetR) : Asset := ⟨x.id, x.spots, x.worth⟩
def AssetR.cells (x : AssetR) : List Value := [.string x.id, .slice x.spotsA x.spotsN x.spotsC, .int .i64 x.worth]
instance : Inhabited AssetR := ⟨⟨ByteArray.empty, none, 0, 0, [], 0⟩⟩
theorem AssetR.cells_len (x : AssetR) : x.cells.length = 3 := rfl
theorem AssetR.cells_one (x : AssetR) : ∀ u ∈ x.cells, u.oneCell' = true := by intro u hu; simp [AssetR.cells] at hu; rcases hu with rfl | rfl | rfl <;> rfl
def AssetR.In (x : AssetR) (w : World) : Prop := SliceOf w 1 i64cells x.spotsA x.spotsN x.spots ∧ x.spotsN ≤ x.spotsC ∧ x.spotsC ≤ maxLen
theorem AssetR.In.below {x : AssetR} {w w' : World} (h : x.In w) (hb : Below w.heap.size w w') : x.In w' := ⟨h.1.below hb, h.2⟩
def Asset.Good (x : Asset) : Prop := I64 x.worth ∧ x.id.size ≤ maxLen ∧ ∀ y ∈ x.spots, I64 y
def Asset.eqB (x y : Asset) : Bool := decide (x.id.toList = y.id.toList) && Int64.eqSB x.spots y.spots && decide (x.worth = y.worth)
theorem Asset.eqB_self (x : Asset) : x.eqB x = true := by simp [Asset.eqB, Int64.eqSB_self]
def Asset.Sl (w : World) (A : Option Addr) (n : Nat) (xs : List Asset) : Prop := ∃ ps : List AssetR, SliceOf w 3 AssetR.cells A n ps ∧ (∀ p ∈ ps, p.In w) ∧ xs = ps.map AssetR.val
section
variable {w w' : World} {A : Option Addr} {n : Nat} {xs : List Asset}
theorem Asset.Sl.len (h : Asset.Sl w A n xs) : xs.length = n := by obtain ⟨ps, h1, _, rfl⟩ := h; rw [List.length_map]; exact h1.len
theorem Asset.Sl.le (h : Asset.Sl w A n xs) : n ≤ 9223372036854775807 := by obtain ⟨ps, h1, _, rfl⟩ := h; exact h1.le
theorem Asset.Sl.below (h : Asset.Sl w A n xs) (hb : Below w.heap.size w w') : Asset.Sl w' A n xs := by
  obtain ⟨ps, h1, h2, rfl⟩ := h
  exact ⟨ps, h1.below hb, fun p hp => (h2 p hp).below hb, rfl⟩
theorem Asset.Sl.at_ (h : Asset.Sl w A n xs) {k : Nat} (hk : k < n) :
    ∃ b off r, A = some ⟨b, off, none⟩ ∧ b < w.heap.size ∧ xs[k]? = some (r : AssetR).val ∧ r.In w ∧ w.cell? ⟨b, off + k * 3, none⟩ = some (.string r.id) ∧ w.cell? ⟨b, off + k * 3 + 1, none⟩ = some (.slice r.spotsA r.spotsN r.spotsC) ∧ w.cell? ⟨b, off + k * 3 + 2, none⟩ = some (.int .i64 r.worth) := by
  obtain ⟨ps, h1, h2, rfl⟩ := h
  obtain ⟨b, off, r, hA, hb, hx, hc⟩ := h1.at_ hk
  exact ⟨b, off, r, hA, hb, by rw [List.getElem?_map, hx]; rfl, h2 r (List.mem_of_getElem? hx), hc 0 _ rfl, hc 1 _ rfl, hc 2 _ rfl⟩
end
def AssetR.own (p : AssetR) : Option Nat := (Value.slice p.spotsA p.spotsN p.spotsC).ownBlock
/-- The inner slices lie in blocks of their own, apart from the outer one's. -/
def AssetR.Apart (v : Value) (ps : List AssetR) : Prop := (∀ p ∈ ps, ∀ b, p.own = some b → v.ownBlock ≠ some b) ∧ ps.Pairwise fun p q => ∀ b, p.own = some b → q.own ≠ some b
def Asset.Own (w : World) (base : Nat) (v : Value) (xs : List Asset) : Prop := ∃ ps : List AssetR, OwnsL w base 45 3 AssetR.cells v ps ∧ (∀ p ∈ ps, OwnsL w base 2 1 i64cells (.slice p.spotsA p.spotsN p.spotsC) p.spots) ∧ AssetR.Apart v ps ∧ xs = ps.map AssetR.val
theorem AssetR.in_of {w : World} {base : Nat} {e : TypeId} {p : AssetR} (h : OwnsL w base e 1 i64cells (.slice p.spotsA p.spotsN p.spotsC) p.spots) : p.In w := by
  obtain ⟨A', c', h1, h2, h3, h4⟩ := h.slice i64cells_len
  injection h1 with e1 e2 e3
  unfold AssetR.In
  rw [e1, e2, e3]
  exact ⟨h4, h2, h3⟩
section
variable {w w' : World} {base : Nat} {v : Value} {xs : List Asset}
theorem Asset.Own.slice (h : Asset.Own w base v xs) : ∃ A c, v = .slice A xs.length c ∧ xs.length ≤ c ∧ c ≤ maxLen ∧ Asset.Sl w A xs.length xs := by
  obtain ⟨ps, h1, h2, _, rfl⟩ := h
  obtain ⟨A, c, h3, h4, h5, h6⟩ := h1.slice AssetR.cells_len
  rw [List.length_map]
  exact ⟨A, c, h3, h4, h5, ps, h6, fun p hp => AssetR.in_of (h2 p hp), rfl⟩
theorem Asset.Own.sl {A : Option Addr} {n c : Nat} (h : Asset.Own w base (.slice A n c) xs) : Asset.Sl w A n xs := by
  obtain ⟨A', c', h1, _, _, h2⟩ := h.slice
  injection h1 with e1 e2 e3
  subst e1 e2 e3
  exact h2
theorem Asset.Own.below' (h : Asset.Own w base v xs) (hb : Below w.heap.size w w') : Asset.Own w' base v xs := by
  obtain ⟨ps, h1, h2, h3⟩ := h
  exact ⟨ps, h1.below' hb, fun p hp => (h2 p hp).below' hb, h3⟩
theorem Asset.Own.span {lo hi : Nat} (h : Asset.Own w base v xs) (hs : Span lo hi w w') (hb : hi ≤ base) : Asset.Own w' base v xs := by
  obtain ⟨ps, h1, h2, h3⟩ := h
  exact ⟨ps, h1.span hs (fun k hk => .inr (Nat.le_trans hb (h1.lt k hk).1)), fun p hp => (h2 p hp).span hs (fun k hk => .inr (Nat.le_trans hb ((h2 p hp).lt k hk).1)), h3⟩
end

section
variable {H : Type} {enc : TypeId × Value → H} {w : World} {spare : Nat → Bool} {held : Bool}
end



def AssetR.Ret (y : Asset) (w : World) (e : Ending) (w' : World) : Prop := ∃ p : AssetR, e = .returned (.agg #[.string p.id, .slice p.spotsA p.spotsN p.spotsC, .int .i64 p.worth]) ∧ p.val = y ∧ OwnsL w' w.heap.size 2 1 i64cells (.slice p.spotsA p.spotsN p.spotsC) p.spots ∧ Below w.heap.size w w'

theorem infoAsset : (Tryz.prog.info? 45).map (fun i => (i.zero, i.size, i.bytes)) = some (some (.agg #[.string ByteArray.empty, .slice none 0 0, .int .i64 0]), 3, 48) := by kernel_rfl


def Asset.eqSB (xs ys : List Asset) : Bool := xs.length == ys.length && (xs.zip ys).all fun p => p.1.eqB p.2
theorem Asset.eqSB_self (xs : List Asset) : Asset.eqSB xs xs = true := by
  unfold Asset.eqSB
  rw [Bool.and_eq_true]
  refine ⟨by simp, List.all_eq_true.2 fun p hp => ?_⟩
  obtain ⟨k, hk⟩ := List.mem_iff_getElem?.1 hp
  rw [List.getElem?_zip_eq_some] at hk
  have e : p.1 = p.2 := by have := hk.1.symm.trans hk.2; injection this
  rw [e]; exact Asset.eqB_self _
theorem Asset.eqSB_no {xs ys : List Asset} {k : Nat} {x y : Asset} (hx : xs[k]? = some x) (hy : ys[k]? = some y) (h : x.eqB y = false) : Asset.eqSB xs ys = false := by
  unfold Asset.eqSB
  rw [Bool.and_eq_false_iff]; right
  rw [List.all_eq_false]
  exact ⟨(x, y), List.mem_iff_getElem?.2 ⟨k, by rw [List.getElem?_zip_eq_some]; exact ⟨hx, hy⟩⟩, by simp [h]⟩
theorem Asset.eqSB_len {xs ys : List Asset} (h : xs.length ≠ ys.length) : Asset.eqSB xs ys = false := by simp [Asset.eqSB, h]
theorem Asset.eqSB_yes {xs ys : List Asset} (h : xs.length = ys.length) (ha : ∀ (j : Nat) (x y : Asset), xs[j]? = some x → ys[j]? = some y → x.eqB y = true) : Asset.eqSB xs ys = true := by
  unfold Asset.eqSB
  rw [Bool.and_eq_true]
  refine ⟨by simp [h], List.all_eq_true.2 fun p hp => ?_⟩
  obtain ⟨k, hk⟩ := List.mem_iff_getElem?.1 hp
  rw [List.getElem?_zip_eq_some] at hk
  exact ha k _ _ hk.1 hk.2
theorem Asset.eqSB_step {xs ys : List Asset} {k : Nat} {x y : Asset} (h : ∀ (j : Nat) (x y : Asset), j < k → xs[j]? = some x → ys[j]? = some y → x.eqB y = true) (hx : xs[k]? = some x) (hy : ys[k]? = some y) (he : x.eqB y = true) :
    ∀ (j : Nat) (x y : Asset), j < k + 1 → xs[j]? = some x → ys[j]? = some y → x.eqB y = true := fun j x' y' hj h1 h2 => by
  by_cases e : j = k
  · subst e; rw [hx] at h1; rw [hy] at h2; cases h1; cases h2; exact he
  · exact h j x' y' (by omega) h1 h2


end Go.Proofs.YtphapakhoibamaaGreatDoor
