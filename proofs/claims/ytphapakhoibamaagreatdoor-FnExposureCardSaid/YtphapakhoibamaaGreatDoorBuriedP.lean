/- The plain law of BuriedBy. -/
import Derived.Test.YtphapakhoibamaaGreatDoorBase
import Derived.Test.YtphapakhoibamaaGreatDoorTInt64
import Derived.Test.YtphapakhoibamaaGreatDoorTGrid
import Derived.Test.YtphapakhoibamaaGreatDoorTAsset
import Derived.Test.YtphapakhoibamaaGreatDoorGrids
import Derived.Test.YtphapakhoibamaaGreatDoorAssets
import Derived.Test.YtphapakhoibamaaGreatDoorRunCode
import Derived.Test.YtphapakhoibamaaGreatDoorRunL
namespace Go.Proofs.YtphapakhoibamaaGreatDoor
open Go.RowKit

def sumAt (s ys : List Int) : Int := (ys.map fun y => s.getD y.toNat 0).sum
theorem sumAt_snoc (s l : List Int) (y : Int) : sumAt s (l ++ [y]) = sumAt s l + s.getD y.toNat 0 := by unfold sumAt; rw [List.map_append, List.sum_append]; simp
def buriedT (s : List Int) (xs : List Asset) (k : Nat) : List Int := (xs.take k).map fun x => sumAt s x.spots
def buriedC (g : Grid) (xs : List Asset) (s : List Int) : Int := if assetsB g xs = false then 1 else if massB g s = false then 7 else 0
def buriedA (g : Grid) (xs : List Asset) (s : List Int) : List Int := if buriedC g xs s = 0 then buriedT s xs xs.length else []
theorem buriedT_succ {s : List Int} {xs : List Asset} {k : Nat} {x : Asset} (h : xs[k]? = some x) : buriedT s xs (k + 1) = buriedT s xs k ++ [sumAt s x.spots] := by
  unfold buriedT; rw [take_snoc h, List.map_append]; rfl
theorem buriedT_len {s : List Int} {xs : List Asset} {k : Nat} (h : k ≤ xs.length) : (buriedT s xs k).length = k := by
  unfold buriedT; rw [List.length_map, List.length_take]; omega
theorem buriedC_zero {g : Grid} {xs : List Asset} {s : List Int} (h : buriedC g xs s = 0) : assetsB g xs = true ∧ massB g s = true := by
  unfold buriedC at h
  cases h1 : assetsB g xs <;> cases h2 : massB g s <;> simp [h1, h2] at h
  exact ⟨rfl, rfl⟩
theorem buriedA_len (g : Grid) (xs : List Asset) (s : List Int) : (buriedA g xs s).length ≤ 1048576 := by
  unfold buriedA
  by_cases h : buriedC g xs s = 0
  · rw [if_pos h, buriedT_len (Nat.le_refl _)]
    have := assetsB_len (buriedC_zero h).1
    omega
  · rw [if_neg h]; simp
theorem rises_some {c : Int} : ∀ (xs : List Int) (q : Int), goodFrom (fun _ => true) risesRel (some q) xs = true → (∀ y ∈ xs, y ≤ c - 1) → q ≤ c - 1 → (xs.length : Int) ≤ c - 1 - q
  | [], q, _, _, hq => by simp; omega
  | y :: ys, q, h, hb, hq => by
    rw [goodFrom, Bool.and_eq_true, Bool.and_eq_true] at h
    have h1 : q < y := of_decide_eq_true h.1.2
    have h2 := hb y (by simp)
    have h3 := rises_some ys y h.2 (fun z hz => hb z (by simp [hz])) h2
    rw [List.length_cons]
    omega
theorem rises_len {c : Int} {xs : List Int} (h : risesB xs = true) (hb : ∀ y ∈ xs, 0 ≤ y ∧ y ≤ c - 1) (hc : 0 ≤ c) : (xs.length : Int) ≤ c := by
  cases xs with
  | nil => simpa using hc
  | cons y ys =>
    unfold risesB at h
    rw [goodFrom, Bool.and_eq_true] at h
    have h2 := hb y (by simp)
    have h3 := rises_some ys y h.2 (fun z hz => (hb z (by simp [hz])).2) h2.2
    rw [List.length_cons]
    omega
/-- The places of a list of sums of which k are whole and the next one is q. -/
theorem rep_set {T : List Int} {n k : Nat} {q : Int} (hl : T.length = k) (hk : k < n) : (T ++ List.replicate (n - k) 0).set k q = (T ++ [q]) ++ List.replicate (n - (k + 1)) 0 := by
  rw [List.set_append_right _ _ (by omega), hl, Nat.sub_self, show n - k = (n - (k + 1)) + 1 by omega, List.replicate_succ, List.set_cons_zero]
  simp
theorem rep_get {T : List Int} {n k : Nat} (hl : T.length = k) (hk : k < n) : (T ++ List.replicate (n - k) (0 : Int))[k]? = some 0 := by
  rw [List.getElem?_append_right (by omega), hl, Nat.sub_self, List.getElem?_replicate, if_pos (by omega)]
theorem set_self {l : List Int} {k : Nat} {x : Int} (h : l[k]? = some x) : l.set k x = l := by
  apply List.ext_getElem?
  intro i
  rw [List.getElem?_set]
  by_cases e : k = i
  · subst e
    rw [if_pos rfl, if_pos (List.getElem?_eq_some_iff.1 h).1, h]
  · rw [if_neg e]

end Go.Proofs.YtphapakhoibamaaGreatDoor
