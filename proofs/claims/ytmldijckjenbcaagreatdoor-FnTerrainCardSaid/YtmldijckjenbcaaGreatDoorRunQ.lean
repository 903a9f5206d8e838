/- The plain run of the masses: state by state, and when it ends. -/
import Derived.Test.YtmldijckjenbcaaGreatDoorBase
import Derived.Test.YtmldijckjenbcaaGreatDoorWays
import Derived.Test.YtmldijckjenbcaaGreatDoorSpecGo
import Derived.Test.YtmldijckjenbcaaGreatDoorSpecWays
import Derived.Test.YtmldijckjenbcaaGreatDoorRunP
namespace Go.Proofs.YtmldijckjenbcaaGreatDoor
open Go.RowKit

/-- All mass lies below N. -/
def Under (g : Grid) (ms : List Int) (N : Nat) : Prop := ∀ (c : Nat) (y : Int), ms[c]? = some y → 0 < y → ht g c < N
theorem Under.start {g : Grid} {ms : List Int} (hgb : gridB g = true) (hl : ms.length = g.heights.length) : Under g ms 5001 := by
  intro c y hc _
  have hk : c < g.heights.length := by rw [← hl]; exact (List.getElem?_eq_some_iff.1 hc).1
  have e : ht g c = g.heights[c] := by unfold ht; simp [List.getD_eq_getElem?_getD, List.getElem?_eq_getElem hk]
  have := (gridB_parts hgb).2.2.2.2 g.heights[c] (List.getElem_mem hk)
  rw [e]; omega
theorem Under.next {g : Grid} {ms : List Int} {k N : Nat} {a : List Int × List Int} (h : Under g ms (N + 1)) (hs : StepOk g ms k a) : Under g a.1 N := by
  intro i x hi hx
  obtain ⟨c, y, _, hc, hy, hlt⟩ := hs.down i x hi hx
  have := h c y hc hy
  omega
theorem Under.none {g : Grid} {ms : List Int} (hgb : gridB g = true) (hl : ms.length = g.heights.length) (h : Under g ms 0) : ∀ x ∈ ms, x ≤ 0 := by
  intro x hx
  obtain ⟨c, hc⟩ := List.mem_iff_getElem?.1 hx
  have hk : c < g.heights.length := by rw [← hl]; exact (List.getElem?_eq_some_iff.1 hc).1
  have e : ht g c = g.heights[c] := by unfold ht; simp [List.getD_eq_getElem?_getD, List.getElem?_eq_getElem hk]
  have := (gridB_parts hgb).2.2.2.2 g.heights[c] (List.getElem_mem hk)
  rcases Int.lt_or_le 0 x with h0 | h0
  · have := h c x hc h0; rw [e] at this; omega
  · exact h0
theorem stepT_ok {g : Grid} {fr : Int} {ms : List Int} (hgb : gridB g = true) (hl : ms.length = g.heights.length) (hfr : 1 ≤ fr) (hn : ∀ x ∈ ms, 0 ≤ x) : ∀ k, k ≤ ms.length → StepOk g ms k (stepT g fr ms k)
  | 0, _ => StepOk.zero g ms
  | k + 1, hk => by
    have h := stepT_ok (fr := fr) hgb hl hfr hn k (by omega)
    have hm : ms[k]? = some ms[k] := List.getElem?_eq_getElem (by omega)
    rw [stepT_succ, show ms.getD k 0 = ms[k] by simp [List.getD_eq_getElem?_getD, hm]]
    exact h.step hgb hl hfr hm (hn _ (List.getElem_mem _))
/-- The masses that move behind n steps, what has settled by then, and when each cell was reached first. -/
structure RunSt where
  now : List Int
  settled : List Int
  times : List Int
def addL (a b : List Int) : List Int := List.zipWith (· + ·) a b
def markT (n : Nat) (times now : List Int) : List Int := List.zipWith (fun t m => if t < 0 ∧ 0 < m then (n : Int) else t) times now
def stT (g : Grid) (fr : Int) (ms : List Int) : Nat → RunSt
  | 0 => ⟨ms, List.replicate ms.length 0, ms.map fun m => if 0 < m then 0 else -1⟩
  | n + 1 => ⟨(stepT g fr (stT g fr ms n).now ms.length).1, addL (stT g fr ms n).settled (stepT g fr (stT g fr ms n).now ms.length).2, markT (n + 1) (stT g fr ms n).times (stepT g fr (stT g fr ms n).now ms.length).1⟩
def zeroB (ms : List Int) : Bool := ms.all fun m => decide (m ≤ 0)
/-- The number of steps: the first state in which nothing moves. -/
def runN (g : Grid) (fr : Int) (ms : List Int) : Nat := ((List.range 5002).find? fun n => zeroB (stT g fr ms n).now).getD 0
theorem runN_of {g : Grid} {fr : Int} {ms : List Int} {n : Nat} (hn : n ≤ 5001) (hz : zeroB (stT g fr ms n).now = true) (hb : ∀ j, j < n → zeroB (stT g fr ms j).now = false) : runN g fr ms = n := by
  unfold runN
  have : (List.range 5002).find? (fun n => zeroB (stT g fr ms n).now) = some n := by
    rw [List.find?_range_eq_some]
    exact ⟨hz, by simp; omega, fun j hj => by simp [hb j hj]⟩
  rw [this]; rfl
theorem addL_len (a b : List Int) (h : a.length = b.length) : (addL a b).length = a.length := by unfold addL; rw [List.length_zipWith, h, Nat.min_self]
theorem addL_sum : ∀ (a b : List Int), a.length = b.length → (addL a b).sum = a.sum + b.sum
  | [], [], _ => rfl
  | [], _ :: _, h => by simp at h
  | _ :: _, [], h => by simp at h
  | x :: a, y :: b, h => by
    have := addL_sum a b (by simpa using h)
    simp only [addL, List.zipWith_cons_cons, List.sum_cons] at this ⊢
    omega
theorem addL_nonneg {a b : List Int} (ha : ∀ x ∈ a, 0 ≤ x) (hb : ∀ x ∈ b, 0 ≤ x) : ∀ x ∈ addL a b, 0 ≤ x := by
  intro x hx
  obtain ⟨k, hk⟩ := List.mem_iff_getElem?.1 hx
  unfold addL at hk
  rw [List.getElem?_zipWith] at hk
  cases h1 : a[k]? with
  | none => rw [h1] at hk; simp at hk
  | some y =>
    cases h2 : b[k]? with
    | none => rw [h1, h2] at hk; simp at hk
    | some z =>
      rw [h1, h2] at hk
      simp at hk
      have := ha y (List.mem_of_getElem? h1)
      have := hb z (List.mem_of_getElem? h2)
      omega
theorem markT_len (n : Nat) (a b : List Int) (h : a.length = b.length) : (markT n a b).length = a.length := by unfold markT; rw [List.length_zipWith, h, Nat.min_self]
structure StOk (g : Grid) (ms : List Int) (n : Nat) (s : RunSt) : Prop where
  l1 : s.now.length = ms.length
  l2 : s.settled.length = ms.length
  l3 : s.times.length = ms.length
  n1 : ∀ x ∈ s.now, 0 ≤ x
  n2 : ∀ x ∈ s.settled, 0 ≤ x
  sum : s.now.sum + s.settled.sum = ms.sum
  under : n ≤ 5001 → Under g s.now (5001 - n)
theorem stT_ok {g : Grid} {fr : Int} {ms : List Int} (hgb : gridB g = true) (hl : ms.length = g.heights.length) (hfr : 1 ≤ fr) (hn : ∀ x ∈ ms, 0 ≤ x) : ∀ n, StOk g ms n (stT g fr ms n)
  | 0 => ⟨rfl, by simp [stT], by simp [stT], hn, fun x hx => by have := List.eq_of_mem_replicate (show x ∈ List.replicate ms.length 0 from hx); omega, by simp [stT], fun _ => Under.start hgb hl⟩
  | n + 1 => by
    have h := stT_ok (fr := fr) hgb hl hfr hn n
    have hs := stepT_ok (g := g) (fr := fr) (ms := (stT g fr ms n).now) hgb (by rw [h.l1]; exact hl) hfr h.n1 _ (Nat.le_refl _)
    rw [h.l1] at hs
    have hts : ((stT g fr ms n).now.take ms.length).sum = (stT g fr ms n).now.sum := by rw [List.take_of_length_le (by rw [h.l1]; exact Nat.le_refl _)]
    refine ⟨by rw [← h.l1]; exact hs.l1, ?_, ?_, hs.n1, addL_nonneg h.n2 hs.n2, ?_, fun hle => ?_⟩
    · show (addL _ _).length = _
      rw [addL_len _ _ (by rw [h.l2, hs.l2, h.l1]), h.l2]
    · show (markT _ _ _).length = _
      rw [markT_len _ _ _ (by rw [h.l3, hs.l1, h.l1]), h.l3]
    · show _ + (addL _ _).sum = _
      rw [addL_sum _ _ (by rw [h.l2, hs.l2, h.l1])]
      have := hs.sum
      have := h.sum
      show (stepT g fr (stT g fr ms n).now ms.length).1.sum + _ = _
      omega
    · have hu := h.under (by omega)
      rw [show 5001 - n = (5001 - (n + 1)) + 1 by omega] at hu
      exact hu.next hs

end Go.Proofs.YtmldijckjenbcaaGreatDoor
