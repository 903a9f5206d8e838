/- What the laws of the routing draws may run, in plain Lean. The cells that are reached rise and lie in the grid. The plain law of FnExposure, in the words of its walk. SafeCells of the program, ArrivalOf of the reference where it succeeds, and the law's comparison of two lists. -/
import Derived.Test.YtphapakhoibamaaGreatDoorMRun
import Derived.Test.YtphapakhoibamaaGreatDoorR8
import Derived.Test.YtphapakhoibamaaGreatDoorHits
import Derived.Test.YtphapakhoibamaaGreatDoorMDraw
import Derived.Test.YtphapakhoibamaaGreatDoorExposed
import Derived.Test.YtphapakhoibamaaGreatDoorExposeT
import Derived.Test.YtphapakhoibamaaGreatDoorBuriedP
import Derived.Test.YtphapakhoibamaaGreatDoorPush2
import Derived.Deep.RegionHeld3
namespace Go.Proofs.YtphapakhoibamaaGreatDoor
open Go.RowKit

theorem reach_has {ts : List Int} {n c : Nat} (hc : c < n) : hasB (reachT ts n) c = decide (0 ≤ ts.getD c 0) := by
  unfold hasB
  rw [Bool.eq_iff_iff, List.any_eq_true, decide_eq_true_eq]
  constructor
  · rintro ⟨x, hx, he⟩
    obtain ⟨k, rfl, _, h⟩ := reachT_mem hx
    have : c = k := by have := of_decide_eq_true he; omega
    subst this; exact h
  · intro h
    refine ⟨(c : Int), ?_, by simp⟩
    unfold reachT
    refine List.mem_map.2 ⟨c, ?_, rfl⟩
    rw [List.mem_filter, List.mem_range, decide_eq_true_eq]
    exact ⟨hc, h⟩
theorem hasB_hasQ (re : List Int) (y : Int) : hasB re y = hasQ re y := by
  unfold hasQ hasB
  congr 1
  funext z
  rw [Bool.eq_iff_iff]
  simp only [decide_eq_true_eq]
  exact ⟨fun h => h.symm, fun h => h.symm⟩
theorem hasQ_reach {ts : List Int} {n c : Nat} (hc : c < n) : hasQ (reachT ts n) c = decide (0 ≤ ts.getD c 0) := by
  rw [← hasB_hasQ, reach_has hc]
theorem reachA_run {g : Grid} {ms : List Int} {fr : Int} (h : runC g ms fr = 0) : reachA g ms fr = reachL g ms fr := by
  unfold reachA; rw [if_pos h]
/-- What a law of the routing draws may be run at any friction. -/
structure DrawnM (g : Grid) (ms : List Int) : Prop where
  grid : gridB g = true
  len : ms.length = g.heights.length
  bd : ∀ m ∈ ms, 0 ≤ m ∧ m ≤ 2000
theorem DrawnM.run {g : Grid} {ms : List Int} (h : DrawnM g ms) {fr : Int} (h1 : 1 ≤ fr) (h2 : fr ≤ 5000) : runC g ms fr = 0 ∧ RunOk g ms fr := by
  have hm : massB g ms = true := by
    unfold massB
    rw [Bool.and_eq_true, decide_eq_true_eq, List.all_eq_true]
    exact ⟨h.len, fun y hy => inB_iff.2 ⟨(h.bd y hy).1, by have := (h.bd y hy).2; omega⟩⟩
  have hc : runC g ms fr = 0 := by
    unfold runC
    rw [if_neg (by rw [h.grid]; simp), if_neg (by rw [inB_iff.2 ⟨h1, h2⟩]; simp), if_neg (by rw [hm]; simp)]
  exact ⟨hc, runC_zero hc⟩
theorem DrawnM.cell {g : Grid} {ms : List Int} (h : DrawnM g ms) {fr : Int} (h1 : 1 ≤ fr) (h2 : fr ≤ 5000) {c : Nat} (hc : c < ms.length) : runCx g ms fr [(c : Int)] = 0 := by
  have hm : massB g ms = true := by
    unfold massB
    rw [Bool.and_eq_true, decide_eq_true_eq, List.all_eq_true]
    exact ⟨h.len, fun y hy => inB_iff.2 ⟨(h.bd y hy).1, by have := (h.bd y hy).2; omega⟩⟩
  unfold runCx
  rw [if_neg (by rw [h.grid]; simp), if_neg, if_neg (by rw [hm]; simp)]
  have h3 : inB (c : Int) 0 ((g.heights.length : Int) - 1) = true := inB_iff.2 ⟨by omega, by have := h.len; omega⟩
  rw [inB_iff.2 ⟨h1, h2⟩]
  simp [h3]

end Go.Proofs.YtphapakhoibamaaGreatDoor

namespace Go.Proofs.YtphapakhoibamaaGreatDoor
open Go.RowKit

theorem reachT_pw (ts : List Int) (k : Nat) : (reachT ts k).Pairwise (· < ·) := by
  unfold reachT
  rw [List.pairwise_map]
  refine List.Pairwise.imp (R := fun a b : Nat => a < b) (fun h => by first | omega | (show ((_ : Nat) : Int) < ((_ : Nat) : Int); omega)) ?_
  exact List.Pairwise.filter _ (List.pairwise_lt_range)
theorem reach_cells {g : Grid} {ms : List Int} {fr : Int} (h : RunOk g ms fr) : cellsG g (reachL g ms fr) = true := by
  unfold cellsG
  rw [cellsB_eq, Bool.and_eq_true, List.all_eq_true]
  unfold reachL
  refine ⟨risesB_of (reachT_pw _ _), fun y hy => ?_⟩
  obtain ⟨c, rfl, hc, _⟩ := reachT_mem hy
  exact inB_iff.2 ⟨by omega, by have := h.len; omega⟩

end Go.Proofs.YtphapakhoibamaaGreatDoor

namespace Go.Proofs.YtphapakhoibamaaGreatDoor
open Go.RowKit

def safeT (re : List Int) (k : Nat) : List Int := ((List.range k).filter fun c : Nat => !hasB re (c : Int)).map fun c : Nat => (c : Int)
theorem safeT_yes {re : List Int} {k : Nat} (h : hasB re (k : Int) = false) : safeT re (k + 1) = safeT re k ++ [(k : Int)] := by
  unfold safeT; rw [List.range_succ, List.filter_append, List.map_append]; simp [h]
theorem safeT_no {re : List Int} {k : Nat} (h : hasB re (k : Int) = true) : safeT re (k + 1) = safeT re k := by
  unfold safeT; rw [List.range_succ, List.filter_append, List.map_append]; simp [h]
theorem safeT_len (re : List Int) (k : Nat) : (safeT re k).length ≤ k := by
  unfold safeT; rw [List.length_map]; exact Nat.le_trans (List.length_filter_le _ _) (by simp)
theorem safe_has {re : List Int} {n k : Nat} (hk : k < n) : hasQ (safeT re n) k = !hasB re k := by
  rw [Bool.eq_iff_iff, hasQ_iff]
  unfold safeT
  rw [List.mem_map]
  constructor
  · rintro ⟨c, hc, he⟩
    have e : c = k := by omega
    subst e
    exact (List.mem_filter.1 hc).2
  · intro h
    exact ⟨k, List.mem_filter.2 ⟨List.mem_range.2 hk, h⟩, rfl⟩
def firstF (b t : Int) : Int := if 0 ≤ t ∧ (b < 0 ∨ t < b) then t else b
def firstL (ts : List Int) (b : Int) (ys : List Int) : Int := ys.foldl (fun b y => firstF b (ts.getD y.toNat 0)) b
def firstT (ts ys : List Int) : Int := firstL ts (-1) ys
theorem firstT_snoc (ts l : List Int) (y : Int) : firstT ts (l ++ [y]) = firstF (firstT ts l) (ts.getD y.toNat 0) := by unfold firstT firstL; rw [List.foldl_append]; rfl
theorem firstL_any (ts : List Int) : ∀ (ys : List Int) (b : Int), (0 ≤ firstL ts b ys) ↔ (0 ≤ b ∨ ∃ y ∈ ys, 0 ≤ ts.getD y.toNat 0)
  | [], b => by simp [firstL]
  | y :: ys, b => by
    have ih := firstL_any ts ys (firstF b (ts.getD y.toNat 0))
    have e : firstL ts b (y :: ys) = firstL ts (firstF b (ts.getD y.toNat 0)) ys := rfl
    rw [e, ih]
    have h1 : 0 ≤ firstF b (ts.getD y.toNat 0) ↔ (0 ≤ b ∨ 0 ≤ ts.getD y.toNat 0) := by
      unfold firstF
      split <;> omega
    rw [h1]
    constructor
    · rintro ((h | h) | ⟨z, hz, h⟩)
      · exact .inl h
      · exact .inr ⟨y, by simp, h⟩
      · exact .inr ⟨z, by simp [hz], h⟩
    · rintro (h | ⟨z, hz, h⟩)
      · exact .inl (.inl h)
      · rcases List.mem_cons.1 hz with e | hz
        · subst e; exact .inl (.inr h)
        · exact .inr ⟨z, hz, h⟩
theorem hit_first (ts : List Int) (i : Nat) (b : Int × Int) : ∀ (ys : List Int) (f : Int) (q : Int × Int), ((f < 0 ∧ q = b) ∨ (0 ≤ f ∧ ((b.1 < 0 ∨ f < b.2) ∧ q = ((i : Int), f) ∨ ¬ (b.1 < 0 ∨ f < b.2) ∧ q = b))) →
    ((firstL ts f ys < 0 ∧ hitIn ts i q ys = b) ∨ (0 ≤ firstL ts f ys ∧ ((b.1 < 0 ∨ firstL ts f ys < b.2) ∧ hitIn ts i q ys = ((i : Int), firstL ts f ys) ∨ ¬ (b.1 < 0 ∨ firstL ts f ys < b.2) ∧ hitIn ts i q ys = b)))
  | [], f, q, h => h
  | y :: ys, f, q, h => by
    have e1 : firstL ts f (y :: ys) = firstL ts (firstF f (ts.getD y.toNat 0)) ys := rfl
    have e2 : hitIn ts i q (y :: ys) = hitIn ts i (hitStep ts i q y) ys := rfl
    rw [e1, e2]
    refine hit_first ts i b ys _ _ ?_
    unfold hitStep firstF
    obtain ⟨t, ht⟩ : ∃ t, ts.getD y.toNat 0 = t := ⟨_, rfl⟩
    rw [ht]
    obtain ⟨b1, b2⟩ := b
    simp only at h ⊢
    rcases h with ⟨h1, rfl⟩ | ⟨h1, ⟨h2, rfl⟩ | ⟨h2, rfl⟩⟩
    · by_cases h0 : 0 ≤ t
      · right
        rw [if_pos ⟨h0, .inl h1⟩]
        refine ⟨h0, ?_⟩
        by_cases h3 : b1 < 0 ∨ t < b2
        · exact .inl ⟨h3, if_pos ⟨h0, h3⟩⟩
        · exact .inr ⟨h3, if_neg (fun h => h3 h.2)⟩
      · left
        rw [if_neg (fun h => h0 h.1), if_neg (fun h => h0 h.1)]
        exact ⟨h1, rfl⟩
    · right
      by_cases h0 : 0 ≤ t ∧ t < f
      · rw [if_pos ⟨h0.1, .inr h0.2⟩]
        refine ⟨h0.1, .inl ⟨by omega, ?_⟩⟩
        rw [if_pos ⟨h0.1, .inr h0.2⟩]
      · rw [if_neg (by omega)]
        refine ⟨h1, .inl ⟨h2, ?_⟩⟩
        rw [if_neg (by simp only; omega)]
    · right
      by_cases h0 : 0 ≤ t ∧ t < f
      · rw [if_pos ⟨h0.1, .inr h0.2⟩]
        refine ⟨h0.1, ?_⟩
        by_cases h3 : t < b2
        · exact .inl ⟨.inr h3, if_pos ⟨h0.1, .inr h3⟩⟩
        · exact .inr ⟨by omega, if_neg (by omega)⟩
      · rw [if_neg (by omega)]
        exact ⟨h1, .inr ⟨h2, if_neg (by omega)⟩⟩
/-- The first arrival at some cells, when they lie in the grid. -/
theorem first_hit {ts ys : List Int} {n : Nat} (h : ∀ y ∈ ys, ∃ c : Nat, y = c ∧ c < n) : ys.any (hasB (reachT ts n)) = decide (0 ≤ firstT ts ys) := by
  rw [Bool.eq_iff_iff, List.any_eq_true, decide_eq_true_eq]
  unfold firstT
  rw [firstL_any]
  constructor
  · rintro ⟨y, hy, hh⟩
    obtain ⟨c, rfl, hc⟩ := h y hy
    rw [reach_has hc, decide_eq_true_eq] at hh
    exact .inr ⟨_, hy, by rw [Int.toNat_natCast]; exact hh⟩
  · rintro (h0 | ⟨y, hy, hh⟩)
    · omega
    · obtain ⟨c, rfl, hc⟩ := h y hy
      rw [Int.toNat_natCast] at hh
      exact ⟨_, hy, by rw [reach_has hc, decide_eq_true_eq]; exact hh⟩
/-- The asset that is hit first, of the first k. -/
theorem hitT_spec {ts : List Int} {xs : List Asset} {n : Nat} (hs : ∀ (k : Nat) (x : Asset), xs[k]? = some x → ∀ y ∈ x.spots, ∃ c : Nat, y = c ∧ c < n) : ∀ k, k ≤ xs.length →
    ((hitT ts xs k).1 < 0 ∧ ∀ (j : Nat) (x : Asset), j < k → xs[j]? = some x → hitB (reachT ts n) x = false) ∨
    (∃ (j : Nat) (x : Asset), j < k ∧ xs[j]? = some x ∧ hitT ts xs k = ((j : Int), firstT ts x.spots) ∧ hitB (reachT ts n) x = true ∧ ∀ (i : Nat) (y : Asset), i < k → xs[i]? = some y → hitB (reachT ts n) y = true → firstT ts x.spots ≤ firstT ts y.spots)
  | 0, _ => .inl ⟨by show (-1 : Int) < 0; decide, fun j x hj => absurd hj (by omega)⟩
  | k + 1, hk => by
    obtain ⟨x, hx⟩ : ∃ x, xs[k]? = some x := ⟨_, List.getElem?_eq_getElem (by omega)⟩
    have hh : hitB (reachT ts n) x = decide (0 ≤ firstT ts x.spots) := first_hit (hs k x hx)
    have ih := hitT_spec (ts := ts) hs k (by omega)
    rw [hitT_succ hx]
    rcases hit_first ts k (hitT ts xs k) x.spots (-1) (hitT ts xs k) (.inl ⟨by decide, rfl⟩) with ⟨h1, h2⟩ | ⟨h1, ⟨h2, h3⟩ | ⟨h2, h3⟩⟩
    · have hf : hitB (reachT ts n) x = false := by rw [hh]; exact decide_eq_false (by unfold firstT; omega)
      rw [h2]
      rcases ih with ⟨i1, i2⟩ | ⟨j, z, i1, i2, i3, i4, i5⟩
      · refine .inl ⟨i1, fun j z hj hz => ?_⟩
        by_cases e : j = k
        · subst e; rw [hx] at hz; injection hz with hz; subst hz; exact hf
        · exact i2 j z (by omega) hz
      · refine .inr ⟨j, z, by omega, i2, i3, i4, fun i y hi hy hyh => ?_⟩
        by_cases e : i = k
        · subst e; rw [hx] at hy; injection hy with hy; subst hy; rw [hf] at hyh; cases hyh
        · exact i5 i y (by omega) hy hyh
    · have hf : hitB (reachT ts n) x = true := by rw [hh]; exact decide_eq_true h1
      rw [h3]
      refine .inr ⟨k, x, by omega, hx, rfl, hf, fun i y hi hy hyh => ?_⟩
      by_cases e : i = k
      · subst e; rw [hx] at hy; injection hy with hy; subst hy; exact Int.le_refl _
      · rcases ih with ⟨i1, i2⟩ | ⟨j, z, i1, i2, i3, i4, i5⟩
        · rw [i2 i y (by omega) hy] at hyh; cases hyh
        · have h5 := i5 i y (by omega) hy hyh
          rw [i3] at h2
          simp only at h2
          show firstL ts (-1) x.spots ≤ _
          omega
    · rw [h3]
      rcases ih with ⟨i1, i2⟩ | ⟨j, z, i1, i2, i3, i4, i5⟩
      · exact absurd (.inl i1) h2
      · refine .inr ⟨j, z, by omega, i2, i3, i4, fun i y hi hy hyh => ?_⟩
        by_cases e : i = k
        · subst e; rw [hx] at hy; injection hy with hy; subst hy
          rw [i3] at h2
          simp only at h2
          show _ ≤ firstL ts (-1) x.spots
          omega
        · exact i5 i y (by omega) hy hyh
theorem exposed_has {re : List Int} {xs : List Asset} {n k : Nat} {x : Asset} (hk : k < n) (hx : xs[k]? = some x) : hasQ (exposedT re xs n) k = hitB re x := by
  rw [Bool.eq_iff_iff, hasQ_iff]
  unfold exposedT
  rw [List.mem_map]
  constructor
  · rintro ⟨c, hc, he⟩
    have e : c = k := by have h : (c : Int) = (k : Int) := he; omega
    subst e
    have h := (List.mem_filter.1 hc).2
    rw [hx] at h
    exact h
  · intro h
    exact ⟨k, List.mem_filter.2 ⟨List.mem_range.2 hk, by rw [hx]; exact h⟩, rfl⟩
theorem exposed_none {re : List Int} {xs : List Asset} : ∀ {n : Nat}, n ≤ xs.length → (∀ (j : Nat) (x : Asset), j < n → xs[j]? = some x → hitB re x = false) → exposedT re xs n = []
  | 0, _, _ => rfl
  | n + 1, hn, h => by
    obtain ⟨x, hx⟩ : ∃ x, xs[n]? = some x := ⟨_, List.getElem?_eq_getElem (by omega)⟩
    rw [exposedT_no hx (h n x (by omega) hx)]
    exact exposed_none (by omega) (fun j x hj => h j x (by omega))
/-- What the walk of the law needs, all in plain Lean. -/
structure Expo (g : Grid) (xs : List Asset) (ms : List Int) (fr : Int) (ts R S : List Int) (HK HA HW : Int) : Prop where
  run : runC g ms fr = 0
  expose : exposeC g xs R = 0
  buried : buriedC g xs S = 0
  slen : S.length = ms.length
  sbd : ∀ y ∈ S, 0 ≤ y ∧ y ≤ 1000000
  tlen : ts.length = ms.length
  has : ∀ c : Nat, c < ms.length → hasB R c = decide (0 ≤ ts.getD c 0)
  ariv : ∀ c : Nat, c < ms.length → runCx g ms fr [(c : Int)] = 0
  first : ∀ (k : Nat) (x : Asset), xs[k]? = some x → hitB R x = decide (0 ≤ firstT ts x.spots)
  hit : (HK = 3 ∧ exposedT R xs xs.length = []) ∨ (HK = 0 ∧ 0 < (exposedT R xs xs.length).length ∧ ∃ (j : Nat) (x : Asset), HA = j ∧ j < xs.length ∧ xs[j]? = some x ∧ HW = firstT ts x.spots ∧ hitB R x = true ∧ ∀ (i : Nat) (y : Asset), xs[i]? = some y → hitB R y = true → HW ≤ firstT ts y.spots)
theorem massR_run {g : Grid} {ms : List Int} {fr : Int} (h : runC g ms fr = 0) : massR g ms fr = (stT g fr ms (runN g fr ms)).settled := by unfold massR; rw [if_pos h]
theorem expo {g : Grid} {xs : List Asset} {ms : List Int} {fr : Int} (h : DrawnM g ms) (ha : assetsB g xs = true) (h64 : ms.length ≤ 64) (h1 : 1 ≤ fr) (h2 : fr ≤ 5000) : Expo g xs ms fr (stT g fr ms (runN g fr ms)).times (reachL g ms fr) (stT g fr ms (runN g fr ms)).settled (hitK g xs ms fr) (hitA g xs ms fr) (hitW g xs ms fr) := by
  obtain ⟨hrc, hro⟩ := h.run h1 h2
  have hst := stT_ok (fr := fr) hro.grid hro.len hro.f1 hro.pos (runN g fr ms)
  have hsp : ∀ (k : Nat) (x : Asset), xs[k]? = some x → ∀ y ∈ x.spots, ∃ c : Nat, y = c ∧ c < ms.length := fun k x hx y hy => by
    have := spots_in ha hx y hy
    rw [h.len]; exact this
  have hbd : ∀ y ∈ (stT g fr ms (runN g fr ms)).settled, 0 ≤ y ∧ y ≤ 1000000 := fun y hy => by
    have a1 := hst.n2 y hy
    have a2 := le_sum _ hst.n2 y hy
    have a3 := sum_nonneg _ hst.n1
    have a4 := hst.sum
    have a5 := sum_le_mul (m := 2000) ms (fun x hx => (h.bd x hx).2)
    omega
  have hex : exposeC g xs (reachL g ms fr) = 0 := by
    unfold exposeC
    rw [if_neg (by rw [ha]; simp), if_neg (by rw [reach_cells hro]; simp)]
  have hfirst : ∀ (k : Nat) (x : Asset), xs[k]? = some x → hitB (reachL g ms fr) x = decide (0 ≤ firstT (stT g fr ms (runN g fr ms)).times x.spots) := fun k x hx => first_hit (hsp k x hx)
  have hC : hitC g xs ms fr = 0 := by
    unfold hitC
    rw [if_neg (by rw [ha]; simp)]; exact hrc
  refine ⟨hrc, hex, ?_, hst.l2, hbd, hst.l3, fun c hc => reach_has hc, fun c hc => h.cell h1 h2 hc, hfirst, ?_⟩
  · unfold buriedC
    rw [if_neg (by rw [ha]; simp), if_neg]
    have : massB g (stT g fr ms (runN g fr ms)).settled = true := by
      unfold massB
      rw [Bool.and_eq_true, decide_eq_true_eq, List.all_eq_true]
      exact ⟨by rw [hst.l2]; exact h.len, fun y hy => inB_iff.2 (hbd y hy)⟩
    rw [this]; simp
  · rcases hitT_spec (ts := (stT g fr ms (runN g fr ms)).times) hsp xs.length (Nat.le_refl _) with ⟨e1, e2⟩ | ⟨j, x, e1, e2, e3, e4, e5⟩
    · left
      refine ⟨?_, exposed_none (Nat.le_refl _) (fun j x hj hx => e2 j x hj hx)⟩
      unfold hitK
      rw [if_pos hC, if_pos]
      unfold hitB2
      exact e1
    · right
      have hneg : ¬ (hitB2 g xs ms fr).1 < 0 := by unfold hitB2; rw [e3]; simp only; omega
      refine ⟨by unfold hitK; rw [if_pos hC, if_neg hneg], ?_, j, x, by unfold hitA; rw [if_pos hC, if_neg hneg]; unfold hitB2; rw [e3], e1, e2, by unfold hitW; rw [if_pos hC, if_neg hneg]; unfold hitB2; rw [e3], e4, fun i y hy hyh => ?_⟩
      · have hq := exposed_has (re := reachL g ms fr) (n := xs.length) e1 e2
        rw [show hitB (reachL g ms fr) x = true from e4, hasQ_iff] at hq
        exact List.length_pos_of_mem hq
      · have hi := (List.getElem?_eq_some_iff.1 hy).1
        unfold hitW; rw [if_pos hC, if_neg hneg]; unfold hitB2; rw [e3]
        exact e5 i y hi hy hyh

end Go.Proofs.YtphapakhoibamaaGreatDoor

namespace Go.Proofs.YtphapakhoibamaaGreatDoor
open Go.RowKit

set_option maxHeartbeats 1000000 in
theorem r8Same_any (A B : Option Addr) (n c d : Nat) (xs : List Int) (w : World) (hx : SliceOf w 1 i64cells A n xs) (hy : SliceOf w 1 i64cells B n xs) :
    Calls Tryz.prog 21 #[.slice A n c, .slice B n d] w (Ret (.bool true) w) := by
  have hn := hx.le
  have hne : ((n : Int) != (n : Int)) = false := by simp
  go_enter Tryz.func21, Tryz.ntmps21
  go_wp2
  clear hne
  go_loopg [5] n (fun gk i wr => ∃ k : Nat, k ≤ n ∧ gk = n - k ∧ i = .int .i64 k ∧ Below w.heap.size w wr)
  case atStart => exact ⟨0, Nat.zero_le _, rfl, rfl, Below.refl _ _⟩
  case round =>
    obtain ⟨k, hk, hgk, rfl, hb⟩ := hrel
    have Hgk := Lib.hid hgk
    clear hgk
    by_cases hlt : k < n
    · obtain ⟨b1, o1, x, rfl, hb1, hxk, x0⟩ := ints_at (hx.below hb) hlt
      obtain ⟨b2, o2, y, rfl, hb2, hyk, y0⟩ := ints_at (hy.below hb) hlt
      rw [hxk] at hyk
      injection hyk with hyk
      subst hyk
      have hne : (x != x) = false := by simp
      clear hxk
      have hsub := fun (g : Sub wr) b o (h : b < wr.heap.size) => g.cell b o h
      go_wp2_with fail
      refine wp_region_sub (by kernel_rfl) (by kernel_rfl) ?_
      repeat (go_big_quiet_step (fail))
      refine wpQuiet_nil ?_
      intro wg hg
      have hbg := hb.trans (hg.mono hb.size)
      clear hsub x0 y0
      go_wp2
      go_roundg (n - (k + 1))
      case measure => have := Hgk.out; omega
      case rel => exact ⟨k + 1, by omega, rfl, by go_num, hbg⟩
    · go_wp2
      go_ret
      exact Ret.b rfl hb
set_option maxHeartbeats 1000000 in
theorem l09CellE_any (g : GridR) (bg offg : Nat) (cell cells : Int) (w : World) (hm : IntKind.i64.wrap (g.rows * g.columns) = g.rows * g.columns) (hgc : g.rows * g.columns = cells) (hc0 : 0 ≤ cells) (hc1 : cells ≤ 9223372036854775807) (hbg0 : bg < w.heap.size) (g0 : w.cell? ⟨bg, offg, none⟩ = some (.int .i64 g.rows)) (g1 : w.cell? ⟨bg, offg + 1, none⟩ = some (.int .i64 g.columns)) :
    Calls Tryz.prog 42 #[.pointer (some ⟨bg, offg, none⟩), .int .i64 cell] w (Ret (.bool (inB cell 0 (cells - 1))) w) := by
  rw [hgc] at hm
  have hsub := fun (g : Sub w) b o (h : b < w.heap.size) => g.cell b o h
  go_enter Tryz.func42, Tryz.ntmps42
  go_wp2_with fail
  refine wp_region_sub (by kernel_rfl) (by kernel_rfl) ?_
  repeat (go_big_quiet_step (exact Calls.sub_of_same (l00In_any _ _ _ _)))
  refine wpQuiet_nil ?_
  intro wg hg
  go_wp2
  go_ret
  exact Ret.b rfl hg
set_option maxRecDepth 100000 in
set_option maxHeartbeats 1000000 in
theorem specArrivalOf_ok (g : GridR) (B : Option Addr) (n d : Nat) (ms : List Int) (fr : Int) (c : Nat) (t q kk : Int) (w : World) (hgi : g.In w) (hr : SliceOf w 1 i64cells B n ms) (hrc : runC g.val ms fr = 0) (hcn : c < n) (ht : (stT g.val fr ms (runN g.val fr ms)).times[c]? = some t) (hv : (0 ≤ t ∧ q = t ∧ kk = 0) ∨ (¬ 0 ≤ t ∧ q = 0 ∧ kk = 3)) :
    Calls Tryz.prog 18 #[.agg #[.int .i64 g.rows, .int .i64 g.columns, .int .i64 g.size, .slice g.heightsA g.heightsN g.heightsC], .slice B n d, .int .i64 fr, .int .i64 c] w (Ret (.tuple #[.int .i64 q, .int .i64 kk]) w) := by
  have HV := Lib.hid hv
  have hB : Below w.heap.size w (w.alloc (.cells #[.int .i64 g.rows, .int .i64 g.columns, .int .i64 g.size, .slice g.heightsA g.heightsN g.heightsC] 26)) := (Below.refl _ _).alloc (Nat.le_refl _) _
  have HO := Lib.hid (Own.new w 26 #[.int .i64 g.rows, .int .i64 g.columns, .int .i64 g.size, .slice g.heightsA g.heightsN g.heightsC])
  have HB := Lib.hid hB
  have HI := Lib.hid (hgi.below hB)
  have HR := Lib.hid (hr.below hB)
  have HLn := Lib.hid hr.len
  have hnle := hr.le
  have HK := Lib.hid (runC_zero hrc)
  have HRC := Lib.hid hrc
  have HT := Lib.hid ht
  have hnN : n = g.heightsN := HK.out.n hgi hr
  have hcN : c < g.heightsN := by omega
  have hgn := hgi.1.le
  have hp := (gridB_iff g.val).1 HK.out.grid
  have HM := Lib.hid (mul_i64 (inB_iff.1 hp.1) (inB_iff.1 hp.2.1))
  have HL : Hid (g.rows * g.columns = (g.heightsN : Int)) := by have h := of_decide_eq_true hp.2.2.2.1; exact h.symm.trans (congrArg (fun k : Nat => (k : Int)) hgi.1.len)
  have HNN := Lib.hid hnN
  clear hgi hB hr hp hrc ht hnN hv
  go_enter Tryz.func18, Tryz.ntmps18
  go_wp2_with fail
  refine (l09Ok_any g _ _ _ HI.out HO.out.lt (HO.out.cell 0) (HO.out.cell 1) (HO.out.cell 2) (HO.out.cell 3)).mono ?_
  rintro e w1 ⟨rfl, hb1⟩
  rw [HK.out.grid]
  have HO1 := Lib.hid (HO.out.below' hb1)
  have HI1 := Lib.hid (HI.out.below hb1)
  have HR1 := Lib.hid (HR.out.below hb1)
  have HB1 := Lib.hid (HB.out.trans (hb1.mono HB.out.size))
  clear hb1
  go_wp2_with fail
  refine (l09CellE_any g w.heap.size 0 (c : Int) (g.heightsN : Int) _ HM.out.1 HL.out (by omega) (by omega) HO1.out.lt (HO1.out.cell 0) (HO1.out.cell 1)).mono ?_
  rintro e w2 ⟨rfl, hb2⟩
  have hin : inB (c : Int) 0 ((g.heightsN : Int) - 1) = true := inB_iff.2 ⟨by omega, by omega⟩
  rw [hin]
  have HO2 := Lib.hid (HO1.out.below' hb2)
  have HI2 := Lib.hid (HI1.out.below hb2)
  have HR2 := Lib.hid (HR1.out.below hb2)
  have HB2 := Lib.hid (HB1.out.trans (hb2.mono HB1.out.size))
  clear hb2 hin
  go_wp2_with fail
  refine (l13Ask_any g w.heap.size 0 _ _ _ ms fr _ HI2.out HR2.out HO2.out.lt (HO2.out.cell 0) (HO2.out.cell 1) (HO2.out.cell 2) (HO2.out.cell 3)).mono ?_
  rintro e w3 ⟨rfl, hb3⟩
  rw [HRC.out]
  have HO3 := Lib.hid (HO2.out.below' hb3)
  have HI3 := Lib.hid (HI2.out.below hb3)
  have HR3 := Lib.hid (HR2.out.below hb3)
  have HB3 := Lib.hid (HB2.out.trans (hb3.mono HB2.out.size))
  clear hb3
  go_wp2_with fail
  refine (l13Run_any g w.heap.size 0 _ n d ms fr _ HI3.out HK.out.grid HR3.out HNN.out HK.out.f1 HK.out.pos HK.out.sum HO3.out.lt (HO3.out.cell 0) (HO3.out.cell 1) (HO3.out.cell 2) (HO3.out.cell 3)).mono ?_
  rintro e w4 ⟨u, v, rfl, hu, hv, hb4⟩
  obtain ⟨ts, hts⟩ : ∃ ts, (stT g.val fr ms (runN g.val fr ms)).times = ts := ⟨_, rfl⟩
  have htl : ts.length = n := by rw [← hts, times_len HK.out, HLn.out]
  have htc := HT.out
  rw [hts] at hv htc
  obtain ⟨AV, cv, rfl, _, _, hsv⟩ := hv.slice i64cells_len
  rw [htl] at hsv ⊢
  obtain ⟨b1, o1, x, rfl, hb1, hxk, x0⟩ := ints_at hsv hcn
  rw [htc] at hxk
  injection hxk with hxk
  subst hxk
  have HB4 := Lib.hid (HB3.out.trans (hb4.mono HB3.out.size))
  clear hts hu hv htl hsv hb4 htc
  rcases HV.out with ⟨h0, hq, hk⟩ | ⟨h0, hq, hk⟩
  · have hd : decide (t < 0) = false := decide_eq_false (by omega)
    subst hq hk
    go_wp2
    go_ret2
    exact Ret.ii rfl rfl HB4.out
  · have hd : decide (t < 0) = true := decide_eq_true (by omega)
    subst hq hk
    go_wp2
    go_ret2
    exact Ret.ii rfl rfl HB4.out
theorem safe1_any (y : Int) (b0 : Nat) (B : Option Addr) (m d : Nat) (re : List Int) (w : World) (h0 : w.cell? ⟨b0, 0, none⟩ = some (.slice B m d)) (hr : SliceOf w 1 i64cells B m re) :
    Calls Tryz.prog 34 #[.int .i64 y, .pointer (some ⟨b0, 0, none⟩)] w (RetS (.bool (!hasB re y)) w) := by
  go_enter Tryz.func34, Tryz.ntmps34
  go_wp2_with fail
  refine (containsI_any y _ _ _ re _ hr).mono ?_
  rintro e w' ⟨rfl, rfl⟩
  go_wp2
  go_ret
  exact RetS.b rfl
set_option maxHeartbeats 1000000 in
theorem cellsCode_any (g : GridR) (B : Option Addr) (m d : Nat) (re : List Int) (w : World) (hgi : g.In w) (hgb : gridB g.val = true) (hc : cellsG g.val re = true) (hr : SliceOf w 1 i64cells B m re) :
    Calls Tryz.prog 32 #[.agg #[.int .i64 g.rows, .int .i64 g.columns, .int .i64 g.size, .slice g.heightsA g.heightsN g.heightsC], .slice B m d] w (Ret (.int .i64 0) w) := by
  have hB : Below w.heap.size w (w.alloc (.cells #[.int .i64 g.rows, .int .i64 g.columns, .int .i64 g.size, .slice g.heightsA g.heightsN g.heightsC] 26)) := (Below.refl _ _).alloc (Nat.le_refl _) _
  have HO := Lib.hid (Own.new w 26 #[.int .i64 g.rows, .int .i64 g.columns, .int .i64 g.size, .slice g.heightsA g.heightsN g.heightsC])
  have HB := Lib.hid hB
  have HI := Lib.hid (hgi.below hB)
  have HR := Lib.hid (hr.below hB)
  clear hgi hB hr
  have y0 := HO.out.cell 0
  have y1 := HO.out.cell 1
  have y2 := HO.out.cell 2
  have y3 := HO.out.cell 3
  go_enter Tryz.func32, Tryz.ntmps32
  go_wp2_with fail
  refine (validGrid_any g _ HI.out).mono ?_
  rintro e w1 ⟨rfl, hb1⟩
  rw [hgb]
  have HO1 := Lib.hid (HO.out.below' hb1)
  have HB1 := Lib.hid (HB.out.trans (hb1.mono HB.out.size))
  have HI1 := Lib.hid (HI.out.below hb1)
  have HR1 := Lib.hid (HR.out.below hb1)
  clear hb1 y0 y1 y2 y3
  have y0 := HO1.out.cell 0
  have y1 := HO1.out.cell 1
  have y2 := HO1.out.cell 2
  have y3 := HO1.out.cell 3
  go_wp2_with fail
  refine (hasCells_any g _ _ _ re _ HI1.out HR1.out).mono ?_
  rintro e w2 ⟨rfl, hb2⟩
  rw [hc]
  go_wp2
  go_ret
  exact Ret.mk rfl (HB1.out.trans (hb2.mono HB1.out.size))
set_option maxHeartbeats 2000000 in
theorem cellsWhere_safe (g : GridR) (b0 : Nat) (B : Option Addr) (m d : Nat) (re : List Int) (w : World) (h64 : g.heightsN ≤ 64) (hb0 : b0 < w.heap.size) (h0 : w.cell? ⟨b0, 0, none⟩ = some (.slice B m d)) (hr : SliceOf w 1 i64cells B m re) :
    Calls Tryz.prog 33 #[.agg #[.int .i64 g.rows, .int .i64 g.columns, .int .i64 g.size, .slice g.heightsA g.heightsN g.heightsC], .func (.func 34) #[] #[.pointer (some ⟨b0, 0, none⟩)]] w (RetL 2 1 i64cells (safeT re g.heightsN) w) := by
  obtain ⟨w0, hw0⟩ : ∃ w0, w.alloc (.cells #[.int .i64 g.rows, .int .i64 g.columns, .int .i64 g.size, .slice g.heightsA g.heightsN g.heightsC] 26) = w0 := ⟨_, rfl⟩
  have hB : Below w.heap.size w w0 := by rw [← hw0]; exact (Below.refl _ _).alloc (Nat.le_refl _) _
  have HO : Hid (Own w0 w.heap.size 26 #[.int .i64 g.rows, .int .i64 g.columns, .int .i64 g.size, .slice g.heightsA g.heightsN g.heightsC]) := by rw [Hid, ← hw0]; exact Own.new w 26 #[.int .i64 g.rows, .int .i64 g.columns, .int .i64 g.size, .slice g.heightsA g.heightsN g.heightsC]
  have HB := Lib.hid hB
  have HC0 : Hid (w0.cell? ⟨b0, 0, none⟩ = some (.slice B m d)) := (hB.cell (p := ⟨b0, 0, none⟩) hb0).trans h0
  have HR := Lib.hid (hr.below hB)
  have HB00 : Hid (b0 < w0.heap.size) := Nat.lt_of_lt_of_le hb0 hB.size
  obtain ⟨n, hn⟩ : ∃ n, g.heightsN = n := ⟨_, rfl⟩
  have HN := Lib.hid hn
  have hnle : n ≤ 64 := by omega
  have y0 := HO.out.cell 0
  have y1 := HO.out.cell 1
  have y2 := HO.out.cell 2
  have y3 := HO.out.cell 3
  simp at y0 y1 y2 y3
  rw [hn] at y3 hw0 ⊢
  clear hB hr h0 hb0 hn h64
  go_enter Tryz.func33, Tryz.ntmps33
  go_wp2
  try rw [hw0]
  clear y0 y1 y2 y3 hw0
  go_loopg [10, 5] n (fun gk i u wr => ∃ (k : Nat) (v : Value), k ≤ n ∧ gk = n - k ∧ i = .int .i64 k ∧ v = u ∧ Below w0.heap.size w0 wr ∧ OwnsL wr w0.heap.size 2 1 i64cells v (safeT re k))
  case atStart => exact ⟨0, _, Nat.zero_le _, rfl, rfl, rfl, Below.refl _ _, OwnsL.nil_ _ _ _ _ _⟩
  case round =>
    obtain ⟨k, v, hk, hgk, rfl, rfl, hb, hown⟩ := hrel
    have Hgk := Lib.hid hgk
    have HOW := Lib.hid hown
    have HBB := Lib.hid hb
    have HCr : Hid (wr.cell? ⟨b0, 0, none⟩ = some (.slice B m d)) := (hb.cell (p := ⟨b0, 0, none⟩) HB00.out).trans HC0.out
    have HRr := Lib.hid (HR.out.below hb)
    clear hgk hown hb
    by_cases hlt : k < n
    · cases hh : hasB re (k : Int)
      · have HT := Lib.hid (safeT_yes hh)
        have hlen : (safeT re k).length ≤ 64 := by have := safeT_len re k; omega
        have HLEN := Lib.hid hlen
        go_wp2_with (first | (go_at_call 34; refine (safe1_any _ _ _ _ _ re _ HCr.out HRr.out).mono ?_; rintro e w' ⟨rfl, rfl⟩; rw [hh]) | (at_builtin; refine wpList_push (by rfl) (.tmp 16) (.tmp 18) 24 (by rfl) w0.heap.size 2 1 Tryz.underlying24 infoI64 (by rfl) (by decide) i64cells i64cells_len i64cells_one _ v _ (k : Int) (by rfl) (by rfl) HOW.out (by rfl) (by have := HLEN.out; omega) (by decide) HBB.out.size ?_))
        intro v' w' hown' hb' _
        have HW : Hid (OwnsL w' w0.heap.size 2 1 i64cells v' (safeT re (k + 1))) := by rw [Hid, HT.out]; exact hown'
        have HBW := Lib.hid (HBB.out.trans hb')
        clear hown' hb'
        go_wp2
        go_roundg (n - (k + 1))
        case measure => have := Hgk.out; omega
        case rel => exact ⟨k + 1, v', by omega, rfl, by go_num, rfl, HBW.out, HW.out⟩
      · have HT := Lib.hid (safeT_no hh)
        go_wp2_with (go_at_call 34; refine (safe1_any _ _ _ _ _ re _ HCr.out HRr.out).mono ?_; rintro e w' ⟨rfl, rfl⟩; rw [hh])
        go_roundg (n - (k + 1))
        case measure => have := Hgk.out; omega
        case rel => exact ⟨k + 1, v, by omega, rfl, by go_num, rfl, HBB.out, by rw [HT.out]; exact HOW.out⟩
    · have hkn : k = n := by omega
      subst hkn
      go_wp2
      go_ret
      exact RetP.mk (HOW.out.rebase HB.out.size) (HB.out.trans (HBB.out.mono HB.out.size))
set_option maxHeartbeats 1000000 in
theorem implSafeCells_ok (g : GridR) (B : Option Addr) (m d : Nat) (re : List Int) (w : World) (hgi : g.In w) (hgb : gridB g.val = true) (h64 : g.heightsN ≤ 64) (hc : cellsG g.val re = true) (hr : SliceOf w 1 i64cells B m re) :
    Calls Tryz.prog 13 #[.agg #[.int .i64 g.rows, .int .i64 g.columns, .int .i64 g.size, .slice g.heightsA g.heightsN g.heightsC], .slice B m d] w (RetLT 2 1 i64cells (safeT re g.heightsN) [.int .i64 0] w) := by
  have hB : Below w.heap.size w ((w.alloc (.cells #[.int .i64 g.rows, .int .i64 g.columns, .int .i64 g.size, .slice g.heightsA g.heightsN g.heightsC] 26)).alloc (.cells #[.slice B m d] 24)) := ((Below.refl _ _).alloc (Nat.le_refl _) _).alloc (by simp) _
  have h1 : Own ((w.alloc (.cells #[.int .i64 g.rows, .int .i64 g.columns, .int .i64 g.size, .slice g.heightsA g.heightsN g.heightsC] 26)).alloc (.cells #[.slice B m d] 24)) (w.heap.size + 1) 24 #[.slice B m d] := by
    have := Own.new (w.alloc (.cells #[.int .i64 g.rows, .int .i64 g.columns, .int .i64 g.size, .slice g.heightsA g.heightsN g.heightsC] 26)) 24 #[.slice B m d]
    simpa using this
  have h0 : Own ((w.alloc (.cells #[.int .i64 g.rows, .int .i64 g.columns, .int .i64 g.size, .slice g.heightsA g.heightsN g.heightsC] 26)).alloc (.cells #[.slice B m d] 24)) w.heap.size 26 #[.int .i64 g.rows, .int .i64 g.columns, .int .i64 g.size, .slice g.heightsA g.heightsN g.heightsC] := (Own.new w 26 #[.int .i64 g.rows, .int .i64 g.columns, .int .i64 g.size, .slice g.heightsA g.heightsN g.heightsC]).below' ((Below.refl _ _).alloc (Nat.le_refl _) _)
  obtain ⟨w0, hw0⟩ : ∃ w0, (w.alloc (.cells #[.int .i64 g.rows, .int .i64 g.columns, .int .i64 g.size, .slice g.heightsA g.heightsN g.heightsC] 26)).alloc (.cells #[.slice B m d] 24) = w0 := ⟨_, rfl⟩
  rw [hw0] at hB h1 h0
  have HB := Lib.hid hB
  have HI := Lib.hid (hgi.below hB)
  have HR := Lib.hid (hr.below hB)
  have HO := Lib.hid h0
  have HQ := Lib.hid h1
  clear hgi hr hB h0 h1
  have y0 := HO.out.cell 0
  have y1 := HO.out.cell 1
  have y2 := HO.out.cell 2
  have y3 := HO.out.cell 3
  have z0 := HQ.out.cell 0
  simp at y0 y1 y2 y3 z0
  go_enter Tryz.func13, Tryz.ntmps13
  go_wp2_with fail
  try rw [hw0]
  clear y0 y1 y2 y3 z0 hw0
  refine (cellsCode_any g _ _ _ re w0 HI.out hgb hc HR.out).mono ?_
  rintro e w1 ⟨rfl, hb1⟩
  have HO1 := Lib.hid (HO.out.below' hb1)
  have HQ1 := Lib.hid (HQ.out.below' hb1)
  have HI1 := Lib.hid (HI.out.below hb1)
  have HR1 := Lib.hid (HR.out.below hb1)
  have HB1 := Lib.hid (HB.out.trans (hb1.mono HB.out.size))
  clear hb1
  have y0 := HO1.out.cell 0
  have y1 := HO1.out.cell 1
  have y2 := HO1.out.cell 2
  have y3 := HO1.out.cell 3
  simp at y0 y1 y2 y3
  go_wp2_with fail
  refine (cellsWhere_safe g (w.heap.size + 1) B m d re w1 h64 HQ1.out.lt (HQ1.out.cell 0) HR1.out).mono ?_
  rintro e w2 ⟨v, rfl, ho, hb2⟩
  have HOV := Lib.hid ho
  have HB2 := Lib.hid (HB1.out.trans (hb2.mono HB1.out.size))
  clear ho hb2 y0 y1 y2 y3
  go_wp2
  go_ret2
  exact RetLTe.yes rfl HOV.out HB1.out.size HB2.out

end Go.Proofs.YtphapakhoibamaaGreatDoor
