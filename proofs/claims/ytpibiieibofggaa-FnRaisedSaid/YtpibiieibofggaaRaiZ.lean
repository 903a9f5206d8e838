/- Plain laws for the walk of FnRaised: levels set one after the other, jumps counted. -/
import Derived.Test.YtpibiieibofggaaRaiQ
import Derived.Test.YtpibiieibofggaaJmpP
namespace Go.Proofs.Ytpibiieibofggaa
open Go.RowKit

theorem withLv_levels {xs : List Region} {lv : List Int} (h : lv.length = xs.length) : (withLv xs lv).map Region.level = lv := by
  refine List.ext_getElem? (fun i => ?_)
  rw [List.getElem?_map]
  by_cases hi : i < xs.length
  · rw [withLv_at (List.getElem?_eq_getElem hi) (List.getElem?_eq_getElem (by omega)), List.getElem?_eq_getElem (by omega)]; rfl
  · rw [List.getElem?_eq_none (by rw [withLv_len h]; omega), List.getElem?_eq_none (by omega)]; rfl
theorem withLv_twice {xs : List Region} {lv lw : List Int} (h : lv.length = xs.length) (h2 : lw.length = xs.length) : withLv (withLv xs lv) lw = withLv xs lw := by
  have hl := withLv_len h
  refine List.ext_getElem? (fun i => ?_)
  by_cases hi : i < xs.length
  · have hx := List.getElem?_eq_getElem hi
    have hw : lw[i]? = some (lw[i]'(by omega)) := List.getElem?_eq_getElem (by omega)
    rw [withLv_at (withLv_at hx (List.getElem?_eq_getElem (by omega : i < lv.length))) hw, withLv_at hx hw]
  · rw [List.getElem?_eq_none (by rw [withLv_len (by rw [hl]; exact h2), hl]; omega), List.getElem?_eq_none (by rw [withLv_len h2]; omega)]
/-- The first levels from one list, the others from another. -/
def levMix (best lv : List Int) (i : Nat) : List Int := best.take i ++ lv.drop i
theorem levMix_len {best lv : List Int} {i n : Nat} (h1 : best.length = n) (h2 : lv.length = n) (hi : i ≤ n) : (levMix best lv i).length = n := by
  unfold levMix; rw [List.length_append, List.length_take, List.length_drop]; omega
theorem levMix_set {best lv : List Int} {i n : Nat} (h1 : best.length = n) (h2 : lv.length = n) {l : Int} (hl : best[i]? = some l) : (levMix best lv i).set i l = levMix best lv (i + 1) := by
  obtain ⟨hi, rfl⟩ := List.getElem?_eq_some_iff.1 hl
  unfold levMix
  have ht : (best.take i).length = i := by rw [List.length_take]; omega
  rw [List.set_append_right _ _ (by omega), ht, Nat.sub_self, List.drop_eq_getElem_cons (by omega : i < lv.length), List.set_cons_zero, List.take_succ_eq_append_getElem hi, List.append_assoc]
  rfl
theorem levMix_zero {best lv : List Int} : levMix best lv 0 = lv := by simp [levMix]
theorem levMix_all {best lv : List Int} {n : Nat} (h1 : best.length = n) (h2 : lv.length = n) : levMix best lv n = best := by
  unfold levMix; rw [List.take_of_length_le (by omega), List.drop_of_length_le (by omega), List.append_nil]
theorem levMix_mem {best lv : List Int} {i : Nat} {x : Int} (h : x ∈ levMix best lv i) : x ∈ best ∨ x ∈ lv := by
  unfold levMix at h
  rcases List.mem_append.1 h with h | h
  · exact .inl (List.mem_of_mem_take h)
  · exact .inr (List.mem_of_mem_drop h)
theorem levMix_ok {xs : List Region} (hv : regionsB xs = true) {best : List Int} (hb : UpTo xs best xs.length) (i : Nat) : ∀ l ∈ levMix best (xs.map Region.level) i, 1 ≤ l ∧ l ≤ 5 := by
  intro l hl
  rcases levMix_mem hl with h | h
  · obtain ⟨j, hj, rfl⟩ := List.getElem_of_mem h
    have hlen := hb.len
    have h1 := hb.lo j (by omega)
    have h2 := regionsB_levels hv j (by omega)
    unfold lvAt at h1
    rw [List.getElem?_eq_getElem hj] at h1
    simp only [Option.getD_some] at h1
    omega
  · obtain ⟨r, hr, rfl⟩ := List.mem_map.1 h
    exact regionsB_level hv hr
theorem withLv_own {xs : List Region} : withLv xs (xs.map Region.level) = xs := withLv_self xs _ (by simp) (fun i hi => by simp [lvAt, levelAt, List.getElem?_map])
theorem withLv_good {xs : List Region} {lv : List Int} (hg : ∀ x ∈ xs, x.Good) (hl : ∀ l ∈ lv, 1 ≤ l ∧ l ≤ 5) : ∀ x ∈ withLv xs lv, x.Good := by
  intro y hy
  obtain ⟨i, hi⟩ := List.getElem?_of_mem hy
  obtain ⟨x, l, hx, hlk, rfl⟩ := withLv_of hi
  have h1 := hl l (List.mem_of_getElem? hlk)
  exact ⟨⟨by show (-9223372036854775808 : Int) ≤ l; omega, by show l ≤ 9223372036854775807; omega⟩, (hg x (List.mem_of_getElem? hx)).2⟩
theorem jumC_zero {xs : List Region} {least : Int} (h : jumC xs least = 0) : regionsB xs = true ∧ 0 ≤ least ∧ least ≤ 4 ∧ jumL xs least = lawTo xs least xs.length := by
  have hl : jumL xs least = jumpsTo xs least xs := by unfold jumL; rw [if_pos h]
  cases hv : regionsB xs
  · unfold jumC at h; rw [if_pos hv] at h; cases h
  · cases hi : inB least 0 4
    · unfold jumC at h; rw [if_neg (by rw [hv]; simp), if_pos hi] at h; cases h
    · rw [inB_iff] at hi
      exact ⟨rfl, hi.1, hi.2, by rw [hl, jumps_all hv]⟩
theorem jumL_no {xs : List Region} {least : Int} (h : jumC xs least ≠ 0) : jumL xs least = [] := by unfold jumL; rw [if_neg h]
/-- The pairs up to the q-th region behind region i. -/
def lawPre (xs : List Region) (least : Int) (i : Nat) (r : Region) (q : Nat) : List (ByteArray × ByteArray) := lawTo xs least i ++ lawIn least r ((xs.drop (i + 1)).take q)
theorem lawPre_zero {xs : List Region} {least : Int} {i : Nat} {r : Region} : lawPre xs least i r 0 = lawTo xs least i := by simp [lawPre, lawIn]
theorem lawPre_no {xs : List Region} {least : Int} {i q : Nat} {r y : Region} (hy : xs[i + 1 + q]? = some y) (hb : lawB least r y = false) : lawPre xs least i r (q + 1) = lawPre xs least i r q := by
  have hd : (xs.drop (i + 1))[q]? = some y := by rw [List.getElem?_drop]; exact hy
  obtain ⟨h1, rfl⟩ := List.getElem?_eq_some_iff.1 hd
  unfold lawPre lawIn
  rw [List.take_succ_eq_append_getElem h1, List.filter_append, List.filter_cons_of_neg (by rw [hb]; simp), List.filter_nil, List.append_nil]
theorem lawPre_yes {xs : List Region} {least : Int} {i q : Nat} {r y : Region} (hy : xs[i + 1 + q]? = some y) (hb : lawB least r y = true) : lawPre xs least i r (q + 1) = lawPre xs least i r q ++ [(r.id, y.id)] := by
  have hd : (xs.drop (i + 1))[q]? = some y := by rw [List.getElem?_drop]; exact hy
  obtain ⟨h1, rfl⟩ := List.getElem?_eq_some_iff.1 hd
  unfold lawPre lawIn
  rw [List.take_succ_eq_append_getElem h1, List.filter_append, List.filter_cons_of_pos hb, List.filter_nil, List.map_append, ← List.append_assoc]
  rfl
theorem lawPre_all {xs : List Region} {least : Int} {i q : Nat} {r : Region} (hr : xs[i]? = some r) (hq : xs.length ≤ i + 1 + q) : lawPre xs least i r q = lawTo xs least (i + 1) := by
  unfold lawPre
  rw [lawTo, hr, List.take_of_length_le (by rw [List.length_drop]; omega)]
theorem lawTo_pre {xs : List Region} {least : Int} (i : Nat) : ∀ d, ∃ t, lawTo xs least (i + d) = lawTo xs least i ++ t
  | 0 => ⟨[], by simp⟩
  | d + 1 => by
    obtain ⟨t, ht⟩ := lawTo_pre (xs := xs) (least := least) i d
    exact ⟨_, by rw [← Nat.add_assoc, lawTo, ht, List.append_assoc]⟩
theorem lawPre_pre {xs : List Region} {least : Int} {i : Nat} {r : Region} (hr : xs[i]? = some r) (q : Nat) : ∃ t, lawTo xs least xs.length = lawPre xs least i r q ++ t := by
  have hi := (List.getElem?_eq_some_iff.1 hr).1
  obtain ⟨t, ht⟩ := lawTo_pre (xs := xs) (least := least) (i + 1) (xs.length - (i + 1))
  rw [show i + 1 + (xs.length - (i + 1)) = xs.length by omega, lawTo, hr] at ht
  refine ⟨lawIn least r ((xs.drop (i + 1)).drop q) ++ t, ?_⟩
  have hs : lawIn least r (xs.drop (i + 1)) = lawIn least r ((xs.drop (i + 1)).take q) ++ lawIn least r ((xs.drop (i + 1)).drop q) := by
    unfold lawIn
    rw [← List.map_append, ← List.filter_append, List.take_append_drop]
  rw [ht]
  simp only
  rw [hs]
  unfold lawPre
  simp only [List.append_assoc]
theorem lawPre_at {xs : List Region} {least : Int} {i q : Nat} {r y : Region} (hr : xs[i]? = some r) (hy : xs[i + 1 + q]? = some y) (hb : lawB least r y = true) : (lawTo xs least xs.length)[(lawPre xs least i r q).length]? = some (r.id, y.id) := by
  obtain ⟨t, ht⟩ := lawPre_pre (least := least) hr (q + 1)
  rw [ht, lawPre_yes hy hb, List.append_assoc, List.getElem?_append_right (Nat.le_refl _), Nat.sub_self]
  rfl
theorem ownK_le {xs : List Region} (hv : regionsB xs = true) {best : List Int} (hb : UpTo xs best xs.length) : ∀ k, k ≤ xs.length → ownK xs best k ≤ 4 * k
  | 0, _ => by simp [ownK]
  | k + 1, hk => by
    have ih := ownK_le hv hb k (by omega)
    have h1 := hb.lo k (by omega)
    have h2 := regionsB_levels hv k (by omega)
    rw [ownK]; omega
theorem lev_step {xs : List Region} {n : Nat} (hn : xs.length = n) (hv : regionsB xs = true) {best : List Int} (hb : UpTo xs best xs.length) {i : Nat} (hi : i < n) {x : Region} (hx : xs[i]? = some x) {l : Int} (hl : best[i]? = some l) :
    (x.level ≤ l ∧ l ≤ 5 ∧ 1 ≤ x.level) ∧ ownK xs best (i + 1) = ownK xs best i + (l - x.level) ∧ withLv (withLv xs (levMix best (xs.map Region.level) i)) (((withLv xs (levMix best (xs.map Region.level) i)).map Region.level).set i l) = withLv xs (levMix best (xs.map Region.level) (i + 1)) ∧ ∃ lm, (withLv xs (levMix best (xs.map Region.level) i))[i]? = some ⟨x.id, lm, x.near⟩ := by
  subst hn
  have h1 := hb.lo i hi
  have h2 := regionsB_levels hv i hi
  have hlx : levelAt xs i = x.level := by unfold levelAt; rw [hx]; rfl
  have hll : lvAt best i = l := by unfold lvAt; rw [hl]; rfl
  rw [hlx] at h1 h2
  rw [hll] at h1
  have hlen : (levMix best (xs.map Region.level) i).length = xs.length := levMix_len hb.len (by simp) (by omega)
  refine ⟨⟨h1.1, h1.2, h2.1⟩, by rw [ownK, hll, hlx], ?_, ?_⟩
  · rw [withLv_levels hlen, levMix_set (n := xs.length) hb.len (by simp) hl, withLv_twice hlen (levMix_len hb.len (by simp) (by omega))]
  · exact ⟨_, withLv_at hx (List.getElem?_eq_getElem (by omega))⟩

end Go.Proofs.Ytpibiieibofggaa
