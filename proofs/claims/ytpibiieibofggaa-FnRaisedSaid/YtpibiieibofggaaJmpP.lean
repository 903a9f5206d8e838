/- Plain laws: jumps along the names and along the places; regions stay valid with other levels. -/
import Derived.Test.YtpibiieibofggaaRaiQ
import Derived.Test.YtpibiieibofggaaJmpA
import Derived.Test.YtpibiieibofggaaCloneQ
namespace Go.Proofs.Ytpibiieibofggaa
open Go.RowKit

theorem lessS_asymm {a b : ByteArray} (h : lessS a b = true) : lessS b a = false := by
  cases h2 : lessS b a
  · rfl
  · have := lessS_trans h h2; rw [lessS_irrefl] at this; cases this
theorem sorted_ext : ∀ (l1 l2 : List ByteArray), l1.Pairwise (fun a b => lessS a b = true) → l2.Pairwise (fun a b => lessS a b = true) → (∀ x, x ∈ l1 ↔ x ∈ l2) → l1 = l2
  | [], [], _, _, _ => rfl
  | [], b :: l2, _, _, h => absurd ((h b).2 (List.mem_cons_self ..)) (by simp)
  | a :: l1, [], _, _, h => absurd ((h a).1 (List.mem_cons_self ..)) (by simp)
  | a :: l1, b :: l2, h1, h2, h => by
    rw [List.pairwise_cons] at h1 h2
    have hab : a = b := by
      rcases List.mem_cons.1 ((h a).1 (List.mem_cons_self ..)) with e | e
      · exact e
      · rcases List.mem_cons.1 ((h b).2 (List.mem_cons_self ..)) with e2 | e2
        · exact e2.symm
        · have x1 := h2.1 a e
          have x2 := h1.1 b e2
          rw [lessS_asymm x1] at x2; cases x2
    subst hab
    rw [sorted_ext l1 l2 h1.2 h2.2 (fun x => ?_)]
    constructor
    · intro hx
      rcases List.mem_cons.1 ((h x).1 (List.mem_cons_of_mem _ hx)) with e | e
      · subst e
        have := h1.1 x hx; rw [lessS_irrefl] at this; cases this
      · exact e
    · intro hx
      rcases List.mem_cons.1 ((h x).2 (List.mem_cons_of_mem _ hx)) with e | e
      · subst e
        have := h2.1 x hx; rw [lessS_irrefl] at this; cases this
      · exact e
/-- A rising row of neighbours, from one to the next, is rising throughout. -/
theorem rising_pairwise : ∀ (l : List ByteArray), (∀ (k : Nat) (p x : ByteArray), l[k]? = some p → l[k + 1]? = some x → lessS p x = true) → l.Pairwise (fun a b => lessS a b = true)
  | [], _ => List.Pairwise.nil
  | a :: l, h => by
    have ih := rising_pairwise l (fun k p x hp hx => h (k + 1) p x hp hx)
    refine List.pairwise_cons.2 ⟨?_, ih⟩
    match l, h, ih with
    | [], _, _ => intro x hx; simp at hx
    | b :: l, h, ih =>
      have hab := h 0 a b rfl rfl
      intro x hx
      rcases List.mem_cons.1 hx with e | e
      · exact e ▸ hab
      · exact lessS_trans hab ((List.pairwise_cons.1 ih).1 x e)
def levelOf (xs : List Region) (nm : ByteArray) : Int := levelAt xs (findR xs nm).toNat
def jumpB (xs : List Region) (least : Int) (r : Region) (nm : ByteArray) : Bool := lessS r.id nm && decide (least ≤ absB (r.level - levelOf xs nm))
/-- Jumps along the names of a region's neighbours. -/
def jumpsIn (xs : List Region) (least : Int) (r : Region) (l : List ByteArray) : List (ByteArray × ByteArray) := (l.filter (jumpB xs least r)).map fun nm => (r.id, nm)
def jumpsTo (xs : List Region) (least : Int) (l : List Region) : List (ByteArray × ByteArray) := l.flatMap fun r => jumpsIn xs least r r.near
def lawB (least : Int) (r y : Region) : Bool := hasS r.near y.id && decide (least ≤ absB (r.level - y.level))
/-- Jumps along the regions that come later. -/
def lawIn (least : Int) (r : Region) (l : List Region) : List (ByteArray × ByteArray) := (l.filter (lawB least r)).map fun y => (r.id, y.id)
def lawTo (xs : List Region) (least : Int) : Nat → List (ByteArray × ByteArray)
  | 0 => []
  | i + 1 => lawTo xs least i ++ (match xs[i]? with | some r => lawIn least r (xs.drop (i + 1)) | none => [])
theorem levelOf_at {xs : List Region} (h : regionsB xs = true) {j : Nat} {y : Region} (hy : xs[j]? = some y) : findR xs y.id = (j : Int) ∧ levelOf xs y.id = y.level := by
  have h1 := find_self ((validL_spec.1 h).2 (j + 1)) hy
  refine ⟨h1, ?_⟩
  unfold levelOf levelAt
  rw [h1, Int.toNat_natCast, hy]; rfl
theorem near_rise {xs : List Region} (h : regionsB xs = true) {r : Region} (hr : r ∈ xs) : r.near.Pairwise (fun a b => lessS a b = true) := by
  obtain ⟨i, hi, rfl⟩ := List.getElem_of_mem hr
  have h1 := validL_good h (List.getElem?_eq_getElem hi)
  rw [oneR, Bool.and_eq_true] at h1
  exact rising_pairwise _ (fun k p x hp hx => validL_goodrel h1.2 hp hx)
theorem ids_rise {xs : List Region} (h : regionsB xs = true) : (xs.map Region.id).Pairwise (fun a b => lessS a b = true) := by
  refine rising_pairwise _ (fun k p x hp hx => ?_)
  rw [List.getElem?_map] at hp hx
  cases hp1 : xs[k]? with
  | none => rw [hp1] at hp; cases hp
  | some a =>
    cases hx1 : xs[k + 1]? with
    | none => rw [hx1] at hx; cases hx
    | some b =>
      rw [hp1] at hp; rw [hx1] at hx
      simp at hp hx
      subst hp hx
      exact validL_goodrel h hp1 hx1
theorem jumpsIn_law {xs : List Region} (h : regionsB xs = true) {i : Nat} {r : Region} (hr : xs[i]? = some r) (least : Int) : jumpsIn xs least r r.near = lawIn least r (xs.drop (i + 1)) := by
  have hg := (validL_spec.1 h).2
  unfold jumpsIn lawIn
  have key : r.near.filter (jumpB xs least r) = ((xs.drop (i + 1)).filter (lawB least r)).map Region.id := by
    refine sorted_ext _ _ ?_ ?_ ?_
    · exact List.Pairwise.sublist List.filter_sublist (near_rise h (List.mem_of_getElem? hr))
    · exact List.Pairwise.sublist (List.Sublist.map _ (List.Sublist.trans List.filter_sublist (List.drop_sublist _ _))) (ids_rise h)
    · intro nm
      rw [List.mem_filter, List.mem_map]
      constructor
      · rintro ⟨hn, hj⟩
        rw [jumpB, Bool.and_eq_true] at hj
        obtain ⟨y, hy, rfl⟩ := (regionsB_map h).near r (List.mem_of_getElem? hr) nm hn
        obtain ⟨j, hj1, rfl⟩ := List.getElem_of_mem hy
        have hjy : xs[j]? = some xs[j] := List.getElem?_eq_getElem hj1
        have hl := (levelOf_at h hjy).2
        refine ⟨xs[j], List.mem_filter.2 ⟨?_, ?_⟩, rfl⟩
        · rw [List.mem_drop_iff_getElem]
          have hij : i < j := by
            rcases Nat.lt_trichotomy i j with e | e | e
            · exact e
            · subst e; rw [hjy] at hr; cases hr; have := hj.1; rw [lessS_irrefl] at this; cases this
            · have h3 := rise_lt (hg (i + 1)) j i _ _ e (by omega) hjy hr
              rw [lessS_asymm h3] at hj; cases hj.1
          refine ⟨j - (i + 1), by omega, ?_⟩
          congr 1; omega
        · rw [lawB, Bool.and_eq_true]
          rw [hl] at hj
          exact ⟨hasS_iff.2 hn, hj.2⟩
      · rintro ⟨y, hy, rfl⟩
        rw [List.mem_filter, lawB, Bool.and_eq_true] at hy
        obtain ⟨q, hq, hqy⟩ := List.mem_drop_iff_getElem.1 hy.1
        have hjy : xs[i + 1 + q]? = some y := by rw [List.getElem?_eq_getElem (by omega)]; rw [← hqy]
        have hl := (levelOf_at h hjy).2
        refine ⟨hasS_iff.1 hy.2.1, ?_⟩
        rw [jumpB, Bool.and_eq_true, hl]
        exact ⟨rise_lt (hg (i + 1 + q + 1)) i (i + 1 + q) _ _ (by omega) (by omega) hr hjy, hy.2.2⟩
  rw [key, List.map_map]
  rfl
theorem jumps_law {xs : List Region} (h : regionsB xs = true) (least : Int) : ∀ i, i ≤ xs.length → jumpsTo xs least (xs.take i) = lawTo xs least i
  | 0, _ => rfl
  | i + 1, hi => by
    have hx : xs[i]? = some (xs[i]'(by omega)) := List.getElem?_eq_getElem (by omega)
    have ih := jumps_law h least i (by omega)
    rw [List.take_succ_eq_append_getElem (by omega), lawTo, hx, ← ih]
    unfold jumpsTo
    rw [List.flatMap_append, List.flatMap_cons, List.flatMap_nil, List.append_nil, jumpsIn_law h hx]
theorem jumps_all {xs : List Region} (h : regionsB xs = true) (least : Int) : jumpsTo xs least xs = lawTo xs least xs.length := by
  have := jumps_law h least xs.length (Nat.le_refl _)
  rwa [List.take_length] at this
theorem jumpsTo_len {xs : List Region} {least : Int} (hl : ∀ r ∈ xs, r.near.length ≤ 8) : ∀ l : List Region, (∀ r ∈ l, r ∈ xs) → (jumpsTo xs least l).length ≤ 8 * l.length
  | [], _ => by simp [jumpsTo]
  | r :: l, h => by
    have ih := jumpsTo_len (least := least) hl l (fun r hr => h r (List.mem_cons_of_mem _ hr))
    have h1 := hl r (h r (List.mem_cons_self ..))
    unfold jumpsTo at ih ⊢
    rw [List.flatMap_cons, List.length_append, List.length_cons]
    have h2 : (jumpsIn xs least r r.near).length ≤ 8 := by
      unfold jumpsIn
      rw [List.length_map]
      exact Nat.le_trans (List.length_filter_le _ _) h1
    omega
def jumC (xs : List Region) (least : Int) : Int := if regionsB xs = false then 1 else if inB least 0 4 = false then 2 else 0
def jumL (xs : List Region) (least : Int) : List (ByteArray × ByteArray) := if jumC xs least = 0 then jumpsTo xs least xs else []
theorem findR_map {xs ys : List Region} (h : xs.map Region.id = ys.map Region.id) (nm : ByteArray) : findR xs nm = findR ys nm := by
  have key : ∀ zs : List Region, findR zs nm = findI (fun s => decide (s = nm)) (zs.map Region.id) := by
    intro zs
    unfold findR findI
    rw [List.findIdx?_map]
    rfl
  rw [key, key, h]
theorem linkB_map {xs ys : List Region} (h : xs.map Region.id = ys.map Region.id) (h2 : xs.map Region.near = ys.map Region.near) (nm id : ByteArray) : linkB xs nm id = linkB ys nm id := by
  have key : ∀ i, nearAt xs i = nearAt ys i := by
    intro i
    unfold nearAt
    rw [← List.getElem?_map, ← List.getElem?_map, h2]
  unfold linkB
  rw [findR_map h, key]
theorem withLv_id {xs : List Region} {lv : List Int} (h : lv.length = xs.length) : (withLv xs lv).map Region.id = xs.map Region.id := by
  refine List.ext_getElem? (fun i => ?_)
  rw [List.getElem?_map, List.getElem?_map]
  by_cases hi : i < xs.length
  · rw [withLv_at (List.getElem?_eq_getElem hi) (List.getElem?_eq_getElem (by omega)), List.getElem?_eq_getElem hi]; rfl
  · rw [List.getElem?_eq_none (by rw [withLv_len h]; omega), List.getElem?_eq_none (by omega)]
theorem withLv_near {xs : List Region} {lv : List Int} (h : lv.length = xs.length) : (withLv xs lv).map Region.near = xs.map Region.near := by
  refine List.ext_getElem? (fun i => ?_)
  rw [List.getElem?_map, List.getElem?_map]
  by_cases hi : i < xs.length
  · rw [withLv_at (List.getElem?_eq_getElem hi) (List.getElem?_eq_getElem (by omega)), List.getElem?_eq_getElem hi]; rfl
  · rw [List.getElem?_eq_none (by rw [withLv_len h]; omega), List.getElem?_eq_none (by omega)]
theorem withLv_ok {xs : List Region} {lv : List Int} (h : regionsB xs = true) (hl : lv.length = xs.length) (hlv : ∀ l ∈ lv, 1 ≤ l ∧ l ≤ 5) : regionsB (withLv xs lv) = true := by
  have hlen := withLv_len hl
  have hid := withLv_id hl
  have hnr := withLv_near hl
  refine validL_spec.2 ⟨by rw [hlen]; exact regionsB_len h, fun n k y _ hy => ?_⟩
  obtain ⟨x, l, hx, hlk, rfl⟩ := withLv_of hy
  have hone := validL_good h hx
  refine ⟨?_, fun p hk hp => ?_⟩
  · have e : nearB (withLv xs lv) ⟨x.id, l, x.near⟩ = nearB xs x := by
      funext nm
      unfold nearB
      rw [linkB_map hid hnr]
    unfold oneR nearsB at hone ⊢
    rw [e]
    rw [Bool.and_eq_true, Bool.and_eq_true] at hone ⊢
    exact ⟨⟨hone.1.1, inB_iff.2 (hlv l (List.mem_of_getElem? hlk))⟩, hone.2⟩
  · obtain ⟨p', l', hp', _, rfl⟩ := withLv_of hp
    obtain ⟨k', rfl⟩ : ∃ k', k = k' + 1 := ⟨k - 1, by omega⟩
    have h9 : relR p' x = true := validL_goodrel h hp' hx
    exact h9

end Go.Proofs.Ytpibiieibofggaa
