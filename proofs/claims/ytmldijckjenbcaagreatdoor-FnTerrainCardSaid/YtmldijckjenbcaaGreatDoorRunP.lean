/- The plain law of one step of the masses: what it hands on, nothing negative, no mass made, all of it downhill. -/
import Derived.Test.YtmldijckjenbcaaGreatDoorBase
import Derived.Test.YtmldijckjenbcaaGreatDoorWays
import Derived.Test.YtmldijckjenbcaaGreatDoorSpecGo
import Derived.Test.YtmldijckjenbcaaGreatDoorSpecWays
namespace Go.Proofs.YtmldijckjenbcaaGreatDoor
open Go.RowKit

def addAt (l : List Int) (i : Nat) (d : Int) : List Int := l.modify i (· + d)
theorem addAt_len (l : List Int) (i : Nat) (d : Int) : (addAt l i d).length = l.length := by simp [addAt]
theorem addAt_zero (l : List Int) (i : Nat) : addAt l i 0 = l := by
  unfold addAt
  apply List.ext_getElem?
  intro k
  rw [List.getElem?_modify]
  split
  · cases l[k]? <;> simp
  · cases l[k]? <;> simp
theorem addAt_sum : ∀ (l : List Int) (i : Nat) (d : Int), i < l.length → (addAt l i d).sum = l.sum + d
  | [], i, d, h => absurd h (by simp)
  | x :: l, 0, d, _ => by simp [addAt]; omega
  | x :: l, i + 1, d, h => by
    have := addAt_sum l i d (by simpa using h)
    simp only [addAt] at this ⊢
    rw [List.modify_succ_cons, List.sum_cons, List.sum_cons, this]; omega
theorem addAt_nonneg {l : List Int} {i : Nat} {d : Int} (h : ∀ x ∈ l, 0 ≤ x) (hd : 0 ≤ d) : ∀ x ∈ addAt l i d, 0 ≤ x := by
  intro x hx
  obtain ⟨k, hk⟩ := List.mem_iff_getElem?.1 hx
  unfold addAt at hk
  rw [List.getElem?_modify] at hk
  cases hl : l[k]? with
  | none => rw [hl] at hk; simp at hk
  | some y =>
    rw [hl] at hk
    have := h y (List.mem_of_getElem? hl)
    split at hk <;> simp at hk <;> omega
/-- The first steepest of some ways, begun at b. -/
def bestOf (b : Stp) (ws : List Stp) : Stp := ws.foldl (fun b x => if b.slope < x.slope then x else b) b
def shareOf (m all : Int) (x : Stp) : Int := (m * x.slope).tdiv all
def sharesOf (m all : Int) (mv : List Int) (ws : List Stp) : List Int := ws.foldl (fun l x => addAt l x.cell.toNat (shareOf m all x)) mv
def leftOf (m all : Int) (ws : List Stp) : Int := m - (ws.map (shareOf m all)).sum
def allOf (ws : List Stp) : Int := (ws.map Stp.slope).sum
/-- One cell's mass handed on: the moving and the settled masses behind it. -/
def stepC (g : Grid) (fr : Int) (m : Int) (c : Nat) (a : List Int × List Int) : List Int × List Int :=
  match waysT g fr c 8 with
  | [] => (a.1, addAt a.2 c m)
  | w :: ws => (addAt (sharesOf m (allOf (w :: ws)) a.1 (w :: ws)) (bestOf w (w :: ws)).cell.toNat (leftOf m (allOf (w :: ws)) (w :: ws)), a.2)
def stepT (g : Grid) (fr : Int) (ms : List Int) (k : Nat) : List Int × List Int := (List.range k).foldl (fun a c => stepC g fr (ms.getD c 0) c a) (List.replicate ms.length 0, List.replicate ms.length 0)
theorem shareOf_zero (all : Int) (x : Stp) : shareOf 0 all x = 0 := by simp [shareOf]
theorem sharesOf_zero (all : Int) : ∀ (ws : List Stp) (mv : List Int), sharesOf 0 all mv ws = mv
  | [], _ => rfl
  | x :: ws, mv => by
    unfold sharesOf
    rw [List.foldl_cons, shareOf_zero, addAt_zero]
    exact sharesOf_zero all ws mv
theorem leftOf_zero (all : Int) (ws : List Stp) : leftOf 0 all ws = 0 := by
  unfold leftOf
  have : ws.map (shareOf 0 all) = ws.map fun _ => (0 : Int) := List.map_congr_left fun x _ => shareOf_zero all x
  rw [this]
  clear this
  induction ws with
  | nil => rfl
  | cons x ws ih => rw [List.map_cons, List.sum_cons]; omega
/-- A cell with no mass hands on nothing. -/
theorem stepC_zero (g : Grid) (fr : Int) (c : Nat) (a : List Int × List Int) : stepC g fr 0 c a = a := by
  unfold stepC
  split
  · rw [addAt_zero]
  · rw [sharesOf_zero, leftOf_zero, addAt_zero]
theorem stepT_succ (g : Grid) (fr : Int) (ms : List Int) (k : Nat) : stepT g fr ms (k + 1) = stepC g fr (ms.getD k 0) k (stepT g fr ms k) := by
  unfold stepT; rw [List.range_succ, List.foldl_append]; rfl
theorem share_le {m all : Int} {x : Stp} (hm : 0 ≤ m) (ha : 0 < all) (hx : 0 ≤ x.slope) : 0 ≤ shareOf m all x ∧ shareOf m all x * all ≤ m * x.slope := by
  unfold shareOf
  have h := Int.mul_nonneg hm hx
  rw [Int.tdiv_eq_ediv_of_nonneg h]
  exact ⟨Int.ediv_nonneg h (by omega), Int.ediv_mul_le _ (by omega)⟩
theorem shares_le {m all : Int} (hm : 0 ≤ m) (ha : 0 < all) : ∀ (ws : List Stp), (∀ x ∈ ws, 0 ≤ x.slope) → 0 ≤ (ws.map (shareOf m all)).sum ∧ (ws.map (shareOf m all)).sum * all ≤ m * allOf ws
  | [], _ => by simp [allOf]
  | x :: ws, h => by
    have h1 := share_le hm ha (h x (by simp))
    have h2 := shares_le hm ha ws (fun y hy => h y (by simp [hy]))
    simp only [List.map_cons, List.sum_cons, allOf] at h2 ⊢
    rw [Int.add_mul, Int.mul_add]
    omega
theorem allOf_pos {ws : List Stp} (h : ∀ x ∈ ws, 1 ≤ x.slope) (hne : ws ≠ []) : 0 < allOf ws := by
  cases ws with
  | nil => exact absurd rfl hne
  | cons x ws =>
    have h1 := h x (by simp)
    have h2 : 0 ≤ allOf ws := by
      have : ∀ ws : List Stp, (∀ y ∈ ws, 1 ≤ y.slope) → 0 ≤ allOf ws := by
        intro ws
        induction ws with
        | nil => intro _; simp [allOf]
        | cons y ws ih =>
          intro hy
          have a := hy y (by simp)
          have b := ih (fun z hz => hy z (by simp [hz]))
          simp only [allOf, List.map_cons, List.sum_cons] at b ⊢
          omega
      exact this ws (fun y hy => h y (by simp [hy]))
    simp only [allOf, List.map_cons, List.sum_cons] at h2 ⊢
    omega
theorem leftOf_nonneg {m : Int} {ws : List Stp} (hm : 0 ≤ m) (h : ∀ x ∈ ws, 1 ≤ x.slope) (hne : ws ≠ []) : 0 ≤ leftOf m (allOf ws) ws := by
  have ha := allOf_pos h hne
  have h1 := (shares_le hm ha ws (fun x hx => by have := h x hx; omega)).2
  unfold leftOf
  have := Int.le_of_mul_le_mul_right h1 ha
  omega
theorem waysT_spec {g : Grid} {fr : Int} {c k : Nat} {x : Stp} (h : x ∈ waysT g fr c k) : ∃ d : Nat, d < k ∧ inC g c d = true ∧ x = ⟨goC g c d, d, slC g c d⟩ ∧ ht g x.cell < ht g c ∧ fr ≤ x.slope := by
  unfold waysT at h
  rw [List.mem_filter] at h
  obtain ⟨h1, h2⟩ := h
  unfold nextT at h1
  obtain ⟨d, hd, rfl⟩ := List.mem_map.1 h1
  rw [List.mem_filter, List.mem_range] at hd
  unfold wayB at h2
  rw [Bool.and_eq_true, decide_eq_true_eq, decide_eq_true_eq] at h2
  exact ⟨d, hd.1, hd.2, rfl, h2.1, h2.2⟩
theorem bestOf_mem : ∀ (ws : List Stp) (b : Stp), bestOf b ws = b ∨ bestOf b ws ∈ ws
  | [], b => .inl rfl
  | x :: ws, b => by
    unfold bestOf
    rw [List.foldl_cons]
    split
    · rcases bestOf_mem ws x with h | h
      · right; unfold bestOf at h; rw [h]; simp
      · right; unfold bestOf at h; simp [h]
    · rcases bestOf_mem ws b with h | h
      · left; exact h
      · right; unfold bestOf at h; simp [h]
theorem sharesOf_len (m all : Int) : ∀ (ws : List Stp) (mv : List Int), (sharesOf m all mv ws).length = mv.length
  | [], _ => rfl
  | x :: ws, mv => by
    have := sharesOf_len m all ws (addAt mv x.cell.toNat (shareOf m all x))
    unfold sharesOf at this ⊢
    rw [List.foldl_cons, this, addAt_len]
theorem sharesOf_sum (m all : Int) : ∀ (ws : List Stp) (mv : List Int), (∀ x ∈ ws, x.cell.toNat < mv.length) → (sharesOf m all mv ws).sum = mv.sum + (ws.map (shareOf m all)).sum
  | [], mv, _ => by simp [sharesOf]
  | x :: ws, mv, h => by
    have := sharesOf_sum m all ws (addAt mv x.cell.toNat (shareOf m all x)) (fun y hy => by rw [addAt_len]; exact h y (by simp [hy]))
    unfold sharesOf at this ⊢
    rw [List.foldl_cons, this, addAt_sum _ _ _ (h x (by simp)), List.map_cons, List.sum_cons]; omega
theorem sharesOf_nonneg {m all : Int} (hm : 0 ≤ m) (ha : 0 < all) : ∀ (ws : List Stp) (mv : List Int), (∀ x ∈ ws, 0 ≤ x.slope) → (∀ x ∈ mv, 0 ≤ x) → ∀ x ∈ sharesOf m all mv ws, 0 ≤ x
  | [], _, _, h => h
  | x :: ws, mv, hs, h => by
    have := sharesOf_nonneg hm ha ws (addAt mv x.cell.toNat (shareOf m all x)) (fun y hy => hs y (by simp [hy])) (addAt_nonneg h (share_le hm ha (hs x (by simp))).1)
    unfold sharesOf at this ⊢
    rw [List.foldl_cons]; exact this
/-- Where a list of masses has grown: at one of these places only. -/
theorem addAt_at {l : List Int} {i k : Nat} {d x : Int} (h : (addAt l i d)[k]? = some x) : (k ≠ i ∧ l[k]? = some x) ∨ (k = i ∧ ∃ y, l[k]? = some y ∧ x = y + d) := by
  unfold addAt at h
  rw [List.getElem?_modify] at h
  cases hl : l[k]? with
  | none => rw [hl] at h; simp at h
  | some y =>
    rw [hl] at h
    by_cases e : i = k
    · right; subst e; simp at h; exact ⟨rfl, y, rfl, by omega⟩
    · left; simp [e] at h; exact ⟨fun h => e h.symm, by rw [h]⟩
theorem sharesOf_at {m all : Int} : ∀ (ws : List Stp) (mv : List Int) {k : Nat} {x : Int}, (sharesOf m all mv ws)[k]? = some x → mv[k]? = some x ∨ ∃ s ∈ ws, s.cell.toNat = k
  | [], _, _, _, h => .inl h
  | s :: ws, mv, k, x, h => by
    unfold sharesOf at h
    rw [List.foldl_cons] at h
    rcases sharesOf_at ws _ h with h1 | ⟨t, ht, he⟩
    · rcases addAt_at h1 with ⟨_, h2⟩ | ⟨h2, _⟩
      · exact .inl h2
      · exact .inr ⟨s, by simp, h2.symm⟩
    · exact .inr ⟨t, by simp [ht], he⟩
structure StepOk (g : Grid) (ms : List Int) (k : Nat) (a : List Int × List Int) : Prop where
  l1 : a.1.length = ms.length
  l2 : a.2.length = ms.length
  n1 : ∀ x ∈ a.1, 0 ≤ x
  n2 : ∀ x ∈ a.2, 0 ≤ x
  sum : a.1.sum + a.2.sum = (ms.take k).sum
  down : ∀ (i : Nat) (x : Int), a.1[i]? = some x → 0 < x → ∃ (c : Nat) (y : Int), c < k ∧ ms[c]? = some y ∧ 0 < y ∧ ht g i < ht g c
theorem StepOk.zero (g : Grid) (ms : List Int) : StepOk g ms 0 (List.replicate ms.length 0, List.replicate ms.length 0) where
  l1 := by simp
  l2 := by simp
  n1 := fun x hx => by rw [List.eq_of_mem_replicate hx]; exact Int.le_refl _
  n2 := fun x hx => by rw [List.eq_of_mem_replicate hx]; exact Int.le_refl _
  sum := by simp
  down := fun i x hx h => by
    have := List.eq_of_mem_replicate (List.mem_of_getElem? hx); omega
theorem StepOk.step {g : Grid} {fr : Int} {ms : List Int} {k : Nat} {a : List Int × List Int} {m : Int} (h : StepOk g ms k a) (hgb : gridB g = true) (hl : ms.length = g.heights.length) (hfr : 1 ≤ fr) (hm : ms[k]? = some m) (hm0 : 0 ≤ m) : StepOk g ms (k + 1) (stepC g fr m k a) := by
  have hsum : (ms.take (k + 1)).sum = (ms.take k).sum + m := by
    rw [List.take_succ_eq_append_getElem (List.getElem?_eq_some_iff.1 hm).1, (List.getElem?_eq_some_iff.1 hm).2]; simp
  have hk : k < ms.length := (List.getElem?_eq_some_iff.1 hm).1
  have hold : ∀ (i : Nat) (x : Int), a.1[i]? = some x → 0 < x → ∃ (c : Nat) (y : Int), c < k + 1 ∧ ms[c]? = some y ∧ 0 < y ∧ ht g i < ht g c := fun i x hx h0 => by
    obtain ⟨c, y, hc, hy⟩ := h.down i x hx h0
    exact ⟨c, y, by omega, hy⟩
  by_cases hmz : m = 0
  · subst hmz
    rw [stepC_zero]
    exact ⟨h.l1, h.l2, h.n1, h.n2, by rw [hsum, h.sum]; omega, hold⟩
  cases hw : waysT g fr k 8 with
  | nil =>
    have he : stepC g fr m k a = (a.1, addAt a.2 k m) := by unfold stepC; rw [hw]
    rw [he]
    exact ⟨h.l1, by rw [addAt_len]; exact h.l2, h.n1, addAt_nonneg h.n2 hm0, by simp only; rw [addAt_sum _ _ _ (by rw [h.l2]; exact hk), hsum, ← h.sum]; omega, hold⟩
  | cons s ws =>
    obtain ⟨W, hW⟩ : ∃ W, s :: ws = W := ⟨_, rfl⟩
    have he : stepC g fr m k a = (addAt (sharesOf m (allOf W) a.1 W) (bestOf s W).cell.toNat (leftOf m (allOf W) W), a.2) := by unfold stepC; rw [hw, ← hW]
    have hspec : ∀ x ∈ W, x.cell.toNat < ms.length ∧ ht g (x.cell.toNat : Nat) < ht g k ∧ 1 ≤ x.slope := by
      intro x hx
      rw [← hW, ← hw] at hx
      obtain ⟨d, _, hin, rfl, h1, h2⟩ := waysT_spec hx
      obtain ⟨j, hj, hjl, _, _, _⟩ := goC_in hgb hin
      simp only at h1 h2 ⊢
      rw [hj] at h1 ⊢
      exact ⟨by rw [hl]; simpa using hjl, by simpa using h1, by omega⟩
    have hne : W ≠ [] := by rw [← hW]; simp
    have hpos := allOf_pos (fun x hx => (hspec x hx).2.2) hne
    have hleft := leftOf_nonneg hm0 (fun x hx => (hspec x hx).2.2) hne
    have hbest : bestOf s W ∈ W := by
      rcases bestOf_mem W s with h1 | h1
      · rw [h1, ← hW]; simp
      · exact h1
    have hs0 : ∀ x ∈ W, 0 ≤ x.slope := fun x hx => by have := (hspec x hx).2.2; omega
    rw [he]
    refine ⟨by rw [addAt_len, sharesOf_len]; exact h.l1, h.l2, addAt_nonneg (sharesOf_nonneg hm0 hpos W _ hs0 h.n1) hleft, h.n2, ?_, ?_⟩
    · simp only
      rw [addAt_sum _ _ _ (by rw [sharesOf_len, h.l1]; exact (hspec _ hbest).1), sharesOf_sum _ _ _ _ (fun x hx => by rw [h.l1]; exact (hspec x hx).1), hsum, ← h.sum]
      unfold leftOf; omega
    · intro i x hx h0
      rcases addAt_at hx with ⟨_, h2⟩ | ⟨h2, _⟩
      · rcases sharesOf_at W _ h2 with h3 | ⟨t, ht, hte⟩
        · exact hold i x h3 h0
        · exact ⟨k, m, by omega, hm, by omega, by rw [← hte]; exact (hspec t ht).2.1⟩
      · exact ⟨k, m, by omega, hm, by omega, by rw [h2]; exact (hspec _ hbest).2.1⟩
theorem sum_nonneg : ∀ (l : List Int), (∀ x ∈ l, 0 ≤ x) → 0 ≤ l.sum
  | [], _ => by simp
  | x :: l, h => by
    have := sum_nonneg l (fun y hy => h y (by simp [hy]))
    have := h x (by simp)
    rw [List.sum_cons]; omega
theorem le_sum : ∀ (l : List Int), (∀ x ∈ l, 0 ≤ x) → ∀ x ∈ l, x ≤ l.sum
  | [], _, _, hx => by simp at hx
  | y :: l, h, x, hx => by
    have h1 := sum_nonneg l (fun z hz => h z (by simp [hz]))
    have h2 := h y (by simp)
    rw [List.sum_cons]
    rcases List.mem_cons.1 hx with rfl | hx
    · omega
    · have := le_sum l (fun z hz => h z (by simp [hz])) x hx
      omega

end Go.Proofs.YtmldijckjenbcaaGreatDoor
