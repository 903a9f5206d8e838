/- The plain law of FnTurns: what holds of the fastest route, its turn times and its worst leg. -/
import Derived.Test.YtoociholchamhaaFastS
import Derived.Test.YtoociholchamhaaWorst
namespace Go.Proofs.Ytoociholchamhaa
open Go.RowKit

theorem routeF_head (xs : List Leg) (f : List Int) (n g k a : Nat) : (routeF xs f n g k a)[0]? = some a := by
  cases k with
  | zero => rfl
  | succ k => unfold routeF; split <;> rfl
section
variable {n g : Nat} {xs : List Leg}
theorem routeF_short (hv : legsOk (n : Int) xs = true) (hg : g < n) : ∀ (k a : Nat), 0 ≤ val (farL xs n g) a → (routeF xs (farL xs n g) n g k a).length ≤ rankOf n (farL xs n g) a + 1
  | 0, a, _ => by simp [routeF]
  | k + 1, a, h0 => by
    unfold routeF
    by_cases ha : a = g
    · rw [if_pos ha]; simp
    · rw [if_neg ha]
      have hs := nextOf_spec rfl hv hg h0 ha
      have h1 := (goOn_iff.1 hs.2.1).2.1
      have ih := routeF_short hv hg k _ h1
      have := rank_lt (n := n) (p := a) hs.1 h1 (goOn_less hv hs.2.1)
      rw [List.length_cons]
      omega
theorem routeF_mem (hv : legsOk (n : Int) xs = true) (hg : g < n) : ∀ (k a : Nat), a < n → 0 ≤ val (farL xs n g) a → ∀ x ∈ routeF xs (farL xs n g) n g k a, x < n
  | 0, a, ha, _, x, hx => by simp [routeF] at hx; omega
  | k + 1, a, ha, h0, x, hx => by
    unfold routeF at hx
    by_cases hag : a = g
    · rw [if_pos hag] at hx; simp at hx; omega
    · rw [if_neg hag] at hx
      have hs := nextOf_spec rfl hv hg h0 hag
      rcases List.mem_cons.1 hx with rfl | hx
      · exact ha
      · exact routeF_mem hv hg k _ hs.1 (goOn_iff.1 hs.2.1).2.1 x hx
theorem routeF_leg (hv : legsOk (n : Int) xs = true) (hg : g < n) : ∀ (k a : Nat), 0 ≤ val (farL xs n g) a → ∀ (i x y : Nat), (routeF xs (farL xs n g) n g k a)[i]? = some x → (routeF xs (farL xs n g) n g k a)[i + 1]? = some y → goOn xs (farL xs n g) x y = true
  | 0, a, _, i, x, y, _, hy => by simp [routeF] at hy
  | k + 1, a, h0, i, x, y, hx, hy => by
    unfold routeF at hx hy
    by_cases hag : a = g
    · rw [if_pos hag] at hy; simp at hy
    · rw [if_neg hag] at hx hy
      have hs := nextOf_spec rfl hv hg h0 hag
      rw [List.getElem?_cons_succ] at hy
      cases i with
      | zero =>
        rw [List.getElem?_cons_zero] at hx
        injection hx with hx
        rw [routeF_head] at hy
        injection hy with hy
        rw [← hx, ← hy]; exact hs.2.1
      | succ i =>
        rw [List.getElem?_cons_succ] at hx
        exact routeF_leg hv hg k _ (goOn_iff.1 hs.2.1).2.1 i x y hx hy
theorem pairs_get {rt : List Int} {k : Nat} {p : Int × Int} (h : (pairs rt)[k]? = some p) : rt[k]? = some p.1 ∧ rt[k + 1]? = some p.2 := by
  unfold pairs at h
  rw [List.getElem?_zip_eq_some] at h
  rw [List.getElem?_drop] at h
  exact ⟨h.1, by rw [Nat.add_comm]; exact h.2⟩
/-- The fastest route is a route. -/
theorem fast_route {pts s : Int} {gg : Int} (h : fastC pts xs s gg = 0) : routeC pts xs (fastR pts xs s gg) = 0 := by
  obtain ⟨hv, hs, hg, h0, hp1, hp2⟩ := fast_zero h
  obtain ⟨n, rfl⟩ : ∃ n : Nat, pts = n := ⟨pts.toNat, by omega⟩
  obtain ⟨a, rfl⟩ : ∃ a : Nat, s = a := ⟨s.toNat, by omega⟩
  obtain ⟨b, rfl⟩ : ∃ b : Nat, gg = b := ⟨gg.toNat, by omega⟩
  have hbn : b < n := by omega
  have han : a < n := by omega
  unfold fastR
  rw [if_pos h]
  simp only [Int.toNat_natCast] at h0 ⊢
  have hl := routeF_short hv hbn (val (farL xs n b) a).toNat a h0
  have hr := rank_lt_n (n := n) (F := farL xs n b) han
  have hp := routeF_pos xs (farL xs n b) n b (val (farL xs n b) a).toNat a
  have hm := routeF_mem hv hbn (val (farL xs n b) a).toNat a han h0
  have hleg := routeF_leg hv hbn (val (farL xs n b) a).toNat a h0
  obtain ⟨R, hR⟩ : ∃ R, routeF xs (farL xs n b) n b (val (farL xs n b) a).toNat a = R := ⟨_, rfl⟩
  rw [hR] at hl hp hm hleg ⊢
  unfold routeC
  rw [if_neg (by rw [hv]; simp), if_neg, if_neg]
  · have hall : (pairs (R.map Int.ofNat)).all (hasLeg xs) = true := by
      rw [List.all_eq_true]
      intro p hp
      obtain ⟨k, hk⟩ := List.mem_iff_getElem?.1 hp
      obtain ⟨h1, h2⟩ := pairs_get hk
      rw [List.getElem?_map] at h1 h2
      cases hx : R[k]? with
      | none => rw [hx] at h1; cases h1
      | some x =>
        cases hy : R[k + 1]? with
        | none => rw [hy] at h2; cases h2
        | some y =>
          rw [hx] at h1; rw [hy] at h2
          injection h1 with h1
          injection h2 with h2
          have := (goOn_iff.1 (hleg k x y hx hy)).1
          rw [show p = ((x : Int), (y : Int)) from Prod.ext h1.symm h2.symm]
          exact this
    rw [hall]; simp
  · have hon : onB (n : Int) (R.map Int.ofNat) = true := by
      unfold onB
      rw [List.length_map]
      simp only [Bool.and_eq_true, decide_eq_true_eq, List.all_eq_true]
      refine ⟨⟨hp, by omega⟩, fun x hx => ?_⟩
      obtain ⟨y, hy, rfl⟩ := List.mem_map.1 hx
      have := hm y hy
      exact inB_iff.2 ⟨Int.natCast_nonneg y, by show (y : Int) ≤ _; omega⟩
    rw [hon]; simp
end
theorem worstTo_max (E : List Int) : ∀ n j, j < n → E.getD j 0 ≤ E.getD (worstTo E n) 0
  | 0, j, h => absurd h (by omega)
  | n + 1, j, h => by
    by_cases hc : E.getD (worstTo E n) 0 < E.getD n 0
    · rw [worstTo_yes hc]
      rcases Nat.lt_or_ge j n with h' | h'
      · have := worstTo_max E n j h'; omega
      · have : j = n := by omega
        rw [this]; exact Int.le_refl _
    · rw [worstTo_no hc]
      rcases Nat.lt_or_ge j n with h' | h'
      · exact worstTo_max E n j h'
      · have : j = n := by omega
        rw [this]; omega
/-- What FnTurns asks of step k of a route. -/
structure StepF (pts : Int) (xs : List Leg) (rt : List Int) (d : Int) (k : Nat) (x y mn ex S : Int) : Prop where
  hx : rt[k]? = some x
  hy : rt[k + 1]? = some y
  leg : legD xs (x, y) = ⟨(legD xs (x, y)).from_, (legD xs (x, y)).to_, mn, ex⟩
  way : routeC pts xs [x, y] = 0
  wayM : minutesA pts xs [x, y] = mn
  wayE : exposeA pts xs [x, y] = ex
  back : routeC pts xs (rt.take (k + 2)) = 0
  backM : minutesA pts xs (rt.take (k + 2)) = S + mn
  t0 : (turnL xs rt d rt.length)[k]? = some (d - S)
  t1 : (turnL xs rt d rt.length)[k + 1]? = some (d - (S + mn))
  most : ex ≤ worstM pts xs rt
  worst : worstA pts xs rt = k → ex = worstM pts xs rt
  bd : 0 ≤ mn ∧ mn ≤ 600 ∧ 0 ≤ S ∧ S ≤ 38400
theorem stepF_of {pts : Int} {xs : List Leg} {rt : List Int} {d : Int} {k : Nat} (h : routeC pts xs rt = 0) (hk : k + 1 < rt.length) : ∃ x y mn ex S, StepF pts xs rt d k x y mn ex S := by
  obtain ⟨hv, hon, hall⟩ := routeC_zero h
  have hlen := onB_len hon
  have hx : rt[k]? = some rt[k] := List.getElem?_eq_getElem (by omega)
  have hy : rt[k + 1]? = some rt[k + 1] := List.getElem?_eq_getElem hk
  have hp := pairs_at hx hy
  have hin : ∀ z ∈ rt, inB z 0 (pts - 1) = true := by
    unfold onB at hon
    simp only [Bool.and_eq_true, List.all_eq_true] at hon
    exact hon.2
  have hleg : hasLeg xs (rt[k], rt[k + 1]) = true := List.all_eq_true.1 hall _ (List.mem_of_getElem? hp)
  have hbd := legD_bounds (p := (rt[k], rt[k + 1])) hv
  have hS := sum_bounds hv ((pairs rt).take k)
  have hSl : ((pairs rt).take k).length ≤ 64 := by rw [List.length_take, pairs_len]; omega
  have hsucc : sumBy (fun p => (legD xs p).minutes) ((pairs rt).take (k + 1)) = sumBy (fun p => (legD xs p).minutes) ((pairs rt).take k) + (legD xs (rt[k], rt[k + 1])).minutes := sumBy_step (f := fun p => (legD xs p).minutes) hp
  have hway : routeC pts xs [rt[k], rt[k + 1]] = 0 := by
    unfold routeC
    rw [if_neg (by rw [hv]; simp), if_neg, if_neg]
    · show ¬ ([(rt[k], rt[k + 1])].all (hasLeg xs) = false)
      simp [hleg]
    · unfold onB
      simp [hin _ (List.getElem_mem (show k < rt.length by omega)), hin _ (List.getElem_mem hk)]
  have hback : routeC pts xs (rt.take (k + 2)) = 0 := by
    unfold routeC
    rw [if_neg (by rw [hv]; simp), if_neg, if_neg]
    · rw [pairs_take]
      have : ((pairs rt).take (k + 1)).all (hasLeg xs) = true := by
        rw [List.all_eq_true]
        intro z hz
        exact List.all_eq_true.1 hall z (List.mem_of_mem_take hz)
      rw [this]; simp
    · have : onB pts (rt.take (k + 2)) = true := by
        unfold onB
        simp only [Bool.and_eq_true, decide_eq_true_eq, List.all_eq_true, List.length_take]
        exact ⟨⟨by omega, by omega⟩, fun z hz => hin z (List.mem_of_mem_take hz)⟩
      rw [this]; simp
  have hrk : (riskL xs rt).getD k 0 = (legD xs (rt[k], rt[k + 1])).exposure := riskL_at hp
  have hM : worstM pts xs rt = (riskL xs rt).getD (worstTo (riskL xs rt) (rt.length - 1)) 0 := by unfold worstM; rw [if_pos ⟨h, by omega⟩]
  refine ⟨rt[k], rt[k + 1], (legD xs (rt[k], rt[k + 1])).minutes, (legD xs (rt[k], rt[k + 1])).exposure, sumBy (fun p => (legD xs p).minutes) ((pairs rt).take k), hx, hy, rfl, hway, ?_, ?_, hback, ?_, turnL_at xs rt d (by omega), ?_, ?_, fun hw => ?_, ?_⟩
  · unfold minutesA; rw [if_pos hway]; show sumBy _ [(rt[k], rt[k + 1])] = _; simp [sumBy]
  · unfold exposeA; rw [if_pos hway]; show sumBy _ [(rt[k], rt[k + 1])] = _; simp [sumBy]
  · unfold minutesA; rw [if_pos hback]; unfold minutesF; rw [pairs_take]; exact hsucc
  · rw [← hsucc]; exact turnL_at xs rt d hk
  · rw [hM, ← hrk]; exact worstTo_max _ _ _ (by omega)
  · have h1 : worstA pts xs rt = (worstTo (riskL xs rt) (rt.length - 1) : Nat) := by unfold worstA; rw [if_pos ⟨h, by omega⟩]
    rw [h1] at hw
    rw [hM, show worstTo (riskL xs rt) (rt.length - 1) = k by omega, hrk]
  · omega

end Go.Proofs.Ytoociholchamhaa
