/- Small functions of numbers and names, of the program and of the reference, each by what it returns. -/
import Derived.Test.YtllchmacipacnaaGreatDoorProg
import Derived.Test.YtllchmacipacnaaGreatDoorKit
namespace Go.Proofs.YtllchmacipacnaaGreatDoor
open Go.RowKit

/-- lo to hi, both let in. -/
def inB (n lo hi : Int) : Bool := decide (lo ≤ n) && decide (n ≤ hi)
theorem inB_iff {n lo hi : Int} : inB n lo hi = true ↔ lo ≤ n ∧ n ≤ hi := by simp [inB]
theorem inB_no {n lo hi : Int} : inB n lo hi = false ↔ ¬ (lo ≤ n ∧ n ≤ hi) := by rw [← inB_iff, Bool.not_eq_true]

/-- The nearest quotient, halves away from 0, for a divisor above 0. -/
def rnd (a b : Int) : Int := if 0 ≤ a then (2 * a + b) / (2 * b) else -((b - 2 * a) / (2 * b))
/-- The nearest quotient, halves away from 0. -/
def rndDiv (a b : Int) : Int := if b < 0 then rnd (-a) (-b) else rnd a b

theorem rnd_nonneg {a b : Int} (h : 0 ≤ a) (hb : 0 < b) : rnd a b = if b ≤ 2 * (a % b) then a / b + 1 else a / b := by
  unfold rnd
  rw [if_pos h]
  have h1 := Int.mul_ediv_add_emod a b
  have h2 := Int.emod_nonneg a (by omega : b ≠ 0)
  have h3 := Int.emod_lt_of_pos a hb
  generalize a / b = q at *
  generalize a % b = r at *
  have e : 2 * a + b = (2 * r + b) + (2 * b) * q := by rw [← h1, Int.mul_add, Int.mul_assoc]; omega
  rw [e, Int.add_mul_ediv_left _ _ (by omega)]
  split
  · have : (2 * r + b) / (2 * b) = 1 := by
      rw [Int.ediv_eq_iff_of_pos (by omega)]; omega
    omega
  · have : (2 * r + b) / (2 * b) = 0 := Int.ediv_eq_zero_of_lt (by omega) (by omega)
    omega
theorem rnd_neg {a b : Int} (h : a < 0) (_hb : 0 < b) : rnd a b = -rnd (-a) b := by
  unfold rnd
  rw [if_neg (by omega), if_pos (by omega)]
  rw [show b - 2 * a = 2 * -a + b by omega]
theorem rnd_bounds {a b : Int} (hb : 0 < b) (M : Int) (h1 : -M ≤ a) (h2 : a ≤ M) : -M ≤ rnd a b ∧ rnd a b ≤ M := by
  have key : ∀ c : Int, 0 ≤ c → c ≤ M → 0 ≤ rnd c b ∧ rnd c b ≤ M := fun c hc hM => by
    rw [rnd_nonneg hc hb]
    have h1 := Int.mul_ediv_add_emod c b
    have h2 := Int.emod_nonneg c (by omega : b ≠ 0)
    have h3 := Int.emod_lt_of_pos c hb
    have h4 := Int.ediv_nonneg hc (by omega : 0 ≤ b)
    have h5 : c / b ≤ b * (c / b) := by
      have := Int.mul_le_mul_of_nonneg_right (show 1 ≤ b by omega) h4
      omega
    split
    · constructor
      · omega
      · by_cases hb1 : b = 1
        · subst hb1; omega
        · have h6 : 2 * (c / b) ≤ b * (c / b) := Int.mul_le_mul_of_nonneg_right (show 2 ≤ b by omega) h4
          omega
    · omega
  by_cases h : 0 ≤ a
  · have := key a h h2; omega
  · rw [rnd_neg (by omega) hb]
    have := key (-a) (by omega) (by omega); omega

theorem divRound_pos {a b : Int} (hb : 0 < b) : rnd a b = if b - max (a.tmod b) (-(a.tmod b)) ≤ max (a.tmod b) (-(a.tmod b)) then (if 0 ≤ a then a.tdiv b + 1 else a.tdiv b - 1) else a.tdiv b := by
  by_cases h : 0 ≤ a
  · rw [rnd_nonneg h hb, Int.tdiv_eq_ediv_of_nonneg h, Int.tmod_eq_emod_of_nonneg h]
    have h2 := Int.emod_nonneg a (by omega : b ≠ 0)
    rw [show max (a % b) (-(a % b)) = a % b by omega, if_pos h]
    congr 1
    simp only [eq_iff_iff]; omega
  · rw [rnd_neg (by omega) hb, rnd_nonneg (by omega) hb]
    have e1 : a.tdiv b = -((-a) / b) := by rw [← Int.tdiv_eq_ediv_of_nonneg (by omega : 0 ≤ -a), Int.neg_tdiv, Int.neg_neg]
    have e2 : a.tmod b = -((-a) % b) := by rw [← Int.tmod_eq_emod_of_nonneg (by omega : 0 ≤ -a), Int.neg_tmod, Int.neg_neg]
    have h2 := Int.emod_nonneg (-a) (by omega : b ≠ 0)
    rw [e1, e2, show max (-((-a) % b)) (-(-((-a) % b))) = (-a) % b by omega, if_neg h]
    split <;> split <;> omega
theorem divRound_eq {a b : Int} (hb : b ≠ 0) : rndDiv a b = if max b (-b) - max (a.tmod b) (-(a.tmod b)) ≤ max (a.tmod b) (-(a.tmod b)) then (if (decide (a < 0) == decide (b < 0)) = true then a.tdiv b + 1 else a.tdiv b - 1) else a.tdiv b := by
  unfold rndDiv
  by_cases h : b < 0
  · rw [if_pos h, divRound_pos (by omega : 0 < -b), Int.neg_tdiv, Int.neg_tmod, Int.tdiv_neg, Int.tmod_neg]
    rw [show max b (-b) = -b by omega, show max (-(a.tmod b)) (-(-(a.tmod b))) = max (a.tmod b) (-(a.tmod b)) by omega, Int.neg_neg]
    by_cases h0 : a = 0
    · subst h0; simp; omega
    · by_cases ha : a < 0
      · simp [h, ha]; split <;> omega
      · simp [h, ha]; split
        · split <;> omega
        · rfl
  · rw [if_neg h, divRound_pos (by omega : 0 < b)]
    rw [show max b (-b) = b by omega]
    by_cases ha : a < 0
    · simp [h, ha]; split
      · split <;> omega
      · rfl
    · simp [h, ha]; split
      · split <;> omega
      · rfl
theorem tdiv_bounds {a b : Int} (M : Int) (h1 : -M ≤ a) (h2 : a ≤ M) : -M ≤ a.tdiv b ∧ a.tdiv b ≤ M := by
  have h3 : (a.tdiv b).natAbs ≤ a.natAbs := by rw [Int.natAbs_tdiv]; exact Nat.div_le_self _ _
  omega
theorem tmod_bounds {a b : Int} (hb : b ≠ 0) (M : Int) (h1 : -M ≤ b) (h2 : b ≤ M) : -M ≤ a.tmod b ∧ a.tmod b ≤ M := by
  have h3 : (a.tmod b).natAbs < b.natAbs := by rw [Int.natAbs_tmod]; exact Nat.mod_lt _ (by omega)
  omega

/-- A small letter; a digit; what a name is made of. -/
def smallC (c : UInt8) : Bool := decide (97 ≤ (c.toNat : Int)) && decide ((c.toNat : Int) ≤ 122)
def digitC (c : UInt8) : Bool := decide (48 ≤ (c.toNat : Int)) && decide ((c.toNat : Int) ≤ 57)
def nameC (c : UInt8) : Bool := smallC c || digitC c
def nameL : List UInt8 → Bool
  | [] => false
  | c :: l => decide (l.length < 10) && smallC c && (c :: l).all nameC
def isNameB (s : ByteArray) : Bool := nameL s.data.toList
theorem nameL_iff (l : List UInt8) : nameL l = true ↔ ∃ h : 0 < l.length, l.length ≤ 10 ∧ smallC (l[0]'h) = true ∧ ∀ k (hk : k < l.length), nameC (l[k]'hk) = true := by
  cases l with
  | nil => simp [nameL]
  | cons c l =>
    simp only [nameL, Bool.and_eq_true, decide_eq_true_eq, List.all_eq_true]
    constructor
    · rintro ⟨⟨h1, h2⟩, h3⟩
      refine ⟨by simp, by simp only [List.length_cons]; omega, h2, fun k hk => ?_⟩
      exact h3 _ (List.getElem_mem hk)
    · rintro ⟨h0, h1, h2, h3⟩
      refine ⟨⟨by simp only [List.length_cons] at h1; omega, h2⟩, fun x hx => ?_⟩
      obtain ⟨k, hk, rfl⟩ := List.getElem_of_mem hx
      exact h3 k hk
theorem isNameB_iff (s : ByteArray) : isNameB s = true ↔ ∃ h : 0 < s.size, s.size ≤ 10 ∧ smallC (s[0]'h) = true ∧ ∀ k (hk : k < s.size), nameC (s[k]'hk) = true := nameL_iff s.data.toList
theorem isNameB_no {s : ByteArray} (h : ¬ ∃ h : 0 < s.size, s.size ≤ 10 ∧ smallC (s[0]'h) = true ∧ ∀ k (hk : k < s.size), nameC (s[k]'hk) = true) : isNameB s = false := by
  rw [← isNameB_iff] at h; simpa using h
theorem nameC_cases (c : UInt8) : (nameC c = true ∧ smallC c = true ∧ 97 ≤ (c.toNat : Int) ∧ (c.toNat : Int) ≤ 122) ∨ (nameC c = true ∧ smallC c = false ∧ 48 ≤ (c.toNat : Int) ∧ (c.toNat : Int) ≤ 57) ∨ (nameC c = false ∧ smallC c = false ∧ (c.toNat : Int) < 48) ∨ (nameC c = false ∧ smallC c = false ∧ 57 < (c.toNat : Int) ∧ (c.toNat : Int) < 97) ∨ (nameC c = false ∧ smallC c = false ∧ 122 < (c.toNat : Int)) := by
  simp only [nameC, smallC, digitC, Bool.or_eq_true, Bool.or_eq_false_iff, Bool.and_eq_true, Bool.and_eq_false_iff, decide_eq_true_eq, decide_eq_false_iff_not]
  omega
def nameAll (s : ByteArray) : Bool := s.data.toList.all nameC
theorem allC_no {s : ByteArray} {k : Nat} (hk : k < s.size) (h : nameC s[k] = false) : nameAll s = false := by
  unfold nameAll
  rw [List.all_eq_false]
  exact ⟨s[k], List.getElem_mem (l := s.data.toList) (n := k) hk, by simp [h]⟩
theorem allC_yes {s : ByteArray} (h : ∀ j (hj : j < s.size), nameC s[j] = true) : nameAll s = true := by
  unfold nameAll
  rw [List.all_eq_true]
  intro x hx
  obtain ⟨k, hk, rfl⟩ := List.getElem_of_mem hx
  exact h k hk
theorem isNameB_of {s : ByteArray} (h0 : 0 < s.size) (h1 : s.size ≤ 10) (h2 : smallC s[0] = true) : isNameB s = nameAll s := by
  cases h : nameAll s with
  | true =>
    rw [isNameB_iff]
    unfold nameAll at h
    exact ⟨h0, h1, h2, fun k hk => List.all_eq_true.1 h _ (List.getElem_mem (l := s.data.toList) (n := k) hk)⟩
  | false =>
    refine isNameB_no (fun ⟨_, _, _, h3⟩ => ?_)
    rw [allC_yes h3] at h; cases h
theorem toList_nil_of {s : ByteArray} (h : s.size < 1) : s.toList = [] := by
  rw [ByteArray.toList_eq]
  exact List.eq_nil_of_length_eq_zero (show s.size = 0 by omega)
theorem toList_isEmpty_of {s : ByteArray} (h : ¬ s.size < 1) : s.toList.isEmpty = false := by
  rw [ByteArray.toList_eq]
  cases hl : s.data.toList with
  | nil => have h1 : s.data.toList.length = 0 := by rw [hl]; rfl
           exact absurd (show s.size = 0 from h1) (by omega)
  | cons => rfl
theorem toList_ne_of {s : ByteArray} (h : ¬ s.size < 1) : (s.toList == []) = false := by
  have := toList_isEmpty_of h
  cases hl : s.toList with
  | nil => rw [hl] at this; cases this
  | cons => rfl

/-- A number on the line through two points, held at both. -/
def blendF (x0 y0 x1 y1 x : Int) : Int := if x ≤ x0 ∨ x1 ≤ x0 then y0 else if x1 ≤ x then y1 else y0 + rndDiv ((y1 - y0) * (x - x0)) (x1 - x0)

set_option maxHeartbeats 400000 in
theorem within_any (n lo hi : Int) (w : World) :
    Calls Tryz.prog 24 #[.int .i64 n, .int .i64 lo, .int .i64 hi] w (RetS (.bool (inB n lo hi)) w) := by
  go_enter Tryz.func24, Tryz.ntmps24
  go_wp2
  all_goals (go_ret; refine RetS.b ?_)
  all_goals (simp [inB, *] <;> omega)

set_option maxHeartbeats 400000 in
theorem l00In_any (n lo hi : Int) (w : World) :
    Calls Tryz.prog 61 #[.int .i64 n, .int .i64 lo, .int .i64 hi] w (RetS (.bool (inB n lo hi)) w) := by
  go_enter Tryz.func61, Tryz.ntmps61
  go_wp2
  all_goals (go_ret; refine RetS.b ?_)
  all_goals (simp [inB, *] <;> omega)








set_option maxHeartbeats 400000 in
theorem abs_any (n : Int) (w : World) (h0 : -4611686018427387904 ≤ n) (h1 : n ≤ 4611686018427387904) :
    Calls Tryz.prog 42 #[.int .i64 n] w (RetS (.int .i64 (max n (-n))) w) := by
  go_enter Tryz.func42, Tryz.ntmps42
  go_wp2
  all_goals (go_ret; refine RetS.i ?_)
  all_goals (first | rfl | omega)






set_option maxHeartbeats 400000 in
theorem l01Div_any (a b : Int) (w : World) (h0 : -1000000000000000000 ≤ a) (h1 : a ≤ 1000000000000000000) (h2 : -1000000000000000000 ≤ b) (h3 : b ≤ 1000000000000000000) (hb : b ≠ 0) :
    Calls Tryz.prog 63 #[.int .i64 a, .int .i64 b] w (RetS (.int .i64 (rndDiv a b)) w) := by
  go_enter Tryz.func63, Tryz.ntmps63
  rcases Int.lt_or_le b 0 with hb1 | hb1
  · rcases Int.lt_or_le 0 a with ha | ha
    · have hq := rnd_bounds (a := -a) (b := -b) (by omega) 1000000000000000000 (by omega) (by omega)
      unfold rnd at hq
      rw [if_neg (by omega)] at hq
      have ⟨_, _⟩ := hq
      clear hq
      go_wp2
      go_ret
      exact RetS.i (by unfold rndDiv rnd; rw [if_pos hb1, if_neg (by omega)])
    · go_wp2
      go_ret
      exact RetS.i (by unfold rndDiv rnd; rw [if_pos hb1, if_pos (by omega)])
  · rcases Int.lt_or_le a 0 with ha | ha
    · have hq := rnd_bounds (a := a) (b := b) (by omega) 1000000000000000000 (by omega) (by omega)
      unfold rnd at hq
      rw [if_neg (by omega)] at hq
      have ⟨_, _⟩ := hq
      clear hq
      go_wp2
      go_ret
      exact RetS.i (by unfold rndDiv rnd; rw [if_neg (by omega), if_neg (by omega)])
    · go_wp2
      go_ret
      exact RetS.i (by unfold rndDiv rnd; rw [if_neg (by omega), if_pos ha])

set_option maxHeartbeats 400000 in
theorem divRound_any (a b : Int) (w : World) (h0 : -1000000000000000000 ≤ a) (h1 : a ≤ 1000000000000000000) (h2 : -1000000000000000000 ≤ b) (h3 : b ≤ 1000000000000000000) (hb : b ≠ 0) :
    Calls Tryz.prog 59 #[.int .i64 a, .int .i64 b] w (Ret (.int .i64 (rndDiv a b)) w) := by
  have ⟨q1, q2⟩ := tdiv_bounds (b := b) 1000000000000000000 h0 h1
  have ⟨r1, r2⟩ := tmod_bounds (a := a) hb 1000000000000000000 h2 h3
  go_enter Tryz.func59, Tryz.ntmps59
  go_wp2_with fail
  refine wp_region_sub (by kernel_rfl) (by kernel_rfl) ?_
  repeat (go_big_quiet_step (exact Calls.sub_of_same (abs_any _ _ (by omega) (by omega))))
  refine wpQuiet_nil ?_
  intro wg hg
  go_wp2_with (go_at_call 42; refine (abs_any _ _ (by omega) (by omega)).mono ?_; rintro e w' ⟨rfl, rfl⟩)
  all_goals (go_ret; refine Ret.i ?_ hg)
  all_goals (rw [divRound_eq hb]; first | (simp_all; done) | (simp_all; omega))







end Go.Proofs.YtllchmacipacnaaGreatDoor
