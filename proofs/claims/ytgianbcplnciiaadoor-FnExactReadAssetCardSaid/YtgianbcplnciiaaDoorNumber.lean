/- The reference's reading of a number. -/
import Derived.Test.YtgianbcplnciiaaDoorNumP
import Derived.Test.YtgianbcplnciiaaDoorMem
namespace Go.Proofs.YtgianbcplnciiaaDoor
open Go.RowKit

theorem body_uniq {s : ByteArray} {neg neg' : Bool} {body ds : List UInt8} (hs : s.data.toList = (if neg then 45 :: body else body)) (h45 : neg = false → ∀ c r, body = c :: r → c ≠ 45) (hs' : s.data.toList = (if neg' then 45 :: ds else ds)) (hd : allDig ds = true) : neg' = neg ∧ ds = body := by
  rw [hs] at hs'
  have hdig : ∀ c r, ds = c :: r → c ≠ 45 := fun c r e e45 => by
    rw [e] at hd
    unfold allDig at hd
    have := digitC_iff.1 (show digitC c = true by simp at hd; exact hd.1)
    rw [e45] at this
    exact absurd this.1 (by decide)
  cases neg with
  | true =>
    cases neg' with
    | true => simp only [if_true] at hs'; injection hs' with _ h; exact ⟨rfl, h.symm⟩
    | false => simp only [if_true, Bool.false_eq_true, if_false] at hs'; exact absurd rfl (hdig 45 body hs'.symm)
  | false =>
    cases neg' with
    | true => simp only [if_true, Bool.false_eq_true, if_false] at hs'; exact absurd rfl (h45 rfl 45 ds hs')
    | false => simp only [Bool.false_eq_true, if_false] at hs'; exact ⟨rfl, hs'.symm⟩
section
variable {s : ByteArray} {neg : Bool} {body : List UInt8} (hs : s.data.toList = (if neg then 45 :: body else body)) (h45 : neg = false → ∀ c r, body = c :: r → c ≠ 45)
include hs h45
theorem bad_empty (h : body = []) : ReadsDec s none := reads_bad fun _ _ h1 h2 h3 _ _ => h3 ((body_uniq hs h45 h1 h2).2.trans h)
theorem bad_long (h : 18 < body.length) : ReadsDec s none := reads_bad fun _ _ h1 h2 _ h4 _ => by
  rw [(body_uniq hs h45 h1 h2).2] at h4; omega
theorem bad_zero {c : UInt8} {r : List UInt8} (h : body = c :: r) (hc : c.toNat = 48) (hl : 1 < s.size) : ReadsDec s none := reads_bad fun _ _ h1 h2 _ _ h5 => by
  have := h5 c r ((body_uniq hs h45 h1 h2).2.trans h) hc
  rw [Array.length_toList] at this
  have h2 : s.data.size = s.size := rfl
  omega
theorem bad_digit {c : UInt8} (h : c ∈ body) (hc : digitC c = false) : ReadsDec s none := reads_bad fun _ _ h1 h2 _ _ _ => by
  rw [(body_uniq hs h45 h1 h2).2] at h2
  unfold allDig at h2
  have := List.all_eq_true.1 h2 c h
  rw [this] at hc; cases hc
end
theorem str_at {s : ByteArray} {k : Nat} (h : k < s.size) : s.data.toList[k]? = some s[k] := by
  rw [List.getElem?_eq_getElem (by rw [Array.length_toList]; exact h)]
  rfl
theorem pow17 {k : Nat} (h : k ≤ 17) : (10 : Nat) ^ k ≤ 100000000000000000 := by
  have : (10 : Nat) ^ k ≤ 10 ^ 17 := Nat.pow_le_pow_right (by decide) h
  have e : (10 : Nat) ^ 17 = 100000000000000000 := by decide
  omega
theorem allDig_take {l : List UInt8} {k : Nat} {c : UInt8} (h : allDig (l.take k) = true) (hc : l[k]? = some c) (hd : digitC c = true) : allDig (l.take (k + 1)) = true := by
  obtain ⟨hk, he⟩ := List.getElem?_eq_some_iff.1 hc
  rw [List.take_succ_eq_append_getElem hk, he]
  unfold allDig at h ⊢
  rw [List.all_append, h]
  simp [hd]
theorem valN_take {l : List UInt8} {k : Nat} {c : UInt8} (hc : l[k]? = some c) : valN (l.take (k + 1)) = 10 * valN (l.take k) + (c.toNat - 48) := by
  obtain ⟨hk, he⟩ := List.getElem?_eq_some_iff.1 hc
  rw [List.take_succ_eq_append_getElem hk, he, valN_snoc]
set_option maxRecDepth 100000 in
set_option maxHeartbeats 2000000 in
theorem l01Number_any (s : ByteArray) (w : World) (hs : s.size ≤ 9223372036854775807) : Calls Tryd.prog 37 #[.string s] w (fun e w' => ∃ r : Option Int, e = .returned (.tuple #[.int .i64 (r.getD 0), .bool r.isSome]) ∧ ReadsDec s r ∧ w = w') := by
  have hsz : s.data.toList.length = s.size := by rw [Array.length_toList]; rfl
  by_cases h0 : s.size = 0
  · have hnil : s.data.toList = [] := List.eq_nil_of_length_eq_zero (by omega)
    have HNO := Lib.hid (bad_empty (s := s) (neg := false) (body := []) (by rw [hnil]; rfl) (fun _ c r e => by cases e) rfl)
    have h0d : decide (0 < s.size) = false := decide_eq_false (by omega)
    have h0e : ((s.size : Int) == 0) = true := by simp [h0]
    clear hsz hnil h0
    go_enter Tryd.func37, Tryd.ntmps37
    go_wp2
    go_ret2
    exact ⟨none, rfl, HNO.out, rfl⟩
  have h00 : 0 < s.size := by omega
  have h0n : ((s.size : Int) == 0) = false := by simp only [beq_eq_false_iff_ne]; omega
  by_cases he : s[0] = 45
  · have hce : (((s[0].toNat : Nat) : Int) == 45) = true := by rw [he]; rfl
    obtain ⟨body, hbody⟩ : ∃ body, s.data.toList.drop 1 = body := ⟨_, rfl⟩
    obtain ⟨m, hm⟩ : ∃ m, body.length = m := ⟨_, rfl⟩
    have hms : m + 1 = s.size := by
      have e : body.length = s.size - 1 := by rw [← hbody, List.length_drop, hsz]
      omega
    have hsb : s.data.toList = (if true then 45 :: body else body) := by
      rw [← hbody]
      have h1 := str_at h00
      rw [he] at h1
      have h2 := List.getElem?_eq_some_iff.1 h1
      rw [if_pos rfl]
      conv => lhs; rw [← List.drop_zero (l := s.data.toList), List.drop_eq_getElem_cons h2.1, h2.2]
    have h45 : true = false → ∀ c r, body = c :: r → c ≠ 45 := fun h => by cases h
    have hat : ∀ k (h : k + 1 < s.size), body[k]? = some s[k + 1] := fun k h => by
      rw [← hbody, List.getElem?_drop, Nat.add_comm]; exact str_at h
    have HAT := Lib.hid hat
    have HM := Lib.hid hm
    have HBAD : Hid (∀ c, c ∈ body → digitC c = false → ReadsDec s none) := fun c h hc => bad_digit hsb h45 h hc
    by_cases hm0 : m = 0
    · have HNO := Lib.hid (bad_empty hsb h45 (List.eq_nil_of_length_eq_zero (by omega)))
      have hs1 : ((s.size : Int) == 1) = true := by simp; omega
      have hs1n : s.size = 1 := by omega
      clear hm0 hms hsb h45 hat hbody hm
      go_enter Tryd.func37, Tryd.ntmps37
      go_wp2
      go_ret2
      exact ⟨none, rfl, HNO.out, rfl⟩
    have hs1 : ((s.size : Int) == 1) = false := by simp; omega
    by_cases h18 : 18 < m
    · have HNO := Lib.hid (bad_long hsb h45 (by omega))
      have hl : decide ((18 : Int) < (s.size : Int) - 1) = true := decide_eq_true (by omega)
      have hl2 : (18 : Int) < (s.size : Int) - 1 := by omega
      have hl3 : 18 + 1 < s.size := by omega
      clear hms h18 hsb h45 hat hbody hm
      go_enter Tryd.func37, Tryd.ntmps37
      go_wp2
      all_goals (go_ret2; exact ⟨none, rfl, HNO.out, rfl⟩)
    have hl : decide ((18 : Int) < (s.size : Int) - 1) = false := decide_eq_false (by omega)
    have hat0 : 1 < s.size := by omega
    by_cases hz : s[1].toNat = 48 ∧ 1 < s.size
    · have HNO : Hid (ReadsDec s none) := by
        have h1 := hat 0 (by omega)
        simp only [Nat.zero_add] at h1
        cases hb : body with
        | nil => rw [hb] at h1; simp at h1
        | cons c r =>
          rw [hb] at h1
          simp at h1
          exact bad_zero hsb h45 hb (by rw [h1]; exact hz.1) hz.2
      obtain ⟨hz1, hz2⟩ := hz
      have hze : (((s[1].toNat : Nat) : Int) == 48) = true := by simp; omega
      have hzl : decide (1 < s.size) = true := decide_eq_true hz2
      have hl4 : s.size ≤ 18 + 1 := by omega
      clear hms hz1 h18 hsb h45 hat hbody hm
      go_enter Tryd.func37, Tryd.ntmps37
      go_wp2
      all_goals (go_ret2; exact ⟨none, rfl, HNO.out, rfl⟩)
    have hz0 : ∀ c r, body = c :: r → c.toNat = 48 → s.data.toList.length ≤ 1 := fun c r hb e48 => by
      have h1 := hat 0 (by omega)
      simp only [Nat.zero_add] at h1
      rw [hb] at h1
      simp at h1
      rw [hsz]
      by_cases hgt : 1 < s.size
      · exact absurd ⟨by rw [← h1]; exact e48, hgt⟩ hz
      · omega
    have hm18 : m ≤ 18 := by omega
    have hm1 : 0 < m := by omega
    have HYES : Hid (allDig body = true → ReadsDec s (some (-(valN body : Int)))) := fun had => reads_body hsb had (by intro h; rw [h] at hm; simp at hm; omega) (by omega) hz0
    have hzz : (((s[1].toNat : Nat) : Int) == 48) = false := by
      have : ¬ s[1].toNat = 48 := fun h => hz ⟨h, by omega⟩
      simp; omega
    have hlN : decide (18 + 1 < s.size) = false := decide_eq_false (by omega)
    have hl4 : s.size ≤ 18 + 1 := by omega
    clear hz h18 hsb h45 hat hbody hm hz0
    all_goals
      go_enter Tryd.func37, Tryd.ntmps37
      go_wp2
      go_loopg [5, 6] m (fun gk s5 s6 wr => ∃ k : Nat, k ≤ m ∧ gk = m - k ∧ s6 = .int .i64 ((k + 1 : Nat) : Int) ∧ s5 = .int .i64 (valN (body.take k) : Int) ∧ allDig (body.take k) = true ∧ w = wr)
      case atStart => exact ⟨0, Nat.zero_le _, rfl, rfl, rfl, rfl, rfl⟩
      case round =>
        obtain ⟨k, hk, hgk, rfl, rfl, had, rfl⟩ := hrel
        have Hgk := Lib.hid hgk
        have HAD := Lib.hid had
        clear hgk
        by_cases hlt : k < m
        · have hks : k + 1 < s.size := by omega
          have hbk := HAT.out k hks
          have HBK := Lib.hid hbk
          have hvb := valN_bd had
          have hlk : (body.take k).length = k := by rw [List.length_take, HM.out]; omega
          have hp := pow17 (k := k) (by omega)
          rw [hlk] at hvb
          have HVT := Lib.hid (valN_take hbk)
          obtain ⟨V, hV⟩ : ∃ V, valN (body.take k) = V := ⟨_, rfl⟩
          rw [hV] at hvb HVT ⊢
          have hV17 : V < 100000000000000000 := by omega
          clear had hvb hlk hp hbk hV
          cases hdc : digitC s[k + 1]
          · have HNO := Lib.hid (HBAD.out _ (List.mem_of_getElem? HBK.out) hdc)
            go_wp2_with (go_at_call 57; refine (l01Digit_any _ _).mono ?_; rintro e w' ⟨rfl, rfl⟩)
            go_ret2
            exact ⟨none, rfl, HNO.out, rfl⟩
          · have hdd := digitC_iff.1 hdc
            have hd1 : (48 : Int) ≤ (s[k + 1].toNat : Int) := by omega
            have hd2 : (s[k + 1].toNat : Int) ≤ 57 := by omega
            have HTK := Lib.hid (allDig_take HAD.out HBK.out hdc)
            have HV2 : Hid ((valN (body.take (k + 1)) : Int) = 10 * (V : Int) + ((s[k + 1].toNat : Int) - 48)) := by rw [Hid, HVT.out]; omega
            clear hdd
            go_wp2_with (go_at_call 57; refine (l01Digit_any _ _).mono ?_; rintro e w' ⟨rfl, rfl⟩)
            go_roundg (m - (k + 1))
            case measure => have := Hgk.out; omega
            case rel => exact ⟨k + 1, by omega, rfl, by go_num, by rw [HV2.out], HTK.out, rfl⟩
        · have hkm : k = m := by omega
          subst hkm
          have hfull : body.take k = body := List.take_of_length_le (by rw [HM.out]; exact Nat.le_refl _)
          rw [hfull] at had ⊢
          have HRD := Lib.hid (HYES.out had)
          have hvb := valN_bd had
          have hp := Nat.pow_le_pow_right (show 0 < 10 by decide) (show body.length ≤ 18 by rw [HM.out]; exact hm18)
          have h18e : (10 : Nat) ^ 18 = 1000000000000000000 := by decide
          obtain ⟨V, hV⟩ : ∃ V, valN body = V := ⟨_, rfl⟩
          rw [hV] at hvb HRD ⊢
          have hV18 : V < 1000000000000000000 := by omega
          have hke : ((k + 1 : Nat) : Int) = (s.size : Int) := by omega
          clear hfull had hvb hp h18e hV hk hlt
          go_wp2
          go_ret2
          exact ⟨_, rfl, HRD.out, rfl⟩
  · have hc45 := he
    have hce : (((s[0].toNat : Nat) : Int) == 45) = false := by
      simp only [beq_eq_false_iff_ne]
      intro h
      exact he (UInt8.toNat_inj.1 (by have : s[0].toNat = 45 := by omega
                                      rw [this]; rfl))
    obtain ⟨body, hbody⟩ : ∃ body, s.data.toList.drop 0 = body := ⟨_, rfl⟩
    obtain ⟨m, hm⟩ : ∃ m, body.length = m := ⟨_, rfl⟩
    have hms : m = s.size := by
      have e : body.length = s.size := by rw [← hbody, List.drop_zero, hsz]
      omega
    have hsb : s.data.toList = (if false then 45 :: body else body) := by
      rw [← hbody]
      simp
    have h45 : false = false → ∀ c r, body = c :: r → c ≠ 45 := fun _ c r hb e45 => by
      have h1 := str_at h00
      rw [← hbody, List.drop_zero] at hb
      rw [hb] at h1
      simp at h1
      exact hc45 (h1.symm.trans e45)
    have hat : ∀ k (h : k < s.size), body[k]? = some s[k] := fun k h => by
      rw [← hbody, List.drop_zero]; exact str_at h
    have HAT := Lib.hid hat
    have HM := Lib.hid hm
    have HBAD : Hid (∀ c, c ∈ body → digitC c = false → ReadsDec s none) := fun c h hc => bad_digit hsb h45 h hc
    by_cases h18 : 18 < m
    · have HNO := Lib.hid (bad_long hsb h45 (by omega))
      have hl : decide ((18 : Int) < (s.size : Int)) = true := decide_eq_true (by omega)
      have hl2 : (18 : Int) < (s.size : Int) := by omega
      have hl3 : 18 < s.size := by omega
      clear hms h18 hsb h45 hat hbody hm
      go_enter Tryd.func37, Tryd.ntmps37
      go_wp2
      all_goals (go_ret2; exact ⟨none, rfl, HNO.out, rfl⟩)
    have hl : decide ((18 : Int) < (s.size : Int)) = false := decide_eq_false (by omega)
    have hat0 : 0 < s.size := by omega
    by_cases hz : s[0].toNat = 48 ∧ 1 < s.size
    · have HNO : Hid (ReadsDec s none) := by
        have h1 := hat 0 (by omega)
        skip
        cases hb : body with
        | nil => rw [hb] at h1; simp at h1
        | cons c r =>
          rw [hb] at h1
          simp at h1
          exact bad_zero hsb h45 hb (by rw [h1]; exact hz.1) hz.2
      obtain ⟨hz1, hz2⟩ := hz
      have hze : (((s[0].toNat : Nat) : Int) == 48) = true := by simp; omega
      have hzl : decide (1 < s.size) = true := decide_eq_true hz2
      have hl4 : s.size ≤ 18 := by omega
      clear hms hz1 h18 hsb h45 hat hbody hm
      go_enter Tryd.func37, Tryd.ntmps37
      go_wp2
      all_goals (go_ret2; exact ⟨none, rfl, HNO.out, rfl⟩)
    have hz0 : ∀ c r, body = c :: r → c.toNat = 48 → s.data.toList.length ≤ 1 := fun c r hb e48 => by
      have h1 := hat 0 (by omega)
      skip
      rw [hb] at h1
      simp at h1
      rw [hsz]
      by_cases hgt : 1 < s.size
      · exact absurd ⟨by rw [← h1]; exact e48, hgt⟩ hz
      · omega
    have hm18 : m ≤ 18 := by omega
    have hm1 : 0 < m := by omega
    have HYES : Hid (allDig body = true → ReadsDec s (some ((valN body : Int)))) := fun had => reads_body hsb had (by intro h; rw [h] at hm; simp at hm; omega) (by omega) hz0
    have hzz : (((s[0].toNat : Nat) : Int) == 48) = false ∨ (((s[0].toNat : Nat) : Int) == 48) = true ∧ s.size = 1 := by
      by_cases e : s[0].toNat = 48
      · right
        refine ⟨by simp; omega, ?_⟩
        have : ¬ 1 < s.size := fun h => hz ⟨e, h⟩
        omega
      · left; simp; omega
    have hlN : decide (18 < s.size) = false := decide_eq_false (by omega)
    have hl4 : s.size ≤ 18 := by omega
    clear hz h18 hsb h45 hat hbody hm hz0
    rcases hzz with hzz | ⟨hzz, hz2⟩
    all_goals
      go_enter Tryd.func37, Tryd.ntmps37
      go_wp2
      go_loopg [5, 6] m (fun gk s5 s6 wr => ∃ k : Nat, k ≤ m ∧ gk = m - k ∧ s6 = .int .i64 ((k : Nat) : Int) ∧ s5 = .int .i64 (valN (body.take k) : Int) ∧ allDig (body.take k) = true ∧ w = wr)
      case atStart => exact ⟨0, Nat.zero_le _, rfl, rfl, rfl, rfl, rfl⟩
      case round =>
        obtain ⟨k, hk, hgk, rfl, rfl, had, rfl⟩ := hrel
        have Hgk := Lib.hid hgk
        have HAD := Lib.hid had
        clear hgk
        by_cases hlt : k < m
        · have hks : k < s.size := by omega
          have hbk := HAT.out k hks
          have HBK := Lib.hid hbk
          have hvb := valN_bd had
          have hlk : (body.take k).length = k := by rw [List.length_take, HM.out]; omega
          have hp := pow17 (k := k) (by omega)
          rw [hlk] at hvb
          have HVT := Lib.hid (valN_take hbk)
          obtain ⟨V, hV⟩ : ∃ V, valN (body.take k) = V := ⟨_, rfl⟩
          rw [hV] at hvb HVT ⊢
          have hV17 : V < 100000000000000000 := by omega
          clear had hvb hlk hp hbk hV
          cases hdc : digitC s[k]
          · have HNO := Lib.hid (HBAD.out _ (List.mem_of_getElem? HBK.out) hdc)
            go_wp2_with (go_at_call 57; refine (l01Digit_any _ _).mono ?_; rintro e w' ⟨rfl, rfl⟩)
            go_ret2
            exact ⟨none, rfl, HNO.out, rfl⟩
          · have hdd := digitC_iff.1 hdc
            have hd1 : (48 : Int) ≤ (s[k].toNat : Int) := by omega
            have hd2 : (s[k].toNat : Int) ≤ 57 := by omega
            have HTK := Lib.hid (allDig_take HAD.out HBK.out hdc)
            have HV2 : Hid ((valN (body.take (k + 1)) : Int) = 10 * (V : Int) + ((s[k].toNat : Int) - 48)) := by rw [Hid, HVT.out]; omega
            clear hdd
            go_wp2_with (go_at_call 57; refine (l01Digit_any _ _).mono ?_; rintro e w' ⟨rfl, rfl⟩)
            go_roundg (m - (k + 1))
            case measure => have := Hgk.out; omega
            case rel => exact ⟨k + 1, by omega, rfl, by go_num, by rw [HV2.out], HTK.out, rfl⟩
        · have hkm : k = m := by omega
          subst hkm
          have hfull : body.take k = body := List.take_of_length_le (by rw [HM.out]; exact Nat.le_refl _)
          rw [hfull] at had ⊢
          have HRD := Lib.hid (HYES.out had)
          have hvb := valN_bd had
          have hp := Nat.pow_le_pow_right (show 0 < 10 by decide) (show body.length ≤ 18 by rw [HM.out]; exact hm18)
          have h18e : (10 : Nat) ^ 18 = 1000000000000000000 := by decide
          obtain ⟨V, hV⟩ : ∃ V, valN body = V := ⟨_, rfl⟩
          rw [hV] at hvb HRD ⊢
          have hV18 : V < 1000000000000000000 := by omega
          have hke : ((k : Nat) : Int) = (s.size : Int) := by omega
          clear hfull had hvb hp h18e hV hk hlt
          go_wp2
          go_ret2
          exact ⟨_, rfl, HRD.out, rfl⟩

end Go.Proofs.YtgianbcplnciiaaDoor
