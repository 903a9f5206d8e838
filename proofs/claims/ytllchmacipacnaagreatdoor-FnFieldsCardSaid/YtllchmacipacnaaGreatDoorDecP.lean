/- What a decimal text reads as: the plain law of reading a number. -/
import Derived.Test.YtllchmacipacnaaGreatDoorDec
import Derived.Lib.ParseIntBCases
import Derived.Lib.ItoaMem
import Derived.Lib.Strings
namespace Go.Proofs.YtllchmacipacnaaGreatDoor
open Go.RowKit

/-- A number of at most 18 digits. -/
def Small (n : Int) : Prop := -1000000000000000000 < n ∧ n < 1000000000000000000
theorem Small.i64 {n : Int} (h : Small n) : I64 n := by unfold Small at h; unfold I64; omega
theorem uintM_snoc (M : Nat) (c : UInt8) : ∀ (l : List UInt8) (a v : Nat), Lib.parseUintM M a l = .ok v → Lib.parseUintM M a (l ++ [c]) = Lib.parseUintM M v [c]
  | [], a, v, h => by
    simp only [Lib.parseUintM] at h
    injection h with h
    subst h
    rfl
  | d :: l, a, v, h => by
    rw [List.cons_append]
    rw [Lib.parseUintM] at h ⊢
    by_cases h1 : 48 ≤ d.toNat ∧ d.toNat ≤ 57
    · rw [if_pos h1] at h ⊢
      by_cases h2 : 1844674407370955162 ≤ a
      · rw [if_pos h2] at h; cases h
      · rw [if_neg h2] at h ⊢
        by_cases h3 : M < a * 10 + (d.toNat - 48)
        · rw [if_pos h3] at h; cases h
        · rw [if_neg h3] at h ⊢
          exact uintM_snoc M c l _ v h
    · rw [if_neg h1] at h; cases h
theorem uintM_one {M v c : Nat} (hc : c < 10) (hM : M ≤ 18446744073709551615) (hv : v * 10 + c ≤ M) : Lib.parseUintM M v [UInt8.ofNat (48 + c)] = .ok (v * 10 + c) := by
  have e : (UInt8.ofNat (48 + c)).toNat = 48 + c := by rw [UInt8.toNat_ofNat']; omega
  rw [Lib.parseUintM, e, if_pos (by omega), if_neg (by omega), if_neg (by omega)]
  rw [show v * 10 + (48 + c - 48) = v * 10 + c by omega]
  rfl
theorem uintM_dec {M : Nat} (hM : M ≤ 18446744073709551615) (u : Nat) (hu : u ≤ M) : Lib.parseUintM M 0 (Lib.decDigits u) = .ok u := by
  induction u using Nat.strongRecOn with
  | _ u ih =>
    rw [Lib.decDigits]
    by_cases h : u < 10
    · rw [dif_pos h]
      have := uintM_one (v := 0) h hM (by omega)
      simpa using this
    · rw [dif_neg h, uintM_snoc M _ _ 0 (u / 10) (ih (u / 10) (by omega) (by omega)), uintM_one (by omega) hM (by omega)]
      congr 1
      omega
theorem decDigits_head (u : Nat) : ∃ c r, Lib.decDigits u = c :: r ∧ 48 ≤ c.toNat ∧ c.toNat ≤ 57 := by
  induction u using Nat.strongRecOn with
  | _ u ih =>
    rw [Lib.decDigits]
    by_cases h : u < 10
    · rw [dif_pos h]
      have e : (UInt8.ofNat (48 + u)).toNat = 48 + u := by rw [UInt8.toNat_ofNat']; omega
      exact ⟨_, [], rfl, by omega, by omega⟩
    · rw [dif_neg h]
      obtain ⟨c, r, he, h1, h2⟩ := ih (u / 10) (by omega)
      exact ⟨c, r ++ [_], by rw [he]; rfl, h1, h2⟩
theorem uintB_dec (u : Nat) (hu : u ≤ 18446744073709551615) : Lib.parseUintB 64 (Lib.decDigits u) = .ok u := by
  obtain ⟨c, r, he, _⟩ := decDigits_head u
  unfold Lib.parseUintB
  rw [if_neg (by rw [he]; simp)]
  exact uintM_dec (by decide) u (by omega)
theorem parse_itoa {n : Int} (h : I64 n) : Lib.parseIntB 64 (Lib.itoa n) = .ok n := by
  unfold I64 at h
  unfold Lib.itoa
  by_cases hn : n < 0
  · rw [if_pos hn, Lib.parseIntB_minus, uintB_dec _ (by omega)]
    simp only [Lib.signedC]
    rw [if_neg (by omega)]
    congr 1
    omega
  · rw [if_neg hn]
    obtain ⟨c, r, he, h1, h2⟩ := decDigits_head n.toNat
    have hu := uintB_dec n.toNat (by omega)
    rw [he] at hu ⊢
    rw [Lib.parseIntB_plain _ _ _ (by omega) (by omega), hu]
    simp only [Lib.signlessC]
    rw [if_neg (by omega)]
    congr 1
    omega
theorem dec_list (n : Int) : (dec n).data.toList = Lib.itoa n := by unfold dec; simp
theorem dec_inj {n m : Int} (hn : I64 n) (hm : I64 m) (h : dec n = dec m) : n = m := by
  have h1 := parse_itoa hn
  have h2 := parse_itoa hm
  rw [← dec_list, h, dec_list, h2] at h1
  injection h1 with h1
  exact h1.symm
theorem trim_itoa (n : Int) : Lib.trimPrefix (Lib.itoa n) [45] = Lib.decDigits n.natAbs := by
  unfold Lib.itoa
  by_cases hn : n < 0
  · rw [if_pos hn]
    unfold Lib.trimPrefix
    have : Lib.hasPrefix (45 :: Lib.decDigits n.natAbs) [45] = true := by simp [Lib.hasPrefix]
    rw [if_pos this]
    rfl
  · rw [if_neg hn]
    obtain ⟨c, r, he, h1, h2⟩ := decDigits_head n.toNat
    have hne : c ≠ 45 := by intro e; subst e; exact absurd h1 (by decide)
    unfold Lib.trimPrefix
    have hp : Lib.hasPrefix (c :: r) [45] = false := by
      show ([45] : List UInt8).isPrefixOf (c :: r) = false
      simp only [List.isPrefixOf]
      simp [Ne.symm hne]
    rw [show n.natAbs = n.toNat by omega]
    rw [he, if_neg (by rw [hp]; decide)]
theorem nDigits_lt {u : Nat} (h : u < 10 ^ 18) : Lib.nDigits u ≤ 18 := by
  by_cases h18 : Lib.nDigits u ≤ 18
  · exact h18
  · exfalso
    have h2 : ∀ v, 10 ^ (Lib.nDigits v - 1) ≤ v ∨ v = 0 := by
      intro v
      induction v using Nat.strongRecOn with
      | _ v ih =>
        by_cases hv : v < 10
        · rw [Lib.nDigits_small hv]
          by_cases h0 : v = 0
          · exact .inr h0
          · exact .inl (by simp; omega)
        · left
          have hb := Lib.nDigits_big hv
          have hq := ih (v / 10) (by omega)
          have hp := Lib.nDigits_pos (v / 10)
          rcases hq with hq | hq
          · rw [hb, show Lib.nDigits (v / 10) + 1 - 1 = (Lib.nDigits (v / 10) - 1) + 1 by omega, Nat.pow_succ]
            omega
          · omega
    rcases h2 u with h3 | h3
    · have h4 : 10 ^ 18 ≤ 10 ^ (Lib.nDigits u - 1) := Nat.pow_le_pow_right (by decide) (by omega)
      omega
    · subst h3
      rw [Lib.nDigits_small (by decide)] at h18
      omega
theorem small_digits {n : Int} : Small n ↔ (Lib.decDigits n.natAbs).length ≤ 18 := by
  rw [Lib.decDigits_length]
  unfold Small
  constructor
  · intro h
    refine nDigits_lt ?_
    have : (10 : Nat) ^ 18 = 1000000000000000000 := by decide
    omega
  · intro h
    have h1 := Lib.lt_pow_nDigits n.natAbs
    have h2 : (10 : Nat) ^ Lib.nDigits n.natAbs ≤ 10 ^ 18 := Nat.pow_le_pow_right (by decide) h
    have : (10 : Nat) ^ 18 = 1000000000000000000 := by decide
    omega
/-- What a text reads as. -/
structure ReadsDec (s : ByteArray) (r : Option Int) : Prop where
  yes : ∀ n, r = some n → Small n ∧ s = dec n
  no : r = none → ∀ n, Small n → s ≠ dec n
theorem ReadsDec.uniq {s : ByteArray} {r q : Option Int} (h : ReadsDec s r) (k : ReadsDec s q) : r = q := by
  cases r with
  | none =>
    cases q with
    | none => rfl
    | some m => have := k.yes m rfl; exact absurd this.2 (h.no rfl m this.1)
  | some n =>
    have h1 := h.yes n rfl
    cases q with
    | none => exact absurd h1.2 (k.no rfl n h1.1)
    | some m =>
      have h2 := k.yes m rfl
      rw [dec_inj h1.1.i64 h2.1.i64 (h1.2.symm.trans h2.2)]
theorem ReadsDec.of {n : Int} (h : Small n) : ReadsDec (dec n) (some n) := ⟨fun m e => by injection e with e; subst e; exact ⟨h, rfl⟩, fun e => by cases e⟩
theorem dec_ne_nil (n : Int) : dec n ≠ ⟨#[]⟩ := fun e => by
  have h0 : (dec n).data.toList = [] := by rw [e]
  rw [dec_list] at h0
  have h1 := trim_itoa n
  rw [h0] at h1
  obtain ⟨c, r, he, _⟩ := decDigits_head n.natAbs
  rw [he] at h1
  cases h1
theorem ReadsDec.nil : ReadsDec ⟨#[]⟩ none := ⟨fun n e => (by cases e), fun _ n _ e => dec_ne_nil n e.symm⟩
theorem data_ext {a b : ByteArray} (h : a.data.toList = b.data.toList) : a = b := by
  cases a; cases b; congr 1; exact Array.toList_inj.1 h
/-- What a parse gives tells what is read. -/
theorem reads_no {s : ByteArray} (h : ∀ n, I64 n → Lib.parseIntB 64 s.data.toList = .ok n → s = dec n → ¬ Small n) : ReadsDec s none :=
  ⟨fun n e => (by cases e), fun _ n hn e => h n hn.i64 (by rw [e, dec_list]; exact parse_itoa hn.i64) e hn⟩
theorem parse_bd {l : List UInt8} {n : Int} (h : Lib.parseIntB 64 l = .ok n) : I64 n := by
  cases l with
  | nil => cases h
  | cons c r =>
    by_cases h45 : c.toNat = 45
    · have hc : c = 45 := UInt8.toNat_inj.1 h45
      subst hc
      rw [Lib.parseIntB_minus] at h
      cases hu : Lib.parseUintB 64 r with
      | ok u =>
        rw [hu] at h
        simp only [Lib.signedC] at h
        unfold I64
        split at h
        · cases h
        · injection h with h; omega
      | _ => rw [hu] at h; cases h
    · by_cases h43 : c.toNat = 43
      · have hc : c = 43 := UInt8.toNat_inj.1 h43
        subst hc
        rw [Lib.parseIntB_plus] at h
        cases hu : Lib.parseUintB 64 r with
        | ok u =>
          rw [hu] at h
          simp only [Lib.signlessC] at h
          unfold I64
          split at h
          · cases h
          · injection h with h; omega
        | _ => rw [hu] at h; cases h
      · rw [Lib.parseIntB_plain _ _ _ h43 h45] at h
        cases hu : Lib.parseUintB 64 (c :: r) with
        | ok u =>
          rw [hu] at h
          simp only [Lib.signlessC] at h
          unfold I64
          split at h
          · cases h
          · injection h with h; omega
        | _ => rw [hu] at h; cases h

end Go.Proofs.YtllchmacipacnaaGreatDoor
