/- Digits that spell a number: the plain law of the reference's reading. No program in sight. -/
import Derived.Test.YtllchmacipacnaaGreatDoorDecP
import Derived.Test.YtllchmacipacnaaGreatDoorItoaP
namespace Go.Proofs.YtllchmacipacnaaGreatDoor
open Go.RowKit

theorem rev_ind {P : List UInt8 → Prop} (h0 : P []) (hs : ∀ l c, P l → P (l ++ [c])) (l : List UInt8) : P l := by
  have key : ∀ m : List UInt8, P m.reverse := by
    intro m
    induction m with
    | nil => exact h0
    | cons c m ih => rw [List.reverse_cons]; exact hs _ _ ih
  have := key l.reverse
  rwa [List.reverse_reverse] at this
def valN (l : List UInt8) : Nat := l.foldl (fun a c => 10 * a + (c.toNat - 48)) 0
theorem valN_snoc (l : List UInt8) (c : UInt8) : valN (l ++ [c]) = 10 * valN l + (c.toNat - 48) := by unfold valN; rw [List.foldl_append]; rfl
def allDig (l : List UInt8) : Bool := l.all digitC
theorem digitC_iff {c : UInt8} : digitC c = true ↔ 48 ≤ c.toNat ∧ c.toNat ≤ 57 := by unfold digitC; simp; omega
theorem byte_of {c : UInt8} (h : 48 ≤ c.toNat) (h2 : c.toNat ≤ 57) : UInt8.ofNat (48 + (c.toNat - 48)) = c := by
  rw [show 48 + (c.toNat - 48) = c.toNat by omega]
  exact UInt8.ofNat_toNat
theorem valN_bd : ∀ {l : List UInt8}, allDig l = true → valN l < 10 ^ l.length := by
  intro l
  refine rev_ind (P := fun l => allDig l = true → valN l < 10 ^ l.length) ?_ ?_ l
  · intro _; decide
  · intro l c ih h
    unfold allDig at h
    rw [List.all_append, Bool.and_eq_true] at h
    have hc := digitC_iff.1 (show digitC c = true by simpa using h.2)
    have := ih h.1
    rw [valN_snoc, List.length_append, List.length_singleton, Nat.pow_succ]
    omega
theorem valN_pos {c : UInt8} {r : List UInt8} (hc : 49 ≤ c.toNat) : 0 < valN (c :: r) := by
  have : ∀ (r : List UInt8) (a : Nat), 0 < a → 0 < r.foldl (fun a (c : UInt8) => 10 * a + (c.toNat - 48)) a := by
    intro r
    induction r with
    | nil => intro a h; exact h
    | cons d r ih => intro a h; exact ih _ (by show 0 < 10 * a + (d.toNat - 48); omega)
  unfold valN
  exact this r _ (by show 0 < 10 * 0 + (c.toNat - 48); omega)
/-- Digits without a leading zero are the number's own. -/
theorem dec_val : ∀ {l : List UInt8}, allDig l = true → l ≠ [] → (l.length = 1 ∨ ∃ c r, l = c :: r ∧ c.toNat ≠ 48) → Lib.decDigits (valN l) = l := by
  intro l
  refine rev_ind (P := fun l => allDig l = true → l ≠ [] → (l.length = 1 ∨ ∃ c r, l = c :: r ∧ c.toNat ≠ 48) → Lib.decDigits (valN l) = l) ?_ ?_ l
  · intro _ h; exact absurd rfl h
  · intro l c ih h _ hz
    unfold allDig at h
    rw [List.all_append, Bool.and_eq_true] at h
    have hc := digitC_iff.1 (show digitC c = true by simpa using h.2)
    rw [valN_snoc]
    cases l with
    | nil =>
      have e : 10 * valN [] + (c.toNat - 48) = c.toNat - 48 := by show 10 * 0 + _ = _; omega
      rw [e, Lib.decDigits, dif_pos (by omega), byte_of hc.1 hc.2]
      rfl
    | cons d r =>
      have hd48 : d.toNat ≠ 48 := by
        rcases hz with h1 | ⟨c', r', h1, h2⟩
        · simp at h1
        · rw [List.cons_append] at h1
          injection h1 with h1 _
          rw [h1]; exact h2
      have hdd := digitC_iff.1 (show digitC d = true by have := h.1; simp at this; exact this.1)
      have hpos := valN_pos (c := d) (r := r) (by omega)
      have hi := ih h.1 (by simp) (.inr ⟨d, r, rfl, hd48⟩)
      rw [Lib.decDigits, dif_neg (by omega), show (10 * valN (d :: r) + (c.toNat - 48)) / 10 = valN (d :: r) by omega, show (10 * valN (d :: r) + (c.toNat - 48)) % 10 = c.toNat - 48 by omega, hi, byte_of hc.1 hc.2]
theorem dec_head48 {u : Nat} (h : 0 < u) : ∃ c r, Lib.decDigits u = c :: r ∧ c.toNat ≠ 48 := by
  induction u using Nat.strongRecOn with
  | _ u ih =>
    rw [Lib.decDigits]
    by_cases h10 : u < 10
    · rw [dif_pos h10]
      have e : (UInt8.ofNat (48 + u)).toNat = 48 + u := by rw [UInt8.toNat_ofNat']; omega
      exact ⟨_, [], rfl, by omega⟩
    · rw [dif_neg h10]
      obtain ⟨c, r, he, h1⟩ := ih (u / 10) (by omega) (by omega)
      exact ⟨c, r ++ [_], by rw [he]; rfl, h1⟩
theorem allDig_dec (u : Nat) : allDig (Lib.decDigits u) = true := by
  unfold allDig
  rw [List.all_eq_true]
  exact fun c hc => digitC_iff.2 (digit_dec c hc)
/-- A text that is a sign or none and a body of digits. -/
theorem reads_body {s : ByteArray} {neg : Bool} {ds : List UInt8} (hs : s.data.toList = (if neg then 45 :: ds else ds)) (hd : allDig ds = true) (h0 : ds ≠ []) (h18 : ds.length ≤ 18) (hz : ∀ c r, ds = c :: r → c.toNat = 48 → s.data.toList.length ≤ 1) :
    ReadsDec s (some (if neg then -(valN ds : Int) else (valN ds : Int))) := by
  have hb := valN_bd hd
  have hp : (10 : Nat) ^ ds.length ≤ 10 ^ 18 := Nat.pow_le_pow_right (by decide) h18
  have h18e : (10 : Nat) ^ 18 = 1000000000000000000 := by decide
  have hlz : ds.length = 1 ∨ ∃ c r, ds = c :: r ∧ c.toNat ≠ 48 := by
    cases ds with
    | nil => exact absurd rfl h0
    | cons c r =>
      by_cases e : c.toNat = 48
      · left
        have := hz c r rfl e
        rw [hs] at this
        cases neg <;> simp at this ⊢ <;> omega
      · exact .inr ⟨c, r, rfl, e⟩
  have hv := dec_val hd h0 hlz
  have hsm : Small (if neg then -(valN ds : Int) else (valN ds : Int)) := by
    unfold Small
    cases neg <;> simp <;> omega
  have he : s = dec (if neg then -(valN ds : Int) else (valN ds : Int)) := by
    refine data_ext ?_
    rw [hs, dec_list]
    cases neg with
    | false => simp only [Bool.false_eq_true, if_false]; rw [itoa_pos (by omega), Int.toNat_natCast, hv]
    | true =>
      have hvp : 0 < valN ds := by
        cases ds with
        | nil => exact absurd rfl h0
        | cons c r =>
          have hc := digitC_iff.1 (show digitC c = true by unfold allDig at hd; simp at hd; exact hd.1)
          have : c.toNat ≠ 48 := fun e => by have := hz c r rfl e; rw [hs] at this; simp at this
          exact valN_pos (by omega)
      simp only [if_true]
      unfold Lib.itoa
      rw [if_pos (by omega), show (-(valN ds : Int)).natAbs = valN ds by omega, hv]
  exact ⟨fun n e => by injection e with e; subst e; exact ⟨hsm, he⟩, fun e => by cases e⟩
/-- A text that reads as a number is a sign or none and a body of digits. -/
theorem body_of {n : Int} (h : Small n) : ∃ (neg : Bool) (ds : List UInt8), (dec n).data.toList = (if neg then 45 :: ds else ds) ∧ allDig ds = true ∧ ds ≠ [] ∧ ds.length ≤ 18 ∧ (∀ c r, ds = c :: r → c.toNat = 48 → (dec n).data.toList.length ≤ 1) := by
  have h18 := small_digits.1 h
  obtain ⟨c, r, he, _⟩ := decDigits_head n.natAbs
  by_cases hn : n < 0
  · refine ⟨true, Lib.decDigits n.natAbs, ?_, allDig_dec _, by rw [he]; simp, h18, ?_⟩
    · rw [dec_list]; unfold Lib.itoa; rw [if_pos hn]; rfl
    · intro c r e e48
      obtain ⟨c2, r2, h1, h2⟩ := dec_head48 (u := n.natAbs) (by omega)
      rw [h1] at e
      injection e with e _
      rw [e] at h2
      exact absurd e48 h2
  · refine ⟨false, Lib.decDigits n.natAbs, ?_, allDig_dec _, by rw [he]; simp, h18, ?_⟩
    · rw [dec_list, itoa_pos (by omega), show n.toNat = n.natAbs by omega]; rfl
    · intro c r e e48
      by_cases h0 : n = 0
      · subst h0
        rw [dec_list, itoa_zero]
        exact Nat.le_refl _
      · obtain ⟨c2, r2, h1, h2⟩ := dec_head48 (u := n.natAbs) (by omega)
        rw [h1] at e
        injection e with e _
        rw [e] at h2
        exact absurd e48 h2
/-- A text that is no such thing reads as none. -/
theorem reads_bad {s : ByteArray} (h : ∀ (neg : Bool) (ds : List UInt8), s.data.toList = (if neg then 45 :: ds else ds) → allDig ds = true → ds ≠ [] → ds.length ≤ 18 → (∀ c r, ds = c :: r → c.toNat = 48 → s.data.toList.length ≤ 1) → False) : ReadsDec s none :=
  ⟨fun n e => (by cases e), fun _ n hn e => by
    obtain ⟨neg, ds, h1, h2, h3, h4, h5⟩ := body_of hn
    rw [← e] at h1 h5
    exact h neg ds h1 h2 h3 h4 h5⟩

end Go.Proofs.YtllchmacipacnaaGreatDoor
