/- The reference's reading of a number. -/
import Derived.Test.YtllchmacipacnaaGreatDoorNumP
import Derived.Test.YtllchmacipacnaaGreatDoorMem
namespace Go.Proofs.YtllchmacipacnaaGreatDoor
open Go.RowKit

theorem body_uniq {s : ByteArray} {neg neg' : Bool} {body ds : List UInt8} (hs : s.data.toList = (if neg then 45 :: body else body)) (h45 : neg = false → ∀ c r, body = c :: r → c ≠ 45) (hs' : s.data.toList = (if neg' then 45 :: ds else ds)) (hd : allDig ds = true) : neg' = neg ∧ ds = body := by
  rw [hs] at hs'
  have hdig : ∀ c r, ds = c :: r → c ≠ 45 := fun c r e e45 => by
    rw [e] at hd
    unfold allDig at hd
    have := digitC_iff.1 (show digitC c = true by simp at hd; exact hd.1)
    rw [e45] at this
    exact absurd this.1 (by decide)
  cases neg with
  | true =>
    cases neg' with
    | true => simp only [if_true] at hs'; injection hs' with _ h; exact ⟨rfl, h.symm⟩
    | false => simp only [if_true, Bool.false_eq_true, if_false] at hs'; exact absurd rfl (hdig 45 body hs'.symm)
  | false =>
    cases neg' with
    | true => simp only [if_true, Bool.false_eq_true, if_false] at hs'; exact absurd rfl (h45 rfl 45 ds hs')
    | false => simp only [Bool.false_eq_true, if_false] at hs'; exact ⟨rfl, hs'.symm⟩
section
variable {s : ByteArray} {neg : Bool} {body : List UInt8} (hs : s.data.toList = (if neg then 45 :: body else body)) (h45 : neg = false → ∀ c r, body = c :: r → c ≠ 45)
include hs h45
theorem bad_empty (h : body = []) : ReadsDec s none := reads_bad fun _ _ h1 h2 h3 _ _ => h3 ((body_uniq hs h45 h1 h2).2.trans h)
theorem bad_long (h : 18 < body.length) : ReadsDec s none := reads_bad fun _ _ h1 h2 _ h4 _ => by
  rw [(body_uniq hs h45 h1 h2).2] at h4; omega
theorem bad_zero {c : UInt8} {r : List UInt8} (h : body = c :: r) (hc : c.toNat = 48) (hl : 1 < s.size) : ReadsDec s none := reads_bad fun _ _ h1 h2 _ _ h5 => by
  have := h5 c r ((body_uniq hs h45 h1 h2).2.trans h) hc
  rw [Array.length_toList] at this
  have h2 : s.data.size = s.size := rfl
  omega
theorem bad_digit {c : UInt8} (h : c ∈ body) (hc : digitC c = false) : ReadsDec s none := reads_bad fun _ _ h1 h2 _ _ _ => by
  rw [(body_uniq hs h45 h1 h2).2] at h2
  unfold allDig at h2
  have := List.all_eq_true.1 h2 c h
  rw [this] at hc; cases hc
end
theorem str_at {s : ByteArray} {k : Nat} (h : k < s.size) : s.data.toList[k]? = some s[k] := by
  rw [List.getElem?_eq_getElem (by rw [Array.length_toList]; exact h)]
  rfl
theorem pow17 {k : Nat} (h : k ≤ 17) : (10 : Nat) ^ k ≤ 100000000000000000 := by
  have : (10 : Nat) ^ k ≤ 10 ^ 17 := Nat.pow_le_pow_right (by decide) h
  have e : (10 : Nat) ^ 17 = 100000000000000000 := by decide
  omega
theorem allDig_take {l : List UInt8} {k : Nat} {c : UInt8} (h : allDig (l.take k) = true) (hc : l[k]? = some c) (hd : digitC c = true) : allDig (l.take (k + 1)) = true := by
  obtain ⟨hk, he⟩ := List.getElem?_eq_some_iff.1 hc
  rw [List.take_succ_eq_append_getElem hk, he]
  unfold allDig at h ⊢
  rw [List.all_append, h]
  simp [hd]
theorem valN_take {l : List UInt8} {k : Nat} {c : UInt8} (hc : l[k]? = some c) : valN (l.take (k + 1)) = 10 * valN (l.take k) + (c.toNat - 48) := by
  obtain ⟨hk, he⟩ := List.getElem?_eq_some_iff.1 hc
  rw [List.take_succ_eq_append_getElem hk, he, valN_snoc]

end Go.Proofs.YtllchmacipacnaaGreatDoor
