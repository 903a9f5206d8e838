/- Digits and cuts of texts, in plain Lean. -/
import Derived.Test.YtllchmacipacnaaGreatDoorDecP
import Derived.Lib.IndexMore
namespace Go.Proofs.YtllchmacipacnaaGreatDoor
open Go.RowKit

theorem index_hit {c : UInt8} : ∀ (A B : List UInt8), c ∉ A → Lib.index (A ++ c :: B) [c] = A.length
  | [], B, _ => by
    rw [List.nil_append, Lib.index, if_pos (by simp [List.isPrefixOf])]
    rfl
  | a :: A, B, h => by
    have ha : ¬ c = a := fun e => h (by rw [e]; exact List.mem_cons_self ..)
    have ih := index_hit A B (fun hm => h (List.mem_cons_of_mem _ hm))
    rw [List.cons_append, Lib.index, if_neg (by simp [List.isPrefixOf, ha]), ih]
    have hne : (((A.length : Nat) : Int) == -1) = false := by simp
    rw [hne]
    simp
theorem index_miss {c : UInt8} : ∀ (A : List UInt8), c ∉ A → Lib.index A [c] = -1
  | [], _ => rfl
  | a :: A, h => by
    have ha : ¬ c = a := fun e => h (by rw [e]; exact List.mem_cons_self ..)
    have ih := index_miss A (fun hm => h (List.mem_cons_of_mem _ hm))
    rw [Lib.index, if_neg (by simp [List.isPrefixOf, ha]), ih]
    rfl
theorem cut_hit {c : UInt8} (A B : List UInt8) (h : c ∉ A) : Lib.cut (A ++ c :: B) [c] = (A, B, true) := by
  unfold Lib.cut
  rw [index_hit A B h, if_pos (by omega)]
  simp
theorem digit_dec {u : Nat} : ∀ c ∈ Lib.decDigits u, 48 ≤ c.toNat ∧ c.toNat ≤ 57 := by
  induction u using Nat.strongRecOn with
  | _ u ih =>
    rw [Lib.decDigits]
    by_cases h : u < 10
    · rw [dif_pos h]
      intro c hc
      rw [List.mem_singleton.1 hc, UInt8.toNat_ofNat']
      omega
    · rw [dif_neg h]
      intro c hc
      rcases List.mem_append.1 hc with h1 | h1
      · exact ih (u / 10) (by omega) c h1
      · rw [List.mem_singleton.1 h1, UInt8.toNat_ofNat']
        omega
theorem itoa_pos {n : Int} (h : 0 ≤ n) : Lib.itoa n = Lib.decDigits n.toNat := by unfold Lib.itoa; rw [if_neg (by omega)]
theorem itoa_not {n : Int} (h : 0 ≤ n) {c : UInt8} (hc : c.toNat < 48) : c ∉ Lib.itoa n := fun hm => by
  rw [itoa_pos h] at hm
  have := digit_dec c hm
  omega
theorem itoa_inj {n m : Int} (hn : I64 n) (hm : I64 m) (h : Lib.itoa n = Lib.itoa m) : n = m := dec_inj hn hm (data_ext (by rw [dec_list, dec_list, h]))
theorem dec_of_list {n : Int} {l : List UInt8} (h : l = Lib.itoa n) : (⟨l.toArray⟩ : ByteArray) = dec n := by rw [h]; rfl
theorem cut_len (l p : List UInt8) : (Lib.cut l p).1.length ≤ l.length ∧ (Lib.cut l p).2.1.length ≤ l.length := by
  unfold Lib.cut
  split
  · exact ⟨by rw [List.length_take]; omega, by rw [List.length_drop]; omega⟩
  · exact ⟨Nat.le_refl _, by simp⟩

end Go.Proofs.YtllchmacipacnaaGreatDoor
