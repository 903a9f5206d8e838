/- What a leg's text reads as: its parts, and that they tell the leg. No program in sight. -/
import Derived.Test.YtamgodeiakflbaaDoorLegText
import Derived.Test.YtamgodeiakflbaaDoorDecP
import Derived.Lib.IndexMore
namespace Go.Proofs.YtamgodeiakflbaaDoor
open Go.RowKit

theorem index_hit {c : UInt8} : ∀ (A B : List UInt8), c ∉ A → Lib.index (A ++ c :: B) [c] = A.length
  | [], B, _ => by
    rw [List.nil_append, Lib.index, if_pos (by simp [List.isPrefixOf])]
    rfl
  | a :: A, B, h => by
    have ha : ¬ c = a := fun e => h (by rw [e]; exact List.mem_cons_self ..)
    have ih := index_hit A B (fun hm => h (List.mem_cons_of_mem _ hm))
    rw [List.cons_append, Lib.index, if_neg (by simp [List.isPrefixOf, ha]), ih]
    have hne : (((A.length : Nat) : Int) == -1) = false := by simp
    rw [hne]
    simp
theorem index_miss {c : UInt8} : ∀ (A : List UInt8), c ∉ A → Lib.index A [c] = -1
  | [], _ => rfl
  | a :: A, h => by
    have ha : ¬ c = a := fun e => h (by rw [e]; exact List.mem_cons_self ..)
    have ih := index_miss A (fun hm => h (List.mem_cons_of_mem _ hm))
    rw [Lib.index, if_neg (by simp [List.isPrefixOf, ha]), ih]
    rfl
theorem cut_hit {c : UInt8} (A B : List UInt8) (h : c ∉ A) : Lib.cut (A ++ c :: B) [c] = (A, B, true) := by
  unfold Lib.cut
  rw [index_hit A B h, if_pos (by omega)]
  simp
theorem digit_dec {u : Nat} : ∀ c ∈ Lib.decDigits u, 48 ≤ c.toNat ∧ c.toNat ≤ 57 := by
  induction u using Nat.strongRecOn with
  | _ u ih =>
    rw [Lib.decDigits]
    by_cases h : u < 10
    · rw [dif_pos h]
      intro c hc
      rw [List.mem_singleton.1 hc, UInt8.toNat_ofNat']
      omega
    · rw [dif_neg h]
      intro c hc
      rcases List.mem_append.1 hc with h1 | h1
      · exact ih (u / 10) (by omega) c h1
      · rw [List.mem_singleton.1 h1, UInt8.toNat_ofNat']
        omega
theorem itoa_pos {n : Int} (h : 0 ≤ n) : Lib.itoa n = Lib.decDigits n.toNat := by unfold Lib.itoa; rw [if_neg (by omega)]
theorem itoa_not {n : Int} (h : 0 ≤ n) {c : UInt8} (hc : c.toNat < 48) : c ∉ Lib.itoa n := fun hm => by
  rw [itoa_pos h] at hm
  have := digit_dec c hm
  omega
theorem Leg.one_parts {x : Leg} (h : x.oneB 12 = true) : 0 ≤ x.from_ ∧ 0 ≤ x.to_ ∧ 0 ≤ x.minutes ∧ 0 ≤ x.exposure ∧ Small x.from_ ∧ Small x.to_ ∧ Small x.minutes ∧ Small x.exposure := by
  unfold Leg.oneB at h
  simp only [Bool.and_eq_true, inB_iff] at h
  unfold Small
  omega
theorem legText_list (x : Leg) : (legText x).data.toList = (Lib.itoa x.from_ ++ 45 :: Lib.itoa x.to_) ++ 32 :: (Lib.itoa x.minutes ++ 33 :: Lib.itoa x.exposure) := by
  unfold legText
  simp [dec_list, ByteArray.data_append]
def part1 (s : ByteArray) : List UInt8 := (Lib.cut s.data.toList [32]).1
def part2 (s : ByteArray) : List UInt8 := (Lib.cut s.data.toList [32]).2.1
/-- The parts of a leg's text are its numbers' texts. -/
theorem parts_leg {x : Leg} (h : x.oneB 12 = true) : Lib.cut (legText x).data.toList [32] = (Lib.itoa x.from_ ++ 45 :: Lib.itoa x.to_, Lib.itoa x.minutes ++ 33 :: Lib.itoa x.exposure, true) ∧ Lib.cut (Lib.itoa x.from_ ++ 45 :: Lib.itoa x.to_) [45] = (Lib.itoa x.from_, Lib.itoa x.to_, true) ∧ Lib.cut (Lib.itoa x.minutes ++ 33 :: Lib.itoa x.exposure) [33] = (Lib.itoa x.minutes, Lib.itoa x.exposure, true) := by
  have hp := Leg.one_parts h
  refine ⟨?_, cut_hit _ _ (itoa_not hp.1 (by decide)), cut_hit _ _ (itoa_not hp.2.2.1 (by decide))⟩
  rw [legText_list]
  refine cut_hit _ _ fun hm => ?_
  rcases List.mem_append.1 hm with h1 | h1
  · exact itoa_not hp.1 (by decide) h1
  · rcases List.mem_cons.1 h1 with h2 | h2
    · exact absurd h2 (by decide)
    · exact itoa_not hp.2.1 (by decide) h2
theorem itoa_inj {n m : Int} (hn : I64 n) (hm : I64 m) (h : Lib.itoa n = Lib.itoa m) : n = m := dec_inj hn hm (data_ext (by rw [dec_list, dec_list, h]))
theorem legText_inj {x y : Leg} (hx : x.oneB 12 = true) (hy : y.oneB 12 = true) (h : legText x = legText y) : x = y := by
  obtain ⟨a1, a2, a3⟩ := parts_leg hx
  obtain ⟨b1, b2, b3⟩ := parts_leg hy
  rw [h, b1] at a1
  injection a1 with e1 e2
  injection e2 with e2 _
  rw [← e1, b2] at a2
  rw [← e2, b3] at a3
  injection a2 with f1 f2
  injection f2 with f2 _
  injection a3 with g1 g2
  injection g2 with g2 _
  have p := Leg.one_bd hx
  have q := Leg.one_bd hy
  have h1 := itoa_inj q.1 p.1 f1
  have h2 := itoa_inj q.2.1 p.2.1 f2
  have h3 := itoa_inj q.2.2.1 p.2.2.1 g1
  have h4 := itoa_inj q.2.2.2 p.2.2.2 g2
  cases x; cases y
  simp only at h1 h2 h3 h4
  subst h1 h2 h3 h4
  rfl
/-- What a text reads as, as a leg. -/
structure ReadsLeg (s : ByteArray) (r : Option Leg) : Prop where
  yes : ∀ x, r = some x → x.oneB 12 = true ∧ s = legText x
  no : r = none → ∀ x : Leg, x.oneB 12 = true → s ≠ legText x
theorem ReadsLeg.uniq {s : ByteArray} {r q : Option Leg} (h : ReadsLeg s r) (k : ReadsLeg s q) : r = q := by
  cases r with
  | none =>
    cases q with
    | none => rfl
    | some m => have := k.yes m rfl; exact absurd this.2 (h.no rfl m this.1)
  | some n =>
    have h1 := h.yes n rfl
    cases q with
    | none => exact absurd h1.2 (k.no rfl n h1.1)
    | some m =>
      have h2 := k.yes m rfl
      rw [legText_inj h1.1 h2.1 (h1.2.symm.trans h2.2)]
theorem ReadsLeg.of {x : Leg} (h : x.oneB 12 = true) : ReadsLeg (legText x) (some x) := ⟨fun m e => by injection e with e; subst e; exact ⟨h, rfl⟩, fun e => by cases e⟩
theorem dec_of_list {n : Int} {l : List UInt8} (h : l = Lib.itoa n) : (⟨l.toArray⟩ : ByteArray) = dec n := by rw [h]; rfl
theorem cut_len (l p : List UInt8) : (Lib.cut l p).1.length ≤ l.length ∧ (Lib.cut l p).2.1.length ≤ l.length := by
  unfold Lib.cut
  split
  · exact ⟨by rw [List.length_take]; omega, by rw [List.length_drop]; omega⟩
  · exact ⟨Nat.le_refl _, by simp⟩

end Go.Proofs.YtamgodeiakflbaaDoor
