/- The text of a field, and what it is read as, where the field is valid. -/
import Derived.Test.YtllchmacipacnaaGreatDoorFldL
import Derived.Test.YtllchmacipacnaaGreatDoorRList
import Derived.Test.YtllchmacipacnaaGreatDoorListT
import Derived.Test.YtllchmacipacnaaGreatDoorReadDec
import Derived.Test.YtllchmacipacnaaGreatDoorListQ
import Derived.Test.YtllchmacipacnaaGreatDoorItoaP
import Derived.Deep.RegionHeld3
import Derived.BigQuiet
namespace Go.Proofs.YtllchmacipacnaaGreatDoor
open Go.RowKit

def fieldText (f : Field) : ByteArray := (((dec f.rows ++ ⟨#[120]⟩) ++ dec f.columns) ++ ⟨#[32]⟩) ++ textList f.masses
set_option maxRecDepth 100000 in
set_option maxHeartbeats 4000000 in
theorem implFieldText_ok (f : FieldR) (w : World) (hfi : f.In w) (hfb : fieldB f.val = true) (ht : TabAt w.heap.size w) : Calls Tryz.prog 9 #[.agg #[.int .i64 f.rows, .int .i64 f.columns, .slice f.massesA f.massesN f.massesC]] w (Ret (.string (fieldText f.val)) w) := by
  have hB : Below w.heap.size w (w.alloc (.cells #[.int .i64 f.rows, .int .i64 f.columns, .slice f.massesA f.massesN f.massesC] 26)) := (Below.refl _ _).alloc (Nat.le_refl _) _
  have HO0 : Hid (BoxF w.heap.size f (w.alloc (.cells #[.int .i64 f.rows, .int .i64 f.columns, .slice f.massesA f.massesN f.massesC] 26))) := BoxF.new hfi
  have HB0 := Lib.hid hB
  have HT0 := Lib.hid (ht.grow hB)
  have HFB := Lib.hid hfb
  clear hfi hB hfb ht
  obtain ⟨y0, y1, y2, ly⟩ := HO0.out.cells
  go_enter Tryz.func9, Tryz.ntmps9
  go_wp2_with fail
  clear y0 y1 y2 ly
  refine (validField_any f _ HO0.out.gi).mono ?_
  rintro e w1 ⟨rfl, hb1⟩
  rw [HFB.out]
  have HO := Lib.hid (HO0.out.grow hb1)
  have HB := Lib.hid (HB0.out.trans (hb1.mono HB0.out.size))
  have HT := Lib.hid (HT0.out.grow hb1)
  clear hb1
  obtain ⟨y0, y1, y2, ly⟩ := HO.out.cells
  go_wp2_with fail
  clear y0 y1 y2 ly
  have HF1 := Lib.hid HO.out.gi.1
  obtain ⟨R, C, hR, hC, hR1, hR8, hC1, hC8, hl, h64, hmB⟩ := fieldB_nat HFB.out
  have hR : f.rows = (R : Int) := hR
  have hC : f.columns = (C : Int) := hC
  have hmB : massB f.masses = true := hmB
  have hn64 : f.massesN ≤ 64 := by
    have h1 : f.masses.length = R * C := hl
    rw [HF1.out.len] at h1
    omega
  have HN64 := Lib.hid hn64
  have hi1 : I64 f.rows := by rw [hR]; unfold I64; omega
  have hi2 : I64 f.columns := by rw [hC]; unfold I64; omega
  have HBD : Hid (∀ y, y ∈ f.masses → -1000000000000 ≤ y ∧ y ≤ 1000000000000) := fun y hy => by
    obtain ⟨k, hk⟩ := List.getElem?_of_mem hy
    have := massB_at hmB hk
    omega
  have hz1 := dec_size hi1
  have hz2 := dec_size hi2
  have hz3 : (textList f.masses).size ≤ 1500 := by
    have h := textList_size (xs := f.masses) (fun y hy => by have := HBD.out y hy; unfold I64; omega)
    rw [HF1.out.len] at h
    omega
  obtain ⟨T1, hT1⟩ : ∃ T, dec f.rows = T := ⟨_, rfl⟩
  obtain ⟨T2, hT2⟩ : ∃ T, dec f.columns = T := ⟨_, rfl⟩
  obtain ⟨T3, hT3⟩ : ∃ T, textList f.masses = T := ⟨_, rfl⟩
  rw [hT1] at hz1
  rw [hT2] at hz2
  rw [hT3] at hz3
  have HTX : Hid (fieldText f.val = (((T1 ++ ⟨#[120]⟩) ++ T2) ++ ⟨#[32]⟩) ++ T3) := by rw [Hid, ← hT1, ← hT2, ← hT3]; rfl
  have HC1 : Hid (∀ W : World, Below w1.heap.size w1 W → Calls Tryz.prog 30 #[.int .i64 f.rows] W (Ret (.string T1) W)) := fun W hb => by
    rw [← hT1]; exact implDecimal_any f.rows W hi1 (HT.out.grow hb)
  have HC2 : Hid (∀ W : World, Below w1.heap.size w1 W → Calls Tryz.prog 30 #[.int .i64 f.columns] W (Ret (.string T2) W)) := fun W hb => by
    rw [← hT2]; exact implDecimal_any f.columns W hi2 (HT.out.grow hb)
  have HC3 : Hid (∀ W : World, Below w1.heap.size w1 W → Calls Tryz.prog 31 #[.slice f.massesA f.massesN f.massesC] W (Ret (.string T3) W)) := fun W hb => by
    rw [← hT3]; exact implListText_any _ _ _ f.masses W (HF1.out.below hb) HN64.out HBD.out (HT.out.grow hb)
  have e1 : (⟨#[120]⟩ : ByteArray).size = 1 := rfl
  have e2 : (⟨#[32]⟩ : ByteArray).size = 1 := rfl
  have hs1 : ¬ 9223372036854775807 < T1.size + 1 := by omega
  have hs2 : ¬ 9223372036854775807 < T1.size + 1 + T2.size := by omega
  have hs3 : ¬ 9223372036854775807 < T1.size + 1 + T2.size + 1 := by omega
  have hs4 : ¬ 9223372036854775807 < T1.size + 1 + T2.size + 1 + T3.size := by omega
  clear hn64 hT1 hT2 hT3 hz1 hz2 hz3 e1 e2 hi1 hi2 hR hC hR1 hR8 hC1 hC8 hl h64 hmB
  obtain ⟨y0, y1, y2, ly⟩ := HO.out.cells
  have HS : ∀ w', Below w1.heap.size w1 w' → w'.cell? ⟨w.heap.size, 0, none⟩ = some (.int .i64 f.rows) ∧ w'.cell? ⟨w.heap.size, 1, none⟩ = some (.int .i64 f.columns) ∧ w'.cell? ⟨w.heap.size, 2, none⟩ = some (.slice f.massesA f.massesN f.massesC) ∧ Below w1.heap.size w1 w' := fun w' h => by
    obtain ⟨q0, q1, q2, _⟩ := (HO.out.grow h).cells
    exact ⟨q0, q1, q2, h⟩
  have HSH := Lib.hid HS
  clear HS
  go_region_held3 (fun w' => w'.cell? ⟨w.heap.size, 0, none⟩ = some (.int .i64 f.rows) ∧ w'.cell? ⟨w.heap.size, 1, none⟩ = some (.int .i64 f.columns) ∧ w'.cell? ⟨w.heap.size, 2, none⟩ = some (.slice f.massesA f.massesN f.massesC) ∧ Below w1.heap.size w1 w') (first | exact HSH.out _ (by (first | (with_reducible exact (And.right (And.right (And.right (by assumption))))) | repeat (first | (with_reducible exact Below.refl _ _) | (with_reducible refine Below.drew ?_) | (with_reducible refine belowC_alc ?_ _) | (with_reducible refine belowC_step (by assumption) ?_))))) (first | (go_at_call 30; (with_reducible refine Calls.mono (HC1.out _ (by (first | (with_reducible exact (And.right (And.right (And.right (by assumption))))) | repeat (first | (with_reducible exact Below.refl _ _) | (with_reducible refine Below.drew ?_) | (with_reducible refine belowC_alc ?_ _) | (with_reducible refine belowC_step (by assumption) ?_))))) ?_); rintro e wq ⟨rfl, hbq⟩) | (go_at_call 30; (with_reducible refine Calls.mono (HC2.out _ (by (first | (with_reducible exact (And.right (And.right (And.right (by assumption))))) | repeat (first | (with_reducible exact Below.refl _ _) | (with_reducible refine Below.drew ?_) | (with_reducible refine belowC_alc ?_ _) | (with_reducible refine belowC_step (by assumption) ?_))))) ?_); rintro e wq2 ⟨rfl, hbq2⟩) | (go_at_call 31; (with_reducible refine Calls.mono (HC3.out _ (by (first | (with_reducible exact (And.right (And.right (And.right (by assumption))))) | repeat (first | (with_reducible exact Below.refl _ _) | (with_reducible refine Below.drew ?_) | (with_reducible refine belowC_alc ?_ _) | (with_reducible refine belowC_step (by assumption) ?_))))) ?_); rintro e wq3 ⟨rfl, hbq3⟩))
  all_goals (go_wp2; go_ret; exact Ret.mk (congrArg Value.string HTX.out.symm) (HB.out.trans ((by (first | (with_reducible exact (And.right (And.right (And.right (by assumption))))) | repeat (first | (with_reducible exact Below.refl _ _) | (with_reducible refine Below.drew ?_) | (with_reducible refine belowC_alc ?_ _) | (with_reducible refine belowC_step (by assumption) ?_))) : Below w1.heap.size w1 _).mono HB.out.size)))
theorem dec_no {n : Int} {c : UInt8} (h1 : c ≠ 45) (h2 : ¬ (48 ≤ c.toNat ∧ c.toNat ≤ 57)) : c ∉ (dec n).data.toList := fun h => by
  rw [dec_list] at h
  rcases itoa_mem h with e | e
  · exact h1 e
  · exact h2 e
def fieldHead (f : Field) : ByteArray := (dec f.rows ++ ⟨#[120]⟩) ++ dec f.columns
theorem field_cut (f : Field) : Lib.cut (fieldText f).data.toList [32] = ((fieldHead f).data.toList, (textList f.masses).data.toList, true) := by
  have e : (fieldText f).data.toList = (fieldHead f).data.toList ++ 32 :: (textList f.masses).data.toList := by
    unfold fieldText fieldHead
    simp [ByteArray.data_append]
  rw [e]
  refine cut_hit _ _ ?_
  unfold fieldHead
  simp only [ByteArray.data_append, Array.toList_append, List.mem_append, not_or]
  exact ⟨⟨dec_no (by decide) (by decide), by decide⟩, dec_no (by decide) (by decide)⟩
theorem head_cut (f : Field) : Lib.cut (fieldHead f).data.toList [120] = ((dec f.rows).data.toList, (dec f.columns).data.toList, true) := by
  have e : (fieldHead f).data.toList = (dec f.rows).data.toList ++ 120 :: (dec f.columns).data.toList := by
    unfold fieldHead
    simp [ByteArray.data_append]
  rw [e]
  exact cut_hit _ _ (dec_no (by decide) (by decide))
theorem readsF_text {xs : List Int} {r : Option (List Int)} (hv : ValidList xs) (h : ReadsList (textList xs) r) : r = some xs := by
  cases r with
  | none => exact absurd rfl (h.no rfl xs hv)
  | some ys =>
    obtain ⟨h1, h2⟩ := h.yes ys rfl
    rw [textList_inj hv h1 h2]
theorem readsF_dec {n : Int} {r : Option Int} (hn : Small n) (h : ReadsDec (dec n) r) : r = some n := by
  cases r with
  | none => exact absurd rfl (h.no rfl n hn)
  | some m =>
    obtain ⟨h1, h2⟩ := h.yes m rfl
    rw [dec_inj hn.i64 h1.i64 h2]
theorem textF_back (s : ByteArray) : (⟨s.data.toList.toArray⟩ : ByteArray) = s := by simp
theorem cutF_any (s : ByteArray) (c : UInt8) (w : World) (hs : s.size < 4294967281) (ht : LibAt w.heap.size w) : Calls Tryz.prog 27 #[.string s, .string ⟨#[c]⟩] w (fun e w' => e = .returned (.tuple #[.string ⟨(Lib.cut s.data.toList [c]).1.toArray⟩, .string ⟨(Lib.cut s.data.toList [c]).2.1.toArray⟩, .bool (Lib.cut s.data.toList [c]).2.2]) ∧ Below w.heap.size w w') := by
  obtain ⟨m, hm⟩ := ht.max w (Below.refl _ _)
  refine (Tryz.strings_Cut s ⟨#[c]⟩ m w hs hm).mono ?_
  rintro e w' ⟨rfl, n, rfl⟩
  exact ⟨rfl, below_drewN (Below.refl _ _) n⟩
set_option maxRecDepth 100000 in
set_option maxHeartbeats 2000000 in
theorem implReadField_ok (f : Field) (w : World) (hf : fieldB f = true) (ht : LibAt w.heap.size w) : Calls Tryz.prog 8 #[.string (fieldText f)] w (fun e w' => ∃ p : FieldR, e = .returned (.tuple #[.agg #[.int .i64 p.rows, .int .i64 p.columns, .slice p.massesA p.massesN p.massesC], .bool true]) ∧ p.val = f ∧ p.In w' ∧ Below w.heap.size w w') := by
  obtain ⟨R', hR'⟩ : ∃ R, w.heap.size = R := ⟨_, rfl⟩
  obtain ⟨w0, hw0⟩ : ∃ w0, w.alloc (.cells #[.int .i64 0, .int .i64 0, .slice none 0 0] 26) = w0 := ⟨_, rfl⟩
  have hb0 : Below w.heap.size w w0 := by rw [← hw0]; exact (Below.refl _ _).alloc (Nat.le_refl _) _
  have HR0 : Hid (Own w0 R' 26 #[.int .i64 0, .int .i64 0, .slice none 0 0]) := by rw [Hid, ← hw0, ← hR']; exact Own.new _ _ _
  have HB0 := Lib.hid hb0
  have HRW : Hid (w.heap.size ≤ R') := Nat.le_of_eq hR'
  have HT0 := Lib.hid (ht.grow hb0)
  have HF := Lib.hid hf
  obtain ⟨R, C, hR, hC, hR1, hR8, hC1, hC8, hl, h64, hmB⟩ := fieldB_nat hf
  have hs1 : Small f.rows := by rw [hR]; unfold Small; omega
  have hs2 : Small f.columns := by rw [hC]; unfold Small; omega
  have hv : ValidList f.masses := ⟨by omega, fun y hy => by
    obtain ⟨k, hk⟩ := List.getElem?_of_mem hy
    have := massB_at hmB hk
    omega⟩
  have HS1 := Lib.hid hs1
  have HS2 := Lib.hid hs2
  have HV := Lib.hid hv
  have hz1 := dec_size hs1.i64
  have hz2 := dec_size hs2.i64
  have hz3 : (textList f.masses).size ≤ 1500 := by
    have h := textList_size (xs := f.masses) (fun y hy => by have := hv.2 y hy; unfold I64; omega)
    have := hv.1
    omega
  have e1 : (⟨#[120]⟩ : ByteArray).size = 1 := rfl
  have e2 : (⟨#[32]⟩ : ByteArray).size = 1 := rfl
  have hzh : (fieldHead f).size ≤ 50 := by
    unfold fieldHead
    simp only [ByteArray.size_append, e1]
    omega
  have hzs : (fieldText f).size ≤ 2000 := by
    unfold fieldText
    simp only [ByteArray.size_append, e1, e2]
    omega
  have hcut := cutF_any (fieldText f) 32 w0 (by omega) HT0.out
  rw [field_cut, textF_back, textF_back] at hcut
  have HCUT := Lib.hid hcut
  have HCUT2 : Hid (∀ W, LibAt W.heap.size W → Calls Tryz.prog 27 #[.string (fieldHead f), .string ⟨#[120]⟩] W (fun e w' => e = .returned (.tuple #[.string (dec f.rows), .string (dec f.columns), .bool true]) ∧ Below W.heap.size W w')) := fun W hW => by
    have h := cutF_any (fieldHead f) 120 W (by omega) hW
    rw [head_cut, textF_back, textF_back] at h
    exact h
  have HZ1 : Hid ((dec f.rows).size ≤ 281474976710656) := by rw [Hid]; omega
  have HZ2 : Hid ((dec f.columns).size ≤ 281474976710656) := by rw [Hid]; omega
  have HZ3 : Hid ((textList f.masses).size ≤ 1048576) := by rw [Hid]; omega
  obtain ⟨D1, hD1⟩ : ∃ D, dec f.rows = D := ⟨_, rfl⟩
  obtain ⟨D2, hD2⟩ : ∃ D, dec f.columns = D := ⟨_, rfl⟩
  obtain ⟨FT, hFT⟩ : ∃ D, fieldText f = D := ⟨_, rfl⟩
  have HD1 := Lib.hid hD1
  have HD2 := Lib.hid hD2
  have HFT := Lib.hid hFT
  rw [hFT] at HCUT ⊢
  rw [hD1, hD2] at HCUT2
  rw [hD1] at HZ1
  rw [hD2] at HZ2
  clear hb0 hf ht hs1 hs2 hv hzs hzh hcut hz1 hz2 hz3 e1 e2 hD1 hD2 hFT hR hC hR1 hR8 hC1 hC8 hl h64 hmB
  go_enter Tryz.func8, Tryz.ntmps8
  go_wp2_with fail
  try rw [hw0, hR']
  clear hw0 hR'
  refine HCUT.out.mono ?_
  rintro e w1 ⟨rfl, hb1⟩
  have HT1 := Lib.hid (HT0.out.grow hb1)
  have HR1 := Lib.hid (HR0.out.below' hb1)
  have HB1 := Lib.hid (HB0.out.trans (hb1.mono HB0.out.size))
  clear hb1 HCUT
  go_wp2_with fail
  refine (HCUT2.out w1 HT1.out).mono ?_
  rintro e w2 ⟨rfl, hb2⟩
  have HT2 := Lib.hid (HT1.out.grow hb2)
  have HR2 := Lib.hid (HR1.out.below' hb2)
  have HB2 := Lib.hid (HB1.out.trans (hb2.mono HB1.out.size))
  clear hb2 HCUT2
  go_wp2_with fail
  refine (readDecimal_any D1 w2 HZ1.out HT2.out).mono ?_
  rintro e w3 ⟨r1, rfl, hr1, hb3⟩
  rw [← HD1.out] at hr1
  obtain rfl := readsF_dec HS1.out hr1
  have HT3 := Lib.hid (HT2.out.grow hb3)
  have HR3 := Lib.hid (HR2.out.below' hb3)
  have HB3 := Lib.hid (HB2.out.trans (hb3.mono HB2.out.size))
  clear hb3 hr1
  go_wp2_with fail
  refine (readDecimal_any D2 w3 HZ2.out HT3.out).mono ?_
  rintro e w4 ⟨r2, rfl, hr2, hb4⟩
  rw [← HD2.out] at hr2
  obtain rfl := readsF_dec HS2.out hr2
  have HT4 := Lib.hid (HT3.out.grow hb4)
  have HR4 := Lib.hid (HR3.out.below' hb4)
  have HB4 := Lib.hid (HB3.out.trans (hb4.mono HB3.out.size))
  clear hb4 hr2
  go_wp2_with fail
  refine (implReadList_any (textList f.masses) w4 HZ3.out HT4.out).mono ?_
  rintro e w5 ⟨v, r, rfl, hl⟩
  obtain rfl := readsF_text HV.out hl.reads
  have hown := hl.own f.masses rfl
  obtain ⟨HA, hc, rfl, hl1, hl2, _⟩ := hown.slice i64cells_len
  obtain ⟨hn, hhn⟩ : ∃ hn, f.masses.length = hn := ⟨_, rfl⟩
  rw [hhn] at hown hl1 ⊢
  have HHS := Lib.hid hown
  have HRL : Hid (R' < w4.heap.size) := HR4.out.lt
  have HT5 := Lib.hid (HT4.out.grow hl.below)
  have HR5 := Lib.hid (HR4.out.below' hl.below)
  have HB5 := Lib.hid (HB4.out.trans (hl.below.mono HB4.out.size))
  clear hl hown hhn
  simp only [Option.isSome_some]
  obtain ⟨fr, hfr⟩ : ∃ z, f.rows = z := ⟨_, rfl⟩
  obtain ⟨fc, hfc⟩ : ∃ z, f.columns = z := ⟨_, rfl⟩
  rw [hfr, hfc]
  have HFR := Lib.hid hfr
  have HFC := Lib.hid hfc
  obtain ⟨X, hX⟩ : ∃ X, w5.heap.size = X := ⟨_, rfl⟩
  obtain ⟨w6, hw6⟩ : ∃ w6, w5.alloc (.cells #[.int .i64 fr, .int .i64 fc, .slice HA hn hc] 26) = w6 := ⟨_, rfl⟩
  have hb6 : Below w5.heap.size w5 w6 := by rw [← hw6]; exact (Below.refl _ _).alloc (Nat.le_refl _) _
  have HO6 : Hid (Own w6 X 26 #[.int .i64 fr, .int .i64 fc, .slice HA hn hc]) := by rw [Hid, ← hw6, ← hX]; exact Own.new _ _ _
  have HH6 := Lib.hid (HHS.out.below' hb6)
  have HT6 := Lib.hid (HT5.out.grow hb6)
  have HR6 := Lib.hid (HR5.out.below' hb6)
  have HB6 := Lib.hid (HB5.out.trans (hb6.mono HB5.out.size))
  have HW6 := Lib.hid hw6
  have HXX := Lib.hid hX
  clear hw6 hX hb6 hfr hfc
  have HVV : Hid ((⟨fr, fc, HA, hn, hc, f.masses⟩ : FieldR).val = f) := by rw [Hid, ← HFR.out, ← HFC.out]; rfl
  have htx := implFieldText_ok (⟨fr, fc, HA, hn, hc, f.masses⟩ : FieldR) w6 ⟨HH6.out.sl i64cells_len, hl1, hl2⟩ (by rw [HVV.out]; exact HF.out) HT6.out.tab
  rw [HVV.out, HFT.out] at htx
  have HTX := Lib.hid htx
  have hq : (FT.toList == FT.toList) = true := beq_self_eq_true _
  clear htx
  go_wp2_with fail
  rw [HW6.out]
  refine HTX.out.mono ?_
  rintro e w7 ⟨rfl, hb7⟩
  have HO7 := Lib.hid (HO6.out.below' hb7)
  have HH7 := Lib.hid (HH6.out.below' hb7)
  have HR7 := Lib.hid (HR6.out.below' hb7)
  have HB7 := Lib.hid (HB6.out.trans (hb7.mono HB6.out.size))
  clear hb7 HTX
  rw [HXX.out]
  have y0 := HO7.out.cell 0
  have y1 := HO7.out.cell 1
  have y2 := HO7.out.cell 2
  have ly := HO7.out.lt
  have z0 := HR7.out.cell 0
  have z1 := HR7.out.cell 1
  have z2 := HR7.out.cell 2
  have fz := HR7.out.frozen
  have lz := HR7.out.lt
  simp at y0 y1 y2 z0 z1 z2
  have h3 := put3 HR7.out (.int .i64 fr) (.int .i64 fc) (.slice HA hn hc) HB7.out HRW.out
  have h4 : OwnsL (((w7.setCell ⟨R', 0, none⟩ (.int .i64 fr)).setCell ⟨R', 1, none⟩ (.int .i64 fc)).setCell ⟨R', 2, none⟩ (.slice HA hn hc)) w4.heap.size 2 1 i64cells (.slice HA hn hc) f.masses := HH7.out.kept (fun b hb => put3_heap w7 R' _ _ _ b (by have h1 := (HH7.out.lt b hb).1; have h2 := HRL.out; omega))
  obtain ⟨uf, huf⟩ : ∃ uf, ((w7.setCell ⟨R', 0, none⟩ (.int .i64 fr)).setCell ⟨R', 1, none⟩ (.int .i64 fc)).setCell ⟨R', 2, none⟩ (.slice HA hn hc) = uf := ⟨_, rfl⟩
  rw [huf] at h3 h4
  have H3 := Lib.hid h3
  have HUI : Hid ((⟨fr, fc, HA, hn, hc, f.masses⟩ : FieldR).In uf) := ⟨OwnsL.sl h4 i64cells_len, hl1, hl2⟩
  have HUF := Lib.hid huf
  clear huf h3 h4
  go_wp2
  rw [HUF.out]
  have f0 := H3.out.1.cell 0
  have f1 := H3.out.1.cell 1
  have f2 := H3.out.1.cell 2
  simp at f0 f1 f2
  exact bodyPost_ret (v := .tuple #[.agg #[.int .i64 fr, .int .i64 fc, .slice HA hn hc], .bool true]) (by simp [results, Tryz.results8, go_sem, f0, f1, f2]) rfl ⟨⟨fr, fc, HA, hn, hc, f.masses⟩, rfl, HVV.out, HUI.out, H3.out.2⟩

end Go.Proofs.YtllchmacipacnaaGreatDoor
