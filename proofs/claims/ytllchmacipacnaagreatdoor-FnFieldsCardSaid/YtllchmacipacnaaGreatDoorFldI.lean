/- What the law of the fields draws: fields with masses, gusts and shares. -/
import Derived.Test.YtllchmacipacnaaGreatDoorFldH
import Derived.Deep.RegionHeld3
import Derived.Deep.RegionLaw
import Derived.BigQuiet
namespace Go.Proofs.YtllchmacipacnaaGreatDoor
open Go.RowKit

set_option maxHeartbeats 2000000 in
theorem drawSnowOver_any (A : Option Addr) (n c : Nat) (ds : List Int) (w : World) (hs : SliceOf w 1 u8cells A n ds) (hb : ∀ x ∈ ds, 0 ≤ x ∧ x ≤ 255) :
    Calls Tryz.prog 5 #[.slice A n c] w (fun e w' => ∃ (f : FieldR) (y : Int), e = .returned (.tuple #[.agg #[.int .i64 f.rows, .int .i64 f.columns, .slice f.massesA f.massesN f.massesC], .int .i64 y]) ∧ f.In w' ∧ Below w.heap.size w w') := by
  obtain ⟨W1, hW1⟩ : ∃ W1, w.alloc (.cells #[.int .i64 0, .int .i64 0, .slice none 0 0] 26) = W1 := ⟨_, rfl⟩
  have hB : Below w.heap.size w W1 := by rw [← hW1]; exact (Below.refl _ _).alloc (Nat.le_refl _) _
  have HR1 : Hid (Own W1 w.heap.size 26 #[.int .i64 0, .int .i64 0, .slice none 0 0]) := by rw [Hid, ← hW1]; exact Own.new _ _ _
  have HB1 := Lib.hid hB
  have HS1 := Lib.hid (hs.below hB)
  have HY := Lib.hid hb
  clear hs hb hB
  go_enter Tryz.func5, Tryz.ntmps5
  go_wp2_with fail
  try rw [hW1]
  clear hW1
  refine (srcFrom_any A n c ds W1 HS1.out HY.out).mono ?_
  rintro e w2 ⟨bs, rfl, hsrc, hb2⟩
  have HLT : Hid (bs < w2.heap.size) := hsrc.lt
  have HBS : Hid (w.heap.size < bs) := Nat.lt_of_lt_of_le HR1.out.lt hsrc.base
  have HR2 := Lib.hid (HR1.out.below' hb2)
  have HS2 := Lib.hid hsrc
  clear hsrc hb2 HS1
  go_wp2_with fail
  refine (l06Draw_any A n c ds bs 0 W1 w2 HS2.out (by omega)).mono ?_
  rintro e w3 ⟨⟨fr, fc, fA, fN, fC, fm⟩, k3, rfl, hk3, hs3, ho3, hp3⟩
  simp only at ho3
  have hr3 := HR2.out.span hp3 (.inl HBS.out)
  obtain ⟨X, hX⟩ : ∃ X, w3.heap.size = X := ⟨_, rfl⟩
  obtain ⟨w4, hw4⟩ : ∃ w4, w3.alloc (.cells #[.int .i64 fr, .int .i64 fc, .slice fA fN fC] 26) = w4 := ⟨_, rfl⟩
  have hb4 : Below w3.heap.size w3 w4 := by rw [← hw4]; exact (Below.refl _ _).alloc (Nat.le_refl _) _
  have HX4 : Hid (Own w4 X 26 #[.int .i64 fr, .int .i64 fc, .slice fA fN fC]) := by rw [Hid, ← hw4, ← hX]; exact Own.new _ _ _
  have HS4 := Lib.hid (hs3.grow hb4)
  have HO4 := Lib.hid (ho3.below' hb4)
  have HR4 := Lib.hid (hr3.below' hb4)
  have HXL : Hid (bs + 1 ≤ X) := by rw [Hid, ← hX]; exact hs3.lt
  have HZ4 : Hid (w2.heap.size ≤ w4.heap.size) := Nat.le_trans hp3.size hb4.size
  have HK4 : Hid (k3 ≤ 3000) := hk3
  have HW4 := Lib.hid hw4
  have HXX := Lib.hid hX
  clear hw4 hX hb4 hs3 ho3 hp3 hr3 hk3 HS2 HR2
  go_upto_region 3 with fail
  rw [HW4.out, HXX.out]
  have HSB : Hid (∀ w', Own w' X 26 #[.int .i64 fr, .int .i64 fc, .slice fA fN fC] → w'.cell? ⟨X, 0, none⟩ = some (.int .i64 fr) ∧ w'.cell? ⟨X, 1, none⟩ = some (.int .i64 fc) ∧ w'.cell? ⟨X, 2, none⟩ = some (.slice fA fN fC) ∧ X < w'.heap.size) := fun w' h => ⟨h.cell 0, h.cell 1, h.cell 2, h.lt⟩
  refine wp_region_held_drew (S := (fun w' => w'.cell? ⟨X, 0, none⟩ = some (.int .i64 fr) ∧ w'.cell? ⟨X, 1, none⟩ = some (.int .i64 fc) ∧ w'.cell? ⟨X, 2, none⟩ = some (.slice fA fN fC) ∧ X < w'.heap.size)) (by kernel_rfl) (HSB.out _ (HX4.out.drew)) (fun hHeld => ?_)
  simp only [List.size_toArray, List.length_cons, List.length_nil, Nat.zero_add, Nat.reduceAdd]
  obtain ⟨wd, hwd⟩ : ∃ wd, w4.drew = wd := ⟨_, rfl⟩
  have hbd : Below w4.heap.size w4 wd := by rw [← hwd]; exact (Below.refl _ _).drew
  have HSd := Lib.hid (HS4.out.grow hbd)
  have HXd := Lib.hid (HX4.out.below' hbd)
  have HOd := Lib.hid (HO4.out.below' hbd)
  have HRd := Lib.hid (HR4.out.below' hbd)
  have HZd : Hid (w2.heap.size ≤ wd.heap.size) := Nat.le_trans HZ4.out hbd.size
  rw [hwd] at hHeld ⊢
  clear hwd hbd
  refine wpAnyH_take (i := 0) (oi := _) (v := ?_) rfl (by kernel_rfl) (by kernel_rfl) (by kernel_rfl) (fun _ _ _ h => h) (Or.inl ⟨by rfl, ?_⟩) (by assumption) ?_
  rotate_left
  · intro w hSw; (try dsimp only at hSw); go_simp; (try with_reducible rfl)
  simp only [List.getElem_toArray, List.getElem_cons_zero, Act.put, List.setIfInBounds_toArray, List.set_cons_zero, List.set_cons_succ]
  refine wpAnyH_take (i := 1) (oi := _) (v := ?_) rfl (by kernel_rfl) (by kernel_rfl) (by kernel_rfl) (fun _ _ _ h => h) (Or.inl ⟨by rfl, ?_⟩) (by assumption) ?_
  rotate_left
  · intro w hSw; (try dsimp only at hSw); go_simp; (try with_reducible rfl)
  simp only [List.getElem_toArray, List.getElem_cons_zero, List.getElem_cons_succ, Act.put, List.setIfInBounds_toArray, List.set_cons_zero, List.set_cons_succ]
  obtain ⟨w7, hw7⟩ : ∃ w7, wd.alloc (.cells #[.int .i64 0, .int .i64 500, .int .i64 20000, .int .i64 100000, .int .i64 1000000, .int .i64 1000001, .int .i64 (-1)] 2) = w7 := ⟨_, rfl⟩
  have hb7 : Below wd.heap.size wd w7 := by rw [← hw7]; exact (Below.refl _ _).alloc (Nat.le_refl _) _
  have HL7 : Hid (SliceOf w7 1 i64cells (some ⟨wd.heap.size, 0, none⟩) 7 [0, 500, 20000, 100000, 1000000, 1000001, -1]) := by rw [Hid, ← hw7]; exact sliceOf_new wd 2 [0, 500, 20000, 100000, 1000000, 1000001, -1] (by simp)
  have HS7 := Lib.hid (HSd.out.grow hb7)
  have HX7 := Lib.hid (HXd.out.below' hb7)
  have HO7 := Lib.hid (HOd.out.below' hb7)
  have HR7 := Lib.hid (HRd.out.below' hb7)
  have HZ7 : Hid (w2.heap.size ≤ w7.heap.size) := Nat.le_trans HZd.out hb7.size
  have HNB : Hid (wd.heap.size ≠ bs) := by have := HSd.out.lt; rw [Hid]; omega
  have HX7a : Hid (Own (wd.alloc (.cells #[.int .i64 0, .int .i64 500, .int .i64 20000, .int .i64 100000, .int .i64 1000000, .int .i64 1000001, .int .i64 (-1)] 2)) X 26 #[.int .i64 fr, .int .i64 fc, .slice fA fN fC]) := by rw [Hid, hw7]; exact HX7.out
  have HW7 := Lib.hid hw7
  clear hb7 hw7
  refine wpAnyH_ready (rs := [2]) (by kernel_rfl) (by simp) ?_
  refine AllReadyH.cons (o := _) rfl (fun K hK => ?_) AllReadyH.nil
  simp only [List.getElem_toArray, List.getElem_cons_zero, List.getElem_cons_succ]
  go_simp
  refine hK.out _ _ (HSB.out _ HX7a.out) (fun hHeld2 => ?_)
  clear hK K
  try simp only [List.getElem_toArray, List.getElem_cons_zero, List.getElem_cons_succ, Act.put, List.setIfInBounds_toArray, List.set_cons_zero, List.set_cons_succ]
  rw [HW7.out] at hHeld2 ⊢
  refine wpAnyH_ready (rs := [3]) (by kernel_rfl) (by simp) ?_
  refine AllReadyH.cons (o := _) rfl (fun K hK => ?_) AllReadyH.nil
  simp only [List.getElem_toArray, List.getElem_cons_zero, List.getElem_cons_succ]
  go_simp
  (go_at_call 22; (with_reducible refine Calls.mono (srcAmong_any A n c ds bs k3 7 7 wd.heap.size 0 [0, 500, 20000, 100000, 1000000, 1000001, -1] W1 w7 HS7.out (by have := HK4.out; omega) (by omega) (by omega) HL7.out HNB.out) ?_); rintro e w8 ⟨y, k8, rfl, _, hk8, hs8, ha8⟩; have HX8 := Lib.hid (HX7.out.span ha8 (.inr HXL.out)))
  refine hK.out _ _ (HSB.out _ HX8.out) (fun hHeld2 => ?_)
  clear hK K
  try simp only [List.getElem_toArray, List.getElem_cons_zero, List.getElem_cons_succ, Act.put, List.setIfInBounds_toArray, List.set_cons_zero, List.set_cons_succ]
  have HR8 := Lib.hid (HR7.out.span ha8 (.inl HBS.out))
  have HO8 := Lib.hid (HO7.out.span ha8 (fun b hb => .inr (by have := (HO7.out.lt b hb).1; have := HLT.out; omega)))
  have HB8 : Hid (Below w.heap.size w w8) := HB1.out.trans (hs8.below.mono HB1.out.size)
  have HXR : Hid (X ≠ w.heap.size) := by have := HXL.out; have := HBS.out; rw [Hid]; omega
  clear hs8 ha8 hk8
  have z0 := HR8.out.cell 0
  have z1 := HR8.out.cell 1
  have z2 := HR8.out.cell 2
  have dz := HR8.out.frozen
  have lz := HR8.out.lt
  simp at z0 z1 z2
  have h3 := put3 HR8.out (.int .i64 fr) (.int .i64 fc) (.slice fA fN fC) HB8.out (Nat.le_refl _)
  have h4 : OwnsL (((w8.setCell ⟨w.heap.size, 0, none⟩ (.int .i64 fr)).setCell ⟨w.heap.size, 1, none⟩ (.int .i64 fc)).setCell ⟨w.heap.size, 2, none⟩ (.slice fA fN fC)) w2.heap.size 2 1 i64cells (.slice fA fN fC) fm := HO8.out.kept (fun b hb => put3_heap w8 w.heap.size _ _ _ b (by have h1 := (HO8.out.lt b hb).1; have := HLT.out; have := HBS.out; omega))
  have h5 : Own (((w8.setCell ⟨w.heap.size, 0, none⟩ (.int .i64 fr)).setCell ⟨w.heap.size, 1, none⟩ (.int .i64 fc)).setCell ⟨w.heap.size, 2, none⟩ (.slice fA fN fC)) X 26 #[.int .i64 fr, .int .i64 fc, .slice fA fN fC] := (put3_heap w8 w.heap.size _ _ _ X HXR.out).trans HX8.out
  refine wpAnyH_ready (rs := [4]) (by kernel_rfl) (by simp) ?_
  refine AllReadyH.cons (o := _) rfl (fun K hK => ?_) AllReadyH.nil
  simp only [List.getElem_toArray, List.getElem_cons_zero, List.getElem_cons_succ]
  go_simp
  refine hK.out _ _ (HSB.out _ h5) (fun hHeld2 => ?_)
  clear hK K
  try simp only [List.getElem_toArray, List.getElem_cons_zero, List.getElem_cons_succ, Act.put, List.setIfInBounds_toArray, List.set_cons_zero, List.set_cons_succ]
  refine wpAnyH_take (i := 5) (oi := _) (v := ?_) rfl (by kernel_rfl) (by kernel_rfl) (by kernel_rfl) (fun _ _ _ h => h) (Or.inl ⟨by rfl, ?_⟩) (by assumption) ?_
  rotate_left
  · intro w hSw; (try dsimp only at hSw); go_simp; (try with_reducible rfl)
  simp only [List.getElem_toArray, List.getElem_cons_zero, List.getElem_cons_succ, Act.put, List.setIfInBounds_toArray, List.set_cons_zero, List.set_cons_succ]
  refine wpAnyH_done (by kernel_rfl) ?_ _
  clear z0 z1 z2 dz lz hHeld hHeld2
  go_wp2
  obtain ⟨wf, hwf⟩ : ∃ wf, ((w8.setCell ⟨w.heap.size, 0, none⟩ (.int .i64 fr)).setCell ⟨w.heap.size, 1, none⟩ (.int .i64 fc)).setCell ⟨w.heap.size, 2, none⟩ (.slice fA fN fC) = wf := ⟨_, rfl⟩
  rw [hwf] at h3 h4 ⊢
  have f0 := h3.1.cell 0
  have f1 := h3.1.cell 1
  have f2 := h3.1.cell 2
  simp at f0 f1 f2
  exact bodyPost_ret (v := .tuple #[.agg #[.int .i64 fr, .int .i64 fc, .slice fA fN fC], .int .i64 y]) (by simp [results, Tryz.results5, go_sem, f0, f1, f2]) rfl ⟨⟨fr, fc, fA, fN, fC, fm⟩, y, rfl, FieldR.in_of (p := ⟨fr, fc, fA, fN, fC, fm⟩) h4, h3.2⟩
set_option maxHeartbeats 2000000 in
theorem drawSettled_any (A : Option Addr) (n c : Nat) (ds : List Int) (w : World) (hs : SliceOf w 1 u8cells A n ds) (hb : ∀ x ∈ ds, 0 ≤ x ∧ x ≤ 255) :
    Calls Tryz.prog 16 #[.slice A n c] w (fun e w' => ∃ (f : FieldR) (s y : Int), e = .returned (.tuple #[.agg #[.int .i64 f.rows, .int .i64 f.columns, .slice f.massesA f.massesN f.massesC], .int .i64 s, .int .i64 y]) ∧ f.In w' ∧ Below w.heap.size w w') := by
  obtain ⟨W1, hW1⟩ : ∃ W1, w.alloc (.cells #[.int .i64 0, .int .i64 0, .slice none 0 0] 26) = W1 := ⟨_, rfl⟩
  have hB : Below w.heap.size w W1 := by rw [← hW1]; exact (Below.refl _ _).alloc (Nat.le_refl _) _
  have HR1 : Hid (Own W1 w.heap.size 26 #[.int .i64 0, .int .i64 0, .slice none 0 0]) := by rw [Hid, ← hW1]; exact Own.new _ _ _
  have HB1 := Lib.hid hB
  have HS1 := Lib.hid (hs.below hB)
  have HY := Lib.hid hb
  clear hs hb hB
  go_enter Tryz.func16, Tryz.ntmps16
  go_wp2_with fail
  try rw [hW1]
  clear hW1
  refine (srcFrom_any A n c ds W1 HS1.out HY.out).mono ?_
  rintro e w2 ⟨bs, rfl, hsrc, hb2⟩
  have HLT : Hid (bs < w2.heap.size) := hsrc.lt
  have HBS : Hid (w.heap.size < bs) := Nat.lt_of_lt_of_le HR1.out.lt hsrc.base
  have HR2 := Lib.hid (HR1.out.below' hb2)
  have HS2 := Lib.hid hsrc
  clear hsrc hb2 HS1
  go_wp2_with fail
  refine (l06Draw_any A n c ds bs 0 W1 w2 HS2.out (by omega)).mono ?_
  rintro e w3 ⟨⟨fr, fc, fA, fN, fC, fm⟩, k3, rfl, hk3, hs3, ho3, hp3⟩
  simp only at ho3
  have hr3 := HR2.out.span hp3 (.inl HBS.out)
  obtain ⟨X, hX⟩ : ∃ X, w3.heap.size = X := ⟨_, rfl⟩
  obtain ⟨w4, hw4⟩ : ∃ w4, w3.alloc (.cells #[.int .i64 fr, .int .i64 fc, .slice fA fN fC] 26) = w4 := ⟨_, rfl⟩
  have hb4 : Below w3.heap.size w3 w4 := by rw [← hw4]; exact (Below.refl _ _).alloc (Nat.le_refl _) _
  have HX4 : Hid (Own w4 X 26 #[.int .i64 fr, .int .i64 fc, .slice fA fN fC]) := by rw [Hid, ← hw4, ← hX]; exact Own.new _ _ _
  have HS4 := Lib.hid (hs3.grow hb4)
  have HO4 := Lib.hid (ho3.below' hb4)
  have HR4 := Lib.hid (hr3.below' hb4)
  have HXL : Hid (bs + 1 ≤ X) := by rw [Hid, ← hX]; exact hs3.lt
  have HZ4 : Hid (w2.heap.size ≤ w4.heap.size) := Nat.le_trans hp3.size hb4.size
  have HK4 : Hid (k3 ≤ 3000) := hk3
  have HW4 := Lib.hid hw4
  have HXX := Lib.hid hX
  clear hw4 hX hb4 hs3 ho3 hp3 hr3 hk3 HS2 HR2
  go_wp2_with fail
  rw [HW4.out, HXX.out]
  refine (l06DrawShare_any A n c ds bs k3 W1 w4 HS4.out (by have := HK4.out; omega)).mono ?_
  rintro e w6 ⟨sh, k6, rfl, hk6, hs6, hp6⟩
  have HS6 := Lib.hid hs6
  have HX6 := Lib.hid (HX4.out.span hp6 (.inr HXL.out))
  have HO6 := Lib.hid (HO4.out.span hp6 (fun b hb => .inr (by have := (HO4.out.lt b hb).1; have := HLT.out; omega)))
  have HR6 := Lib.hid (HR4.out.span hp6 (.inl HBS.out))
  have HZ6 : Hid (w2.heap.size ≤ w6.heap.size) := Nat.le_trans HZ4.out hp6.size
  have HK6 : Hid (k6 ≤ 6100) := by have := HK4.out; rw [Hid]; omega
  clear hs6 hp6 hk6 HS4 HX4 HO4 HR4
  go_upto_region 4 with fail
  have HSB : Hid (∀ w', Own w' X 26 #[.int .i64 fr, .int .i64 fc, .slice fA fN fC] → w'.cell? ⟨X, 0, none⟩ = some (.int .i64 fr) ∧ w'.cell? ⟨X, 1, none⟩ = some (.int .i64 fc) ∧ w'.cell? ⟨X, 2, none⟩ = some (.slice fA fN fC) ∧ X < w'.heap.size) := fun w' h => ⟨h.cell 0, h.cell 1, h.cell 2, h.lt⟩
  refine wp_region_held_drew (S := (fun w' => w'.cell? ⟨X, 0, none⟩ = some (.int .i64 fr) ∧ w'.cell? ⟨X, 1, none⟩ = some (.int .i64 fc) ∧ w'.cell? ⟨X, 2, none⟩ = some (.slice fA fN fC) ∧ X < w'.heap.size)) (by kernel_rfl) (HSB.out _ (HX6.out.drew)) (fun hHeld => ?_)
  simp only [List.size_toArray, List.length_cons, List.length_nil, Nat.zero_add, Nat.reduceAdd]
  obtain ⟨wd, hwd⟩ : ∃ wd, w6.drew = wd := ⟨_, rfl⟩
  have hbd : Below w6.heap.size w6 wd := by rw [← hwd]; exact (Below.refl _ _).drew
  have HSd := Lib.hid (HS6.out.grow hbd)
  have HXd := Lib.hid (HX6.out.below' hbd)
  have HOd := Lib.hid (HO6.out.below' hbd)
  have HRd := Lib.hid (HR6.out.below' hbd)
  have HZd : Hid (w2.heap.size ≤ wd.heap.size) := Nat.le_trans HZ6.out hbd.size
  rw [hwd] at hHeld ⊢
  clear hwd hbd
  refine wpAnyH_take (i := 0) (oi := _) (v := ?_) rfl (by kernel_rfl) (by kernel_rfl) (by kernel_rfl) (fun _ _ _ h => h) (Or.inl ⟨by rfl, ?_⟩) (by assumption) ?_
  rotate_left
  · intro w hSw; (try dsimp only at hSw); go_simp; (try with_reducible rfl)
  simp only [List.getElem_toArray, List.getElem_cons_zero, Act.put, List.setIfInBounds_toArray, List.set_cons_zero, List.set_cons_succ]
  refine wpAnyH_take (i := 1) (oi := _) (v := ?_) rfl (by kernel_rfl) (by kernel_rfl) (by kernel_rfl) (fun _ _ _ h => h) (Or.inl ⟨by rfl, ?_⟩) (by assumption) ?_
  rotate_left
  · intro w hSw; (try dsimp only at hSw); go_simp; (try with_reducible rfl)
  simp only [List.getElem_toArray, List.getElem_cons_zero, List.getElem_cons_succ, Act.put, List.setIfInBounds_toArray, List.set_cons_zero, List.set_cons_succ]
  refine wpAnyH_take (i := 2) (oi := _) (v := ?_) rfl (by kernel_rfl) (by kernel_rfl) (by kernel_rfl) (fun _ _ _ h => h) (Or.inl ⟨by rfl, ?_⟩) (by assumption) ?_
  rotate_left
  · intro w hSw; (try dsimp only at hSw); go_simp; (try with_reducible rfl)
  simp only [List.getElem_toArray, List.getElem_cons_zero, List.getElem_cons_succ, Act.put, List.setIfInBounds_toArray, List.set_cons_zero, List.set_cons_succ]
  obtain ⟨w7, hw7⟩ : ∃ w7, wd.alloc (.cells #[.int .i64 0, .int .i64 1, .int .i64 10, .int .i64 500, .int .i64 1000000, .int .i64 1000001, .int .i64 (-1)] 2) = w7 := ⟨_, rfl⟩
  have hb7 : Below wd.heap.size wd w7 := by rw [← hw7]; exact (Below.refl _ _).alloc (Nat.le_refl _) _
  have HL7 : Hid (SliceOf w7 1 i64cells (some ⟨wd.heap.size, 0, none⟩) 7 [0, 1, 10, 500, 1000000, 1000001, -1]) := by rw [Hid, ← hw7]; exact sliceOf_new wd 2 [0, 1, 10, 500, 1000000, 1000001, -1] (by simp)
  have HS7 := Lib.hid (HSd.out.grow hb7)
  have HX7 := Lib.hid (HXd.out.below' hb7)
  have HO7 := Lib.hid (HOd.out.below' hb7)
  have HR7 := Lib.hid (HRd.out.below' hb7)
  have HZ7 : Hid (w2.heap.size ≤ w7.heap.size) := Nat.le_trans HZd.out hb7.size
  have HNB : Hid (wd.heap.size ≠ bs) := by have := HSd.out.lt; rw [Hid]; omega
  have HX7a : Hid (Own (wd.alloc (.cells #[.int .i64 0, .int .i64 1, .int .i64 10, .int .i64 500, .int .i64 1000000, .int .i64 1000001, .int .i64 (-1)] 2)) X 26 #[.int .i64 fr, .int .i64 fc, .slice fA fN fC]) := by rw [Hid, hw7]; exact HX7.out
  have HW7 := Lib.hid hw7
  clear hb7 hw7
  refine wpAnyH_ready (rs := [3]) (by kernel_rfl) (by simp) ?_
  refine AllReadyH.cons (o := _) rfl (fun K hK => ?_) AllReadyH.nil
  simp only [List.getElem_toArray, List.getElem_cons_zero, List.getElem_cons_succ]
  go_simp
  refine hK.out _ _ (HSB.out _ HX7a.out) (fun hHeld2 => ?_)
  clear hK K
  try simp only [List.getElem_toArray, List.getElem_cons_zero, List.getElem_cons_succ, Act.put, List.setIfInBounds_toArray, List.set_cons_zero, List.set_cons_succ]
  rw [HW7.out] at hHeld2 ⊢
  refine wpAnyH_ready (rs := [4]) (by kernel_rfl) (by simp) ?_
  refine AllReadyH.cons (o := _) rfl (fun K hK => ?_) AllReadyH.nil
  simp only [List.getElem_toArray, List.getElem_cons_zero, List.getElem_cons_succ]
  go_simp
  (go_at_call 22; (with_reducible refine Calls.mono (srcAmong_any A n c ds bs k6 7 7 wd.heap.size 0 [0, 1, 10, 500, 1000000, 1000001, -1] W1 w7 HS7.out (by have := HK6.out; omega) (by omega) (by omega) HL7.out HNB.out) ?_); rintro e w8 ⟨y, k8, rfl, _, hk8, hs8, ha8⟩; have HX8 := Lib.hid (HX7.out.span ha8 (.inr HXL.out)))
  refine hK.out _ _ (HSB.out _ HX8.out) (fun hHeld2 => ?_)
  clear hK K
  try simp only [List.getElem_toArray, List.getElem_cons_zero, List.getElem_cons_succ, Act.put, List.setIfInBounds_toArray, List.set_cons_zero, List.set_cons_succ]
  have HR8 := Lib.hid (HR7.out.span ha8 (.inl HBS.out))
  have HO8 := Lib.hid (HO7.out.span ha8 (fun b hb => .inr (by have := (HO7.out.lt b hb).1; have := HLT.out; omega)))
  have HB8 : Hid (Below w.heap.size w w8) := HB1.out.trans (hs8.below.mono HB1.out.size)
  have HXR : Hid (X ≠ w.heap.size) := by have := HXL.out; have := HBS.out; rw [Hid]; omega
  clear hs8 ha8 hk8
  have z0 := HR8.out.cell 0
  have z1 := HR8.out.cell 1
  have z2 := HR8.out.cell 2
  have dz := HR8.out.frozen
  have lz := HR8.out.lt
  simp at z0 z1 z2
  have h3 := put3 HR8.out (.int .i64 fr) (.int .i64 fc) (.slice fA fN fC) HB8.out (Nat.le_refl _)
  have h4 : OwnsL (((w8.setCell ⟨w.heap.size, 0, none⟩ (.int .i64 fr)).setCell ⟨w.heap.size, 1, none⟩ (.int .i64 fc)).setCell ⟨w.heap.size, 2, none⟩ (.slice fA fN fC)) w2.heap.size 2 1 i64cells (.slice fA fN fC) fm := HO8.out.kept (fun b hb => put3_heap w8 w.heap.size _ _ _ b (by have h1 := (HO8.out.lt b hb).1; have := HLT.out; have := HBS.out; omega))
  have h5 : Own (((w8.setCell ⟨w.heap.size, 0, none⟩ (.int .i64 fr)).setCell ⟨w.heap.size, 1, none⟩ (.int .i64 fc)).setCell ⟨w.heap.size, 2, none⟩ (.slice fA fN fC)) X 26 #[.int .i64 fr, .int .i64 fc, .slice fA fN fC] := (put3_heap w8 w.heap.size _ _ _ X HXR.out).trans HX8.out
  refine wpAnyH_ready (rs := [5]) (by kernel_rfl) (by simp) ?_
  refine AllReadyH.cons (o := _) rfl (fun K hK => ?_) AllReadyH.nil
  simp only [List.getElem_toArray, List.getElem_cons_zero, List.getElem_cons_succ]
  go_simp
  refine hK.out _ _ (HSB.out _ h5) (fun hHeld2 => ?_)
  clear hK K
  try simp only [List.getElem_toArray, List.getElem_cons_zero, List.getElem_cons_succ, Act.put, List.setIfInBounds_toArray, List.set_cons_zero, List.set_cons_succ]
  refine wpAnyH_take (i := 6) (oi := _) (v := ?_) rfl (by kernel_rfl) (by kernel_rfl) (by kernel_rfl) (fun _ _ _ h => h) (Or.inl ⟨by rfl, ?_⟩) (by assumption) ?_
  rotate_left
  · intro w hSw; (try dsimp only at hSw); go_simp; (try with_reducible rfl)
  simp only [List.getElem_toArray, List.getElem_cons_zero, List.getElem_cons_succ, Act.put, List.setIfInBounds_toArray, List.set_cons_zero, List.set_cons_succ]
  refine wpAnyH_take (i := 7) (oi := _) (v := ?_) rfl (by kernel_rfl) (by kernel_rfl) (by kernel_rfl) (fun _ _ _ h => h) (Or.inl ⟨by rfl, ?_⟩) (by assumption) ?_
  rotate_left
  · intro w hSw; (try dsimp only at hSw); go_simp; (try with_reducible rfl)
  simp only [List.getElem_toArray, List.getElem_cons_zero, List.getElem_cons_succ, Act.put, List.setIfInBounds_toArray, List.set_cons_zero, List.set_cons_succ]
  refine wpAnyH_done (by kernel_rfl) ?_ _
  clear z0 z1 z2 dz lz hHeld hHeld2
  go_wp2
  obtain ⟨wf, hwf⟩ : ∃ wf, ((w8.setCell ⟨w.heap.size, 0, none⟩ (.int .i64 fr)).setCell ⟨w.heap.size, 1, none⟩ (.int .i64 fc)).setCell ⟨w.heap.size, 2, none⟩ (.slice fA fN fC) = wf := ⟨_, rfl⟩
  rw [hwf] at h3 h4 ⊢
  have f0 := h3.1.cell 0
  have f1 := h3.1.cell 1
  have f2 := h3.1.cell 2
  simp at f0 f1 f2
  exact bodyPost_ret (v := .tuple #[.agg #[.int .i64 fr, .int .i64 fc, .slice fA fN fC], .int .i64 sh, .int .i64 y]) (by simp [results, Tryz.results16, go_sem, f0, f1, f2]) rfl ⟨⟨fr, fc, fA, fN, fC, fm⟩, sh, y, rfl, FieldR.in_of (p := ⟨fr, fc, fA, fN, fC, fm⟩) h4, h3.2⟩
set_option maxHeartbeats 2000000 in
theorem drawLoaded_any (A : Option Addr) (n c : Nat) (ds : List Int) (w : World) (hs : SliceOf w 1 u8cells A n ds) (hb : ∀ x ∈ ds, 0 ≤ x ∧ x ≤ 255) :
    Calls Tryz.prog 11 #[.slice A n c] w (fun e w' => ∃ (f : FieldR) (GA : Option Addr) (gn gc : Nat) (gl : List Int) (s y : Int), e = .returned (.tuple #[.agg #[.int .i64 f.rows, .int .i64 f.columns, .slice f.massesA f.massesN f.massesC], .slice GA gn gc, .int .i64 s, .int .i64 y]) ∧ f.In w' ∧ SliceOf w' 1 i64cells GA gn gl ∧ Below w.heap.size w w') := by
  obtain ⟨W1, hW1⟩ : ∃ W1, w.alloc (.cells #[.int .i64 0, .int .i64 0, .slice none 0 0] 26) = W1 := ⟨_, rfl⟩
  have hB : Below w.heap.size w W1 := by rw [← hW1]; exact (Below.refl _ _).alloc (Nat.le_refl _) _
  have HR1 : Hid (Own W1 w.heap.size 26 #[.int .i64 0, .int .i64 0, .slice none 0 0]) := by rw [Hid, ← hW1]; exact Own.new _ _ _
  have HB1 := Lib.hid hB
  have HS1 := Lib.hid (hs.below hB)
  have HY := Lib.hid hb
  clear hs hb hB
  go_enter Tryz.func11, Tryz.ntmps11
  go_wp2_with fail
  try rw [hW1]
  clear hW1
  refine (srcFrom_any A n c ds W1 HS1.out HY.out).mono ?_
  rintro e w2 ⟨bs, rfl, hsrc, hb2⟩
  have HLT : Hid (bs < w2.heap.size) := hsrc.lt
  have HBS : Hid (w.heap.size < bs) := Nat.lt_of_lt_of_le HR1.out.lt hsrc.base
  have HR2 := Lib.hid (HR1.out.below' hb2)
  have HS2 := Lib.hid hsrc
  clear hsrc hb2 HS1
  go_wp2_with fail
  refine (l06Draw_any A n c ds bs 0 W1 w2 HS2.out (by omega)).mono ?_
  rintro e w3 ⟨⟨fr, fc, fA, fN, fC, fm⟩, k3, rfl, hk3, hs3, ho3, hp3⟩
  simp only at ho3
  have hr3 := HR2.out.span hp3 (.inl HBS.out)
  obtain ⟨X, hX⟩ : ∃ X, w3.heap.size = X := ⟨_, rfl⟩
  obtain ⟨w4, hw4⟩ : ∃ w4, w3.alloc (.cells #[.int .i64 fr, .int .i64 fc, .slice fA fN fC] 26) = w4 := ⟨_, rfl⟩
  have hb4 : Below w3.heap.size w3 w4 := by rw [← hw4]; exact (Below.refl _ _).alloc (Nat.le_refl _) _
  have HX4 : Hid (Own w4 X 26 #[.int .i64 fr, .int .i64 fc, .slice fA fN fC]) := by rw [Hid, ← hw4, ← hX]; exact Own.new _ _ _
  have HS4 := Lib.hid (hs3.grow hb4)
  have HO4 := Lib.hid (ho3.below' hb4)
  have HR4 := Lib.hid (hr3.below' hb4)
  have HXL : Hid (bs + 1 ≤ X) := by rw [Hid, ← hX]; exact hs3.lt
  have HZ4 : Hid (w2.heap.size ≤ w4.heap.size) := Nat.le_trans hp3.size hb4.size
  have HK4 : Hid (k3 ≤ 3000) := hk3
  have HW4 := Lib.hid hw4
  have HXX := Lib.hid hX
  clear hw4 hX hb4 hs3 ho3 hp3 hr3 hk3 HS2 HR2
  go_wp2_with fail
  rw [HW4.out, HXX.out]
  refine (l06DrawGusts_any A n c ds bs k3 W1 w4 HS4.out (by have := HK4.out; omega)).mono ?_
  rintro e w5 ⟨v, gl, k5, rfl, hk5, hs5, hg5, hp5⟩
  obtain ⟨GA, gc, rfl, _, _, _⟩ := hg5.slice i64cells_len
  obtain ⟨gn, hgn⟩ : ∃ gn, gl.length = gn := ⟨_, rfl⟩
  rw [hgn] at hg5 ⊢
  have HG5 := Lib.hid hg5
  clear hg5 hgn
  have HS5 := Lib.hid hs5
  have HX5 := Lib.hid (HX4.out.span hp5 (.inr HXL.out))
  have HO5 := Lib.hid (HO4.out.span hp5 (fun b hb => .inr (by have := (HO4.out.lt b hb).1; have := HLT.out; omega)))
  have HR5 := Lib.hid (HR4.out.span hp5 (.inl HBS.out))
  have HZ5 : Hid (w2.heap.size ≤ w5.heap.size) := Nat.le_trans HZ4.out hp5.size
  have HK5 : Hid (k5 ≤ 6000) := by have := HK4.out; rw [Hid]; omega
  clear hs5 hp5 hk5 HS4 HX4 HO4 HR4
  go_wp2_with fail
  refine (l06DrawShare_any A n c ds bs k5 W1 w5 HS5.out (by have := HK5.out; omega)).mono ?_
  rintro e w6 ⟨sh, k6, rfl, hk6, hs6, hp6⟩
  have HG6 := Lib.hid (HG5.out.span hp6 (fun b hb => .inr (by have := (HG5.out.lt b hb).1; have := HLT.out; have := HZ4.out; omega)))
  clear HG5
  have HS6 := Lib.hid hs6
  have HX6 := Lib.hid (HX5.out.span hp6 (.inr HXL.out))
  have HO6 := Lib.hid (HO5.out.span hp6 (fun b hb => .inr (by have := (HO5.out.lt b hb).1; have := HLT.out; omega)))
  have HR6 := Lib.hid (HR5.out.span hp6 (.inl HBS.out))
  have HZ6 : Hid (w2.heap.size ≤ w6.heap.size) := Nat.le_trans HZ5.out hp6.size
  have HK6 : Hid (k6 ≤ 6100) := by have := HK5.out; rw [Hid]; omega
  clear hs6 hp6 hk6 HS5 HX5 HO5 HR5
  go_upto_region 5 with fail
  have HSB : Hid (∀ w', Own w' X 26 #[.int .i64 fr, .int .i64 fc, .slice fA fN fC] → w'.cell? ⟨X, 0, none⟩ = some (.int .i64 fr) ∧ w'.cell? ⟨X, 1, none⟩ = some (.int .i64 fc) ∧ w'.cell? ⟨X, 2, none⟩ = some (.slice fA fN fC) ∧ X < w'.heap.size) := fun w' h => ⟨h.cell 0, h.cell 1, h.cell 2, h.lt⟩
  refine wp_region_held_drew (S := (fun w' => w'.cell? ⟨X, 0, none⟩ = some (.int .i64 fr) ∧ w'.cell? ⟨X, 1, none⟩ = some (.int .i64 fc) ∧ w'.cell? ⟨X, 2, none⟩ = some (.slice fA fN fC) ∧ X < w'.heap.size)) (by kernel_rfl) (HSB.out _ (HX6.out.drew)) (fun hHeld => ?_)
  simp only [List.size_toArray, List.length_cons, List.length_nil, Nat.zero_add, Nat.reduceAdd]
  obtain ⟨wd, hwd⟩ : ∃ wd, w6.drew = wd := ⟨_, rfl⟩
  have hbd : Below w6.heap.size w6 wd := by rw [← hwd]; exact (Below.refl _ _).drew
  have HSd := Lib.hid (HS6.out.grow hbd)
  have HXd := Lib.hid (HX6.out.below' hbd)
  have HOd := Lib.hid (HO6.out.below' hbd)
  have HRd := Lib.hid (HR6.out.below' hbd)
  have HGd := Lib.hid (HG6.out.below' hbd)
  have HZd : Hid (w2.heap.size ≤ wd.heap.size) := Nat.le_trans HZ6.out hbd.size
  rw [hwd] at hHeld ⊢
  clear hwd hbd
  refine wpAnyH_take (i := 0) (oi := _) (v := ?_) rfl (by kernel_rfl) (by kernel_rfl) (by kernel_rfl) (fun _ _ _ h => h) (Or.inl ⟨by rfl, ?_⟩) (by assumption) ?_
  rotate_left
  · intro w hSw; (try dsimp only at hSw); go_simp; (try with_reducible rfl)
  simp only [List.getElem_toArray, List.getElem_cons_zero, Act.put, List.setIfInBounds_toArray, List.set_cons_zero, List.set_cons_succ]
  refine wpAnyH_take (i := 1) (oi := _) (v := ?_) rfl (by kernel_rfl) (by kernel_rfl) (by kernel_rfl) (fun _ _ _ h => h) (Or.inl ⟨by rfl, ?_⟩) (by assumption) ?_
  rotate_left
  · intro w hSw; (try dsimp only at hSw); go_simp; (try with_reducible rfl)
  simp only [List.getElem_toArray, List.getElem_cons_zero, List.getElem_cons_succ, Act.put, List.setIfInBounds_toArray, List.set_cons_zero, List.set_cons_succ]
  refine wpAnyH_take (i := 2) (oi := _) (v := ?_) rfl (by kernel_rfl) (by kernel_rfl) (by kernel_rfl) (fun _ _ _ h => h) (Or.inl ⟨by rfl, ?_⟩) (by assumption) ?_
  rotate_left
  · intro w hSw; (try dsimp only at hSw); go_simp; (try with_reducible rfl)
  simp only [List.getElem_toArray, List.getElem_cons_zero, List.getElem_cons_succ, Act.put, List.setIfInBounds_toArray, List.set_cons_zero, List.set_cons_succ]
  refine wpAnyH_take (i := 3) (oi := _) (v := ?_) rfl (by kernel_rfl) (by kernel_rfl) (by kernel_rfl) (fun _ _ _ h => h) (Or.inl ⟨by rfl, ?_⟩) (by assumption) ?_
  rotate_left
  · intro w hSw; (try dsimp only at hSw); go_simp; (try with_reducible rfl)
  simp only [List.getElem_toArray, List.getElem_cons_zero, List.getElem_cons_succ, Act.put, List.setIfInBounds_toArray, List.set_cons_zero, List.set_cons_succ]
  obtain ⟨w7, hw7⟩ : ∃ w7, wd.alloc (.cells #[.int .i64 0, .int .i64 1, .int .i64 1000, .int .i64 5000, .int .i64 1000000, .int .i64 1000001, .int .i64 (-1)] 2) = w7 := ⟨_, rfl⟩
  have hb7 : Below wd.heap.size wd w7 := by rw [← hw7]; exact (Below.refl _ _).alloc (Nat.le_refl _) _
  have HL7 : Hid (SliceOf w7 1 i64cells (some ⟨wd.heap.size, 0, none⟩) 7 [0, 1, 1000, 5000, 1000000, 1000001, -1]) := by rw [Hid, ← hw7]; exact sliceOf_new wd 2 [0, 1, 1000, 5000, 1000000, 1000001, -1] (by simp)
  have HS7 := Lib.hid (HSd.out.grow hb7)
  have HX7 := Lib.hid (HXd.out.below' hb7)
  have HO7 := Lib.hid (HOd.out.below' hb7)
  have HR7 := Lib.hid (HRd.out.below' hb7)
  have HG7 := Lib.hid (HGd.out.below' hb7)
  have HZ7 : Hid (w2.heap.size ≤ w7.heap.size) := Nat.le_trans HZd.out hb7.size
  have HNB : Hid (wd.heap.size ≠ bs) := by have := HSd.out.lt; rw [Hid]; omega
  have HX7a : Hid (Own (wd.alloc (.cells #[.int .i64 0, .int .i64 1, .int .i64 1000, .int .i64 5000, .int .i64 1000000, .int .i64 1000001, .int .i64 (-1)] 2)) X 26 #[.int .i64 fr, .int .i64 fc, .slice fA fN fC]) := by rw [Hid, hw7]; exact HX7.out
  have HW7 := Lib.hid hw7
  clear hb7 hw7
  refine wpAnyH_ready (rs := [4]) (by kernel_rfl) (by simp) ?_
  refine AllReadyH.cons (o := _) rfl (fun K hK => ?_) AllReadyH.nil
  simp only [List.getElem_toArray, List.getElem_cons_zero, List.getElem_cons_succ]
  go_simp
  refine hK.out _ _ (HSB.out _ HX7a.out) (fun hHeld2 => ?_)
  clear hK K
  try simp only [List.getElem_toArray, List.getElem_cons_zero, List.getElem_cons_succ, Act.put, List.setIfInBounds_toArray, List.set_cons_zero, List.set_cons_succ]
  rw [HW7.out] at hHeld2 ⊢
  refine wpAnyH_ready (rs := [5]) (by kernel_rfl) (by simp) ?_
  refine AllReadyH.cons (o := _) rfl (fun K hK => ?_) AllReadyH.nil
  simp only [List.getElem_toArray, List.getElem_cons_zero, List.getElem_cons_succ]
  go_simp
  (go_at_call 22; (with_reducible refine Calls.mono (srcAmong_any A n c ds bs k6 7 7 wd.heap.size 0 [0, 1, 1000, 5000, 1000000, 1000001, -1] W1 w7 HS7.out (by have := HK6.out; omega) (by omega) (by omega) HL7.out HNB.out) ?_); rintro e w8 ⟨y, k8, rfl, _, hk8, hs8, ha8⟩; have HX8 := Lib.hid (HX7.out.span ha8 (.inr HXL.out)))
  refine hK.out _ _ (HSB.out _ HX8.out) (fun hHeld2 => ?_)
  clear hK K
  try simp only [List.getElem_toArray, List.getElem_cons_zero, List.getElem_cons_succ, Act.put, List.setIfInBounds_toArray, List.set_cons_zero, List.set_cons_succ]
  have HR8 := Lib.hid (HR7.out.span ha8 (.inl HBS.out))
  have HO8 := Lib.hid (HO7.out.span ha8 (fun b hb => .inr (by have := (HO7.out.lt b hb).1; have := HLT.out; omega)))
  have HG8 := Lib.hid (HG7.out.span ha8 (fun b hb => .inr (by have := (HG7.out.lt b hb).1; have := HLT.out; have := HZ4.out; omega)))
  have HB8 : Hid (Below w.heap.size w w8) := HB1.out.trans (hs8.below.mono HB1.out.size)
  have HXR : Hid (X ≠ w.heap.size) := by have := HXL.out; have := HBS.out; rw [Hid]; omega
  clear hs8 ha8 hk8
  have z0 := HR8.out.cell 0
  have z1 := HR8.out.cell 1
  have z2 := HR8.out.cell 2
  have dz := HR8.out.frozen
  have lz := HR8.out.lt
  simp at z0 z1 z2
  have h3 := put3 HR8.out (.int .i64 fr) (.int .i64 fc) (.slice fA fN fC) HB8.out (Nat.le_refl _)
  have h4 : OwnsL (((w8.setCell ⟨w.heap.size, 0, none⟩ (.int .i64 fr)).setCell ⟨w.heap.size, 1, none⟩ (.int .i64 fc)).setCell ⟨w.heap.size, 2, none⟩ (.slice fA fN fC)) w2.heap.size 2 1 i64cells (.slice fA fN fC) fm := HO8.out.kept (fun b hb => put3_heap w8 w.heap.size _ _ _ b (by have h1 := (HO8.out.lt b hb).1; have := HLT.out; have := HBS.out; omega))
  have h5 : Own (((w8.setCell ⟨w.heap.size, 0, none⟩ (.int .i64 fr)).setCell ⟨w.heap.size, 1, none⟩ (.int .i64 fc)).setCell ⟨w.heap.size, 2, none⟩ (.slice fA fN fC)) X 26 #[.int .i64 fr, .int .i64 fc, .slice fA fN fC] := (put3_heap w8 w.heap.size _ _ _ X HXR.out).trans HX8.out
  have h6 : OwnsL (((w8.setCell ⟨w.heap.size, 0, none⟩ (.int .i64 fr)).setCell ⟨w.heap.size, 1, none⟩ (.int .i64 fc)).setCell ⟨w.heap.size, 2, none⟩ (.slice fA fN fC)) w4.heap.size 2 1 i64cells (.slice GA gn gc) gl := HG8.out.kept (fun b hb => put3_heap w8 w.heap.size _ _ _ b (by have h1 := (HG8.out.lt b hb).1; have := HLT.out; have := HBS.out; have := HZ4.out; omega))
  refine wpAnyH_ready (rs := [6]) (by kernel_rfl) (by simp) ?_
  refine AllReadyH.cons (o := _) rfl (fun K hK => ?_) AllReadyH.nil
  simp only [List.getElem_toArray, List.getElem_cons_zero, List.getElem_cons_succ]
  go_simp
  refine hK.out _ _ (HSB.out _ h5) (fun hHeld2 => ?_)
  clear hK K
  try simp only [List.getElem_toArray, List.getElem_cons_zero, List.getElem_cons_succ, Act.put, List.setIfInBounds_toArray, List.set_cons_zero, List.set_cons_succ]
  refine wpAnyH_take (i := 7) (oi := _) (v := ?_) rfl (by kernel_rfl) (by kernel_rfl) (by kernel_rfl) (fun _ _ _ h => h) (Or.inl ⟨by rfl, ?_⟩) (by assumption) ?_
  rotate_left
  · intro w hSw; (try dsimp only at hSw); go_simp; (try with_reducible rfl)
  simp only [List.getElem_toArray, List.getElem_cons_zero, List.getElem_cons_succ, Act.put, List.setIfInBounds_toArray, List.set_cons_zero, List.set_cons_succ]
  refine wpAnyH_take (i := 8) (oi := _) (v := ?_) rfl (by kernel_rfl) (by kernel_rfl) (by kernel_rfl) (fun _ _ _ h => h) (Or.inl ⟨by rfl, ?_⟩) (by assumption) ?_
  rotate_left
  · intro w hSw; (try dsimp only at hSw); go_simp; (try with_reducible rfl)
  simp only [List.getElem_toArray, List.getElem_cons_zero, List.getElem_cons_succ, Act.put, List.setIfInBounds_toArray, List.set_cons_zero, List.set_cons_succ]
  refine wpAnyH_take (i := 9) (oi := _) (v := ?_) rfl (by kernel_rfl) (by kernel_rfl) (by kernel_rfl) (fun _ _ _ h => h) (Or.inl ⟨by rfl, ?_⟩) (by assumption) ?_
  rotate_left
  · intro w hSw; (try dsimp only at hSw); go_simp; (try with_reducible rfl)
  simp only [List.getElem_toArray, List.getElem_cons_zero, List.getElem_cons_succ, Act.put, List.setIfInBounds_toArray, List.set_cons_zero, List.set_cons_succ]
  refine wpAnyH_done (by kernel_rfl) ?_ _
  clear z0 z1 z2 dz lz hHeld hHeld2
  go_wp2
  obtain ⟨wf, hwf⟩ : ∃ wf, ((w8.setCell ⟨w.heap.size, 0, none⟩ (.int .i64 fr)).setCell ⟨w.heap.size, 1, none⟩ (.int .i64 fc)).setCell ⟨w.heap.size, 2, none⟩ (.slice fA fN fC) = wf := ⟨_, rfl⟩
  rw [hwf] at h3 h4 h6 ⊢
  have f0 := h3.1.cell 0
  have f1 := h3.1.cell 1
  have f2 := h3.1.cell 2
  simp at f0 f1 f2
  exact bodyPost_ret (v := .tuple #[.agg #[.int .i64 fr, .int .i64 fc, .slice fA fN fC], .slice GA gn gc, .int .i64 sh, .int .i64 y]) (by simp [results, Tryz.results11, go_sem, f0, f1, f2]) rfl ⟨⟨fr, fc, fA, fN, fC, fm⟩, GA, gn, gc, gl, sh, y, rfl, FieldR.in_of (p := ⟨fr, fc, fA, fN, fC, fm⟩) h4, OwnsL.sl h6 i64cells_len, h3.2⟩

end Go.Proofs.YtllchmacipacnaaGreatDoor
