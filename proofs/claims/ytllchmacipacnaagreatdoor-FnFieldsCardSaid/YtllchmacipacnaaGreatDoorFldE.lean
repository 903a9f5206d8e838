/- The fields that the laws of the drift draw. -/
import Derived.Test.YtllchmacipacnaaGreatDoorFldD
import Derived.Deep.RegionHeld3
import Derived.Deep.RegionLaw
import Derived.BigQuiet
namespace Go.Proofs.YtllchmacipacnaaGreatDoor
open Go.RowKit

theorem madeI (n : Nat) : madeCells #[.int .i64 0] n = ((List.replicate n (0 : Int)).map (Value.int .i64)).toArray := by
  simp [madeCells, Nat.mod_one]
  apply Array.ext
  · simp
  · intro i h1 h2; simp
theorem ownsMade (w : World) (n base : Nat) (hn : n ≤ 1000) (hb : base ≤ w.heap.size) : OwnsL (w.alloc (.cells (madeCells #[.int .i64 0] n) 2)) base 2 1 i64cells (.slice (some ⟨w.heap.size, 0, none⟩) n n) (List.replicate n 0) := by
  rw [madeI]
  have hf := filled_ints (List.replicate n 0)
  rw [List.length_replicate] at hf
  exact Own.ownsL (Own.new w 2 _) i64cells_len hb (List.length_replicate ..) (by simp) (by omega) hf
set_option maxHeartbeats 4000000 in
theorem l06Draw_any (A : Option Addr) (n c : Nat) (ds : List Int) (bs k0 : Nat) (w0 w : World) (h : SrcAt A n c ds bs k0 w0 w) (hk0 : k0 ≤ 1000) :
    Calls Tryz.prog 21 #[.pointer (some ⟨bs, 0, none⟩)] w (fun e w' => ∃ (f : FieldR) (k' : Nat), e = .returned (.agg #[.int .i64 f.rows, .int .i64 f.columns, .slice f.massesA f.massesN f.massesC]) ∧ k' ≤ 3000 ∧ SrcAt A n c ds bs k' w0 w' ∧ OwnsL w' w.heap.size 2 1 i64cells (.slice f.massesA f.massesN f.massesC) f.masses ∧ Span bs (bs + 1) w w') := by
  have hbs := h.lt
  have HLT : Hid (bs < w.heap.size) := hbs
  obtain ⟨w1, hw1⟩ : ∃ w1, w.alloc (.cells #[.int .i64 0, .int .i64 0, .slice none 0 0] 26) = w1 := ⟨_, rfl⟩
  have hb1 : Below w.heap.size w w1 := by rw [← hw1]; exact (Below.refl _ _).alloc (Nat.le_refl _) _
  have HR1 : Hid (Own w1 w.heap.size 26 #[.int .i64 0, .int .i64 0, .slice none 0 0]) := by rw [Hid, ← hw1]; exact Own.new _ _ _
  have HS1 := Lib.hid (h.grow hb1)
  have HZ1 : Hid (w1.heap.size = w.heap.size + 1) := by rw [Hid, ← hw1]; simp
  have HP1 : Hid (Span bs (bs + 1) w w1) := Span.of_below hb1 (Nat.le_refl _)
  clear h hb1 hbs
  go_enter Tryz.func21, Tryz.ntmps21
  go_wp2_with fail
  try rw [hw1]
  clear hw1
  refine (l06DrawOk_any A n c ds bs k0 w0 w1 HS1.out hk0).mono ?_
  rintro e w2 ⟨⟨fr, fc, fA, fN, fC, fm⟩, k2, rfl, hk2, hs2, ho2, hn1, hn16, hml, hr1, hr4, hsp2⟩
  simp only at ho2 hn1 hn16 hml hr1 hr4
  have hz2 := hsp2.size
  rw [HZ1.out] at ho2 hz2
  have HML := Lib.hid hml
  have HK2 := Lib.hid hk2
  obtain ⟨X, hX⟩ : ∃ X, w2.heap.size = X := ⟨_, rfl⟩
  obtain ⟨w3, hw3⟩ : ∃ w3, w2.alloc (.cells #[.int .i64 fr, .int .i64 fc, .slice fA fN fC] 26) = w3 := ⟨_, rfl⟩
  have hb3 : Below w2.heap.size w2 w3 := by rw [← hw3]; exact (Below.refl _ _).alloc (Nat.le_refl _) _
  have HX3 : Hid (Own w3 X 26 #[.int .i64 fr, .int .i64 fc, .slice fA fN fC]) := by rw [Hid, ← hw3, ← hX]; exact Own.new _ _ _
  have HS3 := Lib.hid (hs2.grow hb3)
  have HO3 := Lib.hid (ho2.below' hb3)
  have HR3 : Hid (Own w3 w.heap.size 26 #[.int .i64 0, .int .i64 0, .slice none 0 0]) := (HR1.out.span hsp2 (.inr (by have := HLT.out; omega))).below' hb3
  have HP3 := Lib.hid ((HP1.out.trans hsp2).trans (Span.of_below hb3 (Nat.le_refl _)))
  have HXL : Hid (w.heap.size + 1 ≤ X) := by rw [Hid, ← hX]; exact hz2
  have HGX : Hid (∀ b, (Value.slice fA fN fC).ownBlock = some b → b < X) := fun b hb => by have := (ho2.lt b hb).2; omega
  have HW3 := Lib.hid hw3
  have HXH := Lib.hid hX
  clear hw3 hX hb3 hs2 ho2 hz2 hsp2 hml hk2 HR1 HS1 HP1
  go_wp2_with fail
  rw [HW3.out, HXH.out]
  refine (srcPick_any A n c ds bs k2 20 w0 w3 HS3.out (by have := HK2.out; omega) (by omega) (by omega)).mono ?_
  rintro e w4 ⟨r, k4, rfl, hr, hk4, hs4, ha4⟩
  have HSe := Lib.hid hs4
  have HXe := Lib.hid (HX3.out.span ha4 (.inr (by have := HLT.out; have := HXL.out; omega)))
  have HRe := Lib.hid (HR3.out.span ha4 (.inr (by have := HLT.out; omega)))
  have HOe := Lib.hid (HO3.out.span ha4 (fun b hb => .inr (by have := (HO3.out.lt b hb).1; have := HLT.out; omega)))
  have HPe := Lib.hid (HP3.out.trans ha4)
  have HKe : Hid (k4 ≤ 2010) := by have := HK2.out; rw [Hid]; omega
  clear hs4 ha4 hk4 HX3 HR3 HS3 HO3 HP3
  have hcs : r = 0 ∨ r = 1 ∨ r = 2 ∨ r = 3 ∨ 4 ≤ r := by omega
  rcases hcs with rfl | rfl | rfl | rfl | hr5
  · have hz : ((0 : Nat) : Int) = 0 := rfl
    have y0 := HXe.out.cell 0
    have ly := HXe.out.lt
    simp at y0
    obtain ⟨w5, hw5⟩ : ∃ w5, w4.alloc (.cells #[.int .i64 0, .int .i64 9, .int .i64 (fr + 1)] 2) = w5 := ⟨_, rfl⟩
    have hb5 : Below w4.heap.size w4 w5 := by rw [← hw5]; exact (Below.refl _ _).alloc (Nat.le_refl _) _
    have HL5 : Hid (SliceOf w5 1 i64cells (some ⟨w4.heap.size, 0, none⟩) 3 [0, 9, fr + 1]) := by rw [Hid, ← hw5]; exact sliceOf_new w4 2 [0, 9, fr + 1] (by simp)
    have HS5 := Lib.hid (HSe.out.grow hb5)
    have HX5 := Lib.hid (HXe.out.below' hb5)
    have HR5 := Lib.hid (HRe.out.below' hb5)
    have HO5 := Lib.hid (HOe.out.below' hb5)
    have HP5 := Lib.hid (HPe.out.trans (Span.of_below hb5 (Nat.le_refl _)))
    have HNB : Hid (w4.heap.size ≠ bs) := by have := HSe.out.lt; rw [Hid]; omega
    have HW5 := Lib.hid hw5
    clear hb5 hw5
    go_wp2_with fail
    rw [HW5.out]
    refine (srcAmong_any A n c ds bs k4 3 3 w4.heap.size 0 [0, 9, fr + 1] w0 w5 HS5.out (by have := HKe.out; omega) (by omega) (by omega) HL5.out HNB.out).mono ?_
    rintro e w6 ⟨y, k6, rfl, _, hk6, hs6, ha6⟩
    have HS6 := Lib.hid hs6
    have HX6 := Lib.hid (HX5.out.span ha6 (.inr (by have := HLT.out; have := HXL.out; omega)))
    have HR6 := Lib.hid (HR5.out.span ha6 (.inr (by have := HLT.out; omega)))
    have HO6 := Lib.hid (HO5.out.span ha6 (fun b hb => .inr (by have := (HO5.out.lt b hb).1; have := HLT.out; omega)))
    have HP6 := Lib.hid (HP5.out.trans ha6)
    have HK6 : Hid (k6 ≤ 2020) := by have := HKe.out; rw [Hid]; omega
    clear hs6 ha6 hk6 y0 ly
    have y0 := HX6.out.cell 0
    have dy := HX6.out.frozen
    have ly := HX6.out.lt
    simp at y0
    go_upto_region 15 with fail
    clear y0 dy ly HSe HXe HRe HOe HPe HKe
    obtain ⟨w7, hw7⟩ : ∃ w7, w6.setCell ⟨X, 0, none⟩ (.int .i64 y) = w7 := ⟨_, rfl⟩
    have HXe : Hid (Own w7 X 26 #[.int .i64 y, .int .i64 fc, .slice fA fN fC]) := by rw [Hid, ← hw7]; simpa using HX6.out.put 0 (.int .i64 y)
    have HRe : Hid (Own w7 w.heap.size 26 #[.int .i64 0, .int .i64 0, .slice none 0 0]) := by rw [Hid, ← hw7]; exact HR6.out.far (by have := HXL.out; simp only; omega) _
    have HOe : Hid (OwnsL w7 (w.heap.size + 1) 2 1 i64cells (.slice fA fN fC) fm) := by rw [Hid, ← hw7]; exact HO6.out.kept (fun b hb => Below.heap_setCell w6 ⟨X, 0, none⟩ _ b (by have := HGX.out b hb; simp only; omega))
    have HSe : Hid (SrcAt A n c ds bs k6 w0 w7) := by rw [Hid, ← hw7]; exact HS6.out.put (by have := HXL.out; have := HLT.out; simp only; omega) (by have := HS6.out.base; have := HXL.out; have := HLT.out; simp only; omega) _
    have HPe : Hid (Span bs (bs + 1) w w7) := by rw [Hid, ← hw7]; exact HP6.out.new (by have := HXL.out; simp only; omega) _
    have HKe := HK6
    rw [hw7]
    clear hw7
    have x0 := HXe.out.cell 0
    have x1 := HXe.out.cell 1
    have x2 := HXe.out.cell 2
    have lX := HXe.out.lt
    have z0 := HRe.out.cell 0
    have z1 := HRe.out.cell 1
    have z2 := HRe.out.cell 2
    have dz := HRe.out.frozen
    have lz := HRe.out.lt
    simp at x0 x1 x2 z0 z1 z2
    go_wp2
    have h3 := put3 HRe.out (.int .i64 y) (.int .i64 fc) (.slice fA fN fC) (Below.refl w.heap.size w7) (Nat.le_refl _)
    have h4 : OwnsL (((w7.setCell ⟨w.heap.size, 0, none⟩ (.int .i64 y)).setCell ⟨w.heap.size, 1, none⟩ (.int .i64 fc)).setCell ⟨w.heap.size, 2, none⟩ (.slice fA fN fC)) (w.heap.size + 1) 2 1 i64cells (.slice fA fN fC) fm := HOe.out.kept (fun b hb => put3_heap w7 w.heap.size _ _ _ b (by have h1 := (HOe.out.lt b hb).1; omega))
    have h5 : SrcAt A n c ds bs k6 w0 (((w7.setCell ⟨w.heap.size, 0, none⟩ (.int .i64 y)).setCell ⟨w.heap.size, 1, none⟩ (.int .i64 fc)).setCell ⟨w.heap.size, 2, none⟩ (.slice fA fN fC)) := ((HSe.out.put (p := ⟨w.heap.size, 0, none⟩) (by have := HLT.out; simp only; omega) (by have := HSe.out.base; have := HLT.out; simp only; omega) _).put (p := ⟨w.heap.size, 1, none⟩) (by have := HLT.out; simp only; omega) (by have := HSe.out.base; have := HLT.out; simp only; omega) _).put (p := ⟨w.heap.size, 2, none⟩) (by have := HLT.out; simp only; omega) (by have := HSe.out.base; have := HLT.out; simp only; omega) _
    obtain ⟨wf, hwf⟩ : ∃ wf, ((w7.setCell ⟨w.heap.size, 0, none⟩ (.int .i64 y)).setCell ⟨w.heap.size, 1, none⟩ (.int .i64 fc)).setCell ⟨w.heap.size, 2, none⟩ (.slice fA fN fC) = wf := ⟨_, rfl⟩
    have hzf : Span bs (bs + 1) w wf := by rw [← hwf]; exact (((HPe.out.new (p := ⟨w.heap.size, 0, none⟩) (Nat.le_refl _) _).new (p := ⟨w.heap.size, 1, none⟩) (Nat.le_refl _) _).new (p := ⟨w.heap.size, 2, none⟩) (Nat.le_refl _) _)
    rw [hwf] at h3 h4 h5 ⊢
    have f0 := h3.1.cell 0
    have f1 := h3.1.cell 1
    have f2 := h3.1.cell 2
    simp at f0 f1 f2
    exact bodyPost_ret (v := .agg #[.int .i64 y, .int .i64 fc, .slice fA fN fC]) (by simp [results, Tryz.results21, go_sem, f0, f1, f2]) rfl ⟨⟨y, fc, fA, fN, fC, fm⟩, k6, rfl, by have := HKe.out; omega, h5, h4.rebase (by omega), hzf⟩
  · have e0 : (((1 : Nat) : Int) == 0) = false := rfl
    obtain ⟨G, cap, hsl, hG, hG2⟩ := HOe.out.block (by intro h; have := HML.out; rw [h] at this; simp at this; omega)
    injection hsl with e1 e2x e3
    clear e2x
    subst e1 e3
    have HGB : Hid (w.heap.size + 1 ≤ G) := hG
    have HGX2 : Hid (G < X) := HGX.out G rfl
    clear hG hG2
    obtain ⟨y0, hy0⟩ : ∃ y0, fm[0]? = some y0 := ⟨_, List.getElem?_eq_getElem (by rw [HML.out]; omega)⟩
    have HY0 := Lib.hid hy0
    clear hy0
    go_upto_region 6 with fail
    refine wp_region_held_drew (S := (fun w' => w'.cell? ⟨X, 2, none⟩ = some (.slice (some ⟨G, 0, none⟩) fN fC))) (by kernel_rfl) ((HXe.out.drew).cell 2) (fun hHeld => ?_)
    simp only [List.size_toArray, List.length_cons, List.length_nil, Nat.zero_add, Nat.reduceAdd]
    obtain ⟨wd, hwd⟩ : ∃ wd, w4.drew = wd := ⟨_, rfl⟩
    have hbd : Below w4.heap.size w4 wd := by rw [← hwd]; exact (Below.refl _ _).drew
    have HSd := Lib.hid (HSe.out.grow hbd)
    have HXd := Lib.hid (HXe.out.below' hbd)
    have HRd := Lib.hid (HRe.out.below' hbd)
    have HOd := Lib.hid (HOe.out.below' hbd)
    have HPd := Lib.hid (HPe.out.trans (Span.of_below hbd (Nat.le_refl _)))
    rw [hwd] at hHeld ⊢
    clear hwd hbd
    refine wpAnyH_take (i := 0) (oi := _) (v := ?_) rfl (by kernel_rfl) (by kernel_rfl) (by kernel_rfl) (fun _ _ _ h => h) (Or.inl ⟨by rfl, ?_⟩) (by assumption) ?_
    rotate_left
    · intro w hSw; (try dsimp only at hSw); go_simp; (try with_reducible rfl)
    simp only [List.getElem_toArray, List.getElem_cons_zero, Act.put, List.setIfInBounds_toArray, List.set_cons_zero, List.set_cons_succ]
    refine wpAnyH_take (i := 1) (oi := _) (v := ?_) rfl (by kernel_rfl) (by kernel_rfl) (by kernel_rfl) (fun _ _ _ h => h) (Or.inl ⟨by rfl, ?_⟩) (by assumption) ?_
    rotate_left
    · intro w hSw; (try dsimp only at hSw); go_simp; (try with_reducible rfl)
    simp only [List.getElem_toArray, List.getElem_cons_zero, List.getElem_cons_succ, Act.put, List.setIfInBounds_toArray, List.set_cons_zero, List.set_cons_succ]
    refine wpAnyH_take (i := 2) (oi := _) (v := ?_) rfl (by kernel_rfl) (by kernel_rfl) (by kernel_rfl) (fun _ _ _ h => h) (Or.inl ⟨by rfl, ?_⟩) (by assumption) ?_
    rotate_left
    · intro w hSw; (try dsimp only at hSw); go_simp; (try with_reducible rfl)
    simp only [List.getElem_toArray, List.getElem_cons_zero, List.getElem_cons_succ, Act.put, List.setIfInBounds_toArray, List.set_cons_zero, List.set_cons_succ]
    obtain ⟨w5, hw5⟩ : ∃ w5, wd.alloc (.cells #[.int .i64 (-1), .int .i64 0, .int .i64 1000000, .int .i64 1000001] 2) = w5 := ⟨_, rfl⟩
    have hb5 : Below wd.heap.size wd w5 := by rw [← hw5]; exact (Below.refl _ _).alloc (Nat.le_refl _) _
    have HL5 : Hid (SliceOf w5 1 i64cells (some ⟨wd.heap.size, 0, none⟩) 4 [-1, 0, 1000000, 1000001]) := by rw [Hid, ← hw5]; exact sliceOf_new wd 2 [-1, 0, 1000000, 1000001] (by simp)
    have HS5 := Lib.hid (HSd.out.grow hb5)
    have HX5 := Lib.hid (HXd.out.below' hb5)
    have HR5 := Lib.hid (HRd.out.below' hb5)
    have HO5 := Lib.hid (HOd.out.below' hb5)
    have HP5 := Lib.hid (HPd.out.trans (Span.of_below hb5 (Nat.le_refl _)))
    have HNB : Hid (wd.heap.size ≠ bs) := by have := HSd.out.lt; rw [Hid]; omega
    have HS5c : Hid ((wd.alloc (.cells #[.int .i64 (-1), .int .i64 0, .int .i64 1000000, .int .i64 1000001] 2)).cell? ⟨X, 2, none⟩ = some (.slice (some ⟨G, 0, none⟩) fN fC)) := by rw [Hid, hw5]; exact HX5.out.cell 2
    have HW5 := Lib.hid hw5
    clear hb5 hw5
    refine wpAnyH_ready (rs := [3]) (by kernel_rfl) (by simp) ?_
    refine AllReadyH.cons (o := _) rfl (fun K hK => ?_) AllReadyH.nil
    simp only [List.getElem_toArray, List.getElem_cons_zero, List.getElem_cons_succ]
    go_simp
    refine hK.out _ _ (HS5c.out) (fun hHeld2 => ?_)
    clear hK K
    try simp only [List.getElem_toArray, List.getElem_cons_zero, List.getElem_cons_succ, Act.put, List.setIfInBounds_toArray, List.set_cons_zero, List.set_cons_succ]
    rw [HW5.out] at hHeld2 ⊢
    refine wpAnyH_ready (rs := [4]) (by kernel_rfl) (by simp) ?_
    refine AllReadyH.cons (o := _) rfl (fun K hK => ?_) AllReadyH.nil
    simp only [List.getElem_toArray, List.getElem_cons_zero, List.getElem_cons_succ]
    go_simp
    (go_at_call 22; (with_reducible refine Calls.mono (srcAmong_any A n c ds bs k4 4 4 wd.heap.size 0 [-1, 0, 1000000, 1000001] w0 w5 HS5.out (by have := HKe.out; omega) (by omega) (by omega) HL5.out HNB.out) ?_); rintro e w6 ⟨y, k6, rfl, _, hk6, hs6, ha6⟩; have HX6 := Lib.hid (HX5.out.span ha6 (.inr (by have := HLT.out; have := HXL.out; omega))))
    refine hK.out _ _ (HX6.out.cell 2) (fun hHeld2 => ?_)
    clear hK K
    try simp only [List.getElem_toArray, List.getElem_cons_zero, List.getElem_cons_succ, Act.put, List.setIfInBounds_toArray, List.set_cons_zero, List.set_cons_succ]
    have HS6 := Lib.hid hs6
    have HR6 := Lib.hid (HR5.out.span ha6 (.inr (by have := HLT.out; omega)))
    have HO6 := Lib.hid (HO5.out.span ha6 (fun b hb => .inr (by have := (HO5.out.lt b hb).1; have := HLT.out; omega)))
    have HP6 := Lib.hid (HP5.out.trans ha6)
    have HK6 : Hid (k6 ≤ 2020) := by have := HKe.out; rw [Hid]; omega
    clear hs6 ha6 hk6
    have hn0 : 0 < fN := hn1
    have hn0b : decide (0 < fN) = true := decide_eq_true hn1
    refine wpAnyH_take (i := 5) (oi := _) (v := ?_) rfl (by kernel_rfl) (by kernel_rfl) (by kernel_rfl) (fun _ _ _ h => h) (Or.inl ⟨by rfl, ?_⟩) (by assumption) ?_
    rotate_left
    · intro w hSw; (try dsimp only at hSw); go_simp; (try with_reducible rfl)
    simp only [List.getElem_toArray, List.getElem_cons_zero, List.getElem_cons_succ, Act.put, List.setIfInBounds_toArray, List.set_cons_zero, List.set_cons_succ]
    clear hn0 hn0b
    have c0 := HO6.out.cellAt HY0.out
    have df := HO6.out.frozen
    have lG := (HO6.out.lt G rfl).2
    have HX7 : Hid (Own (w6.setCell ⟨G, 0, none⟩ (.int .i64 y)) X 26 #[.int .i64 fr, .int .i64 fc, .slice (some ⟨G, 0, none⟩) fN fC]) := HX6.out.far (by have := HGX2.out; simp only; omega) _
    refine wpAnyH_ready (rs := [6]) (by kernel_rfl) (by simp) ?_
    refine AllReadyH.cons (o := _) rfl (fun K hK => ?_) AllReadyH.nil
    simp only [List.getElem_toArray, List.getElem_cons_zero, List.getElem_cons_succ]
    go_simp
    refine hK.out _ _ (HX7.out.cell 2) (fun hHeld2 => ?_)
    clear hK K
    try simp only [List.getElem_toArray, List.getElem_cons_zero, List.getElem_cons_succ, Act.put, List.setIfInBounds_toArray, List.set_cons_zero, List.set_cons_succ]
    refine wpAnyH_done (by kernel_rfl) ?_ _
    clear c0 df lG hHeld hHeld2 HSe HXe HRe HOe HPe HKe
    obtain ⟨w7, hw7⟩ : ∃ w7, w6.setCell ⟨G, 0, none⟩ (.int .i64 y) = w7 := ⟨_, rfl⟩
    have HXe : Hid (Own w7 X 26 #[.int .i64 fr, .int .i64 fc, .slice (some ⟨G, 0, none⟩) fN fC]) := by rw [Hid, ← hw7]; exact HX7.out
    have HRe : Hid (Own w7 w.heap.size 26 #[.int .i64 0, .int .i64 0, .slice none 0 0]) := by rw [Hid, ← hw7]; exact HR6.out.far (by have := HGB.out; simp only; omega) _
    have HOe : Hid (OwnsL w7 (w.heap.size + 1) 2 1 i64cells (.slice (some ⟨G, 0, none⟩) fN fC) (fm.set 0 y)) := by rw [Hid, ← hw7]; exact HO6.out.setAt y
    have HSe : Hid (SrcAt A n c ds bs k6 w0 w7) := by rw [Hid, ← hw7]; exact HS6.out.put (by have := HGB.out; have := HLT.out; simp only; omega) (by have := HS6.out.base; have := HGB.out; have := HLT.out; simp only; omega) _
    have HPe : Hid (Span bs (bs + 1) w w7) := by rw [Hid, ← hw7]; exact HP6.out.new (by have := HGB.out; simp only; omega) _
    have HKe := HK6
    rw [hw7]
    clear hw7 HX7
    have x0 := HXe.out.cell 0
    have x1 := HXe.out.cell 1
    have x2 := HXe.out.cell 2
    have lX := HXe.out.lt
    have z0 := HRe.out.cell 0
    have z1 := HRe.out.cell 1
    have z2 := HRe.out.cell 2
    have dz := HRe.out.frozen
    have lz := HRe.out.lt
    simp at x0 x1 x2 z0 z1 z2
    go_wp2
    have h3 := put3 HRe.out (.int .i64 fr) (.int .i64 fc) (.slice (some ⟨G, 0, none⟩) fN fC) (Below.refl w.heap.size w7) (Nat.le_refl _)
    have h4 : OwnsL (((w7.setCell ⟨w.heap.size, 0, none⟩ (.int .i64 fr)).setCell ⟨w.heap.size, 1, none⟩ (.int .i64 fc)).setCell ⟨w.heap.size, 2, none⟩ (.slice (some ⟨G, 0, none⟩) fN fC)) (w.heap.size + 1) 2 1 i64cells (.slice (some ⟨G, 0, none⟩) fN fC) (fm.set 0 y) := HOe.out.kept (fun b hb => put3_heap w7 w.heap.size _ _ _ b (by have h1 := (HOe.out.lt b hb).1; omega))
    have h5 : SrcAt A n c ds bs k6 w0 (((w7.setCell ⟨w.heap.size, 0, none⟩ (.int .i64 fr)).setCell ⟨w.heap.size, 1, none⟩ (.int .i64 fc)).setCell ⟨w.heap.size, 2, none⟩ (.slice (some ⟨G, 0, none⟩) fN fC)) := ((HSe.out.put (p := ⟨w.heap.size, 0, none⟩) (by have := HLT.out; simp only; omega) (by have := HSe.out.base; have := HLT.out; simp only; omega) _).put (p := ⟨w.heap.size, 1, none⟩) (by have := HLT.out; simp only; omega) (by have := HSe.out.base; have := HLT.out; simp only; omega) _).put (p := ⟨w.heap.size, 2, none⟩) (by have := HLT.out; simp only; omega) (by have := HSe.out.base; have := HLT.out; simp only; omega) _
    obtain ⟨wf, hwf⟩ : ∃ wf, ((w7.setCell ⟨w.heap.size, 0, none⟩ (.int .i64 fr)).setCell ⟨w.heap.size, 1, none⟩ (.int .i64 fc)).setCell ⟨w.heap.size, 2, none⟩ (.slice (some ⟨G, 0, none⟩) fN fC) = wf := ⟨_, rfl⟩
    have hzf : Span bs (bs + 1) w wf := by rw [← hwf]; exact (((HPe.out.new (p := ⟨w.heap.size, 0, none⟩) (Nat.le_refl _) _).new (p := ⟨w.heap.size, 1, none⟩) (Nat.le_refl _) _).new (p := ⟨w.heap.size, 2, none⟩) (Nat.le_refl _) _)
    rw [hwf] at h3 h4 h5 ⊢
    have f0 := h3.1.cell 0
    have f1 := h3.1.cell 1
    have f2 := h3.1.cell 2
    simp at f0 f1 f2
    exact bodyPost_ret (v := .agg #[.int .i64 fr, .int .i64 fc, .slice (some ⟨G, 0, none⟩) fN fC]) (by simp [results, Tryz.results21, go_sem, f0, f1, f2]) rfl ⟨⟨fr, fc, (some ⟨G, 0, none⟩), fN, fC, (fm.set 0 y)⟩, k6, rfl, by have := HKe.out; omega, h5, h4.rebase (by omega), hzf⟩
  · have e0 : (((2 : Nat) : Int) == 0) = false := rfl
    have e1 : (((2 : Nat) : Int) == 1) = false := rfl
    obtain ⟨w5, hw5⟩ : ∃ w5, w4.alloc (.cells #[.int .i64 8, .int .i64 9] 2) = w5 := ⟨_, rfl⟩
    have hb5 : Below w4.heap.size w4 w5 := by rw [← hw5]; exact (Below.refl _ _).alloc (Nat.le_refl _) _
    have HL5 : Hid (SliceOf w5 1 i64cells (some ⟨w4.heap.size, 0, none⟩) 2 [8, 9]) := by rw [Hid, ← hw5]; exact sliceOf_new w4 2 [8, 9] (by simp)
    have HS5 := Lib.hid (HSe.out.grow hb5)
    have HX5 := Lib.hid (HXe.out.below' hb5)
    have HR5 := Lib.hid (HRe.out.below' hb5)
    have HP5 := Lib.hid (HPe.out.trans (Span.of_below hb5 (Nat.le_refl _)))
    have HNB : Hid (w4.heap.size ≠ bs) := by have := HSe.out.lt; rw [Hid]; omega
    have HW5 := Lib.hid hw5
    clear hb5 hw5
    go_wp2_with fail
    rw [HW5.out]
    refine (srcAmong_any A n c ds bs k4 2 2 w4.heap.size 0 [8, 9] w0 w5 HS5.out (by have := HKe.out; omega) (by omega) (by omega) HL5.out HNB.out).mono ?_
    rintro e w6 ⟨y, k6, rfl, hy, hk6, hs6, ha6⟩
    have HS6 := Lib.hid hs6
    have HX6 := Lib.hid (HX5.out.span ha6 (.inr (by have := HLT.out; have := HXL.out; omega)))
    have HR6 := Lib.hid (HR5.out.span ha6 (.inr (by have := HLT.out; omega)))
    have HP6 := Lib.hid (HP5.out.trans ha6)
    have HK6 : Hid (k6 ≤ 2020) := by have := HKe.out; rw [Hid]; omega
    have hy2 : y = 8 ∨ y = 9 := by simpa using hy
    obtain ⟨m, rfl⟩ : ∃ m : Nat, y = (m : Int) := ⟨y.toNat, by omega⟩
    obtain ⟨N, hN⟩ : ∃ N, 8 * m = N := ⟨_, rfl⟩
    have hN72 : 1 ≤ N ∧ N ≤ 72 := by omega
    have hmul : (8 : Int) * (m : Int) = (N : Int) := by omega
    have hmk := make_n (P := Tryz.prog) (t := 24) (n := N) Tryz.underlying24 infoI64 (by omega) (by omega)
    obtain ⟨G, hG⟩ : ∃ G, w6.heap.size = G := ⟨_, rfl⟩
    obtain ⟨w7, hw7⟩ : ∃ w7, ((w6.setCell ⟨X, 0, none⟩ (.int .i64 m)).setCell ⟨X, 1, none⟩ (.int .i64 8)).setCell ⟨X, 2, none⟩ (.slice (some ⟨G, 0, none⟩) N N) = w7 := ⟨_, rfl⟩
    have hZ6 : w.heap.size + 1 ≤ G ∧ X < G := by have h1 := HX6.out.lt; have h2 := HXL.out; omega
    have h3 := put3 HX6.out (.int .i64 m) (.int .i64 8) (.slice (some ⟨G, 0, none⟩) N N) (Below.refl 0 w6) (Nat.zero_le _)
    rw [hw7] at h3
    have hz7 : w7.heap.size = G := by rw [← hw7, ← hG]; simp
    have hR7 : Own w7 w.heap.size 26 #[.int .i64 0, .int .i64 0, .slice none 0 0] := by
      rw [← hw7]
      have hne : w.heap.size ≠ X := by have := HXL.out; omega
      exact ((HR6.out.far (p := ⟨X, 0, none⟩) hne _).far (p := ⟨X, 1, none⟩) hne _).far (p := ⟨X, 2, none⟩) hne _
    have hS7 : SrcAt A n c ds bs k6 w0 w7 := by
      rw [← hw7]
      have hne : bs ≠ X := by have := HXL.out; have := HLT.out; omega
      have hge : w0.heap.size ≤ X := by have := HS6.out.base; have := HXL.out; have := HLT.out; omega
      exact ((HS6.out.put (p := ⟨X, 0, none⟩) hne hge _).put (p := ⟨X, 1, none⟩) hne hge _).put (p := ⟨X, 2, none⟩) hne hge _
    have hP7 : Span bs (bs + 1) w w7 := by
      rw [← hw7]
      have hge : w.heap.size ≤ X := by have := HXL.out; omega
      exact ((HP6.out.new (p := ⟨X, 0, none⟩) hge _).new (p := ⟨X, 1, none⟩) hge _).new (p := ⟨X, 2, none⟩) hge _
    obtain ⟨w8, hw8⟩ : ∃ w8, w7.alloc (.cells (madeCells #[.int .i64 0] N) 2) = w8 := ⟨_, rfl⟩
    have hb8 : Below w7.heap.size w7 w8 := by rw [← hw8]; exact (Below.refl _ _).alloc (Nat.le_refl _) _
    have HO8 : Hid (OwnsL w8 (w.heap.size + 1) 2 1 i64cells (.slice (some ⟨G, 0, none⟩) N N) (List.replicate N 0)) := by
      rw [Hid, ← hw8]
      have h := ownsMade w7 N (w.heap.size + 1) (by omega) (by rw [hz7]; exact hZ6.1)
      rw [hz7] at h
      exact h
    have HX8 := Lib.hid (h3.1.below' hb8)
    have HR8 := Lib.hid (hR7.below' hb8)
    have HS8 := Lib.hid (hS7.grow hb8)
    have HP8 := Lib.hid (hP7.trans (Span.of_below hb8 (Nat.le_refl _)))
    have HW7 := Lib.hid hw7
    have HW8 := Lib.hid hw8
    have HGG := Lib.hid hG
    clear hs6 ha6 hk6 hy hy2 hN hb8 hw7 hw8 h3 hR7 hS7 hP7 hz7 hZ6 hG
    have y0 := HX6.out.cell 0
    have y1 := HX6.out.cell 1
    have y2 := HX6.out.cell 2
    have dy := HX6.out.frozen
    have ly := HX6.out.lt
    simp at y0 y1 y2
    go_upto_region 15 with fail
    rw [HGG.out, HW7.out, HW8.out]
    clear y0 y1 y2 dy ly hmk hmul HSe HXe HRe HOe HPe HKe
    have HXe := HX8
    have HRe := HR8
    have HOe := HO8
    have HSe := HS8
    have HPe := HP8
    have HKe := HK6
    clear HX8 HR8 HO8 HS8 HP8 HK6
    have x0 := HXe.out.cell 0
    have x1 := HXe.out.cell 1
    have x2 := HXe.out.cell 2
    have lX := HXe.out.lt
    have z0 := HRe.out.cell 0
    have z1 := HRe.out.cell 1
    have z2 := HRe.out.cell 2
    have dz := HRe.out.frozen
    have lz := HRe.out.lt
    simp at x0 x1 x2 z0 z1 z2
    go_wp2
    have h3 := put3 HRe.out (.int .i64 (m : Int)) (.int .i64 8) (.slice (some ⟨G, 0, none⟩) N N) (Below.refl w.heap.size w8) (Nat.le_refl _)
    have h4 : OwnsL (((w8.setCell ⟨w.heap.size, 0, none⟩ (.int .i64 (m : Int))).setCell ⟨w.heap.size, 1, none⟩ (.int .i64 8)).setCell ⟨w.heap.size, 2, none⟩ (.slice (some ⟨G, 0, none⟩) N N)) (w.heap.size + 1) 2 1 i64cells (.slice (some ⟨G, 0, none⟩) N N) (List.replicate N 0) := HOe.out.kept (fun b hb => put3_heap w8 w.heap.size _ _ _ b (by have h1 := (HOe.out.lt b hb).1; omega))
    have h5 : SrcAt A n c ds bs k6 w0 (((w8.setCell ⟨w.heap.size, 0, none⟩ (.int .i64 (m : Int))).setCell ⟨w.heap.size, 1, none⟩ (.int .i64 8)).setCell ⟨w.heap.size, 2, none⟩ (.slice (some ⟨G, 0, none⟩) N N)) := ((HSe.out.put (p := ⟨w.heap.size, 0, none⟩) (by have := HLT.out; simp only; omega) (by have := HSe.out.base; have := HLT.out; simp only; omega) _).put (p := ⟨w.heap.size, 1, none⟩) (by have := HLT.out; simp only; omega) (by have := HSe.out.base; have := HLT.out; simp only; omega) _).put (p := ⟨w.heap.size, 2, none⟩) (by have := HLT.out; simp only; omega) (by have := HSe.out.base; have := HLT.out; simp only; omega) _
    obtain ⟨wf, hwf⟩ : ∃ wf, ((w8.setCell ⟨w.heap.size, 0, none⟩ (.int .i64 (m : Int))).setCell ⟨w.heap.size, 1, none⟩ (.int .i64 8)).setCell ⟨w.heap.size, 2, none⟩ (.slice (some ⟨G, 0, none⟩) N N) = wf := ⟨_, rfl⟩
    have hzf : Span bs (bs + 1) w wf := by rw [← hwf]; exact (((HPe.out.new (p := ⟨w.heap.size, 0, none⟩) (Nat.le_refl _) _).new (p := ⟨w.heap.size, 1, none⟩) (Nat.le_refl _) _).new (p := ⟨w.heap.size, 2, none⟩) (Nat.le_refl _) _)
    rw [hwf] at h3 h4 h5 ⊢
    have f0 := h3.1.cell 0
    have f1 := h3.1.cell 1
    have f2 := h3.1.cell 2
    simp at f0 f1 f2
    exact bodyPost_ret (v := .agg #[.int .i64 (m : Int), .int .i64 8, .slice (some ⟨G, 0, none⟩) N N]) (by simp [results, Tryz.results21, go_sem, f0, f1, f2]) rfl ⟨⟨(m : Int), 8, (some ⟨G, 0, none⟩), N, N, (List.replicate N 0)⟩, k6, rfl, by have := HKe.out; omega, h5, h4.rebase (by omega), hzf⟩
  · have e0 : (((3 : Nat) : Int) == 0) = false := rfl
    have e1 : (((3 : Nat) : Int) == 1) = false := rfl
    have e2 : (((3 : Nat) : Int) == 2) = false := rfl
    obtain ⟨G, cap, hsl, hG, hG2⟩ := HOe.out.block (by intro h; have := HML.out; rw [h] at this; simp at this; omega)
    injection hsl with e1' e2x e3
    clear e2x
    subst e1' e3
    have HGB : Hid (w.heap.size + 1 ≤ G) := hG
    have HGX2 : Hid (G < X) := HGX.out G rfl
    clear hG hG2
    go_wp2
    go_loopg [5] fN (fun gk i wr => ∃ (k : Nat) (l : List Int), k ≤ fN ∧ gk = fN - k ∧ i = .int .i64 k ∧ l.length = fN ∧ SrcAt A n c ds bs k4 w0 wr ∧ Own wr w.heap.size 26 #[.int .i64 0, .int .i64 0, .slice none 0 0] ∧ Own wr X 26 #[.int .i64 fr, .int .i64 fc, .slice (some ⟨G, 0, none⟩) fN fC] ∧ OwnsL wr (w.heap.size + 1) 2 1 i64cells (.slice (some ⟨G, 0, none⟩) fN fC) l ∧ Span bs (bs + 1) w wr)
    case atStart => exact ⟨0, fm, Nat.zero_le _, rfl, rfl, HML.out, HSe.out, HRe.out, HXe.out, HOe.out, HPe.out⟩
    case round =>
      obtain ⟨k, l, hk, hgk, rfl, hll, hsr, hrr, hxr, hor, hpr⟩ := hrel
      have HGK := Lib.hid hgk
      have HLL := Lib.hid hll
      have HSR := Lib.hid hsr
      have HRR := Lib.hid hrr
      have HXR := Lib.hid hxr
      have HOR := Lib.hid hor
      have HPR := Lib.hid hpr
      clear hgk hll hsr hrr hxr hor hpr HSe HRe HXe HOe HPe
      by_cases hlt : k < fN
      · obtain ⟨yk, hyk⟩ : ∃ yk, l[k]? = some yk := ⟨_, List.getElem?_eq_getElem (by rw [HLL.out]; exact hlt)⟩
        have c0 := HOR.out.cellAt hyk
        have df := HOR.out.frozen
        have lG := (HOR.out.lt G rfl).2
        have x2 := HXR.out.cell 2
        have lX := HXR.out.lt
        simp at x2
        have HO8 := Lib.hid (HOR.out.setAt (k := k) 900000)
        have HX8 : Hid (Own (wr.setCell ⟨G, k, none⟩ (.int .i64 900000)) X 26 #[.int .i64 fr, .int .i64 fc, .slice (some ⟨G, 0, none⟩) fN fC]) := HXR.out.far (by have := HGX2.out; simp only; omega) _
        have HR8 : Hid (Own (wr.setCell ⟨G, k, none⟩ (.int .i64 900000)) w.heap.size 26 #[.int .i64 0, .int .i64 0, .slice none 0 0]) := HRR.out.far (by have := HGB.out; simp only; omega) _
        have HS8 : Hid (SrcAt A n c ds bs k4 w0 (wr.setCell ⟨G, k, none⟩ (.int .i64 900000))) := HSR.out.put (by have := HGB.out; have := HLT.out; simp only; omega) (by have := HSR.out.base; have := HGB.out; have := HLT.out; simp only; omega) _
        have HP8 : Hid (Span bs (bs + 1) w (wr.setCell ⟨G, k, none⟩ (.int .i64 900000))) := HPR.out.new (by have := HGB.out; simp only; omega) _
        have HL8 : Hid ((l.set k 900000).length = fN) := by rw [Hid, List.length_set]; exact HLL.out
        clear hyk
        go_wp2
        go_roundg (fN - (k + 1))
        case measure => have := HGK.out; omega
        case rel => exact ⟨k + 1, _, by omega, rfl, by go_num, HL8.out, HS8.out, HR8.out, HX8.out, HO8.out, HP8.out⟩
      obtain rfl : k = fN := by omega
      have HSe := HSR
      have HRe := HRR
      have HXe := HXR
      have HOe := HOR
      have HPe := HPR
      clear HSR HRR HXR HOR HPR
      have x0 := HXe.out.cell 0
      have x1 := HXe.out.cell 1
      have x2 := HXe.out.cell 2
      have lX := HXe.out.lt
      have z0 := HRe.out.cell 0
      have z1 := HRe.out.cell 1
      have z2 := HRe.out.cell 2
      have dz := HRe.out.frozen
      have lz := HRe.out.lt
      simp at x0 x1 x2 z0 z1 z2
      go_wp2
      have h3 := put3 HRe.out (.int .i64 fr) (.int .i64 fc) (.slice (some ⟨G, 0, none⟩) k fC) (Below.refl w.heap.size wr) (Nat.le_refl _)
      have h4 : OwnsL (((wr.setCell ⟨w.heap.size, 0, none⟩ (.int .i64 fr)).setCell ⟨w.heap.size, 1, none⟩ (.int .i64 fc)).setCell ⟨w.heap.size, 2, none⟩ (.slice (some ⟨G, 0, none⟩) k fC)) (w.heap.size + 1) 2 1 i64cells (.slice (some ⟨G, 0, none⟩) k fC) l := HOe.out.kept (fun b hb => put3_heap wr w.heap.size _ _ _ b (by have h1 := (HOe.out.lt b hb).1; omega))
      have h5 : SrcAt A n c ds bs k4 w0 (((wr.setCell ⟨w.heap.size, 0, none⟩ (.int .i64 fr)).setCell ⟨w.heap.size, 1, none⟩ (.int .i64 fc)).setCell ⟨w.heap.size, 2, none⟩ (.slice (some ⟨G, 0, none⟩) k fC)) := ((HSe.out.put (p := ⟨w.heap.size, 0, none⟩) (by have := HLT.out; simp only; omega) (by have := HSe.out.base; have := HLT.out; simp only; omega) _).put (p := ⟨w.heap.size, 1, none⟩) (by have := HLT.out; simp only; omega) (by have := HSe.out.base; have := HLT.out; simp only; omega) _).put (p := ⟨w.heap.size, 2, none⟩) (by have := HLT.out; simp only; omega) (by have := HSe.out.base; have := HLT.out; simp only; omega) _
      obtain ⟨wf, hwf⟩ : ∃ wf, ((wr.setCell ⟨w.heap.size, 0, none⟩ (.int .i64 fr)).setCell ⟨w.heap.size, 1, none⟩ (.int .i64 fc)).setCell ⟨w.heap.size, 2, none⟩ (.slice (some ⟨G, 0, none⟩) k fC) = wf := ⟨_, rfl⟩
      have hzf : Span bs (bs + 1) w wf := by rw [← hwf]; exact (((HPe.out.new (p := ⟨w.heap.size, 0, none⟩) (Nat.le_refl _) _).new (p := ⟨w.heap.size, 1, none⟩) (Nat.le_refl _) _).new (p := ⟨w.heap.size, 2, none⟩) (Nat.le_refl _) _)
      rw [hwf] at h3 h4 h5 ⊢
      have f0 := h3.1.cell 0
      have f1 := h3.1.cell 1
      have f2 := h3.1.cell 2
      simp at f0 f1 f2
      exact bodyPost_ret (v := .agg #[.int .i64 fr, .int .i64 fc, .slice (some ⟨G, 0, none⟩) k fC]) (by simp [results, Tryz.results21, go_sem, f0, f1, f2]) rfl ⟨⟨fr, fc, (some ⟨G, 0, none⟩), k, fC, l⟩, k4, rfl, by have := HKe.out; omega, h5, h4.rebase (by omega), hzf⟩
  · have e0 : ((r : Int) == 0) = false := by simp; omega
    have e1 : ((r : Int) == 1) = false := by simp; omega
    have e2 : ((r : Int) == 2) = false := by simp; omega
    have e3 : ((r : Int) == 3) = false := by simp; omega
    have x0 := HXe.out.cell 0
    have x1 := HXe.out.cell 1
    have x2 := HXe.out.cell 2
    have lX := HXe.out.lt
    have z0 := HRe.out.cell 0
    have z1 := HRe.out.cell 1
    have z2 := HRe.out.cell 2
    have dz := HRe.out.frozen
    have lz := HRe.out.lt
    simp at x0 x1 x2 z0 z1 z2
    go_wp2
    have h3 := put3 HRe.out (.int .i64 fr) (.int .i64 fc) (.slice fA fN fC) (Below.refl w.heap.size w4) (Nat.le_refl _)
    have h4 : OwnsL (((w4.setCell ⟨w.heap.size, 0, none⟩ (.int .i64 fr)).setCell ⟨w.heap.size, 1, none⟩ (.int .i64 fc)).setCell ⟨w.heap.size, 2, none⟩ (.slice fA fN fC)) (w.heap.size + 1) 2 1 i64cells (.slice fA fN fC) fm := HOe.out.kept (fun b hb => put3_heap w4 w.heap.size _ _ _ b (by have h1 := (HOe.out.lt b hb).1; omega))
    have h5 : SrcAt A n c ds bs k4 w0 (((w4.setCell ⟨w.heap.size, 0, none⟩ (.int .i64 fr)).setCell ⟨w.heap.size, 1, none⟩ (.int .i64 fc)).setCell ⟨w.heap.size, 2, none⟩ (.slice fA fN fC)) := ((HSe.out.put (p := ⟨w.heap.size, 0, none⟩) (by have := HLT.out; simp only; omega) (by have := HSe.out.base; have := HLT.out; simp only; omega) _).put (p := ⟨w.heap.size, 1, none⟩) (by have := HLT.out; simp only; omega) (by have := HSe.out.base; have := HLT.out; simp only; omega) _).put (p := ⟨w.heap.size, 2, none⟩) (by have := HLT.out; simp only; omega) (by have := HSe.out.base; have := HLT.out; simp only; omega) _
    obtain ⟨wf, hwf⟩ : ∃ wf, ((w4.setCell ⟨w.heap.size, 0, none⟩ (.int .i64 fr)).setCell ⟨w.heap.size, 1, none⟩ (.int .i64 fc)).setCell ⟨w.heap.size, 2, none⟩ (.slice fA fN fC) = wf := ⟨_, rfl⟩
    have hzf : Span bs (bs + 1) w wf := by rw [← hwf]; exact (((HPe.out.new (p := ⟨w.heap.size, 0, none⟩) (Nat.le_refl _) _).new (p := ⟨w.heap.size, 1, none⟩) (Nat.le_refl _) _).new (p := ⟨w.heap.size, 2, none⟩) (Nat.le_refl _) _)
    rw [hwf] at h3 h4 h5 ⊢
    have f0 := h3.1.cell 0
    have f1 := h3.1.cell 1
    have f2 := h3.1.cell 2
    simp at f0 f1 f2
    exact bodyPost_ret (v := .agg #[.int .i64 fr, .int .i64 fc, .slice fA fN fC]) (by simp [results, Tryz.results21, go_sem, f0, f1, f2]) rfl ⟨⟨fr, fc, fA, fN, fC, fm⟩, k4, rfl, by have := HKe.out; omega, h5, h4.rebase (by omega), hzf⟩

end Go.Proofs.YtllchmacipacnaaGreatDoor
