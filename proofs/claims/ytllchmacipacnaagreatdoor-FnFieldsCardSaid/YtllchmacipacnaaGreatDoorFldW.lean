/- A step and gains on the reference's side, and the law's own helpers. -/
import Derived.Test.YtllchmacipacnaaGreatDoorFldU
import Derived.Test.YtllchmacipacnaaGreatDoorHasP
import Derived.Test.YtllchmacipacnaaGreatDoorPushF
import Derived.Deep.RegionHeld3
import Derived.Deep.RegionLaw
import Derived.BigQuiet
namespace Go.Proofs.YtllchmacipacnaaGreatDoor
open Go.RowKit

set_option maxHeartbeats 2000000 in
theorem driftStep_ok (f : FieldR) (R C : Nat) (d share : Int) (w : World) (hin : f.In w) (hf : fieldB f.val = true) (hfr : f.rows = (R : Int)) (hfc : f.columns = (C : Int)) (hd0 : 0 ≤ d) (hd3 : d ≤ 3) (hs0 : 0 ≤ share) (hs1 : share ≤ 1000) (hm : massB (stepF R C d share f.masses) = true) :
    Calls Tryz.prog 18 #[.agg #[.int .i64 f.rows, .int .i64 f.columns, .slice f.massesA f.massesN f.massesC], .int .i64 d, .int .i64 share] w (fun e w' => ∃ p : FieldR, e = .returned (.tuple #[.agg #[.int .i64 p.rows, .int .i64 p.columns, .slice p.massesA p.massesN p.massesC], .int .i64 0]) ∧ p.val = ⟨f.rows, f.columns, stepF R C d share f.masses⟩ ∧ p.massesN = f.massesN ∧ OwnsL w' w.heap.size 2 1 i64cells (.slice p.massesA p.massesN p.massesC) p.masses ∧ Below w.heap.size w w') := by
  obtain ⟨W2, hW2⟩ : ∃ W2, (w.alloc (.cells #[.int .i64 f.rows, .int .i64 f.columns, .slice f.massesA f.massesN f.massesC] 26)).alloc (.cells #[.int .i64 0, .int .i64 0, .slice none 0 0] 26) = W2 := ⟨_, rfl⟩
  have hB : Below w.heap.size w W2 := by rw [← hW2]; exact ((Below.refl _ _).alloc (Nat.le_refl _) _).alloc (by simp) _
  have HOF : Hid (BoxF w.heap.size f W2) := ⟨by rw [← hW2]; exact (Own.new w _ _).alloc _, hin.below hB⟩
  have HOR : Hid (Own W2 (w.heap.size + 1) 26 #[.int .i64 0, .int .i64 0, .slice none 0 0]) := by have := Own.new (w.alloc (.cells #[.int .i64 f.rows, .int .i64 f.columns, .slice f.massesA f.massesN f.massesC] 26)) 26 #[.int .i64 0, .int .i64 0, .slice none 0 0]; rw [Hid, ← hW2]; simpa using this
  have HB := Lib.hid hB
  have HF := Lib.hid hf
  have HFR := Lib.hid hfr
  have HFC := Lib.hid hfc
  have HM := Lib.hid hm
  have hw : inB d 0 3 = true := inB_iff.2 ⟨hd0, hd3⟩
  have hsh : inB share 0 1000 = true := inB_iff.2 ⟨hs0, hs1⟩
  clear hin hB hf hfr hfc hm
  go_enter Tryz.func18, Tryz.ntmps18
  go_wp2_with fail
  try rw [hW2]
  clear hW2
  refine (l06Ok_ok w.heap.size f W2 HOF.out HF.out).mono ?_
  rintro e w1 ⟨rfl, hb1⟩
  have HOF1 := Lib.hid (HOF.out.grow hb1)
  have HOR1 := Lib.hid (HOR.out.below' hb1)
  have HB1 := Lib.hid (HB.out.trans (hb1.mono HB.out.size))
  clear hb1
  go_wp2_with fail
  refine (l06Wind_any d w1).mono ?_
  rintro e w2 ⟨rfl, rfl⟩
  rw [hw]
  go_wp2_with fail
  refine (l06Share_any share w1).mono ?_
  rintro e w2 ⟨rfl, rfl⟩
  rw [hsh]
  clear hw hsh
  go_wp2_with fail
  refine (l06Step_ok w.heap.size f R C d share w1 HOF1.out HF.out HFR.out HFC.out hd0 hd3 hs0 hs1).mono ?_
  rintro e w3 ⟨⟨pr, pc, pA, pN, pC, pm⟩, rfl, hpv, hpN, hpo, hb3⟩
  injection hpv with hp1 hp2 hp3
  simp only at hp1 hp2 hp3 hpN hpo
  subst hp1 hp2 hp3 hpN
  obtain ⟨w4, hw4⟩ : ∃ w4, w3.alloc (.cells #[.int .i64 f.rows, .int .i64 f.columns, .slice pA f.massesN pC] 26) = w4 := ⟨_, rfl⟩
  obtain ⟨X4, hX4⟩ : ∃ X4, w3.heap.size = X4 := ⟨_, rfl⟩
  have hb4 : Below w3.heap.size w3 w4 := by rw [← hw4]; exact (Below.refl _ _).alloc (Nat.le_refl _) _
  have HN4 : Hid (Own w4 X4 26 #[.int .i64 f.rows, .int .i64 f.columns, .slice pA f.massesN pC]) := by rw [Hid, ← hw4, ← hX4]; exact Own.new _ _ _
  have HP4 := Lib.hid (hpo.below' hb4)
  have HB3 := Lib.hid (HB1.out.trans (hb3.mono HB1.out.size))
  have HB4 := Lib.hid (HB3.out.trans (hb4.mono HB3.out.size))
  have HOR4 := Lib.hid ((HOR1.out.below' hb3).below' hb4)
  have HRL := Lib.hid HOR1.out.lt
  clear hpo hb3 hb4
  have hw4' := hw4
  go_wp2_with fail
  try rw [hw4]
  try rw [hX4]
  clear hw4 hw4'
  refine (l06Masses_ok X4 (⟨f.rows, f.columns, pA, f.massesN, pC, stepF R C d share f.masses⟩ : FieldR) w4 ⟨HN4.out, FieldR.in_of (p := ⟨f.rows, f.columns, pA, f.massesN, pC, stepF R C d share f.masses⟩) HP4.out⟩ HM.out).mono ?_
  rintro e w5 ⟨rfl, rfl⟩
  have x0 := HN4.out.cell 0
  have x1 := HN4.out.cell 1
  have x2 := HN4.out.cell 2
  have lX := HN4.out.lt
  have z0 := HOR4.out.cell 0
  have z1 := HOR4.out.cell 1
  have z2 := HOR4.out.cell 2
  have dz := HOR4.out.frozen
  have lz := HOR4.out.lt
  simp at x0 x1 x2 z0 z1 z2
  go_wp2
  have h3 := put3 HOR4.out (.int .i64 f.rows) (.int .i64 f.columns) (.slice pA f.massesN pC) HB4.out (by omega)
  have h4 : OwnsL (((w4.setCell ⟨w.heap.size + 1, 0, none⟩ (.int .i64 f.rows)).setCell ⟨w.heap.size + 1, 1, none⟩ (.int .i64 f.columns)).setCell ⟨w.heap.size + 1, 2, none⟩ (.slice pA f.massesN pC)) w1.heap.size 2 1 i64cells (.slice pA f.massesN pC) (stepF R C d share f.masses) := HP4.out.kept (fun b hb => put3_heap w4 (w.heap.size + 1) _ _ _ b (by have h1 := (HP4.out.lt b hb).1; have h2 := HRL.out; omega))
  obtain ⟨wf, hwf⟩ : ∃ wf, ((w4.setCell ⟨w.heap.size + 1, 0, none⟩ (.int .i64 f.rows)).setCell ⟨w.heap.size + 1, 1, none⟩ (.int .i64 f.columns)).setCell ⟨w.heap.size + 1, 2, none⟩ (.slice pA f.massesN pC) = wf := ⟨_, rfl⟩
  rw [hwf] at h3 h4 ⊢
  have f0 := h3.1.cell 0
  have f1 := h3.1.cell 1
  have f2 := h3.1.cell 2
  simp at f0 f1 f2
  have h5 := h4.rebase HB1.out.size
  exact bodyPost_ret (v := .tuple #[.agg #[.int .i64 f.rows, .int .i64 f.columns, .slice pA f.massesN pC], .int .i64 0]) (by simp [results, Tryz.results18, go_sem, f0, f1, f2]) rfl ⟨⟨f.rows, f.columns, pA, f.massesN, pC, stepF R C d share f.masses⟩, rfl, rfl, rfl, h5, h3.2⟩
set_option maxHeartbeats 2000000 in
theorem specDriftGain_ok (f : FieldR) (A : Option Addr) (n c : Nat) (ds : List Int) (share : Int) (m : List Int) (w : World) (hin : f.In w) (hd : SliceOf w 1 i64cells A n ds) (hran : RanOk f.val ds n share m) :
    Calls Tryz.prog 13 #[.agg #[.int .i64 f.rows, .int .i64 f.columns, .slice f.massesA f.massesN f.massesC], .slice A n c, .int .i64 share] w (RetP (fun v w' => ∃ u, v = .tuple #[u, .int .i64 0] ∧ OwnsL w' w.heap.size 2 1 i64cells u (gainF f.masses m)) w) := by
  obtain ⟨hf, hn24, hds, hs0, hs1, R, C, hfr, hfc, hrun⟩ := hran
  obtain ⟨R', C', hR, hC, hR1, hR8, hC1, hC8, hl, h64, hmB⟩ := fieldB_nat hf
  obtain ⟨W2, hW2⟩ : ∃ W2, w.alloc (.cells #[.int .i64 f.rows, .int .i64 f.columns, .slice f.massesA f.massesN f.massesC] 26) = W2 := ⟨_, rfl⟩
  have hB : Below w.heap.size w W2 := by rw [← hW2]; exact (Below.refl _ _).alloc (Nat.le_refl _) _
  have HOF : Hid (BoxF w.heap.size f W2) := ⟨by rw [← hW2]; exact Own.new w _ _, hin.below hB⟩
  have HD := Lib.hid (hd.below hB)
  have HB := Lib.hid hB
  have HF := Lib.hid hf
  have HDS := Lib.hid hds
  have HFR : Hid (f.rows = (R : Int)) := hfr
  have HFC : Hid (f.columns = (C : Int)) := hfc
  have HRUN := Lib.hid hrun
  have HMB : Hid (massB f.masses = true) := hmB
  have HLM : Hid (f.masses.length = f.massesN) := hin.1.len
  have hn64 : f.massesN ≤ 64 := by have h1 : f.masses.length = R' * C' := hl; have := HLM.out; omega
  obtain ⟨hml0, hmm⟩ := runP_ok (show massB f.val.masses = true from hmB) n hrun
  have HMM := Lib.hid hmm
  have HML : Hid (m.length = f.massesN) := hml0.trans HLM.out
  clear hin hd hB hf hds hfr hfc hrun hR hC hR1 hR8 hC1 hC8 hl h64 hmB hml0 hmm
  go_enter Tryz.func13, Tryz.ntmps13
  go_wp2_with fail
  try rw [hW2]
  clear hW2
  refine (l06Run_ok w.heap.size f R C A n c ds share m W2 HOF.out HF.out HFR.out HFC.out HD.out hn24 HDS.out hs0 hs1 HRUN.out).mono ?_
  rintro e w3 ⟨⟨pr, pc, pA, pN, pC, pm⟩, rfl, hpv, hpN, hpo, hb3⟩
  injection hpv with hp1 hp2 hp3
  simp only at hp1 hp2 hp3 hpN hpo
  subst hp1 hp2 hp3 hpN
  obtain ⟨w4, hw4⟩ : ∃ w4, w3.alloc (.cells #[.int .i64 f.rows, .int .i64 f.columns, .slice pA f.massesN pC] 26) = w4 := ⟨_, rfl⟩
  obtain ⟨X4, hX4⟩ : ∃ X4, w3.heap.size = X4 := ⟨_, rfl⟩
  have hb4 : Below w3.heap.size w3 w4 := by rw [← hw4]; exact (Below.refl _ _).alloc (Nat.le_refl _) _
  have HN4 : Hid (Own w4 X4 26 #[.int .i64 f.rows, .int .i64 f.columns, .slice pA f.massesN pC]) := by rw [Hid, ← hw4, ← hX4]; exact Own.new _ _ _
  have HP4 : Hid (SliceOf w4 1 i64cells pA f.massesN pm) := (OwnsL.sl (hpo.below' hb4) i64cells_len)
  have HB4 := Lib.hid ((HB.out.trans (hb3.mono HB.out.size)).trans (hb4.mono (Nat.le_trans HB.out.size hb3.size)))
  have HOF4 := Lib.hid ((HOF.out.grow hb3).grow hb4)
  have HX4 : Hid (X4 < w4.heap.size) := HN4.out.lt
  clear hpo hb3 hb4
  have hw4' := hw4
  go_wp2_with fail
  try rw [hw4]
  try rw [hX4]
  clear hw4 hw4' hX4
  have hgl : (gainF f.masses pm).length = f.massesN := by rw [gainF_len (by rw [HML.out, HLM.out]), HLM.out]
  have HGL := Lib.hid hgl
  clear hgl
  go_loopg [10, 11] f.massesN (fun gk s i wr => ∃ (k : Nat) (v : Value), k ≤ f.massesN ∧ gk = f.massesN - k ∧ i = .int .i64 k ∧ v = s ∧ Below w4.heap.size w4 wr ∧ OwnsL wr w4.heap.size 2 1 i64cells v ((gainF f.masses pm).take k))
  case atStart => exact ⟨0, _, Nat.zero_le _, rfl, rfl, rfl, (Below.refl _ _).alloc (Nat.le_refl _) _, OwnsL.made _ _ _ _ _ (Nat.le_refl _)⟩
  case round =>
    obtain ⟨k, v, hk, hgk, rfl, rfl, hb, hown⟩ := hrel
    have Hgk := Lib.hid hgk
    have HOWN := Lib.hid hown
    have HBR := Lib.hid hb
    clear hgk hown hb
    obtain ⟨y0, y1, y2, ly⟩ := (HOF4.out.grow HBR.out).cells
    by_cases hlt : k < f.massesN
    rotate_left
    · obtain rfl : k = f.massesN := by omega
      have HE : Hid ((gainF f.masses pm).take f.massesN = gainF f.masses pm) := List.take_of_length_le (by rw [HGL.out]; exact Nat.le_refl _)
      go_wp2
      go_ret2
      exact RetP.mk ⟨v, rfl, by have h := HOWN.out; rw [HE.out] at h; exact h.rebase HB4.out.size⟩ (HB4.out.trans (HBR.out.mono HB4.out.size))
    obtain ⟨b1, o1, x, hA1, hb1, hxk, x0⟩ := ints_at HP4.out hlt
    obtain ⟨b2, o2, y, hA2, hb2, hyk, q0⟩ := ints_at HOF4.out.gi.1 hlt
    have z2 := HN4.out.cell 2
    have lz := HN4.out.lt
    simp at z2
    obtain ⟨_, _, v2, lv⟩ := HOF4.out.cells
    rw [hA1] at z2
    rw [hA2] at v2
    have hx := massB_at HMM.out hxk
    have hy := massB_at HMB.out hyk
    have HTK : Hid ((gainF f.masses pm).take (k + 1) = (gainF f.masses pm).take k ++ [x - y]) := by
      obtain ⟨h1, h2⟩ := List.getElem?_eq_some_iff.1 (gainF_at hxk hyk)
      rw [Hid, List.take_succ_eq_append_getElem h1, h2]
    have htl : ((gainF f.masses pm).take k).length = k := by rw [List.length_take, HGL.out]; omega
    have HTL := Lib.hid htl
    obtain ⟨tk, htk⟩ : ∃ tk, (gainF f.masses pm).take k = tk := ⟨_, rfl⟩
    rw [htk] at HTK HTL HOWN
    clear hA1 hA2 hxk hyk htl htk
    have HSB : Hid (∀ w', Below w4.heap.size w4 w' → w'.cell? ⟨X4, 2, none⟩ = some (.slice (some ⟨b1, o1, none⟩) f.massesN pC) ∧ w'.cell? ⟨w.heap.size, 2, none⟩ = some (.slice (some ⟨b2, o2, none⟩) f.massesN f.massesC) ∧ w'.cell? ⟨b1, o1 + k, none⟩ = some (.int .i64 x) ∧ w'.cell? ⟨b2, o2 + k, none⟩ = some (.int .i64 y) ∧ Below w4.heap.size w4 w') := fun w' h => ⟨(h.cell lz).trans z2, (h.cell lv).trans v2, (h.cell hb1).trans x0, (h.cell hb2).trans q0, h⟩
    have hxy : IntKind.i64.wrap (x - y) = x - y := IntWalk.i64_in _ (by omega)
    have hbr := HBR.out
    clear y0 y1 y2 ly
    have y2 := (hbr.cell lv).trans v2
    go_upto_region 8 with fail
    refine wp_region_held_drew (S := (fun w' => w'.cell? ⟨X4, 2, none⟩ = some (.slice (some ⟨b1, o1, none⟩) f.massesN pC) ∧ w'.cell? ⟨w.heap.size, 2, none⟩ = some (.slice (some ⟨b2, o2, none⟩) f.massesN f.massesC) ∧ w'.cell? ⟨b1, o1 + k, none⟩ = some (.int .i64 x) ∧ w'.cell? ⟨b2, o2 + k, none⟩ = some (.int .i64 y) ∧ Below w4.heap.size w4 w')) (by kernel_rfl) (HSB.out _ (by (repeat (first | (with_reducible exact Below.refl _ _) | (with_reducible refine Below.drew ?_) | (with_reducible refine belowC_alc ?_ _) | (with_reducible refine belowC_step (by assumption) ?_))))) (fun hHeld => ?_)
    simp only [List.size_toArray, List.length_cons, List.length_nil, Nat.zero_add, Nat.reduceAdd]
    obtain ⟨wd, hwd⟩ : ∃ wd, wr.drew = wd := ⟨_, rfl⟩
    have hbd : Below wr.heap.size wr wd := by rw [← hwd]; exact (Below.refl _ _).drew
    have HOD := Lib.hid (HOWN.out.below' hbd)
    rw [hwd] at hHeld ⊢
    clear hwd
    refine wpAnyH_take (i := 0) (oi := _) (v := ?_) rfl (by kernel_rfl) (by kernel_rfl) (by kernel_rfl) (fun _ _ _ h => h) (Or.inl ⟨by rfl, ?_⟩) (by assumption) ?_
    rotate_left
    · intro w hSw; (try dsimp only at hSw); go_simp; (try with_reducible rfl)
    simp only [List.getElem_toArray, List.getElem_cons_zero, Act.put, List.setIfInBounds_toArray, List.set_cons_zero, List.set_cons_succ]
    refine wpAnyH_take (i := 1) (oi := _) (v := ?_) rfl (by kernel_rfl) (by kernel_rfl) (by kernel_rfl) (fun _ _ _ h => h) (Or.inl ⟨by rfl, ?_⟩) (by assumption) ?_
    rotate_left
    · intro w hSw; (try dsimp only at hSw); go_simp; (try with_reducible rfl)
    simp only [List.getElem_toArray, List.getElem_cons_zero, List.getElem_cons_succ, Act.put, List.setIfInBounds_toArray, List.set_cons_zero, List.set_cons_succ]
    refine wpAnyH_take (i := 2) (oi := _) (v := ?_) rfl (by kernel_rfl) (by kernel_rfl) (by kernel_rfl) (fun _ _ _ h => h) (Or.inl ⟨by rfl, ?_⟩) (by assumption) ?_
    rotate_left
    · intro w hSw; (try dsimp only at hSw); go_simp; (try with_reducible rfl)
    simp only [List.getElem_toArray, List.getElem_cons_zero, List.getElem_cons_succ, Act.put, List.setIfInBounds_toArray, List.set_cons_zero, List.set_cons_succ]
    refine wpAnyH_take (i := 3) (oi := _) (v := ?_) rfl (by kernel_rfl) (by kernel_rfl) (by kernel_rfl) (fun _ _ _ h => h) (Or.inl ⟨by rfl, ?_⟩) (by assumption) ?_
    rotate_left
    · intro w hSw; (try dsimp only at hSw); go_simp; (try with_reducible rfl)
    simp only [List.getElem_toArray, List.getElem_cons_zero, List.getElem_cons_succ, Act.put, List.setIfInBounds_toArray, List.set_cons_zero, List.set_cons_succ]
    refine wpAnyH_take (i := 4) (oi := _) (v := ?_) rfl (by kernel_rfl) (by kernel_rfl) (by kernel_rfl) (fun _ _ _ h => h) (Or.inl ⟨by rfl, ?_⟩) (by assumption) ?_
    rotate_left
    · intro w hSw; (try dsimp only at hSw); go_simp; (try with_reducible rfl)
    simp only [List.getElem_toArray, List.getElem_cons_zero, List.getElem_cons_succ, Act.put, List.setIfInBounds_toArray, List.set_cons_zero, List.set_cons_succ]
    refine wpAnyH_take (i := 5) (oi := _) (v := ?_) rfl (by kernel_rfl) (by kernel_rfl) (by kernel_rfl) (fun _ _ _ h => h) (Or.inl ⟨by rfl, ?_⟩) (by assumption) ?_
    rotate_left
    · intro w hSw; (try dsimp only at hSw); go_simp; (try with_reducible rfl)
    simp only [List.getElem_toArray, List.getElem_cons_zero, List.getElem_cons_succ, Act.put, List.setIfInBounds_toArray, List.set_cons_zero, List.set_cons_succ]
    refine wpAnyH_take (i := 6) (oi := _) (v := ?_) rfl (by kernel_rfl) (by kernel_rfl) (by kernel_rfl) (fun _ _ _ h => h) (Or.inl ⟨by rfl, ?_⟩) (by assumption) ?_
    rotate_left
    · intro w hSw; (try dsimp only at hSw); go_simp; (try with_reducible rfl)
    simp only [List.getElem_toArray, List.getElem_cons_zero, List.getElem_cons_succ, Act.put, List.setIfInBounds_toArray, List.set_cons_zero, List.set_cons_succ]
    refine wpAnyH_take (i := 7) (oi := _) (v := ?_) rfl (by kernel_rfl) (by kernel_rfl) (by kernel_rfl) (fun _ _ _ h => h) (Or.inl ⟨by rfl, ?_⟩) (by assumption) ?_
    rotate_left
    · intro w hSw; (try dsimp only at hSw); go_simp; (try with_reducible rfl)
    simp only [List.getElem_toArray, List.getElem_cons_zero, List.getElem_cons_succ, Act.put, List.setIfInBounds_toArray, List.set_cons_zero, List.set_cons_succ]
    refine wpAnyH_take (i := 8) (oi := _) (v := ?_) rfl (by kernel_rfl) (by kernel_rfl) (by kernel_rfl) (fun _ _ _ h => h) (Or.inl ⟨by rfl, ?_⟩) (by assumption) ?_
    rotate_left
    · intro w hSw; (try dsimp only at hSw); go_simp; (try with_reducible rfl)
    simp only [List.getElem_toArray, List.getElem_cons_zero, List.getElem_cons_succ, Act.put, List.setIfInBounds_toArray, List.set_cons_zero, List.set_cons_succ]
    refine wpAnyH_take (i := 9) (oi := _) (v := ?_) rfl (by kernel_rfl) (by kernel_rfl) (by kernel_rfl) (fun _ _ _ h => h) (Or.inl ⟨by rfl, ?_⟩) (by assumption) ?_
    rotate_left
    · intro w hSw; (try dsimp only at hSw); go_simp; (try with_reducible rfl)
    simp only [List.getElem_toArray, List.getElem_cons_zero, List.getElem_cons_succ, Act.put, List.setIfInBounds_toArray, List.set_cons_zero, List.set_cons_succ]
    refine wpAnyH_take (i := 10) (oi := _) (v := ?_) rfl (by kernel_rfl) (by kernel_rfl) (by kernel_rfl) (fun _ _ _ h => h) (Or.inl ⟨by rfl, ?_⟩) (by assumption) ?_
    rotate_left
    · intro w hSw; (try dsimp only at hSw); go_simp; (try with_reducible rfl)
    simp only [List.getElem_toArray, List.getElem_cons_zero, List.getElem_cons_succ, Act.put, List.setIfInBounds_toArray, List.set_cons_zero, List.set_cons_succ]
    refine wpAnyH_take (i := 11) (oi := _) (v := ?_) rfl (by kernel_rfl) (by kernel_rfl) (by kernel_rfl) (fun _ _ _ h => h) (Or.inl ⟨by rfl, ?_⟩) (by assumption) ?_
    rotate_left
    · intro w hSw; (try dsimp only at hSw); go_simp; (try with_reducible rfl)
    simp only [List.getElem_toArray, List.getElem_cons_zero, List.getElem_cons_succ, Act.put, List.setIfInBounds_toArray, List.set_cons_zero, List.set_cons_succ]
    refine wpAnyH_ready (rs := [12]) (by kernel_rfl) (by simp) ?_
    refine AllReadyH.cons (o := _) rfl (fun K hK => ?_) AllReadyH.nil
    simp only [List.getElem_toArray, List.getElem_cons_zero, List.getElem_cons_succ]
    go_simp
    refine hK.out _ _ (HSB.out _ (by (repeat (first | (with_reducible exact Below.refl _ _) | (with_reducible refine Below.drew ?_) | (with_reducible refine belowC_alc ?_ _) | (with_reducible refine belowC_step (by assumption) ?_))))) (fun hHeld2 => ?_)
    clear hK K
    try simp only [List.getElem_toArray, List.getElem_cons_zero, List.getElem_cons_succ, Act.put, List.setIfInBounds_toArray, List.set_cons_zero, List.set_cons_succ]
    refine wpAnyH_ready (rs := [13]) (by kernel_rfl) (by simp) ?_
    refine AllReadyH.cons (o := _) rfl (fun K hK => ?_) AllReadyH.nil
    (refine step_push2 (by rfl) (.tmp 29) (.tmp 41) 24 (by rfl) w4.heap.size 2 Tryz.underlying24 infoI64 (by rfl) v tk (x - y) wd.heap.size (by rfl) (HOD.out.alloc _) (by first | rfl | simp [go_sem]) (cellR_new _ _ _) (by rw [HTL.out]; omega) (by decide) (by exact (by (repeat (first | (with_reducible exact Below.refl _ _) | (with_reducible refine Below.drew ?_) | (with_reducible refine belowC_alc ?_ _) | (with_reducible refine belowC_step (by assumption) ?_))) : Below w4.heap.size w4 _).size) ?_; intro G7 cap7 w' hown' hb' _ _; rw [HTL.out] at hown' ⊢; have HBQ : Below w4.heap.size w4 w' := (by (repeat (first | (with_reducible exact Below.refl _ _) | (with_reducible refine Below.drew ?_) | (with_reducible refine belowC_alc ?_ _) | (with_reducible refine belowC_step (by assumption) ?_))) : Below w4.heap.size w4 (wd.alloc _)).trans hb')
    refine hK.out _ _ (HSB.out _ HBQ) (fun hHeld2 => ?_)
    clear hK K
    try simp only [List.getElem_toArray, List.getElem_cons_zero, List.getElem_cons_succ, Act.put, List.setIfInBounds_toArray, List.set_cons_zero, List.set_cons_succ]
    refine wpAnyH_take (i := 14) (oi := _) (v := ?_) rfl (by kernel_rfl) (by kernel_rfl) (by kernel_rfl) (fun _ _ _ h => h) (Or.inl ⟨by rfl, ?_⟩) (by assumption) ?_
    rotate_left
    · intro w hSw; (try dsimp only at hSw); go_simp; (try with_reducible rfl)
    simp only [List.getElem_toArray, List.getElem_cons_zero, List.getElem_cons_succ, Act.put, List.setIfInBounds_toArray, List.set_cons_zero, List.set_cons_succ]
    refine wpAnyH_done (by kernel_rfl) ?_ _
    have HBW : Hid (Below w4.heap.size w4 w') := HBQ
    have HW : Hid (OwnsL w' w4.heap.size 2 1 i64cells (.slice (some ⟨G7, 0, none⟩) (k + 1) cap7) ((gainF f.masses pm).take (k + 1))) := by rw [Hid, HTK.out]; exact hown'
    clear hown' hb' hHeld hHeld2 y2 v2 z2 x0 q0 hb1 hb2 lv lz hxy hbr hbd HBQ
    go_wp2
    go_roundg (f.massesN - (k + 1))
    case measure => have := Hgk.out; omega
    case rel => exact ⟨k + 1, _, by omega, rfl, by go_num, rfl, HBW.out, HW.out⟩
set_option maxHeartbeats 400000 in
theorem b10AbsF_any (m : Int) (w : World) (h : -1000000000 ≤ m ∧ m ≤ 1000000000) : Calls Tryz.prog 19 #[.int .i64 m] w (RetS (.int .i64 (max m (-m))) w) := by
  by_cases hm : m < 0
  · have HA : Hid (max m (-m) = -m) := by rw [Hid]; omega
    go_enter Tryz.func19, Tryz.ntmps19
    go_wp2
    go_ret
    exact RetS.i HA.out.symm
  · have HA : Hid (max m (-m) = m) := by rw [Hid]; omega
    go_enter Tryz.func19, Tryz.ntmps19
    go_wp2
    go_ret
    exact RetS.i HA.out.symm
set_option maxHeartbeats 1000000 in
theorem b10Has_any (v : Int) (A : Option Addr) (n c : Nat) (xs : List Int) (w : World) (hx : SliceOf w 1 i64cells A n xs) :
    Calls Tryz.prog 15 #[.slice A n c, .int .i64 v] w (RetS (.bool (hasB xs v)) w) := by
  have hn := hx.le
  have HL := Lib.hid hx.len
  go_enter Tryz.func15, Tryz.ntmps15
  go_wp2
  go_loopg [5] n (fun gk i wr => ∃ k : Nat, k ≤ n ∧ gk = n - k ∧ i = .int .i64 k ∧ w = wr ∧ NoneTo (fun z => decide (v = z)) xs k)
  case atStart => exact ⟨0, Nat.zero_le _, rfl, rfl, rfl, NoneTo.zero⟩
  case round =>
    obtain ⟨k, hk, hgk, rfl, rfl, hall⟩ := hrel
    have Hall := Lib.hid hall
    have Hgk := Lib.hid hgk
    clear hall hgk
    by_cases hlt : k < n
    · obtain ⟨b1', o1, x, rfl, hb1, hxk, x0⟩ := ints_at hx hlt
      have Hx := Lib.hid hxk
      clear hxk
      by_cases hc : x = v
      · have HE : Hid (hasB xs v = true) := by rw [Hid, hasB_iff]; exact hc ▸ List.mem_of_getElem? Hx.out
        have hd2 : (x == v) = true := by simp [hc]
        clear hc
        go_wp2
        go_ret
        exact RetS.b HE.out.symm
      · have HC : Hid (¬ v = x) := fun h => hc h.symm
        have hd2 : (x == v) = false := by simp [hc]
        clear hc
        go_wp2
        go_roundg (n - (k + 1))
        case measure => have := Hgk.out; omega
        case rel => exact ⟨k + 1, by omega, rfl, by go_num, rfl, Hall.out.step Hx.out (by simp [HC.out])⟩
    · have HE : Hid (hasB xs v = false) := any_none (by rw [HL.out]; omega) Hall.out
      go_wp2
      go_ret
      exact RetS.b HE.out.symm
set_option maxHeartbeats 1000000 in
theorem b10Rises_ok (A : Option Addr) (n c m : Nat) (xs : List Int) (w : World) (hx : SliceOf w 1 i64cells A n xs) (hb : ∀ x ∈ xs, 0 ≤ x ∧ x < m) (hr : ∀ (j : Nat) (x y : Int), xs[j]? = some x → xs[j + 1]? = some y → x < y) :
    Calls Tryz.prog 14 #[.slice A n c, .int .i64 m] w (Ret (.bool true) w) := by
  have hn := hx.le
  have HX := Lib.hid hx
  have HBB := Lib.hid hb
  have HR := Lib.hid hr
  clear hx hb hr
  go_enter Tryz.func14, Tryz.ntmps14
  go_wp2
  go_loopg [5] n (fun gk i wr => ∃ k : Nat, k ≤ n ∧ gk = n - k ∧ i = .int .i64 k ∧ Below w.heap.size w wr)
  case atStart => exact ⟨0, Nat.zero_le _, rfl, rfl, Below.refl _ _⟩
  case round =>
    obtain ⟨k, hk, hgk, rfl, hb⟩ := hrel
    have Hgk := Lib.hid hgk
    have HBR := Lib.hid hb
    clear hgk hb
    by_cases hlt : k < n
    · obtain ⟨b1, o1, x, rfl, hb1, hxk, x0⟩ := ints_at (HX.out.below HBR.out) hlt
      obtain ⟨hx0, hxm⟩ := HBB.out x (List.mem_of_getElem? hxk)
      have hx1 : decide (x < 0) = false := decide_eq_false (by omega)
      have hx2 : decide ((m : Int) ≤ x) = false := decide_eq_false (by omega)
      have hsub := fun (g : Sub wr) b o (h : b < wr.heap.size) => g.cell b o h
      by_cases hk0 : k = 0
      · subst hk0
        rw [Nat.add_zero] at x0
        clear hxk
        go_wp2_with fail
        refine wp_region_sub (by kernel_rfl) (by kernel_rfl) ?_
        repeat (go_big_quiet_step (fail))
        refine wpQuiet_nil ?_
        intro wg hg
        have HBG := Lib.hid (HBR.out.trans (hg.mono HBR.out.size))
        clear hsub x0 hg
        go_wp2
        go_roundg (n - (0 + 1))
        case measure => have := Hgk.out; omega
        case rel => exact ⟨0 + 1, by omega, rfl, by go_num, HBG.out⟩
      · obtain ⟨b2, o2, p, he, hb2, hpk, p0⟩ := ints_at (HX.out.below HBR.out) (show k - 1 < n by omega)
        injection he with he
        injection he with he1 he2 _
        subst he1 he2
        have hlt2 : p < x := HR.out (k - 1) p x hpk (by rw [show k - 1 + 1 = k by omega]; exact hxk)
        have hg1 : decide (x ≤ p) = false := decide_eq_false (by omega)
        have hk1 : 1 ≤ k := by omega
        have hkp : decide (0 < k) = true := decide_eq_true (by omega)
        have hlt' : k - 1 < n := by omega
        clear hk0
        clear hxk hpk
        go_wp2_with fail
        refine wp_region_sub (by kernel_rfl) (by kernel_rfl) ?_
        repeat (go_big_quiet_step (fail))
        refine wpQuiet_nil ?_
        intro wg hg
        have HBG := Lib.hid (HBR.out.trans (hg.mono HBR.out.size))
        clear hsub x0 p0 hg
        go_wp2
        go_roundg (n - (k + 1))
        case measure => have := Hgk.out; omega
        case rel => exact ⟨k + 1, by omega, rfl, by go_num, HBG.out⟩
    · go_wp2
      go_ret
      exact Ret.b rfl HBR.out

end Go.Proofs.YtllchmacipacnaaGreatDoor
