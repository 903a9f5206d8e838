/- A field after steps of wind: the program's side. -/
import Derived.Test.YtllchmacipacnaaGreatDoorFldG
import Derived.Test.YtllchmacipacnaaGreatDoorFldN
import Derived.Deep.RegionHeld3
import Derived.Deep.RegionLaw
import Derived.BigQuiet
namespace Go.Proofs.YtllchmacipacnaaGreatDoor
open Go.RowKit

set_option maxHeartbeats 2000000 in
theorem run_any (f : FieldR) (R C : Nat) (A : Option Addr) (n c : Nat) (ds : List Int) (share : Int) (w : World) (hin : f.In w) (hf : fieldB f.val = true) (hfr : f.rows = (R : Int)) (hfc : f.columns = (C : Int)) (hd : SliceOf w 1 i64cells A n ds) (hds : (ds.all fun y => inB y 0 3) = true) (hs0 : 0 ≤ share) (hs1 : share ≤ 1000) :
    Calls Tryz.prog 38 #[.agg #[.int .i64 f.rows, .int .i64 f.columns, .slice f.massesA f.massesN f.massesC], .slice A n c, .int .i64 share] w (fun e w' => ∃ (p : FieldR) (code : Int), e = .returned (.tuple #[.agg #[.int .i64 p.rows, .int .i64 p.columns, .slice p.massesA p.massesN p.massesC], .int .i64 code]) ∧ Below w.heap.size w w' ∧ (code = 0 → ∃ m, runP R C share (lvF ds) f.masses n = some m ∧ p.val = ⟨f.rows, f.columns, m⟩ ∧ p.massesN = f.massesN ∧ OwnsL w' w.heap.size 2 1 i64cells (.slice p.massesA p.massesN p.massesC) p.masses) ∧ p.In w') := by
  obtain ⟨R', C', hR, hC, hR1, hR8, hC1, hC8, hl, h64, hmB⟩ := fieldB_nat hf
  obtain rfl : R' = R := by have h1 : f.rows = (R' : Int) := hR; omega
  obtain rfl : C' = C := by have h1 : f.columns = (C' : Int) := hC; omega
  obtain ⟨W2, hW2⟩ : ∃ W2, (w.alloc (.cells #[.int .i64 f.rows, .int .i64 f.columns, .slice f.massesA f.massesN f.massesC] 26)).alloc (.cells #[.int .i64 0, .int .i64 0, .slice none 0 0] 26) = W2 := ⟨_, rfl⟩
  have hB : Below w.heap.size w W2 := by rw [← hW2]; exact ((Below.refl _ _).alloc (Nat.le_refl _) _).alloc (by simp) _
  have HOF : Hid (BoxF w.heap.size f W2) := ⟨by rw [← hW2]; exact (Own.new w _ _).alloc _, hin.below hB⟩
  have HOR : Hid (Own W2 (w.heap.size + 1) 26 #[.int .i64 0, .int .i64 0, .slice none 0 0]) := by have := Own.new (w.alloc (.cells #[.int .i64 f.rows, .int .i64 f.columns, .slice f.massesA f.massesN f.massesC] 26)) 26 #[.int .i64 0, .int .i64 0, .slice none 0 0]; rw [Hid, ← hW2]; simpa using this
  have HB := Lib.hid hB
  have HD := Lib.hid (hd.below hB)
  have HDS := Lib.hid hds
  have HFR := Lib.hid hfr
  have HFC := Lib.hid hfc
  have HLM : Hid (f.masses.length = f.massesN) := HOF.out.gi.1.len
  have HNM : Hid (f.massesN = R' * C') := HLM.out.symm.trans hl
  have hRC : 1 ≤ R' * C' := Nat.mul_le_mul hR1 hC1
  have hn1 : 1 ≤ f.massesN := by have := HNM.out; omega
  have hn64 : f.massesN ≤ 64 := by have := HNM.out; omega
  have HMB : Hid (massB f.masses = true) := hmB
  have HNI : Hid ((⟨0, 0, none, 0, 0, []⟩ : FieldR).In w) := ⟨SliceOf.nil_, Nat.le_refl _, by decide⟩
  have hdn := hd.le
  obtain ⟨ga, go, _, hA, _, _, _⟩ := ints_at HOF.out.gi.1 (k := 0) hn1
  obtain ⟨y0, y1, y2, ly⟩ := HOF.out.cells
  rw [hA] at y2
  have HSL : Hid (SliceOf W2 1 i64cells (some ⟨ga, go, none⟩) f.massesN f.masses) := by rw [Hid, ← hA]; exact HOF.out.gi.1
  have HCL : Hid (∀ W, Below W2.heap.size W2 W → Calls Tryz.prog 25 #[.slice (some ⟨ga, go, none⟩) f.massesN f.massesC] W (RetL 2 1 i64cells f.masses W)) := fun W hW => cloneI_any ga go f.massesN f.massesC f.masses W (HSL.out.below hW) (by omega)
  have HSB : Hid (∀ w', Below W2.heap.size W2 w' → w'.cell? ⟨w.heap.size, 0, none⟩ = some (.int .i64 f.rows) ∧ w'.cell? ⟨w.heap.size, 1, none⟩ = some (.int .i64 f.columns) ∧ w'.cell? ⟨w.heap.size, 2, none⟩ = some (.slice (some ⟨ga, go, none⟩) f.massesN f.massesC) ∧ w.heap.size < w'.heap.size ∧ Below W2.heap.size W2 w') := fun w' h => ⟨(h.cell ly).trans y0, (h.cell ly).trans y1, (h.cell ly).trans y2, Nat.lt_of_lt_of_le ly h.size, h⟩
  have HAE := Lib.hid hA
  clear hin hf hfr hfc hd hds hB hR hC hl h64 hmB hRC hA
  go_enter Tryz.func38, Tryz.ntmps38
  go_upto_region 1 with fail
  try rw [hW2]
  clear hW2
  go_upto_region 1 with fail
  go_cut [8] from 16 to 23 (fun p wx => ∃ X G cap : Nat, p = .pointer (some ⟨X, 0, none⟩) ∧ Own wx X 26 #[.int .i64 f.rows, .int .i64 f.columns, .slice (some ⟨G, 0, none⟩) f.massesN cap] ∧ OwnsL wx W2.heap.size 2 1 i64cells (.slice (some ⟨G, 0, none⟩) f.massesN cap) f.masses ∧ X ≠ G ∧ W2.heap.size ≤ X ∧ W2.heap.size ≤ G ∧ Below W2.heap.size W2 wx)
  case first =>
    refine wp_region_held_drew (S := (fun w' => w'.cell? ⟨w.heap.size, 0, none⟩ = some (.int .i64 f.rows) ∧ w'.cell? ⟨w.heap.size, 1, none⟩ = some (.int .i64 f.columns) ∧ w'.cell? ⟨w.heap.size, 2, none⟩ = some (.slice (some ⟨ga, go, none⟩) f.massesN f.massesC) ∧ w.heap.size < w'.heap.size ∧ Below W2.heap.size W2 w')) (by kernel_rfl) (HSB.out _ (by (repeat (first | (with_reducible exact Below.refl _ _) | (with_reducible refine Below.drew ?_) | (with_reducible refine belowC_alc ?_ _) | (with_reducible refine belowC_step (by assumption) ?_))))) (fun hHeld => ?_)
    simp only [List.size_toArray, List.length_cons, List.length_nil, Nat.zero_add, Nat.reduceAdd]
    refine wpAnyH_take (i := 0) (oi := _) (v := ?_) rfl (by kernel_rfl) (by kernel_rfl) (by kernel_rfl) (fun _ _ _ h => h) (Or.inl ⟨by rfl, ?_⟩) (by assumption) ?_
    rotate_left
    · intro w hSw; (try dsimp only at hSw); go_simp; (try with_reducible rfl)
    simp only [List.getElem_toArray, List.getElem_cons_zero, Act.put, List.setIfInBounds_toArray, List.set_cons_zero, List.set_cons_succ]
    refine wpAnyH_take (i := 1) (oi := _) (v := ?_) rfl (by kernel_rfl) (by kernel_rfl) (by kernel_rfl) (fun _ _ _ h => h) (Or.inl ⟨by rfl, ?_⟩) (by assumption) ?_
    rotate_left
    · intro w hSw; (try dsimp only at hSw); go_simp; (try with_reducible rfl)
    simp only [List.getElem_toArray, List.getElem_cons_zero, List.getElem_cons_succ, Act.put, List.setIfInBounds_toArray, List.set_cons_zero, List.set_cons_succ]
    refine wpAnyH_take (i := 2) (oi := _) (v := ?_) rfl (by kernel_rfl) (by kernel_rfl) (by kernel_rfl) (fun _ _ _ h => h) (Or.inl ⟨by rfl, ?_⟩) (by assumption) ?_
    rotate_left
    · intro w hSw; (try dsimp only at hSw); go_simp; (try with_reducible rfl)
    simp only [List.getElem_toArray, List.getElem_cons_zero, List.getElem_cons_succ, Act.put, List.setIfInBounds_toArray, List.set_cons_zero, List.set_cons_succ]
    refine wpAnyH_take (i := 3) (oi := _) (v := ?_) rfl (by kernel_rfl) (by kernel_rfl) (by kernel_rfl) (fun _ _ _ h => h) (Or.inl ⟨by rfl, ?_⟩) (by assumption) ?_
    rotate_left
    · intro w hSw; (try dsimp only at hSw); go_simp; (try with_reducible rfl)
    simp only [List.getElem_toArray, List.getElem_cons_zero, List.getElem_cons_succ, Act.put, List.setIfInBounds_toArray, List.set_cons_zero, List.set_cons_succ]
    refine wpAnyH_take (i := 4) (oi := _) (v := ?_) rfl (by kernel_rfl) (by kernel_rfl) (by kernel_rfl) (fun _ _ _ h => h) (Or.inl ⟨by rfl, ?_⟩) (by assumption) ?_
    rotate_left
    · intro w hSw; (try dsimp only at hSw); go_simp; (try with_reducible rfl)
    simp only [List.getElem_toArray, List.getElem_cons_zero, List.getElem_cons_succ, Act.put, List.setIfInBounds_toArray, List.set_cons_zero, List.set_cons_succ]
    refine wpAnyH_take (i := 5) (oi := _) (v := ?_) rfl (by kernel_rfl) (by kernel_rfl) (by kernel_rfl) (fun _ _ _ h => h) (Or.inl ⟨by rfl, ?_⟩) (by assumption) ?_
    rotate_left
    · intro w hSw; (try dsimp only at hSw); go_simp; (try with_reducible rfl)
    simp only [List.getElem_toArray, List.getElem_cons_zero, List.getElem_cons_succ, Act.put, List.setIfInBounds_toArray, List.set_cons_zero, List.set_cons_succ]
    refine wpAnyH_ready (rs := [6, 8]) (by kernel_rfl) (by simp) ?_
    refine AllReadyH.cons (o := _) rfl (fun K hK => ?_) (AllReadyH.cons (o := _) rfl (fun K hK => ?_) AllReadyH.nil)
    · simp only [List.getElem_toArray, List.getElem_cons_zero, List.getElem_cons_succ]
      go_simp
      go_at_call 25; (with_reducible refine Calls.mono (HCL.out _ (by (repeat (first | (with_reducible exact Below.refl _ _) | (with_reducible refine Below.drew ?_) | (with_reducible refine belowC_alc ?_ _) | (with_reducible refine belowC_step (by assumption) ?_))))) ?_); rintro e wq ⟨v, rfl, hoq, hbq⟩; obtain ⟨G, cap, rfl, hG, hG2⟩ := hoq.block (by intro h; have := HLM.out; rw [h] at this; simp at this; omega); rw [HLM.out] at hoq ⊢; have hGl : G < wq.heap.size := (hoq.lt G rfl).2
      refine hK.out _ _ (HSB.out _ (by (repeat (first | (with_reducible exact Below.refl _ _) | (with_reducible refine Below.drew ?_) | (with_reducible refine belowC_alc ?_ _) | (with_reducible refine belowC_step (by assumption) ?_))))) (fun hHeld2 => ?_)
      clear hK K
      try simp only [List.getElem_toArray, List.getElem_cons_zero, List.getElem_cons_succ, Act.put, List.setIfInBounds_toArray, List.set_cons_zero, List.set_cons_succ]
      refine wpAnyH_take (i := 7) (oi := _) (v := ?_) rfl (by kernel_rfl) (by kernel_rfl) (by kernel_rfl) (fun _ _ _ h => h) (Or.inl ⟨by rfl, ?_⟩) (by assumption) ?_
      rotate_left
      · intro w hSw; (try dsimp only at hSw); go_simp; (try with_reducible rfl)
      simp only [List.getElem_toArray, List.getElem_cons_zero, List.getElem_cons_succ, Act.put, List.setIfInBounds_toArray, List.set_cons_zero, List.set_cons_succ]
      have hW1 : W2.heap.size ≤ G := Nat.le_trans (by exact (by (repeat (first | (with_reducible exact Below.refl _ _) | (with_reducible refine Below.drew ?_) | (with_reducible refine belowC_alc ?_ _) | (with_reducible refine belowC_step (by assumption) ?_))) : Below W2.heap.size W2 _).size) hG
      refine wpAnyH_ready (rs := [8]) (by kernel_rfl) (by simp) ?_
      refine AllReadyH.cons (o := _) rfl (fun K hK => ?_) AllReadyH.nil
      simp only [List.getElem_toArray, List.getElem_cons_zero, List.getElem_cons_succ]
      go_simp
      refine hK.out _ _ (HSB.out _ (by (repeat (first | (with_reducible exact Below.refl _ _) | (with_reducible refine Below.drew ?_) | (with_reducible refine belowC_alc ?_ _) | (with_reducible refine belowC_step (by assumption) ?_))))) (fun hHeld2 => ?_)
      clear hK K
      try simp only [List.getElem_toArray, List.getElem_cons_zero, List.getElem_cons_succ, Act.put, List.setIfInBounds_toArray, List.set_cons_zero, List.set_cons_succ]
      have HX := Own.new wq 26 #[.int .i64 f.rows, .int .i64 f.columns, .slice (some ⟨G, 0, none⟩) f.massesN cap]
      refine wpAnyH_ready (rs := [9]) (by kernel_rfl) (by simp) ?_
      refine AllReadyH.cons (o := _) rfl (fun K hK => ?_) AllReadyH.nil
      simp only [List.getElem_toArray, List.getElem_cons_zero, List.getElem_cons_succ]
      go_simp
      refine hK.out _ _ (HSB.out _ (by (repeat (first | (with_reducible exact Below.refl _ _) | (with_reducible refine Below.drew ?_) | (with_reducible refine belowC_alc ?_ _) | (with_reducible refine belowC_step (by assumption) ?_))))) (fun hHeld2 => ?_)
      clear hK K
      try simp only [List.getElem_toArray, List.getElem_cons_zero, List.getElem_cons_succ, Act.put, List.setIfInBounds_toArray, List.set_cons_zero, List.set_cons_succ]
      refine wpAnyH_done (by kernel_rfl) ?_ _
      go_wp2_with fail
      go_meet
      exact ⟨_, G, cap, rfl, HX, OwnsL.rebase (hoq.alloc _) (by exact (by (repeat (first | (with_reducible exact Below.refl _ _) | (with_reducible refine Below.drew ?_) | (with_reducible refine belowC_alc ?_ _) | (with_reducible refine belowC_step (by assumption) ?_))) : Below W2.heap.size W2 _).size), by omega, by exact (by (repeat (first | (with_reducible exact Below.refl _ _) | (with_reducible refine Below.drew ?_) | (with_reducible refine belowC_alc ?_ _) | (with_reducible refine belowC_step (by assumption) ?_))) : Below W2.heap.size W2 wq).size, hW1, by (repeat (first | (with_reducible exact Below.refl _ _) | (with_reducible refine Below.drew ?_) | (with_reducible refine belowC_alc ?_ _) | (with_reducible refine belowC_step (by assumption) ?_)))⟩
    · simp only [List.getElem_toArray, List.getElem_cons_zero, List.getElem_cons_succ]
      go_simp
      refine hK.out _ _ (HSB.out _ (by (repeat (first | (with_reducible exact Below.refl _ _) | (with_reducible refine Below.drew ?_) | (with_reducible refine belowC_alc ?_ _) | (with_reducible refine belowC_step (by assumption) ?_))))) (fun hHeld2 => ?_)
      clear hK K
      try simp only [List.getElem_toArray, List.getElem_cons_zero, List.getElem_cons_succ, Act.put, List.setIfInBounds_toArray, List.set_cons_zero, List.set_cons_succ]
      refine wpAnyH_ready (rs := [6]) (by kernel_rfl) (by simp) ?_
      refine AllReadyH.cons (o := _) rfl (fun K hK => ?_) AllReadyH.nil
      simp only [List.getElem_toArray, List.getElem_cons_zero, List.getElem_cons_succ]
      go_simp
      (go_at_call 25; (with_reducible refine Calls.mono (HCL.out _ (by (repeat (first | (with_reducible exact Below.refl _ _) | (with_reducible refine Below.drew ?_) | (with_reducible refine belowC_alc ?_ _) | (with_reducible refine belowC_step (by assumption) ?_))))) ?_); rintro e wq ⟨v, rfl, hoq, hbq⟩; obtain ⟨G, cap, rfl, hG, hG2⟩ := hoq.block (by intro h; have := HLM.out; rw [h] at this; simp at this; omega); rw [HLM.out] at hoq ⊢; have hGl : G < wq.heap.size := (hoq.lt G rfl).2)
      refine hK.out _ _ (HSB.out _ (by (repeat (first | (with_reducible exact Below.refl _ _) | (with_reducible refine Below.drew ?_) | (with_reducible refine belowC_alc ?_ _) | (with_reducible refine belowC_step (by assumption) ?_))))) (fun hHeld2 => ?_)
      clear hK K
      try simp only [List.getElem_toArray, List.getElem_cons_zero, List.getElem_cons_succ, Act.put, List.setIfInBounds_toArray, List.set_cons_zero, List.set_cons_succ]
      refine wpAnyH_take (i := 7) (oi := _) (v := ?_) rfl (by kernel_rfl) (by kernel_rfl) (by kernel_rfl) (fun _ _ _ h => h) (Or.inl ⟨by rfl, ?_⟩) (by assumption) ?_
      rotate_left
      · intro w hSw; (try dsimp only at hSw); go_simp; (try with_reducible rfl)
      simp only [List.getElem_toArray, List.getElem_cons_zero, List.getElem_cons_succ, Act.put, List.setIfInBounds_toArray, List.set_cons_zero, List.set_cons_succ]
      have hW1 : W2.heap.size + 1 ≤ G := by simpa using hG
      have HOZ : Own wq W2.heap.size 26 #[.int .i64 0, .int .i64 0, .slice none 0 0] := (Own.new W2.drew 26 #[.int .i64 0, .int .i64 0, .slice none 0 0]).below' hbq
      have hBq : Below W2.heap.size W2 wq := by (repeat (first | (with_reducible exact Below.refl _ _) | (with_reducible refine Below.drew ?_) | (with_reducible refine belowC_alc ?_ _) | (with_reducible refine belowC_step (by assumption) ?_)))
      have c0 := HOZ.cell 0
      have c1 := HOZ.cell 1
      have c2 := HOZ.cell 2
      have dq := HOZ.frozen
      have lq := HOZ.lt
      simp at c0 c1 c2
      have h3 := put3 HOZ (.int .i64 f.rows) (.int .i64 f.columns) (.slice (some ⟨G, 0, none⟩) f.massesN cap) hBq (Nat.le_refl _)
      have HKQ := OwnsL.put3 hoq (R := W2.heap.size) (by omega) (.int .i64 f.rows) (.int .i64 f.columns) (.slice (some ⟨G, 0, none⟩) f.massesN cap)
      refine wpAnyH_ready (rs := [9]) (by kernel_rfl) (by simp) ?_
      refine AllReadyH.cons (o := _) rfl (fun K hK => ?_) AllReadyH.nil
      simp only [List.getElem_toArray, List.getElem_cons_zero, List.getElem_cons_succ]
      go_simp
      refine hK.out _ _ (HSB.out _ h3.2) (fun hHeld2 => ?_)
      clear hK K
      try simp only [List.getElem_toArray, List.getElem_cons_zero, List.getElem_cons_succ, Act.put, List.setIfInBounds_toArray, List.set_cons_zero, List.set_cons_succ]
      refine wpAnyH_done (by kernel_rfl) ?_ _
      go_wp2_with fail
      go_meet
      exact ⟨_, G, cap, rfl, h3.1, HKQ.rebase (by simp), by omega, Nat.le_refl _, by omega, h3.2⟩
  case rest =>
    obtain ⟨X, G, cap, rfl, hox, hog, hXG, hX, hG, hbc⟩ := hcut
    have HOX := Lib.hid hox
    have HOG := Lib.hid hog
    have HBC := Lib.hid hbc
    have HXG := Lib.hid hXG
    have HXL : Hid (W2.heap.size ≤ X ∧ W2.heap.size ≤ G) := ⟨hX, hG⟩
    clear hox hog hbc y0 y1 y2 ly HCL HSB
    go_wp2
    go_loopg [26] n (fun gk i wr => ∃ (k : Nat) (m : List Int), k ≤ n ∧ gk = n - k ∧ i = .int .i64 k ∧ runP R' C' share (lvF ds) f.masses k = some m ∧ Below W2.heap.size W2 wr ∧ Own wr X 26 #[.int .i64 f.rows, .int .i64 f.columns, .slice (some ⟨G, 0, none⟩) f.massesN cap] ∧ OwnsL wr W2.heap.size 2 1 i64cells (.slice (some ⟨G, 0, none⟩) f.massesN cap) m)
    case atStart => exact ⟨0, f.masses, Nat.zero_le _, rfl, rfl, rfl, HBC.out, HOX.out, HOG.out⟩
    case round =>
      obtain ⟨k, m, hk, hgk, rfl, hrun, hb, hox, hog⟩ := hrel
      have Hgk := Lib.hid hgk
      have HRUN := Lib.hid hrun
      have HBR := Lib.hid hb
      have HOXR := Lib.hid hox
      have HOGR := Lib.hid hog
      obtain ⟨hml, hmm⟩ := runP_ok HMB.out k hrun
      have HML : Hid (m.length = f.massesN) := hml.trans HLM.out
      have HMM := Lib.hid hmm
      clear hgk hrun hb hox hog hml hmm
      by_cases hlt : k < n
      rotate_left
      · obtain rfl : k = n := by omega
        have HOR5 := Lib.hid (HOR.out.below' HBR.out)
        have HBW : Hid (Below w.heap.size w wr) := HB.out.trans (HBR.out.mono HB.out.size)
        have HRL := Lib.hid HOR.out.lt
        have x0 := HOXR.out.cell 0
        have x1 := HOXR.out.cell 1
        have x2 := HOXR.out.cell 2
        have lX := HOXR.out.lt
        have z0 := HOR5.out.cell 0
        have z1 := HOR5.out.cell 1
        have z2 := HOR5.out.cell 2
        have dz := HOR5.out.frozen
        have lz := HOR5.out.lt
        simp at x0 x1 x2 z0 z1 z2
        go_wp2
        have h3 := put3 HOR5.out (.int .i64 f.rows) (.int .i64 f.columns) (.slice (some ⟨G, 0, none⟩) f.massesN cap) HBW.out (by omega)
        have h4 := OwnsL.put3 HOGR.out (R := w.heap.size + 1) (by have h1 := HRL.out; have h2 := HXL.out.2; omega) (.int .i64 f.rows) (.int .i64 f.columns) (.slice (some ⟨G, 0, none⟩) f.massesN cap)
        obtain ⟨wf, hwf⟩ : ∃ wf, ((wr.setCell ⟨w.heap.size + 1, 0, none⟩ (.int .i64 f.rows)).setCell ⟨w.heap.size + 1, 1, none⟩ (.int .i64 f.columns)).setCell ⟨w.heap.size + 1, 2, none⟩ (.slice (some ⟨G, 0, none⟩) f.massesN cap) = wf := ⟨_, rfl⟩
        rw [hwf] at h3 h4 ⊢
        have f0 := h3.1.cell 0
        have f1 := h3.1.cell 1
        have f2 := h3.1.cell 2
        simp at f0 f1 f2
        have h5 := h4.rebase HB.out.size
        exact bodyPost_ret (v := .tuple #[.agg #[.int .i64 f.rows, .int .i64 f.columns, .slice (some ⟨G, 0, none⟩) f.massesN cap], .int .i64 0]) (by simp [results, Tryz.results38, go_sem, f0, f1, f2]) rfl ⟨⟨f.rows, f.columns, some ⟨G, 0, none⟩, f.massesN, cap, m⟩, 0, rfl, h3.2, fun _ => ⟨m, HRUN.out, rfl, rfl, h5⟩, FieldR.in_of (p := ⟨f.rows, f.columns, some ⟨G, 0, none⟩, f.massesN, cap, m⟩) h5⟩
      obtain ⟨b1, o1, d, rfl, hb1, hdk, d0⟩ := ints_at (HD.out.below HBR.out) hlt
      have hdb : 0 ≤ d ∧ d ≤ 3 := inB_iff.1 (List.all_eq_true.1 HDS.out d (List.mem_of_getElem? hdk))
      have HLD : Hid (lvF ds k = d) := lvF_at hdk
      have x2 := HOXR.out.cell 2
      simp at x2
      clear hdk
      go_wp2_with fail
      refine (cloneI_any G 0 f.massesN cap m wr (HOGR.out.sl i64cells_len) (by omega)).mono ?_
      rintro e w3 ⟨v, rfl, hoh, hb3⟩
      obtain ⟨H, cap2, rfl, hH, _⟩ := hoh.block (by intro h; have := HML.out; rw [h] at this; simp at this; omega)
      rw [HML.out] at hoh ⊢
      have HHG : Hid (G ≠ H) := by have := (HOGR.out.lt G rfl).2; rw [Hid]; omega
      have HOH := Lib.hid (hoh.rebase HBR.out.size)
      have HB3 := Lib.hid (HBR.out.trans (hb3.mono HBR.out.size))
      have HOX3 := Lib.hid (HOXR.out.below' hb3)
      have HOG3 := Lib.hid (HOGR.out.below' hb3)
      clear hoh hb3 hH x2 d0 hb1 HOXR HOGR HBR
      go_wp2
      go_loopg [35] f.massesN (fun gk i wq => ∃ q : Nat, q ≤ f.massesN ∧ gk = f.massesN - q ∧ i = .int .i64 q ∧ Below W2.heap.size W2 wq ∧ Own wq X 26 #[.int .i64 f.rows, .int .i64 f.columns, .slice (some ⟨G, 0, none⟩) f.massesN cap] ∧ OwnsL wq W2.heap.size 2 1 i64cells (.slice (some ⟨G, 0, none⟩) f.massesN cap) (stepTo R' C' d share m q) ∧ OwnsL wq W2.heap.size 2 1 i64cells (.slice (some ⟨H, 0, none⟩) f.massesN cap2) m)
      case atStart => exact ⟨0, Nat.zero_le _, rfl, rfl, HB3.out, HOX3.out, HOG3.out, HOH.out⟩
      case round =>
        obtain ⟨q, hq, hgq, rfl, hb, hox, hog, hoh⟩ := hrel
        have HGQ := Lib.hid hgq
        have HBR := Lib.hid hb
        have HOXR := Lib.hid hox
        have HOGR := Lib.hid hog
        have HOHR := Lib.hid hoh
        clear hgq hb hox hog hoh HB3 HOX3 HOG3 HOH
        by_cases hltq : q < f.massesN
        rotate_left
        · obtain rfl : q = f.massesN := by omega
          have HSF : Hid (stepTo R' C' d share m f.massesN = stepF R' C' d share m) := by rw [Hid, stepF, HML.out]
          have hog := HOGR.out
          rw [HSF.out] at hog
          have HOGE := Lib.hid hog
          have HIN : Hid ((⟨f.rows, f.columns, some ⟨G, 0, none⟩, f.massesN, cap, stepF R' C' d share m⟩ : FieldR).In wr) := FieldR.in_of (p := ⟨f.rows, f.columns, some ⟨G, 0, none⟩, f.massesN, cap, stepF R' C' d share m⟩) hog
          have x0 := HOXR.out.cell 0
          have x1 := HOXR.out.cell 1
          have x2 := HOXR.out.cell 2
          have lX := HOXR.out.lt
          simp at x0 x1 x2
          clear hog HOGR
          go_wp2_with fail
          refine (validField_any (⟨f.rows, f.columns, some ⟨G, 0, none⟩, f.massesN, cap, stepF R' C' d share m⟩ : FieldR) _ HIN.out).mono ?_
          rintro e w5 ⟨rfl, hb5⟩
          have HOX5 := Lib.hid (HOXR.out.below' hb5)
          have HOG5 := Lib.hid (HOGE.out.below' hb5)
          have HB5 := Lib.hid (HBR.out.trans (hb5.mono HBR.out.size))
          clear x0 x1 x2 lX hb5
          cases hfb : fieldB (⟨f.rows, f.columns, some ⟨G, 0, none⟩, f.massesN, cap, stepF R' C' d share m⟩ : FieldR).val
          · have HOR5 := Lib.hid (HOR.out.below' HB5.out)
            have HBW : Hid (Below w.heap.size w w5) := HB.out.trans (HB5.out.mono HB.out.size)
            have z0 := HOR5.out.cell 0
            have z1 := HOR5.out.cell 1
            have z2 := HOR5.out.cell 2
            have dz := HOR5.out.frozen
            have lz := HOR5.out.lt
            simp at z0 z1 z2
            go_wp2
            have h3 := put3 HOR5.out (.int .i64 0) (.int .i64 0) (.slice none 0 0) HBW.out (by omega)
            obtain ⟨wf, hwf⟩ : ∃ wf, ((w5.setCell ⟨w.heap.size + 1, 0, none⟩ (.int .i64 0)).setCell ⟨w.heap.size + 1, 1, none⟩ (.int .i64 0)).setCell ⟨w.heap.size + 1, 2, none⟩ (.slice none 0 0) = wf := ⟨_, rfl⟩
            rw [hwf] at h3 ⊢
            have f0 := h3.1.cell 0
            have f1 := h3.1.cell 1
            have f2 := h3.1.cell 2
            simp at f0 f1 f2
            exact bodyPost_ret (v := .tuple #[.agg #[.int .i64 0, .int .i64 0, .slice none 0 0], .int .i64 6]) (by simp [results, Tryz.results38, go_sem, f0, f1, f2]) rfl ⟨⟨0, 0, none, 0, 0, []⟩, 6, rfl, h3.2, fun h => absurd h (by decide), HNI.out.below h3.2⟩
          · have hmb : massB (stepF R' C' d share m) = true := ((fieldB_iff _).1 hfb).2.2.2
            rw [← HLD.out] at hmb
            have HRN := Lib.hid (runP_on HRUN.out hmb)
            rw [HLD.out] at HRN
            clear hfb hmb
            go_wp2
            go_roundg (n - (k + 1))
            case measure => have := Hgk.out; omega
            case rel => exact ⟨k + 1, _, by omega, rfl, by go_num, HRN.out, HB5.out, HOX5.out, HOG5.out⟩
        obtain ⟨y, hy⟩ : ∃ y, lvF m q = y := ⟨_, rfl⟩
        have hmq : m[q]? = some y := by rw [← hy]; exact lvF_get (by rw [HML.out]; exact hltq)
        have hyb := massB_at HMM.out hmq
        have HLY := Lib.hid hy
        have h0 := HOHR.out.cellAt hmq
        have lH := (HOHR.out.lt H rfl).2
        have HOF5 := Lib.hid (HOF.out.grow HBR.out)
        obtain ⟨y0, y1, y2, ly⟩ := HOF5.out.cells
        clear hy hmq
        go_wp2_with fail
        refine (lee_any f R' C' q d wr HFR.out HFC.out hR1 hR8 hC1 hC8 (by rw [← HNM.out]; exact hltq) hdb).mono ?_
        rintro e w5 ⟨rfl, hb5⟩
        have HB5 := Lib.hid (HBR.out.trans (hb5.mono HBR.out.size))
        have HOX5 := Lib.hid (HOXR.out.below' hb5)
        have HOG5 := Lib.hid (HOGR.out.below' hb5)
        have HOH5 := Lib.hid (HOHR.out.below' hb5)
        clear y0 y1 y2 ly h0 lH hb5 HOXR HOGR HOHR HBR HOF5
        obtain ⟨tg, htg⟩ : ∃ tg, nextF R' C' q d = tg := ⟨_, rfl⟩
        by_cases ht : tg < 0
        · have HST : Hid (stepTo R' C' d share m (q + 1) = stepTo R' C' d share m q) := by rw [Hid, stepTo, htg, putF, if_pos ht]
          rw [htg]
          clear htg
          go_wp2
          go_roundg (f.massesN - (q + 1))
          case measure => have := HGQ.out; omega
          case rel => exact ⟨q + 1, by omega, rfl, by go_num, HB5.out, HOX5.out, by rw [HST.out]; exact HOG5.out, HOH5.out⟩
        have htl := nextF_lt (R := R') (C := C') (cell := q) (d := d) (by rw [htg]; omega)
        rw [htg, ← HNM.out] at htl
        obtain ⟨t, hte⟩ : ∃ t, tg.toNat = t := ⟨_, rfl⟩
        rw [hte] at htl
        obtain ⟨htn, rfl⟩ := htl
        have HST : Hid (stepTo R' C' d share m (q + 1) = ((stepTo R' C' d share m q).set q (lvF (stepTo R' C' d share m q) q - moveF share y)).set t (lvF ((stepTo R' C' d share m q).set q (lvF (stepTo R' C' d share m q) q - moveF share y)) t + moveF share y)) := by rw [Hid, stepTo, htg, HLY.out, putF, if_neg ht, hte]
        rw [htg]
        have hmvb := moveF_le (share := share) (m := y) ⟨hs0, hs1⟩ hyb
        obtain ⟨mv, hmv⟩ : ∃ mv, moveF share y = mv := ⟨_, rfl⟩
        obtain ⟨o, ho⟩ : ∃ o, stepTo R' C' d share m q = o := ⟨_, rfl⟩
        have hob := stepTo_bound (R := R') (C := C') (d := d) HMM.out ⟨hs0, hs1⟩ q
        have hol := stepTo_len (R := R') (C := C') (d := d) (share := share) (ms := m) q
        rw [hmv, ho] at HST
        rw [hmv] at hmvb
        rw [ho] at HOG5 hob hol
        rw [HML.out] at hol
        have HOL := Lib.hid hol
        obtain ⟨_, hob2⟩ := putF_bound (c := q) (tg := (t : Int)) hob hmvb
        have hv := hob q
        have hv2 := hob2 t
        have HMV : Hid (rndDiv (y * share) 1000 = mv) := hmv
        obtain ⟨P, hP⟩ : ∃ P, y * share = P := ⟨_, rfl⟩
        have hPb : 0 ≤ P ∧ P ≤ 1000000000 := by
          have h1 : 0 ≤ y * share := Int.mul_nonneg hyb.1 hs0
          have h2 : y * share ≤ 1000000 * 1000 := Int.mul_le_mul hyb.2 hs1 hs0 (by omega)
          omega
        have hPw : IntKind.i64.wrap (y * share) = P := by rw [hP]; exact IntWalk.i64_in _ (by omega)
        rw [hP] at HMV
        clear htg hte ho hmv hob hob2 hol hP ht
        go_wp2_with fail
        refine (divRound_any P 1000 w5 (by omega) (by omega) (by omega) (by omega) (by omega)).mono ?_
        rintro e w6 ⟨rfl, hb6⟩
        rw [HMV.out]
        have HB6 := Lib.hid (HB5.out.trans (hb6.mono HB5.out.size))
        have HOX6 := Lib.hid (HOX5.out.below' hb6)
        have HOG6 := Lib.hid (HOG5.out.below' hb6)
        have HOH6 := Lib.hid (HOH5.out.below' hb6)
        clear hb6 hPw hPb HOX5 HOG5 HOH5 HB5
        obtain ⟨v, hve⟩ : ∃ v, lvF o q = v := ⟨_, rfl⟩
        rw [hve] at hv
        have c0 := HOG6.out.cellAt (k := q) (x := v) (by rw [← hve]; exact lvF_get (by rw [HOL.out]; exact hltq))
        have x2 := HOX6.out.cell 2
        have df := HOG6.out.frozen
        have lG := (HOG6.out.lt G rfl).2
        simp at x2
        have HVE := Lib.hid hve
        clear hve
        go_upto_region 13 with fail
        clear c0 x2 df lG
        obtain ⟨w7, hw7⟩ : ∃ w7, w6.setCell ⟨G, q, none⟩ (.int .i64 (v - mv)) = w7 := ⟨_, rfl⟩
        rw [HVE.out] at HST hv2
        have hB7 : Below W2.heap.size W2 w7 := by rw [← hw7]; exact HB6.out.setCell HXL.out.2 _
        have hX7 : Own w7 X 26 #[.int .i64 f.rows, .int .i64 f.columns, .slice (some ⟨G, 0, none⟩) f.massesN cap] := by rw [← hw7]; exact HOX6.out.far HXG.out _
        have hG7 : OwnsL w7 W2.heap.size 2 1 i64cells (.slice (some ⟨G, 0, none⟩) f.massesN cap) (o.set q (v - mv)) := by rw [← hw7]; exact HOG6.out.setAt _
        have hH7 : OwnsL w7 W2.heap.size 2 1 i64cells (.slice (some ⟨H, 0, none⟩) f.massesN cap2) m := by
          rw [← hw7]
          exact HOH6.out.kept (fun b hb => Below.heap_setCell w6 ⟨G, q, none⟩ _ b (by
            have h1 : H = b := by injection hb
            have h2 := HHG.out
            simp only; omega))
        rw [hw7]
        obtain ⟨u, hu⟩ : ∃ u, lvF (o.set q (v - mv)) t = u := ⟨_, rfl⟩
        rw [hu] at HST hv2
        have c0 := hG7.cellAt (k := t) (x := u) (by rw [← hu]; exact lvF_get (by rw [List.length_set, HOL.out]; exact htn))
        have x2 := hX7.cell 2
        have df := hG7.frozen
        have lG := (hG7.lt G rfl).2
        simp at x2
        have hS8 := hG7.setAt (k := t) (u + mv)
        rw [← HST.out] at hS8
        have HS8 := Lib.hid hS8
        have HB8 : Hid (Below W2.heap.size W2 (w7.setCell ⟨G, t, none⟩ (.int .i64 (u + mv)))) := hB7.setCell HXL.out.2 _
        have HX8 : Hid (Own (w7.setCell ⟨G, t, none⟩ (.int .i64 (u + mv))) X 26 #[.int .i64 f.rows, .int .i64 f.columns, .slice (some ⟨G, 0, none⟩) f.massesN cap]) := hX7.far HXG.out _
        have HH8 : Hid (OwnsL (w7.setCell ⟨G, t, none⟩ (.int .i64 (u + mv))) W2.heap.size 2 1 i64cells (.slice (some ⟨H, 0, none⟩) f.massesN cap2) m) := hH7.kept (fun b hb => Below.heap_setCell w7 ⟨G, t, none⟩ _ b (by
            have h1 : H = b := by injection hb
            have h2 := HHG.out
            simp only; omega))
        clear hw7 hB7 hX7 hG7 hH7 hu hS8 HOX6 HOG6 HOH6
        go_wp2
        go_roundg (f.massesN - (q + 1))
        case measure => have := HGQ.out; omega
        case rel => exact ⟨q + 1, by omega, rfl, by go_num, HB8.out, HX8.out, HS8.out, HH8.out⟩

end Go.Proofs.YtllchmacipacnaaGreatDoor
