/- A field after steps of wind: the reference's side. -/
import Derived.Test.YtllchmacipacnaaGreatDoorFldR
import Derived.Deep.RegionHeld3
import Derived.Deep.RegionLaw
import Derived.BigQuiet
namespace Go.Proofs.YtllchmacipacnaaGreatDoor
open Go.RowKit

set_option maxHeartbeats 2000000 in
theorem l06Step_ok (X0 : Nat) (f : FieldR) (R C : Nat) (d share : Int) (w : World) (h : BoxF X0 f w) (hf : fieldB f.val = true) (hfr : f.rows = (R : Int)) (hfc : f.columns = (C : Int)) (hd0 : 0 ≤ d) (hd3 : d ≤ 3) (hs0 : 0 ≤ share) (hs1 : share ≤ 1000) :
    Calls Tryz.prog 46 #[.pointer (some ⟨X0, 0, none⟩), .int .i64 d, .int .i64 share] w (fun e w' => ∃ p : FieldR, e = .returned (.agg #[.int .i64 p.rows, .int .i64 p.columns, .slice p.massesA p.massesN p.massesC]) ∧ p.val = ⟨f.rows, f.columns, stepF R C d share f.masses⟩ ∧ p.massesN = f.massesN ∧ OwnsL w' w.heap.size 2 1 i64cells (.slice p.massesA p.massesN p.massesC) p.masses ∧ Below w.heap.size w w') := by
  obtain ⟨R', C', hR, hC, hR1, hR8, hC1, hC8, hl, h64, hmB⟩ := fieldB_nat hf
  obtain rfl : R' = R := by have h1 : f.rows = (R' : Int) := hR; omega
  obtain rfl : C' = C := by have h1 : f.columns = (C' : Int) := hC; omega
  obtain ⟨W2, hW2⟩ : ∃ W2, w.alloc (.cells #[.int .i64 0, .int .i64 0, .slice none 0 0] 26) = W2 := ⟨_, rfl⟩
  have hB : Below w.heap.size w W2 := by rw [← hW2]; exact (Below.refl _ _).alloc (Nat.le_refl _) _
  have HOF : Hid (BoxF X0 f W2) := h.grow hB
  have HOR : Hid (Own W2 w.heap.size 26 #[.int .i64 0, .int .i64 0, .slice none 0 0]) := by rw [Hid, ← hW2]; exact Own.new _ _ _
  have HB := Lib.hid hB
  have HFR := Lib.hid hfr
  have HFC := Lib.hid hfc
  have HLM : Hid (f.masses.length = f.massesN) := HOF.out.gi.1.len
  have HNM : Hid (f.massesN = R' * C') := HLM.out.symm.trans hl
  have hRC : 1 ≤ R' * C' := Nat.mul_le_mul hR1 hC1
  have hn1 : 1 ≤ f.massesN := by have := HNM.out; omega
  have hn64 : f.massesN ≤ 64 := by have := HNM.out; omega
  have HMB : Hid (massB f.masses = true) := hmB
  obtain ⟨ga, go, _, hA, _, _, _⟩ := ints_at HOF.out.gi.1 (k := 0) hn1
  obtain ⟨y0, y1, y2, ly⟩ := HOF.out.cells
  rw [hA] at y2
  have HSL : Hid (SliceOf W2 1 i64cells (some ⟨ga, go, none⟩) f.massesN f.masses) := by rw [Hid, ← hA]; exact HOF.out.gi.1
  have HCL : Hid (∀ W, Below W2.heap.size W2 W → Calls Tryz.prog 57 #[.slice (some ⟨ga, go, none⟩) f.massesN f.massesC] W (RetL 2 1 i64cells f.masses W)) := fun W hW => l00Own_any ga go f.massesN f.massesC f.masses W (HSL.out.below hW) (by omega)
  have HSB : Hid (∀ w', Below W2.heap.size W2 w' → w'.cell? ⟨X0, 0, none⟩ = some (.int .i64 f.rows) ∧ w'.cell? ⟨X0, 1, none⟩ = some (.int .i64 f.columns) ∧ w'.cell? ⟨X0, 2, none⟩ = some (.slice (some ⟨ga, go, none⟩) f.massesN f.massesC) ∧ X0 < w'.heap.size ∧ Below W2.heap.size W2 w') := fun w' h => ⟨(h.cell ly).trans y0, (h.cell ly).trans y1, (h.cell ly).trans y2, Nat.lt_of_lt_of_le ly h.size, h⟩
  have HAE := Lib.hid hA
  clear h hf hfr hfc hB hR hC hl h64 hmB hRC hA
  go_enter Tryz.func46, Tryz.ntmps46
  go_upto_region 1 with fail
  try rw [hW2]
  clear hW2
  go_upto_region 1 with fail
  go_cut [7] from 11 to 24 (fun p wx => ∃ X G cap : Nat, p = .pointer (some ⟨X, 0, none⟩) ∧ Own wx X 26 #[.int .i64 f.rows, .int .i64 f.columns, .slice (some ⟨G, 0, none⟩) f.massesN cap] ∧ OwnsL wx W2.heap.size 2 1 i64cells (.slice (some ⟨G, 0, none⟩) f.massesN cap) f.masses ∧ X ≠ G ∧ W2.heap.size ≤ X ∧ W2.heap.size ≤ G ∧ Below W2.heap.size W2 wx)
  case first =>
    refine wp_region_held_drew (S := (fun w' => w'.cell? ⟨X0, 0, none⟩ = some (.int .i64 f.rows) ∧ w'.cell? ⟨X0, 1, none⟩ = some (.int .i64 f.columns) ∧ w'.cell? ⟨X0, 2, none⟩ = some (.slice (some ⟨ga, go, none⟩) f.massesN f.massesC) ∧ X0 < w'.heap.size ∧ Below W2.heap.size W2 w')) (by kernel_rfl) (HSB.out _ (by (repeat (first | (with_reducible exact Below.refl _ _) | (with_reducible refine Below.drew ?_) | (with_reducible refine belowC_alc ?_ _) | (with_reducible refine belowC_step (by assumption) ?_))))) (fun hHeld => ?_)
    simp only [List.size_toArray, List.length_cons, List.length_nil, Nat.zero_add, Nat.reduceAdd]
    refine wpAnyH_take (i := 0) (oi := _) (v := ?_) rfl (by kernel_rfl) (by kernel_rfl) (by kernel_rfl) (fun _ _ _ h => h) (Or.inl ⟨by rfl, ?_⟩) (by assumption) ?_
    rotate_left
    · intro w hSw; (try dsimp only at hSw); go_simp; (try with_reducible rfl)
    simp only [List.getElem_toArray, List.getElem_cons_zero, Act.put, List.setIfInBounds_toArray, List.set_cons_zero, List.set_cons_succ]
    refine wpAnyH_take (i := 1) (oi := _) (v := ?_) rfl (by kernel_rfl) (by kernel_rfl) (by kernel_rfl) (fun _ _ _ h => h) (Or.inl ⟨by rfl, ?_⟩) (by assumption) ?_
    rotate_left
    · intro w hSw; (try dsimp only at hSw); go_simp; (try with_reducible rfl)
    simp only [List.getElem_toArray, List.getElem_cons_zero, List.getElem_cons_succ, Act.put, List.setIfInBounds_toArray, List.set_cons_zero, List.set_cons_succ]
    refine wpAnyH_take (i := 2) (oi := _) (v := ?_) rfl (by kernel_rfl) (by kernel_rfl) (by kernel_rfl) (fun _ _ _ h => h) (Or.inl ⟨by rfl, ?_⟩) (by assumption) ?_
    rotate_left
    · intro w hSw; (try dsimp only at hSw); go_simp; (try with_reducible rfl)
    simp only [List.getElem_toArray, List.getElem_cons_zero, List.getElem_cons_succ, Act.put, List.setIfInBounds_toArray, List.set_cons_zero, List.set_cons_succ]
    refine wpAnyH_take (i := 3) (oi := _) (v := ?_) rfl (by kernel_rfl) (by kernel_rfl) (by kernel_rfl) (fun _ _ _ h => h) (Or.inl ⟨by rfl, ?_⟩) (by assumption) ?_
    rotate_left
    · intro w hSw; (try dsimp only at hSw); go_simp; (try with_reducible rfl)
    simp only [List.getElem_toArray, List.getElem_cons_zero, List.getElem_cons_succ, Act.put, List.setIfInBounds_toArray, List.set_cons_zero, List.set_cons_succ]
    refine wpAnyH_take (i := 4) (oi := _) (v := ?_) rfl (by kernel_rfl) (by kernel_rfl) (by kernel_rfl) (fun _ _ _ h => h) (Or.inl ⟨by rfl, ?_⟩) (by assumption) ?_
    rotate_left
    · intro w hSw; (try dsimp only at hSw); go_simp; (try with_reducible rfl)
    simp only [List.getElem_toArray, List.getElem_cons_zero, List.getElem_cons_succ, Act.put, List.setIfInBounds_toArray, List.set_cons_zero, List.set_cons_succ]
    refine wpAnyH_take (i := 5) (oi := _) (v := ?_) rfl (by kernel_rfl) (by kernel_rfl) (by kernel_rfl) (fun _ _ _ h => h) (Or.inl ⟨by rfl, ?_⟩) (by assumption) ?_
    rotate_left
    · intro w hSw; (try dsimp only at hSw); go_simp; (try with_reducible rfl)
    simp only [List.getElem_toArray, List.getElem_cons_zero, List.getElem_cons_succ, Act.put, List.setIfInBounds_toArray, List.set_cons_zero, List.set_cons_succ]
    refine wpAnyH_take (i := 6) (oi := _) (v := ?_) rfl (by kernel_rfl) (by kernel_rfl) (by kernel_rfl) (fun _ _ _ h => h) (Or.inl ⟨by rfl, ?_⟩) (by assumption) ?_
    rotate_left
    · intro w hSw; (try dsimp only at hSw); go_simp; (try with_reducible rfl)
    simp only [List.getElem_toArray, List.getElem_cons_zero, List.getElem_cons_succ, Act.put, List.setIfInBounds_toArray, List.set_cons_zero, List.set_cons_succ]
    refine wpAnyH_take (i := 7) (oi := _) (v := ?_) rfl (by kernel_rfl) (by kernel_rfl) (by kernel_rfl) (fun _ _ _ h => h) (Or.inl ⟨by rfl, ?_⟩) (by assumption) ?_
    rotate_left
    · intro w hSw; (try dsimp only at hSw); go_simp; (try with_reducible rfl)
    simp only [List.getElem_toArray, List.getElem_cons_zero, List.getElem_cons_succ, Act.put, List.setIfInBounds_toArray, List.set_cons_zero, List.set_cons_succ]
    refine wpAnyH_take (i := 8) (oi := _) (v := ?_) rfl (by kernel_rfl) (by kernel_rfl) (by kernel_rfl) (fun _ _ _ h => h) (Or.inl ⟨by rfl, ?_⟩) (by assumption) ?_
    rotate_left
    · intro w hSw; (try dsimp only at hSw); go_simp; (try with_reducible rfl)
    simp only [List.getElem_toArray, List.getElem_cons_zero, List.getElem_cons_succ, Act.put, List.setIfInBounds_toArray, List.set_cons_zero, List.set_cons_succ]
    refine wpAnyH_take (i := 9) (oi := _) (v := ?_) rfl (by kernel_rfl) (by kernel_rfl) (by kernel_rfl) (fun _ _ _ h => h) (Or.inl ⟨by rfl, ?_⟩) (by assumption) ?_
    rotate_left
    · intro w hSw; (try dsimp only at hSw); go_simp; (try with_reducible rfl)
    simp only [List.getElem_toArray, List.getElem_cons_zero, List.getElem_cons_succ, Act.put, List.setIfInBounds_toArray, List.set_cons_zero, List.set_cons_succ]
    refine wpAnyH_take (i := 10) (oi := _) (v := ?_) rfl (by kernel_rfl) (by kernel_rfl) (by kernel_rfl) (fun _ _ _ h => h) (Or.inl ⟨by rfl, ?_⟩) (by assumption) ?_
    rotate_left
    · intro w hSw; (try dsimp only at hSw); go_simp; (try with_reducible rfl)
    simp only [List.getElem_toArray, List.getElem_cons_zero, List.getElem_cons_succ, Act.put, List.setIfInBounds_toArray, List.set_cons_zero, List.set_cons_succ]
    refine wpAnyH_take (i := 11) (oi := _) (v := ?_) rfl (by kernel_rfl) (by kernel_rfl) (by kernel_rfl) (fun _ _ _ h => h) (Or.inl ⟨by rfl, ?_⟩) (by assumption) ?_
    rotate_left
    · intro w hSw; (try dsimp only at hSw); go_simp; (try with_reducible rfl)
    simp only [List.getElem_toArray, List.getElem_cons_zero, List.getElem_cons_succ, Act.put, List.setIfInBounds_toArray, List.set_cons_zero, List.set_cons_succ]
    refine wpAnyH_ready (rs := [12, 14]) (by kernel_rfl) (by simp) ?_
    refine AllReadyH.cons (o := _) rfl (fun K hK => ?_) (AllReadyH.cons (o := _) rfl (fun K hK => ?_) AllReadyH.nil)
    · simp only [List.getElem_toArray, List.getElem_cons_zero, List.getElem_cons_succ]
      go_simp
      go_at_call 57; (with_reducible refine Calls.mono (HCL.out _ (by (repeat (first | (with_reducible exact Below.refl _ _) | (with_reducible refine Below.drew ?_) | (with_reducible refine belowC_alc ?_ _) | (with_reducible refine belowC_step (by assumption) ?_))))) ?_); rintro e wq ⟨v, rfl, hoq, hbq⟩; obtain ⟨G, cap, rfl, hG, hG2⟩ := hoq.block (by intro h; have := HLM.out; rw [h] at this; simp at this; omega); rw [HLM.out] at hoq ⊢; have hGl : G < wq.heap.size := (hoq.lt G rfl).2
      refine hK.out _ _ (HSB.out _ (by (repeat (first | (with_reducible exact Below.refl _ _) | (with_reducible refine Below.drew ?_) | (with_reducible refine belowC_alc ?_ _) | (with_reducible refine belowC_step (by assumption) ?_))))) (fun hHeld2 => ?_)
      clear hK K
      try simp only [List.getElem_toArray, List.getElem_cons_zero, List.getElem_cons_succ, Act.put, List.setIfInBounds_toArray, List.set_cons_zero, List.set_cons_succ]
      refine wpAnyH_take (i := 13) (oi := _) (v := ?_) rfl (by kernel_rfl) (by kernel_rfl) (by kernel_rfl) (fun _ _ _ h => h) (Or.inl ⟨by rfl, ?_⟩) (by assumption) ?_
      rotate_left
      · intro w hSw; (try dsimp only at hSw); go_simp; (try with_reducible rfl)
      simp only [List.getElem_toArray, List.getElem_cons_zero, List.getElem_cons_succ, Act.put, List.setIfInBounds_toArray, List.set_cons_zero, List.set_cons_succ]
      have hW1 : W2.heap.size ≤ G := Nat.le_trans (by exact (by (repeat (first | (with_reducible exact Below.refl _ _) | (with_reducible refine Below.drew ?_) | (with_reducible refine belowC_alc ?_ _) | (with_reducible refine belowC_step (by assumption) ?_))) : Below W2.heap.size W2 _).size) hG
      refine wpAnyH_ready (rs := [14]) (by kernel_rfl) (by simp) ?_
      refine AllReadyH.cons (o := _) rfl (fun K hK => ?_) AllReadyH.nil
      simp only [List.getElem_toArray, List.getElem_cons_zero, List.getElem_cons_succ]
      go_simp
      refine hK.out _ _ (HSB.out _ (by (repeat (first | (with_reducible exact Below.refl _ _) | (with_reducible refine Below.drew ?_) | (with_reducible refine belowC_alc ?_ _) | (with_reducible refine belowC_step (by assumption) ?_))))) (fun hHeld2 => ?_)
      clear hK K
      try simp only [List.getElem_toArray, List.getElem_cons_zero, List.getElem_cons_succ, Act.put, List.setIfInBounds_toArray, List.set_cons_zero, List.set_cons_succ]
      have HX := Own.new wq 26 #[.int .i64 f.rows, .int .i64 f.columns, .slice (some ⟨G, 0, none⟩) f.massesN cap]
      refine wpAnyH_ready (rs := [15]) (by kernel_rfl) (by simp) ?_
      refine AllReadyH.cons (o := _) rfl (fun K hK => ?_) AllReadyH.nil
      simp only [List.getElem_toArray, List.getElem_cons_zero, List.getElem_cons_succ]
      go_simp
      refine hK.out _ _ (HSB.out _ (by (repeat (first | (with_reducible exact Below.refl _ _) | (with_reducible refine Below.drew ?_) | (with_reducible refine belowC_alc ?_ _) | (with_reducible refine belowC_step (by assumption) ?_))))) (fun hHeld2 => ?_)
      clear hK K
      try simp only [List.getElem_toArray, List.getElem_cons_zero, List.getElem_cons_succ, Act.put, List.setIfInBounds_toArray, List.set_cons_zero, List.set_cons_succ]
      refine wpAnyH_done (by kernel_rfl) ?_ _
      go_wp2_with fail
      go_meet
      exact ⟨_, G, cap, rfl, HX, OwnsL.rebase (hoq.alloc _) (by exact (by (repeat (first | (with_reducible exact Below.refl _ _) | (with_reducible refine Below.drew ?_) | (with_reducible refine belowC_alc ?_ _) | (with_reducible refine belowC_step (by assumption) ?_))) : Below W2.heap.size W2 _).size), by omega, by exact (by (repeat (first | (with_reducible exact Below.refl _ _) | (with_reducible refine Below.drew ?_) | (with_reducible refine belowC_alc ?_ _) | (with_reducible refine belowC_step (by assumption) ?_))) : Below W2.heap.size W2 wq).size, hW1, by (repeat (first | (with_reducible exact Below.refl _ _) | (with_reducible refine Below.drew ?_) | (with_reducible refine belowC_alc ?_ _) | (with_reducible refine belowC_step (by assumption) ?_)))⟩
    · simp only [List.getElem_toArray, List.getElem_cons_zero, List.getElem_cons_succ]
      go_simp
      refine hK.out _ _ (HSB.out _ (by (repeat (first | (with_reducible exact Below.refl _ _) | (with_reducible refine Below.drew ?_) | (with_reducible refine belowC_alc ?_ _) | (with_reducible refine belowC_step (by assumption) ?_))))) (fun hHeld2 => ?_)
      clear hK K
      try simp only [List.getElem_toArray, List.getElem_cons_zero, List.getElem_cons_succ, Act.put, List.setIfInBounds_toArray, List.set_cons_zero, List.set_cons_succ]
      refine wpAnyH_ready (rs := [12]) (by kernel_rfl) (by simp) ?_
      refine AllReadyH.cons (o := _) rfl (fun K hK => ?_) AllReadyH.nil
      simp only [List.getElem_toArray, List.getElem_cons_zero, List.getElem_cons_succ]
      go_simp
      (go_at_call 57; (with_reducible refine Calls.mono (HCL.out _ (by (repeat (first | (with_reducible exact Below.refl _ _) | (with_reducible refine Below.drew ?_) | (with_reducible refine belowC_alc ?_ _) | (with_reducible refine belowC_step (by assumption) ?_))))) ?_); rintro e wq ⟨v, rfl, hoq, hbq⟩; obtain ⟨G, cap, rfl, hG, hG2⟩ := hoq.block (by intro h; have := HLM.out; rw [h] at this; simp at this; omega); rw [HLM.out] at hoq ⊢; have hGl : G < wq.heap.size := (hoq.lt G rfl).2)
      refine hK.out _ _ (HSB.out _ (by (repeat (first | (with_reducible exact Below.refl _ _) | (with_reducible refine Below.drew ?_) | (with_reducible refine belowC_alc ?_ _) | (with_reducible refine belowC_step (by assumption) ?_))))) (fun hHeld2 => ?_)
      clear hK K
      try simp only [List.getElem_toArray, List.getElem_cons_zero, List.getElem_cons_succ, Act.put, List.setIfInBounds_toArray, List.set_cons_zero, List.set_cons_succ]
      refine wpAnyH_take (i := 13) (oi := _) (v := ?_) rfl (by kernel_rfl) (by kernel_rfl) (by kernel_rfl) (fun _ _ _ h => h) (Or.inl ⟨by rfl, ?_⟩) (by assumption) ?_
      rotate_left
      · intro w hSw; (try dsimp only at hSw); go_simp; (try with_reducible rfl)
      simp only [List.getElem_toArray, List.getElem_cons_zero, List.getElem_cons_succ, Act.put, List.setIfInBounds_toArray, List.set_cons_zero, List.set_cons_succ]
      have hW1 : W2.heap.size + 1 ≤ G := by simpa using hG
      have HOZ : Own wq W2.heap.size 26 #[.int .i64 0, .int .i64 0, .slice none 0 0] := (Own.new W2.drew 26 #[.int .i64 0, .int .i64 0, .slice none 0 0]).below' hbq
      have hBq : Below W2.heap.size W2 wq := by (repeat (first | (with_reducible exact Below.refl _ _) | (with_reducible refine Below.drew ?_) | (with_reducible refine belowC_alc ?_ _) | (with_reducible refine belowC_step (by assumption) ?_)))
      have c0 := HOZ.cell 0
      have c1 := HOZ.cell 1
      have c2 := HOZ.cell 2
      have dq := HOZ.frozen
      have lq := HOZ.lt
      simp at c0 c1 c2
      have h3 := put3 HOZ (.int .i64 f.rows) (.int .i64 f.columns) (.slice (some ⟨G, 0, none⟩) f.massesN cap) hBq (Nat.le_refl _)
      have HKQ := OwnsL.put3 hoq (R := W2.heap.size) (by omega) (.int .i64 f.rows) (.int .i64 f.columns) (.slice (some ⟨G, 0, none⟩) f.massesN cap)
      refine wpAnyH_ready (rs := [15]) (by kernel_rfl) (by simp) ?_
      refine AllReadyH.cons (o := _) rfl (fun K hK => ?_) AllReadyH.nil
      simp only [List.getElem_toArray, List.getElem_cons_zero, List.getElem_cons_succ]
      go_simp
      refine hK.out _ _ (HSB.out _ h3.2) (fun hHeld2 => ?_)
      clear hK K
      try simp only [List.getElem_toArray, List.getElem_cons_zero, List.getElem_cons_succ, Act.put, List.setIfInBounds_toArray, List.set_cons_zero, List.set_cons_succ]
      refine wpAnyH_done (by kernel_rfl) ?_ _
      go_wp2_with fail
      go_meet
      exact ⟨_, G, cap, rfl, h3.1, HKQ.rebase (by simp), by omega, Nat.le_refl _, by omega, h3.2⟩
  case rest =>
    obtain ⟨X, G, cap, rfl, hox, hog, hXG, hX, hG, hbc⟩ := hcut
    have HOX := Lib.hid hox
    have HOG := Lib.hid hog
    have HBC := Lib.hid hbc
    have HXG := Lib.hid hXG
    have HXL : Hid (W2.heap.size ≤ X ∧ W2.heap.size ≤ G) := ⟨hX, hG⟩
    clear hox hog hbc y0 y1 y2 ly HCL HSB
    go_wp2
    go_loopg [8] f.massesN (fun gk i wq => ∃ q : Nat, q ≤ f.massesN ∧ gk = f.massesN - q ∧ i = .int .i64 q ∧ Below W2.heap.size W2 wq ∧ Own wq X 26 #[.int .i64 f.rows, .int .i64 f.columns, .slice (some ⟨G, 0, none⟩) f.massesN cap] ∧ OwnsL wq W2.heap.size 2 1 i64cells (.slice (some ⟨G, 0, none⟩) f.massesN cap) (stepTo R' C' d share f.masses q))
    case atStart => exact ⟨0, Nat.zero_le _, rfl, rfl, HBC.out, HOX.out, HOG.out⟩
    case round =>
      obtain ⟨q, hq, hgq, rfl, hb, hox, hog⟩ := hrel
      have HGQ := Lib.hid hgq
      have HBR := Lib.hid hb
      have HOXR := Lib.hid hox
      have HOGR := Lib.hid hog
      have HOF5 := Lib.hid (HOF.out.grow hb)
      clear hgq hb hox hog
      obtain ⟨y0, y1, y2, ly⟩ := HOF5.out.cells
      rw [HAE.out] at y2
      by_cases hltq : q < f.massesN
      rotate_left
      · obtain rfl : q = f.massesN := by omega
        have HSF : Hid (stepTo R' C' d share f.masses f.massesN = stepF R' C' d share f.masses) := by rw [Hid, stepF, HLM.out]
        have hog := HOGR.out
        rw [HSF.out] at hog
        have HOGE := Lib.hid hog
        have HOR5 := Lib.hid (HOR.out.below' HBR.out)
        have HBW : Hid (Below w.heap.size w wr) := HB.out.trans (HBR.out.mono HB.out.size)
        have HRL := Lib.hid HOR.out.lt
        have x0 := HOXR.out.cell 0
        have x1 := HOXR.out.cell 1
        have x2 := HOXR.out.cell 2
        have lX := HOXR.out.lt
        have z0 := HOR5.out.cell 0
        have z1 := HOR5.out.cell 1
        have z2 := HOR5.out.cell 2
        have dz := HOR5.out.frozen
        have lz := HOR5.out.lt
        simp at x0 x1 x2 z0 z1 z2
        clear hog HOGR
        go_wp2
        have h3 := put3 HOR5.out (.int .i64 f.rows) (.int .i64 f.columns) (.slice (some ⟨G, 0, none⟩) f.massesN cap) HBW.out (Nat.le_refl _)
        have h4 := OwnsL.put3 HOGE.out (R := w.heap.size) (by have h1 := HRL.out; have h2 := HXL.out.2; omega) (.int .i64 f.rows) (.int .i64 f.columns) (.slice (some ⟨G, 0, none⟩) f.massesN cap)
        obtain ⟨wf, hwf⟩ : ∃ wf, ((wr.setCell ⟨w.heap.size, 0, none⟩ (.int .i64 f.rows)).setCell ⟨w.heap.size, 1, none⟩ (.int .i64 f.columns)).setCell ⟨w.heap.size, 2, none⟩ (.slice (some ⟨G, 0, none⟩) f.massesN cap) = wf := ⟨_, rfl⟩
        rw [hwf] at h3 h4 ⊢
        have f0 := h3.1.cell 0
        have f1 := h3.1.cell 1
        have f2 := h3.1.cell 2
        simp at f0 f1 f2
        have h5 := h4.rebase HB.out.size
        exact bodyPost_ret (v := .agg #[.int .i64 f.rows, .int .i64 f.columns, .slice (some ⟨G, 0, none⟩) f.massesN cap]) (by simp [results, Tryz.results46, go_sem, f0, f1, f2]) rfl ⟨⟨f.rows, f.columns, some ⟨G, 0, none⟩, f.massesN, cap, stepF R' C' d share f.masses⟩, rfl, rfl, rfl, h5, h3.2⟩
      obtain ⟨y, hy⟩ : ∃ y, lvF f.masses q = y := ⟨_, rfl⟩
      have hmq : f.masses[q]? = some y := by rw [← hy]; exact lvF_get (by rw [HLM.out]; exact hltq)
      have hyb := massB_at HMB.out hmq
      have HLY := Lib.hid hy
      obtain ⟨b1, o1, y', hA1, hb1, hyk, q0⟩ := ints_at (HSL.out.below HBR.out) hltq
      injection hA1 with hA1
      injection hA1 with e1 e2 _
      subst e1 e2
      obtain rfl : y = y' := by rw [hmq] at hyk; injection hyk
      have HNX := Lib.hid (l06Next_any X0 R' C' q d wr (by rw [← HFR.out]; exact y0) (by rw [← HFC.out]; exact y1) hR1 hR8 hC1 hC8 (by rw [← HNM.out]; exact hltq) ⟨hd0, hd3⟩)
      clear hy hmq hyk
      go_wp2_with fail
      refine HNX.out.mono ?_
      rintro e w5 ⟨rfl, rfl⟩
      obtain ⟨tg, htg⟩ : ∃ tg, nextF R' C' q d = tg := ⟨_, rfl⟩
      by_cases ht : tg < 0
      · have HST : Hid (stepTo R' C' d share f.masses (q + 1) = stepTo R' C' d share f.masses q) := by rw [Hid, stepTo, htg, putF, if_pos ht]
        rw [htg]
        clear htg HNX
        go_wp2
        go_roundg (f.massesN - (q + 1))
        case measure => have := HGQ.out; omega
        case rel => exact ⟨q + 1, by omega, rfl, by go_num, HBR.out, HOXR.out, by rw [HST.out]; exact HOGR.out⟩
      have htl := nextF_lt (R := R') (C := C') (cell := q) (d := d) (by rw [htg]; omega)
      rw [htg, ← HNM.out] at htl
      obtain ⟨t, hte⟩ : ∃ t, tg.toNat = t := ⟨_, rfl⟩
      rw [hte] at htl
      obtain ⟨htn, rfl⟩ := htl
      have HST : Hid (stepTo R' C' d share f.masses (q + 1) = ((stepTo R' C' d share f.masses q).set q (lvF (stepTo R' C' d share f.masses q) q - moveF share y)).set t (lvF ((stepTo R' C' d share f.masses q).set q (lvF (stepTo R' C' d share f.masses q) q - moveF share y)) t + moveF share y)) := by rw [Hid, stepTo, htg, HLY.out, putF, if_neg ht, hte]
      rw [htg]
      have hmvb := moveF_le (share := share) (m := y) ⟨hs0, hs1⟩ hyb
      obtain ⟨mv, hmv⟩ : ∃ mv, moveF share y = mv := ⟨_, rfl⟩
      obtain ⟨o, ho⟩ : ∃ o, stepTo R' C' d share f.masses q = o := ⟨_, rfl⟩
      have hob := stepTo_bound (R := R') (C := C') (d := d) HMB.out ⟨hs0, hs1⟩ q
      have hol := stepTo_len (R := R') (C := C') (d := d) (share := share) (ms := f.masses) q
      rw [hmv, ho] at HST
      rw [hmv] at hmvb
      rw [ho] at HOGR hob hol
      rw [HLM.out] at hol
      have HOL := Lib.hid hol
      obtain ⟨_, hob2⟩ := putF_bound (c := q) (tg := (t : Int)) hob hmvb
      have hv := hob q
      have hv2 := hob2 t
      have HMV : Hid (rndDiv (y * share) 1000 = mv) := hmv
      obtain ⟨P, hP⟩ : ∃ P, y * share = P := ⟨_, rfl⟩
      have hPb : 0 ≤ P ∧ P ≤ 1000000000 := by
        have h1 : 0 ≤ y * share := Int.mul_nonneg hyb.1 hs0
        have h2 : y * share ≤ 1000000 * 1000 := Int.mul_le_mul hyb.2 hs1 hs0 (by omega)
        omega
      have hPw : IntKind.i64.wrap (y * share) = P := by rw [hP]; exact IntWalk.i64_in _ (by omega)
      rw [hP] at HMV
      clear htg hte ho hmv hob hob2 hol hP ht HNX
      go_wp2_with fail
      refine (l01Div_any P 1000 wr (by omega) (by omega) (by omega) (by omega) (by omega)).mono ?_
      rintro e w6 ⟨rfl, rfl⟩
      rw [HMV.out]
      clear hPw hPb y0 y1 y2 ly q0
      obtain ⟨v, hve⟩ : ∃ v, lvF o q = v := ⟨_, rfl⟩
      rw [hve] at hv
      have c0 := HOGR.out.cellAt (k := q) (x := v) (by rw [← hve]; exact lvF_get (by rw [HOL.out]; exact hltq))
      have x2 := HOXR.out.cell 2
      have df := HOGR.out.frozen
      have lG := (HOGR.out.lt G rfl).2
      simp at x2
      have HVE := Lib.hid hve
      clear hve
      go_upto_region 9 with fail
      clear c0 x2 df lG
      obtain ⟨w7, hw7⟩ : ∃ w7, wr.setCell ⟨G, q, none⟩ (.int .i64 (v - mv)) = w7 := ⟨_, rfl⟩
      rw [HVE.out] at HST hv2
      have hB7 : Below W2.heap.size W2 w7 := by rw [← hw7]; exact HBR.out.setCell HXL.out.2 _
      have hX7 : Own w7 X 26 #[.int .i64 f.rows, .int .i64 f.columns, .slice (some ⟨G, 0, none⟩) f.massesN cap] := by rw [← hw7]; exact HOXR.out.far HXG.out _
      have hG7 : OwnsL w7 W2.heap.size 2 1 i64cells (.slice (some ⟨G, 0, none⟩) f.massesN cap) (o.set q (v - mv)) := by rw [← hw7]; exact HOGR.out.setAt _
      rw [hw7]
      obtain ⟨u, hu⟩ : ∃ u, lvF (o.set q (v - mv)) t = u := ⟨_, rfl⟩
      rw [hu] at HST hv2
      have c0 := hG7.cellAt (k := t) (x := u) (by rw [← hu]; exact lvF_get (by rw [List.length_set, HOL.out]; exact htn))
      have x2 := hX7.cell 2
      have df := hG7.frozen
      have lG := (hG7.lt G rfl).2
      simp at x2
      have hS8 := hG7.setAt (k := t) (u + mv)
      rw [← HST.out] at hS8
      have HS8 := Lib.hid hS8
      have HB8 : Hid (Below W2.heap.size W2 (w7.setCell ⟨G, t, none⟩ (.int .i64 (u + mv)))) := hB7.setCell HXL.out.2 _
      have HX8 : Hid (Own (w7.setCell ⟨G, t, none⟩ (.int .i64 (u + mv))) X 26 #[.int .i64 f.rows, .int .i64 f.columns, .slice (some ⟨G, 0, none⟩) f.massesN cap]) := hX7.far HXG.out _
      clear hw7 hB7 hX7 hG7 hu hS8 HOXR HOGR HBR HOF5
      go_wp2
      go_roundg (f.massesN - (q + 1))
      case measure => have := HGQ.out; omega
      case rel => exact ⟨q + 1, by omega, rfl, by go_num, HB8.out, HX8.out, HS8.out⟩

end Go.Proofs.YtllchmacipacnaaGreatDoor
