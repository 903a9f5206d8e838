/- Runs of steps, a step and gains: the reference's side, where all is well. -/
import Derived.Test.YtllchmacipacnaaGreatDoorFldS
import Derived.Test.YtllchmacipacnaaGreatDoorFldL
import Derived.Deep.RegionHeld3
import Derived.Deep.RegionLaw
import Derived.BigQuiet
namespace Go.Proofs.YtllchmacipacnaaGreatDoor
open Go.RowKit

set_option maxHeartbeats 2000000 in
theorem l06Run_ok (X0 : Nat) (f : FieldR) (R C : Nat) (A : Option Addr) (n c : Nat) (ds : List Int) (share : Int) (m : List Int) (w : World) (h : BoxF X0 f w) (hf : fieldB f.val = true) (hfr : f.rows = (R : Int)) (hfc : f.columns = (C : Int)) (hd : SliceOf w 1 i64cells A n ds) (hn24 : n ≤ 24) (hds : (ds.all fun y => inB y 0 3) = true) (hs0 : 0 ≤ share) (hs1 : share ≤ 1000) (hrun : runP R C share (lvF ds) f.masses n = some m) :
    Calls Tryz.prog 36 #[.pointer (some ⟨X0, 0, none⟩), .slice A n c, .int .i64 share] w (fun e w' => ∃ p : FieldR, e = .returned (.tuple #[.agg #[.int .i64 p.rows, .int .i64 p.columns, .slice p.massesA p.massesN p.massesC], .int .i64 0]) ∧ p.val = ⟨f.rows, f.columns, m⟩ ∧ p.massesN = f.massesN ∧ OwnsL w' w.heap.size 2 1 i64cells (.slice p.massesA p.massesN p.massesC) p.masses ∧ Below w.heap.size w w') := by
  obtain ⟨R', C', hR, hC, hR1, hR8, hC1, hC8, hl, h64, hmB⟩ := fieldB_nat hf
  obtain rfl : R' = R := by have h1 : f.rows = (R' : Int) := hR; omega
  obtain rfl : C' = C := by have h1 : f.columns = (C' : Int) := hC; omega
  obtain ⟨W1, hW1⟩ : ∃ W1, w.alloc (.cells #[.int .i64 0, .int .i64 0, .slice none 0 0] 26) = W1 := ⟨_, rfl⟩
  have hB : Below w.heap.size w W1 := by rw [← hW1]; exact (Below.refl _ _).alloc (Nat.le_refl _) _
  have HOF1 : Hid (BoxF X0 f W1) := h.grow hB
  have HOR1 : Hid (Own W1 w.heap.size 26 #[.int .i64 0, .int .i64 0, .slice none 0 0]) := by rw [Hid, ← hW1]; exact Own.new _ _ _
  have HB := Lib.hid hB
  have HD1 := Lib.hid (hd.below hB)
  have HDS := Lib.hid hds
  have HF := Lib.hid hf
  have HFR := Lib.hid hfr
  have HFC := Lib.hid hfc
  have HRUN := Lib.hid hrun
  have HLM : Hid (f.masses.length = f.massesN) := HOF1.out.gi.1.len
  have HNM : Hid (f.massesN = R' * C') := HLM.out.symm.trans hl
  have hRC : 1 ≤ R' * C' := Nat.mul_le_mul hR1 hC1
  have hn1 : 1 ≤ f.massesN := by have := HNM.out; omega
  have hn64 : f.massesN ≤ 64 := by have := HNM.out; omega
  have HMB : Hid (massB f.masses = true) := hmB
  have hsh : inB share 0 1000 = true := inB_iff.2 ⟨hs0, hs1⟩
  clear h hf hfr hfc hd hds hB hR hC hl h64 hmB hRC hrun
  go_enter Tryz.func36, Tryz.ntmps36
  go_wp2_with fail
  try rw [hW1]
  clear hW1
  refine (l06Ok_ok X0 f W1 HOF1.out HF.out).mono ?_
  rintro e w1 ⟨rfl, hb1⟩
  have HOF2 := Lib.hid (HOF1.out.grow hb1)
  have HOR2 := Lib.hid (HOR1.out.below' hb1)
  have HB2 := Lib.hid (HB.out.trans (hb1.mono HB.out.size))
  have HD2 := Lib.hid (HD1.out.below hb1)
  clear hb1
  go_wp2_with fail
  refine (l06Share_any share w1).mono ?_
  rintro e w2 ⟨rfl, rfl⟩
  rw [hsh]
  clear hsh
  go_wp2
  go_loopg [8] n (fun gk i wr => ∃ k : Nat, k ≤ n ∧ gk = n - k ∧ i = .int .i64 k ∧ w1 = wr)
  case atStart => exact ⟨0, Nat.zero_le _, rfl, rfl, rfl⟩
  case round =>
    obtain ⟨k, hk, hgk, rfl, rfl⟩ := hrel
    have Hgk := Lib.hid hgk
    clear hgk
    by_cases hlt : k < n
    · obtain ⟨b1, o1, d, rfl, hb1, hdk, d0⟩ := ints_at HD2.out hlt
      have HDI : Hid (inB d 0 3 = true) := List.all_eq_true.1 HDS.out d (List.mem_of_getElem? hdk)
      clear hdk
      go_wp2_with (go_at_call 44; refine (l06Wind_any _ _).mono ?_; rintro e w' ⟨rfl, rfl⟩; rw [HDI.out])
      go_roundg (n - (k + 1))
      case measure => have := Hgk.out; omega
      case rel => exact ⟨k + 1, by omega, rfl, by go_num, rfl⟩
    obtain rfl : k = n := by omega
    obtain ⟨ga, go, _, hA, _, _, _⟩ := ints_at HOF2.out.gi.1 (k := 0) hn1
    obtain ⟨y0, y1, y2, ly⟩ := HOF2.out.cells
    rw [hA] at y2
    have HSL : Hid (SliceOf w1 1 i64cells (some ⟨ga, go, none⟩) f.massesN f.masses) := by rw [Hid, ← hA]; exact HOF2.out.gi.1
    have HCL : Hid (∀ W, Below w1.heap.size w1 W → Calls Tryz.prog 57 #[.slice (some ⟨ga, go, none⟩) f.massesN f.massesC] W (RetL 2 1 i64cells f.masses W)) := fun W hW => l00Own_any ga go f.massesN f.massesC f.masses W (HSL.out.below hW) (by omega)
    have HSB : Hid (∀ w', Below w1.heap.size w1 w' → w'.cell? ⟨X0, 0, none⟩ = some (.int .i64 f.rows) ∧ w'.cell? ⟨X0, 1, none⟩ = some (.int .i64 f.columns) ∧ w'.cell? ⟨X0, 2, none⟩ = some (.slice (some ⟨ga, go, none⟩) f.massesN f.massesC) ∧ X0 < w'.heap.size ∧ Below w1.heap.size w1 w') := fun w' h => ⟨(h.cell ly).trans y0, (h.cell ly).trans y1, (h.cell ly).trans y2, Nat.lt_of_lt_of_le ly h.size, h⟩
    clear hA
    go_upto_region 10 with fail
    go_cut [9] from 37 to 50 (fun p wx => ∃ X G cap : Nat, p = .pointer (some ⟨X, 0, none⟩) ∧ Own wx X 26 #[.int .i64 f.rows, .int .i64 f.columns, .slice (some ⟨G, 0, none⟩) f.massesN cap] ∧ OwnsL wx w1.heap.size 2 1 i64cells (.slice (some ⟨G, 0, none⟩) f.massesN cap) f.masses ∧ X ≠ G ∧ w1.heap.size ≤ X ∧ w1.heap.size ≤ G ∧ Below w1.heap.size w1 wx)
    case first =>
      refine wp_region_held_drew (S := (fun w' => w'.cell? ⟨X0, 0, none⟩ = some (.int .i64 f.rows) ∧ w'.cell? ⟨X0, 1, none⟩ = some (.int .i64 f.columns) ∧ w'.cell? ⟨X0, 2, none⟩ = some (.slice (some ⟨ga, go, none⟩) f.massesN f.massesC) ∧ X0 < w'.heap.size ∧ Below w1.heap.size w1 w')) (by kernel_rfl) (HSB.out _ (by (repeat (first | (with_reducible exact Below.refl _ _) | (with_reducible refine Below.drew ?_) | (with_reducible refine belowC_alc ?_ _) | (with_reducible refine belowC_step (by assumption) ?_))))) (fun hHeld => ?_)
      simp only [List.size_toArray, List.length_cons, List.length_nil, Nat.zero_add, Nat.reduceAdd]
      refine wpAnyH_take (i := 0) (oi := _) (v := ?_) rfl (by kernel_rfl) (by kernel_rfl) (by kernel_rfl) (fun _ _ _ h => h) (Or.inl ⟨by rfl, ?_⟩) (by assumption) ?_
      rotate_left
      · intro w hSw; (try dsimp only at hSw); go_simp; (try with_reducible rfl)
      simp only [List.getElem_toArray, List.getElem_cons_zero, Act.put, List.setIfInBounds_toArray, List.set_cons_zero, List.set_cons_succ]
      refine wpAnyH_take (i := 1) (oi := _) (v := ?_) rfl (by kernel_rfl) (by kernel_rfl) (by kernel_rfl) (fun _ _ _ h => h) (Or.inl ⟨by rfl, ?_⟩) (by assumption) ?_
      rotate_left
      · intro w hSw; (try dsimp only at hSw); go_simp; (try with_reducible rfl)
      simp only [List.getElem_toArray, List.getElem_cons_zero, List.getElem_cons_succ, Act.put, List.setIfInBounds_toArray, List.set_cons_zero, List.set_cons_succ]
      refine wpAnyH_take (i := 2) (oi := _) (v := ?_) rfl (by kernel_rfl) (by kernel_rfl) (by kernel_rfl) (fun _ _ _ h => h) (Or.inl ⟨by rfl, ?_⟩) (by assumption) ?_
      rotate_left
      · intro w hSw; (try dsimp only at hSw); go_simp; (try with_reducible rfl)
      simp only [List.getElem_toArray, List.getElem_cons_zero, List.getElem_cons_succ, Act.put, List.setIfInBounds_toArray, List.set_cons_zero, List.set_cons_succ]
      refine wpAnyH_take (i := 3) (oi := _) (v := ?_) rfl (by kernel_rfl) (by kernel_rfl) (by kernel_rfl) (fun _ _ _ h => h) (Or.inl ⟨by rfl, ?_⟩) (by assumption) ?_
      rotate_left
      · intro w hSw; (try dsimp only at hSw); go_simp; (try with_reducible rfl)
      simp only [List.getElem_toArray, List.getElem_cons_zero, List.getElem_cons_succ, Act.put, List.setIfInBounds_toArray, List.set_cons_zero, List.set_cons_succ]
      refine wpAnyH_take (i := 4) (oi := _) (v := ?_) rfl (by kernel_rfl) (by kernel_rfl) (by kernel_rfl) (fun _ _ _ h => h) (Or.inl ⟨by rfl, ?_⟩) (by assumption) ?_
      rotate_left
      · intro w hSw; (try dsimp only at hSw); go_simp; (try with_reducible rfl)
      simp only [List.getElem_toArray, List.getElem_cons_zero, List.getElem_cons_succ, Act.put, List.setIfInBounds_toArray, List.set_cons_zero, List.set_cons_succ]
      refine wpAnyH_take (i := 5) (oi := _) (v := ?_) rfl (by kernel_rfl) (by kernel_rfl) (by kernel_rfl) (fun _ _ _ h => h) (Or.inl ⟨by rfl, ?_⟩) (by assumption) ?_
      rotate_left
      · intro w hSw; (try dsimp only at hSw); go_simp; (try with_reducible rfl)
      simp only [List.getElem_toArray, List.getElem_cons_zero, List.getElem_cons_succ, Act.put, List.setIfInBounds_toArray, List.set_cons_zero, List.set_cons_succ]
      refine wpAnyH_take (i := 6) (oi := _) (v := ?_) rfl (by kernel_rfl) (by kernel_rfl) (by kernel_rfl) (fun _ _ _ h => h) (Or.inl ⟨by rfl, ?_⟩) (by assumption) ?_
      rotate_left
      · intro w hSw; (try dsimp only at hSw); go_simp; (try with_reducible rfl)
      simp only [List.getElem_toArray, List.getElem_cons_zero, List.getElem_cons_succ, Act.put, List.setIfInBounds_toArray, List.set_cons_zero, List.set_cons_succ]
      refine wpAnyH_take (i := 7) (oi := _) (v := ?_) rfl (by kernel_rfl) (by kernel_rfl) (by kernel_rfl) (fun _ _ _ h => h) (Or.inl ⟨by rfl, ?_⟩) (by assumption) ?_
      rotate_left
      · intro w hSw; (try dsimp only at hSw); go_simp; (try with_reducible rfl)
      simp only [List.getElem_toArray, List.getElem_cons_zero, List.getElem_cons_succ, Act.put, List.setIfInBounds_toArray, List.set_cons_zero, List.set_cons_succ]
      refine wpAnyH_take (i := 8) (oi := _) (v := ?_) rfl (by kernel_rfl) (by kernel_rfl) (by kernel_rfl) (fun _ _ _ h => h) (Or.inl ⟨by rfl, ?_⟩) (by assumption) ?_
      rotate_left
      · intro w hSw; (try dsimp only at hSw); go_simp; (try with_reducible rfl)
      simp only [List.getElem_toArray, List.getElem_cons_zero, List.getElem_cons_succ, Act.put, List.setIfInBounds_toArray, List.set_cons_zero, List.set_cons_succ]
      refine wpAnyH_take (i := 9) (oi := _) (v := ?_) rfl (by kernel_rfl) (by kernel_rfl) (by kernel_rfl) (fun _ _ _ h => h) (Or.inl ⟨by rfl, ?_⟩) (by assumption) ?_
      rotate_left
      · intro w hSw; (try dsimp only at hSw); go_simp; (try with_reducible rfl)
      simp only [List.getElem_toArray, List.getElem_cons_zero, List.getElem_cons_succ, Act.put, List.setIfInBounds_toArray, List.set_cons_zero, List.set_cons_succ]
      refine wpAnyH_take (i := 10) (oi := _) (v := ?_) rfl (by kernel_rfl) (by kernel_rfl) (by kernel_rfl) (fun _ _ _ h => h) (Or.inl ⟨by rfl, ?_⟩) (by assumption) ?_
      rotate_left
      · intro w hSw; (try dsimp only at hSw); go_simp; (try with_reducible rfl)
      simp only [List.getElem_toArray, List.getElem_cons_zero, List.getElem_cons_succ, Act.put, List.setIfInBounds_toArray, List.set_cons_zero, List.set_cons_succ]
      refine wpAnyH_take (i := 11) (oi := _) (v := ?_) rfl (by kernel_rfl) (by kernel_rfl) (by kernel_rfl) (fun _ _ _ h => h) (Or.inl ⟨by rfl, ?_⟩) (by assumption) ?_
      rotate_left
      · intro w hSw; (try dsimp only at hSw); go_simp; (try with_reducible rfl)
      simp only [List.getElem_toArray, List.getElem_cons_zero, List.getElem_cons_succ, Act.put, List.setIfInBounds_toArray, List.set_cons_zero, List.set_cons_succ]
      refine wpAnyH_ready (rs := [12, 14]) (by kernel_rfl) (by simp) ?_
      refine AllReadyH.cons (o := _) rfl (fun K hK => ?_) (AllReadyH.cons (o := _) rfl (fun K hK => ?_) AllReadyH.nil)
      · simp only [List.getElem_toArray, List.getElem_cons_zero, List.getElem_cons_succ]
        go_simp
        go_at_call 57; (with_reducible refine Calls.mono (HCL.out _ (by (repeat (first | (with_reducible exact Below.refl _ _) | (with_reducible refine Below.drew ?_) | (with_reducible refine belowC_alc ?_ _) | (with_reducible refine belowC_step (by assumption) ?_))))) ?_); rintro e wq ⟨v, rfl, hoq, hbq⟩; obtain ⟨G, cap, rfl, hG, hG2⟩ := hoq.block (by intro h; have := HLM.out; rw [h] at this; simp at this; omega); rw [HLM.out] at hoq ⊢; have hGl : G < wq.heap.size := (hoq.lt G rfl).2
        refine hK.out _ _ (HSB.out _ (by (repeat (first | (with_reducible exact Below.refl _ _) | (with_reducible refine Below.drew ?_) | (with_reducible refine belowC_alc ?_ _) | (with_reducible refine belowC_step (by assumption) ?_))))) (fun hHeld2 => ?_)
        clear hK K
        try simp only [List.getElem_toArray, List.getElem_cons_zero, List.getElem_cons_succ, Act.put, List.setIfInBounds_toArray, List.set_cons_zero, List.set_cons_succ]
        refine wpAnyH_take (i := 13) (oi := _) (v := ?_) rfl (by kernel_rfl) (by kernel_rfl) (by kernel_rfl) (fun _ _ _ h => h) (Or.inl ⟨by rfl, ?_⟩) (by assumption) ?_
        rotate_left
        · intro w hSw; (try dsimp only at hSw); go_simp; (try with_reducible rfl)
        simp only [List.getElem_toArray, List.getElem_cons_zero, List.getElem_cons_succ, Act.put, List.setIfInBounds_toArray, List.set_cons_zero, List.set_cons_succ]
        have hW1 : w1.heap.size ≤ G := Nat.le_trans (by exact (by (repeat (first | (with_reducible exact Below.refl _ _) | (with_reducible refine Below.drew ?_) | (with_reducible refine belowC_alc ?_ _) | (with_reducible refine belowC_step (by assumption) ?_))) : Below w1.heap.size w1 _).size) hG
        refine wpAnyH_ready (rs := [14]) (by kernel_rfl) (by simp) ?_
        refine AllReadyH.cons (o := _) rfl (fun K hK => ?_) AllReadyH.nil
        simp only [List.getElem_toArray, List.getElem_cons_zero, List.getElem_cons_succ]
        go_simp
        refine hK.out _ _ (HSB.out _ (by (repeat (first | (with_reducible exact Below.refl _ _) | (with_reducible refine Below.drew ?_) | (with_reducible refine belowC_alc ?_ _) | (with_reducible refine belowC_step (by assumption) ?_))))) (fun hHeld2 => ?_)
        clear hK K
        try simp only [List.getElem_toArray, List.getElem_cons_zero, List.getElem_cons_succ, Act.put, List.setIfInBounds_toArray, List.set_cons_zero, List.set_cons_succ]
        have HX := Own.new wq 26 #[.int .i64 f.rows, .int .i64 f.columns, .slice (some ⟨G, 0, none⟩) f.massesN cap]
        refine wpAnyH_ready (rs := [15]) (by kernel_rfl) (by simp) ?_
        refine AllReadyH.cons (o := _) rfl (fun K hK => ?_) AllReadyH.nil
        simp only [List.getElem_toArray, List.getElem_cons_zero, List.getElem_cons_succ]
        go_simp
        refine hK.out _ _ (HSB.out _ (by (repeat (first | (with_reducible exact Below.refl _ _) | (with_reducible refine Below.drew ?_) | (with_reducible refine belowC_alc ?_ _) | (with_reducible refine belowC_step (by assumption) ?_))))) (fun hHeld2 => ?_)
        clear hK K
        try simp only [List.getElem_toArray, List.getElem_cons_zero, List.getElem_cons_succ, Act.put, List.setIfInBounds_toArray, List.set_cons_zero, List.set_cons_succ]
        refine wpAnyH_done (by kernel_rfl) ?_ _
        go_wp2_with fail
        go_meet
        exact ⟨_, G, cap, rfl, HX, OwnsL.rebase (hoq.alloc _) (by exact (by (repeat (first | (with_reducible exact Below.refl _ _) | (with_reducible refine Below.drew ?_) | (with_reducible refine belowC_alc ?_ _) | (with_reducible refine belowC_step (by assumption) ?_))) : Below w1.heap.size w1 _).size), by omega, by exact (by (repeat (first | (with_reducible exact Below.refl _ _) | (with_reducible refine Below.drew ?_) | (with_reducible refine belowC_alc ?_ _) | (with_reducible refine belowC_step (by assumption) ?_))) : Below w1.heap.size w1 wq).size, hW1, by (repeat (first | (with_reducible exact Below.refl _ _) | (with_reducible refine Below.drew ?_) | (with_reducible refine belowC_alc ?_ _) | (with_reducible refine belowC_step (by assumption) ?_)))⟩
      · simp only [List.getElem_toArray, List.getElem_cons_zero, List.getElem_cons_succ]
        go_simp
        refine hK.out _ _ (HSB.out _ (by (repeat (first | (with_reducible exact Below.refl _ _) | (with_reducible refine Below.drew ?_) | (with_reducible refine belowC_alc ?_ _) | (with_reducible refine belowC_step (by assumption) ?_))))) (fun hHeld2 => ?_)
        clear hK K
        try simp only [List.getElem_toArray, List.getElem_cons_zero, List.getElem_cons_succ, Act.put, List.setIfInBounds_toArray, List.set_cons_zero, List.set_cons_succ]
        refine wpAnyH_ready (rs := [12]) (by kernel_rfl) (by simp) ?_
        refine AllReadyH.cons (o := _) rfl (fun K hK => ?_) AllReadyH.nil
        simp only [List.getElem_toArray, List.getElem_cons_zero, List.getElem_cons_succ]
        go_simp
        (go_at_call 57; (with_reducible refine Calls.mono (HCL.out _ (by (repeat (first | (with_reducible exact Below.refl _ _) | (with_reducible refine Below.drew ?_) | (with_reducible refine belowC_alc ?_ _) | (with_reducible refine belowC_step (by assumption) ?_))))) ?_); rintro e wq ⟨v, rfl, hoq, hbq⟩; obtain ⟨G, cap, rfl, hG, hG2⟩ := hoq.block (by intro h; have := HLM.out; rw [h] at this; simp at this; omega); rw [HLM.out] at hoq ⊢; have hGl : G < wq.heap.size := (hoq.lt G rfl).2)
        refine hK.out _ _ (HSB.out _ (by (repeat (first | (with_reducible exact Below.refl _ _) | (with_reducible refine Below.drew ?_) | (with_reducible refine belowC_alc ?_ _) | (with_reducible refine belowC_step (by assumption) ?_))))) (fun hHeld2 => ?_)
        clear hK K
        try simp only [List.getElem_toArray, List.getElem_cons_zero, List.getElem_cons_succ, Act.put, List.setIfInBounds_toArray, List.set_cons_zero, List.set_cons_succ]
        refine wpAnyH_take (i := 13) (oi := _) (v := ?_) rfl (by kernel_rfl) (by kernel_rfl) (by kernel_rfl) (fun _ _ _ h => h) (Or.inl ⟨by rfl, ?_⟩) (by assumption) ?_
        rotate_left
        · intro w hSw; (try dsimp only at hSw); go_simp; (try with_reducible rfl)
        simp only [List.getElem_toArray, List.getElem_cons_zero, List.getElem_cons_succ, Act.put, List.setIfInBounds_toArray, List.set_cons_zero, List.set_cons_succ]
        have hW1 : w1.heap.size + 1 ≤ G := by simpa using hG
        have HOZ : Own wq w1.heap.size 26 #[.int .i64 0, .int .i64 0, .slice none 0 0] := (Own.new w1.drew 26 #[.int .i64 0, .int .i64 0, .slice none 0 0]).below' hbq
        have hBq : Below w1.heap.size w1 wq := by (repeat (first | (with_reducible exact Below.refl _ _) | (with_reducible refine Below.drew ?_) | (with_reducible refine belowC_alc ?_ _) | (with_reducible refine belowC_step (by assumption) ?_)))
        have c0 := HOZ.cell 0
        have c1 := HOZ.cell 1
        have c2 := HOZ.cell 2
        have dq := HOZ.frozen
        have lq := HOZ.lt
        simp at c0 c1 c2
        have h3 := put3 HOZ (.int .i64 f.rows) (.int .i64 f.columns) (.slice (some ⟨G, 0, none⟩) f.massesN cap) hBq (Nat.le_refl _)
        have HKQ := OwnsL.put3 hoq (R := w1.heap.size) (by omega) (.int .i64 f.rows) (.int .i64 f.columns) (.slice (some ⟨G, 0, none⟩) f.massesN cap)
        refine wpAnyH_ready (rs := [15]) (by kernel_rfl) (by simp) ?_
        refine AllReadyH.cons (o := _) rfl (fun K hK => ?_) AllReadyH.nil
        simp only [List.getElem_toArray, List.getElem_cons_zero, List.getElem_cons_succ]
        go_simp
        refine hK.out _ _ (HSB.out _ h3.2) (fun hHeld2 => ?_)
        clear hK K
        try simp only [List.getElem_toArray, List.getElem_cons_zero, List.getElem_cons_succ, Act.put, List.setIfInBounds_toArray, List.set_cons_zero, List.set_cons_succ]
        refine wpAnyH_done (by kernel_rfl) ?_ _
        go_wp2_with fail
        go_meet
        exact ⟨_, G, cap, rfl, h3.1, HKQ.rebase (by simp), by omega, Nat.le_refl _, by omega, h3.2⟩
    case rest =>
      obtain ⟨X, G, cap, rfl, hox, hog, hXG, hX, hG, hbc⟩ := hcut
      have HOX := Lib.hid hox
      have HOG := Lib.hid hog
      have HBC := Lib.hid hbc
      have HXL : Hid (w1.heap.size ≤ X) := hX
      have HGX : Hid (∀ b, (Value.slice (some ⟨G, 0, none⟩) f.massesN cap).ownBlock = some b → b ≠ X) := fun b hb => by
        have h1 : G = b := by injection hb
        omega
      clear hox hog hbc y0 y1 y2 ly HCL HSB hXG hG
      go_wp2
      go_loopg [10] k (fun gk i wr => ∃ (j : Nat) (mj : List Int) (SA : Option Addr) (cc : Nat), j ≤ k ∧ gk = k - j ∧ i = .int .i64 j ∧ runP R' C' share (lvF ds) f.masses j = some mj ∧ Below w1.heap.size w1 wr ∧ Own wr X 26 #[.int .i64 f.rows, .int .i64 f.columns, .slice SA f.massesN cc] ∧ OwnsL wr w1.heap.size 2 1 i64cells (.slice SA f.massesN cc) mj ∧ ∀ b, (Value.slice SA f.massesN cc).ownBlock = some b → b ≠ X)
      case atStart => exact ⟨0, f.masses, some ⟨G, 0, none⟩, cap, Nat.zero_le _, rfl, rfl, rfl, HBC.out, HOX.out, HOG.out, HGX.out⟩
      case round =>
        obtain ⟨j, mj, SA, cc, hj, hgj, rfl, hrj, hb, hox, hog, hgx⟩ := hrel
        have HGJ := Lib.hid hgj
        have HRJ := Lib.hid hrj
        have HBR := Lib.hid hb
        have HOXR := Lib.hid hox
        have HOGR := Lib.hid hog
        have HGXR := Lib.hid hgx
        obtain ⟨hml, hmm⟩ := runP_ok HMB.out j hrj
        have HMM := Lib.hid hmm
        have HML : Hid (mj.length = f.massesN) := hml.trans HLM.out
        clear hgj hrj hb hox hog hgx hml hmm
        by_cases hlt : j < k
        rotate_left
        · obtain rfl : j = k := by omega
          obtain rfl : mj = m := by have h1 := HRJ.out; rw [HRUN.out] at h1; injection h1 with h1; exact h1.symm
          have HOR5 := Lib.hid (HOR2.out.below' HBR.out)
          have HBW : Hid (Below w.heap.size w wr) := HB2.out.trans (HBR.out.mono HB2.out.size)
          have HRL := Lib.hid HOR2.out.lt
          have x0 := HOXR.out.cell 0
          have x1 := HOXR.out.cell 1
          have x2 := HOXR.out.cell 2
          have lX := HOXR.out.lt
          have z0 := HOR5.out.cell 0
          have z1 := HOR5.out.cell 1
          have z2 := HOR5.out.cell 2
          have dz := HOR5.out.frozen
          have lz := HOR5.out.lt
          simp at x0 x1 x2 z0 z1 z2
          go_wp2
          have h3 := put3 HOR5.out (.int .i64 f.rows) (.int .i64 f.columns) (.slice SA f.massesN cc) HBW.out (Nat.le_refl _)
          have h4 : OwnsL (((wr.setCell ⟨w.heap.size, 0, none⟩ (.int .i64 f.rows)).setCell ⟨w.heap.size, 1, none⟩ (.int .i64 f.columns)).setCell ⟨w.heap.size, 2, none⟩ (.slice SA f.massesN cc)) w1.heap.size 2 1 i64cells (.slice SA f.massesN cc) mj := HOGR.out.kept (fun b hb => put3_heap wr w.heap.size _ _ _ b (by have h1 := (HOGR.out.lt b hb).1; have h2 := HRL.out; omega))
          obtain ⟨wf, hwf⟩ : ∃ wf, ((wr.setCell ⟨w.heap.size, 0, none⟩ (.int .i64 f.rows)).setCell ⟨w.heap.size, 1, none⟩ (.int .i64 f.columns)).setCell ⟨w.heap.size, 2, none⟩ (.slice SA f.massesN cc) = wf := ⟨_, rfl⟩
          rw [hwf] at h3 h4 ⊢
          have f0 := h3.1.cell 0
          have f1 := h3.1.cell 1
          have f2 := h3.1.cell 2
          simp at f0 f1 f2
          have h5 := h4.rebase HB2.out.size
          exact bodyPost_ret (v := .tuple #[.agg #[.int .i64 f.rows, .int .i64 f.columns, .slice SA f.massesN cc], .int .i64 0]) (by simp [results, Tryz.results36, go_sem, f0, f1, f2]) rfl ⟨⟨f.rows, f.columns, SA, f.massesN, cc, mj⟩, rfl, rfl, rfl, h5, h3.2⟩
        obtain ⟨mn, hmn⟩ := runP_prefix _ HRUN.out (j + 1) (by omega)
        obtain ⟨m0, hm0, hmn2, hmnB⟩ := runP_back hmn
        rw [HRJ.out] at hm0
        injection hm0 with hm0
        subst hm0
        have HMN := Lib.hid hmn
        obtain ⟨b1, o1, d, rfl, hb1, hdk, d0⟩ := ints_at (HD2.out.below HBR.out) hlt
        have hdb : 0 ≤ d ∧ d ≤ 3 := inB_iff.1 (List.all_eq_true.1 HDS.out d (List.mem_of_getElem? hdk))
        have hld : lvF ds j = d := lvF_at hdk
        rw [hld] at hmn2 hmnB
        have HMN2 := Lib.hid hmn2
        have HMNB := Lib.hid hmnB
        have HBX : Hid (BoxF X ⟨f.rows, f.columns, SA, f.massesN, cc, mj⟩ wr) := ⟨HOXR.out, FieldR.in_of (p := ⟨f.rows, f.columns, SA, f.massesN, cc, mj⟩) HOGR.out⟩
        have HFB : Hid (fieldB ⟨f.rows, f.columns, mj⟩ = true) := by rw [Hid, HFR.out, HFC.out]; exact fieldB_of hR1 hR8 hC1 hC8 (by rw [HML.out]; exact HNM.out) HMM.out
        clear hmn hmn2 hmnB hdk hld
        go_wp2_with fail
        refine (l06Step_ok X (⟨f.rows, f.columns, SA, f.massesN, cc, mj⟩ : FieldR) R' C' d share wr HBX.out HFB.out HFR.out HFC.out hdb.1 hdb.2 hs0 hs1).mono ?_
        rintro e w5 ⟨⟨pr, pc, pA, pN, pC, pm⟩, rfl, hpv, hpN, hpo, hb5⟩
        injection hpv with hp1 hp2 hp3
        simp only at hp1 hp2 hp3 hpN hpo
        subst hp1 hp2 hp3 hpN
        have hX5 := HOXR.out.below' hb5
        have HXLT := Lib.hid HOXR.out.lt
        have HB5 := Lib.hid (HBR.out.trans (hb5.mono HBR.out.size))
        have hpx : ∀ b, (Value.slice pA f.massesN pC).ownBlock = some b → b ≠ X := fun b hb => by have h1 := (hpo.lt b hb).1; have h2 := HXLT.out; omega
        have h3 := put3 hX5 (.int .i64 f.rows) (.int .i64 f.columns) (.slice pA f.massesN pC) HB5.out HXL.out
        have h4 : OwnsL (((w5.setCell ⟨X, 0, none⟩ (.int .i64 f.rows)).setCell ⟨X, 1, none⟩ (.int .i64 f.columns)).setCell ⟨X, 2, none⟩ (.slice pA f.massesN pC)) w1.heap.size 2 1 i64cells (.slice pA f.massesN pC) (stepF R' C' d share mj) := (hpo.rebase HBR.out.size).kept (fun b hb => put3_heap w5 X _ _ _ b (hpx b hb))
        have x0 := hX5.cell 0
        have x1 := hX5.cell 1
        have x2 := hX5.cell 2
        have dX := hX5.frozen
        have lX := hX5.lt
        simp at x0 x1 x2
        have HPX := Lib.hid hpx
        obtain ⟨w6, hw6⟩ : ∃ w6, ((w5.setCell ⟨X, 0, none⟩ (.int .i64 f.rows)).setCell ⟨X, 1, none⟩ (.int .i64 f.columns)).setCell ⟨X, 2, none⟩ (.slice pA f.massesN pC) = w6 := ⟨_, rfl⟩
        rw [hw6] at h3 h4
        have H3 := Lib.hid h3
        have H4 := Lib.hid h4
        have HW6 := Lib.hid hw6
        clear hpo hX5 hpx h3 h4 hb5 hw6 HBX
        go_wp2_with fail
        rw [HW6.out]
        clear x0 x1 x2 dX lX HW6
        refine (l06Masses_ok X (⟨f.rows, f.columns, pA, f.massesN, pC, stepF R' C' d share mj⟩ : FieldR) w6 ⟨H3.out.1, FieldR.in_of (p := ⟨f.rows, f.columns, pA, f.massesN, pC, stepF R' C' d share mj⟩) H4.out⟩ HMNB.out).mono ?_
        rintro e w7 ⟨rfl, rfl⟩
        have HRN : Hid (runP R' C' share (lvF ds) f.masses (j + 1) = some (stepF R' C' d share mj)) := by rw [Hid, HMN.out, HMN2.out]
        go_wp2
        go_roundg (k - (j + 1))
        case measure => have := HGJ.out; omega
        case rel => exact ⟨j + 1, _, pA, pC, by omega, rfl, by go_num, HRN.out, H3.out.2, H3.out.1, H4.out, HPX.out⟩

end Go.Proofs.YtllchmacipacnaaGreatDoor
