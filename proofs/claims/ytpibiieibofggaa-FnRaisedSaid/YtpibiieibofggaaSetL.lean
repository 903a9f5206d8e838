/- Regions of their own (the reference's copy), and SetLevel of the reference. -/
import Derived.Test.YtpibiieibofggaaStepA
import Derived.Test.YtpibiieibofggaaJmpP
import Derived.Deep.RegionHeld3
import Derived.Deep.RegionLaw
namespace Go.Proofs.Ytpibiieibofggaa
open Go.RowKit

set_option maxRecDepth 100000 in
set_option maxHeartbeats 2000000 in
theorem l18Own_any (A : Option Addr) (n c : Nat) (xs : List Region) (w : World) (hx : Region.Sl w A n xs) (hn : n ≤ 1000) (hin : ∀ x ∈ xs, x.near.length ≤ 1000) :
    Calls Try.prog 34 #[.slice A n c] w (RetP (fun v w' => Region.Own w' w.heap.size v xs) w) := by
  have HX := Lib.hid hx
  have HL := Lib.hid hx.len
  have HIN := Lib.hid hin
  clear hx hin
  go_enter Try.func34, Try.ntmps34
  go_wp2
  go_loopg [3, 4] n (fun gk s i wr => ∃ (k : Nat) (v : Value), k ≤ n ∧ gk = n - k ∧ i = .int .i64 k ∧ v = s ∧ Below w.heap.size w wr ∧ Region.Own wr w.heap.size v (xs.take k))
  case atStart => exact ⟨0, _, Nat.zero_le _, rfl, rfl, rfl, (Below.refl _ _).alloc (Nat.le_refl _) _, [], OwnsL.made _ _ _ _ _ (Nat.le_refl _), by simp, ⟨by simp, List.Pairwise.nil⟩, rfl⟩
  case round =>
    obtain ⟨k, v, hk, hgk, rfl, rfl, hb, hown⟩ := hrel
    have Hgk := Lib.hid hgk
    have HOWN := Lib.hid hown
    have HB := Lib.hid hb
    clear hgk hown
    by_cases hlt : k < n
    rotate_left
    · have hkn : k = n := by omega
      subst hkn
      have HE : Hid (xs.take k = xs) := List.take_of_length_le (by rw [HL.out]; exact Nat.le_refl _)
      go_wp2
      go_ret
      exact RetP.mk (by have h := HOWN.out; rw [HE.out] at h; exact h) hb
    obtain ⟨b1, o1, ⟨xi, xl, NA, NN, NC, nr⟩, rfl, hb1, hxk, hix, y0, y1, y2⟩ := HX.out.at_ hlt
    simp only [RegionR.val] at hxk y0 y1 y2
    have hN : Hid (xs.take (k + 1) = xs.take k ++ [⟨xi, xl, nr⟩]) := by
      obtain ⟨h1, h2⟩ := List.getElem?_eq_some_iff.1 hxk
      rw [Hid, List.take_succ_eq_append_getElem h1, h2]
    have hnr : NN ≤ 1000 := by
      have h1 := HIN.out _ (List.mem_of_getElem? hxk)
      have h2 := hix.1.len
      simp only at h1 h2
      omega
    have htk : (xs.take k).length = k := by rw [List.length_take, HL.out]; omega
    have HTK := Lib.hid htk
    obtain ⟨ps, hp1, hp2, hp3, hp4⟩ := HOWN.out
    have HP1 := Lib.hid hp1
    have HP2 := Lib.hid hp2
    have HP3 := Lib.hid hp3
    have HP4 := Lib.hid hp4
    have hpl : ps.length = k := by have := congrArg List.length hp4; rw [List.length_map, htk] at this; exact this.symm
    have HPL := Lib.hid hpl
    have HIX : Hid (SliceOf wr 1 strcells NA NN nr) := hix.1.below hb
    have HSB : Hid (∀ w', Below w.heap.size w w' → w'.cell? ⟨b1, o1 + k * 3, none⟩ = some (.string xi) ∧ w'.cell? ⟨b1, o1 + k * 3 + 1, none⟩ = some (.int .i64 xl) ∧ w'.cell? ⟨b1, o1 + k * 3 + 2, none⟩ = some (.slice NA NN NC) ∧ Below w.heap.size w w') := fun w' h => ⟨(h.cell hb1).trans y0, (h.cell hb1).trans y1, (h.cell hb1).trans y2, h⟩
    clear hxk hix hp1 hp2 hp3 hp4 hpl htk
    go_wp2_with fail
    refine wp_region_held_drew (S := (fun w' => w'.cell? ⟨b1, o1 + k * 3, none⟩ = some (.string xi) ∧ w'.cell? ⟨b1, o1 + k * 3 + 1, none⟩ = some (.int .i64 xl) ∧ w'.cell? ⟨b1, o1 + k * 3 + 2, none⟩ = some (.slice NA NN NC) ∧ Below w.heap.size w w')) (by kernel_rfl) (HSB.out _ (by (repeat (first | (with_reducible exact Below.refl _ _) | (with_reducible refine Below.drew ?_) | (with_reducible refine belowC_alc ?_ _) | (with_reducible refine belowC_step (by assumption) ?_) | (with_reducible refine belowC_low (by assumption) ?_))))) (fun hHeld => ?_)
    simp only [List.size_toArray, List.length_cons, List.length_nil, Nat.zero_add, Nat.reduceAdd]
    obtain ⟨wd, hwd⟩ : ∃ wd, wr.drew = wd := ⟨_, rfl⟩
    have hbd : Below wr.heap.size wr wd := by rw [← hwd]; exact (Below.refl _ _).drew
    have HOM := Lib.hid (OwnsL.made wd wr.heap.size 9 1 strcells hbd.size)
    have HBM : Hid (Below wr.heap.size wr (wd.alloc (.cells #[] 9))) := hbd.alloc hbd.size _
    rw [hwd] at hHeld ⊢
    clear hwd hbd
    refine wpAnyH_take (i := 0) (oi := _) (v := ?_) rfl (by kernel_rfl) (by kernel_rfl) (by kernel_rfl) (fun _ _ _ h => h) (Or.inl ⟨by rfl, ?_⟩) (by assumption) ?_
    rotate_left
    · intro w hSw; (try dsimp only at hSw); go_simp; (try with_reducible rfl)
    simp only [List.getElem_toArray, List.getElem_cons_zero, Act.put, List.setIfInBounds_toArray, List.set_cons_zero, List.set_cons_succ]
    refine wpAnyH_take (i := 1) (oi := _) (v := ?_) rfl (by kernel_rfl) (by kernel_rfl) (by kernel_rfl) (fun _ _ _ h => h) (Or.inl ⟨by rfl, ?_⟩) (by assumption) ?_
    rotate_left
    · intro w hSw; (try dsimp only at hSw); go_simp; (try with_reducible rfl)
    simp only [List.getElem_toArray, List.getElem_cons_zero, List.getElem_cons_succ, Act.put, List.setIfInBounds_toArray, List.set_cons_zero, List.set_cons_succ]
    refine wpAnyH_take (i := 2) (oi := _) (v := ?_) rfl (by kernel_rfl) (by kernel_rfl) (by kernel_rfl) (fun _ _ _ h => h) (Or.inl ⟨by rfl, ?_⟩) (by assumption) ?_
    rotate_left
    · intro w hSw; (try dsimp only at hSw); go_simp; (try with_reducible rfl)
    simp only [List.getElem_toArray, List.getElem_cons_zero, List.getElem_cons_succ, Act.put, List.setIfInBounds_toArray, List.set_cons_zero, List.set_cons_succ]
    refine wpAnyH_take (i := 3) (oi := _) (v := ?_) rfl (by kernel_rfl) (by kernel_rfl) (by kernel_rfl) (fun _ _ _ h => h) (Or.inl ⟨by rfl, ?_⟩) (by assumption) ?_
    rotate_left
    · intro w hSw; (try dsimp only at hSw); go_simp; (try with_reducible rfl)
    simp only [List.getElem_toArray, List.getElem_cons_zero, List.getElem_cons_succ, Act.put, List.setIfInBounds_toArray, List.set_cons_zero, List.set_cons_succ]
    refine wpAnyH_take (i := 4) (oi := _) (v := ?_) rfl (by kernel_rfl) (by kernel_rfl) (by kernel_rfl) (fun _ _ _ h => h) (Or.inl ⟨by rfl, ?_⟩) (by assumption) ?_
    rotate_left
    · intro w hSw; (try dsimp only at hSw); go_simp; (try with_reducible rfl)
    simp only [List.getElem_toArray, List.getElem_cons_zero, List.getElem_cons_succ, Act.put, List.setIfInBounds_toArray, List.set_cons_zero, List.set_cons_succ]
    refine wpAnyH_take (i := 5) (oi := _) (v := ?_) rfl (by kernel_rfl) (by kernel_rfl) (by kernel_rfl) (fun _ _ _ h => h) (Or.inl ⟨by rfl, ?_⟩) (by assumption) ?_
    rotate_left
    · intro w hSw; (try dsimp only at hSw); go_simp; (try with_reducible rfl)
    simp only [List.getElem_toArray, List.getElem_cons_zero, List.getElem_cons_succ, Act.put, List.setIfInBounds_toArray, List.set_cons_zero, List.set_cons_succ]
    refine wpAnyH_take (i := 6) (oi := _) (v := ?_) rfl (by kernel_rfl) (by kernel_rfl) (by kernel_rfl) (fun _ _ _ h => h) (Or.inl ⟨by rfl, ?_⟩) (by assumption) ?_
    rotate_left
    · intro w hSw; (try dsimp only at hSw); go_simp; (try with_reducible rfl)
    simp only [List.getElem_toArray, List.getElem_cons_zero, List.getElem_cons_succ, Act.put, List.setIfInBounds_toArray, List.set_cons_zero, List.set_cons_succ]
    refine wpAnyH_take (i := 7) (oi := _) (v := ?_) rfl (by kernel_rfl) (by kernel_rfl) (by kernel_rfl) (fun _ _ _ h => h) (Or.inl ⟨by rfl, ?_⟩) (by assumption) ?_
    rotate_left
    · intro w hSw; (try dsimp only at hSw); go_simp; (try with_reducible rfl)
    simp only [List.getElem_toArray, List.getElem_cons_zero, List.getElem_cons_succ, Act.put, List.setIfInBounds_toArray, List.set_cons_zero, List.set_cons_succ]
    refine wpAnyH_take (i := 8) (oi := _) (v := ?_) rfl (by kernel_rfl) (by kernel_rfl) (by kernel_rfl) (fun _ _ _ h => h) (Or.inl ⟨by rfl, ?_⟩) (by assumption) ?_
    rotate_left
    · intro w hSw; (try dsimp only at hSw); go_simp; (try with_reducible rfl)
    simp only [List.getElem_toArray, List.getElem_cons_zero, List.getElem_cons_succ, Act.put, List.setIfInBounds_toArray, List.set_cons_zero, List.set_cons_succ]
    refine wpAnyH_take (i := 9) (oi := _) (v := ?_) rfl (by kernel_rfl) (by kernel_rfl) (by kernel_rfl) (fun _ _ _ h => h) (Or.inl ⟨by rfl, ?_⟩) (by assumption) ?_
    rotate_left
    · intro w hSw; (try dsimp only at hSw); go_simp; (try with_reducible rfl)
    simp only [List.getElem_toArray, List.getElem_cons_zero, List.getElem_cons_succ, Act.put, List.setIfInBounds_toArray, List.set_cons_zero, List.set_cons_succ]
    refine wpAnyH_take (i := 10) (oi := _) (v := ?_) rfl (by kernel_rfl) (by kernel_rfl) (by kernel_rfl) (fun _ _ _ h => h) (Or.inl ⟨by rfl, ?_⟩) (by assumption) ?_
    rotate_left
    · intro w hSw; (try dsimp only at hSw); go_simp; (try with_reducible rfl)
    simp only [List.getElem_toArray, List.getElem_cons_zero, List.getElem_cons_succ, Act.put, List.setIfInBounds_toArray, List.set_cons_zero, List.set_cons_succ]
    refine wpAnyH_take (i := 12) (oi := _) (v := ?_) rfl (by kernel_rfl) (by kernel_rfl) (by kernel_rfl) (fun _ _ _ h => h) (Or.inl ⟨by rfl, ?_⟩) (by assumption) ?_
    rotate_left
    · intro w hSw; (try dsimp only at hSw); go_simp; (try with_reducible rfl)
    simp only [List.getElem_toArray, List.getElem_cons_zero, List.getElem_cons_succ, Act.put, List.setIfInBounds_toArray, List.set_cons_zero, List.set_cons_succ]
    refine wpAnyH_take (i := 13) (oi := _) (v := ?_) rfl (by kernel_rfl) (by kernel_rfl) (by kernel_rfl) (fun _ _ _ h => h) (Or.inl ⟨by rfl, ?_⟩) (by assumption) ?_
    rotate_left
    · intro w hSw; (try dsimp only at hSw); go_simp; (try with_reducible rfl)
    simp only [List.getElem_toArray, List.getElem_cons_zero, List.getElem_cons_succ, Act.put, List.setIfInBounds_toArray, List.set_cons_zero, List.set_cons_succ]
    refine wpAnyH_take (i := 14) (oi := _) (v := ?_) rfl (by kernel_rfl) (by kernel_rfl) (by kernel_rfl) (fun _ _ _ h => h) (Or.inl ⟨by rfl, ?_⟩) (by assumption) ?_
    rotate_left
    · intro w hSw; (try dsimp only at hSw); go_simp; (try with_reducible rfl)
    simp only [List.getElem_toArray, List.getElem_cons_zero, List.getElem_cons_succ, Act.put, List.setIfInBounds_toArray, List.set_cons_zero, List.set_cons_succ]
    refine wpAnyH_take (i := 15) (oi := _) (v := ?_) rfl (by kernel_rfl) (by kernel_rfl) (by kernel_rfl) (fun _ _ _ h => h) (Or.inl ⟨by rfl, ?_⟩) (by assumption) ?_
    rotate_left
    · intro w hSw; (try dsimp only at hSw); go_simp; (try with_reducible rfl)
    simp only [List.getElem_toArray, List.getElem_cons_zero, List.getElem_cons_succ, Act.put, List.setIfInBounds_toArray, List.set_cons_zero, List.set_cons_succ]
    refine wpAnyH_take (i := 16) (oi := _) (v := ?_) rfl (by kernel_rfl) (by kernel_rfl) (by kernel_rfl) (fun _ _ _ h => h) (Or.inl ⟨by rfl, ?_⟩) (by assumption) ?_
    rotate_left
    · intro w hSw; (try dsimp only at hSw); go_simp; (try with_reducible rfl)
    simp only [List.getElem_toArray, List.getElem_cons_zero, List.getElem_cons_succ, Act.put, List.setIfInBounds_toArray, List.set_cons_zero, List.set_cons_succ]
    refine wpAnyH_ready (rs := [11]) (by kernel_rfl) (by simp) ?_
    refine AllReadyH.cons (o := _) rfl (fun K hK => ?_) AllReadyH.nil
    simp only [List.getElem_toArray, List.getElem_cons_zero, List.getElem_cons_succ]
    go_simp
    refine hK.out _ _ (HSB.out _ (HB.out.trans (HBM.out.mono HB.out.size))) (fun hHeld2 => ?_)
    clear hK K
    try simp only [List.getElem_toArray, List.getElem_cons_zero, List.getElem_cons_succ, Act.put, List.setIfInBounds_toArray, List.set_cons_zero, List.set_cons_succ]
    obtain ⟨g1, hg1⟩ : ∃ g1, wd.heap.size = g1 := ⟨_, rfl⟩
    obtain ⟨w1, hw1⟩ : ∃ w1, wd.alloc (.cells #[] 9) = w1 := ⟨_, rfl⟩
    rw [hw1] at hHeld2 HOM HBM ⊢
    rw [hg1] at HOM ⊢
    clear hw1 hg1
    by_cases h0 : NN = 0
    · subst h0
      have HNE : Hid (nr = []) := List.eq_nil_of_length_eq_zero HIX.out.len
      have HB2 := HBM
      have HQ2 : Hid (OwnsL w1 wr.heap.size 9 1 strcells (.slice (some ⟨g1, 0, none⟩) 0 0) nr) := by rw [Hid, HNE.out]; exact HOM.out
      refine wpAnyH_ready (rs := [17]) (by kernel_rfl) (by simp) ?_
      refine AllReadyH.cons (o := _) rfl (fun K hK => ?_) AllReadyH.nil
      (refine step_pushNone (by rfl) (.tmp 23) (.tmp 28) 32 (by rfl) 9 1 Try.underlying32 infoStr (some ⟨g1, 0, none⟩) NA 0 0 NC (Nat.le_refl _) (by rfl) (by rfl) ?_)
      refine hK.out _ _ (HSB.out _ (HB.out.trans (HBM.out.mono HB.out.size))) (fun hHeld2 => ?_)
      clear hK K
      try simp only [List.getElem_toArray, List.getElem_cons_zero, List.getElem_cons_succ, Act.put, List.setIfInBounds_toArray, List.set_cons_zero, List.set_cons_succ]
      refine wpAnyH_take (i := 18) (oi := _) (v := ?_) rfl (by kernel_rfl) (by kernel_rfl) (by kernel_rfl) (fun _ _ _ h => h) (Or.inl ⟨by rfl, ?_⟩) (by assumption) ?_
      rotate_left
      · intro w hSw; (try dsimp only at hSw); go_simp; (try with_reducible rfl)
      simp only [List.getElem_toArray, List.getElem_cons_zero, List.getElem_cons_succ, Act.put, List.setIfInBounds_toArray, List.set_cons_zero, List.set_cons_succ]
      have HBX : Hid (Below wr.heap.size wr (w1.alloc (.cells #[.string xi, .int .i64 xl, .slice (some ⟨g1, 0, none⟩) 0 0] 34))) := HB2.out.alloc HB2.out.size _
      have HOX := Lib.hid (Own.new w1 34 #[.string xi, .int .i64 xl, .slice (some ⟨g1, 0, none⟩) 0 0])
      have HQ3 := Lib.hid (HQ2.out.alloc (.cells #[.string xi, .int .i64 xl, .slice (some ⟨g1, 0, none⟩) 0 0] 34))
      refine wpAnyH_ready (rs := [19]) (by kernel_rfl) (by simp) ?_
      refine AllReadyH.cons (o := _) rfl (fun K hK => ?_) AllReadyH.nil
      simp only [List.getElem_toArray, List.getElem_cons_zero, List.getElem_cons_succ]
      go_simp
      refine hK.out _ _ (HSB.out _ (HB.out.trans (HBX.out.mono HB.out.size))) (fun hHeld2 => ?_)
      clear hK K
      try simp only [List.getElem_toArray, List.getElem_cons_zero, List.getElem_cons_succ, Act.put, List.setIfInBounds_toArray, List.set_cons_zero, List.set_cons_succ]
      obtain ⟨w3, hw3⟩ : ∃ w3, w1.alloc (.cells #[.string xi, .int .i64 xl, .slice (some ⟨g1, 0, none⟩) 0 0] 34) = w3 := ⟨_, rfl⟩
      obtain ⟨g3, hg3⟩ : ∃ g3, w1.heap.size = g3 := ⟨_, rfl⟩
      rw [hw3] at hHeld2 HBX HOX HQ3 ⊢
      rw [hg3] at HOX ⊢
      clear hw3 hg3
      refine wpAnyH_ready (rs := [20]) (by kernel_rfl) (by simp) ?_
      refine AllReadyH.cons (o := _) rfl (fun K hK => ?_) AllReadyH.nil
      (refine step_pushAll (by rfl) (.tmp 12) (.tmp 31) 24 (by rfl) w.heap.size 34 3 Try.underlying24 infoRegion (by rfl) (by decide) RegionR.cells RegionR.cells_len RegionR.cells_one v ps [(⟨xi, xl, (some ⟨g1, 0, none⟩), 0, 0, nr⟩ : RegionR)] g3 0 1 1 (by rfl) (HP1.out.below' HBX.out) (by rfl) (sliceOne HOX.out) (by decide) (by rw [HPL.out]; omega) (by decide) (Nat.le_trans HB.out.size HBX.out.size) ?_; intro G cap w' hown' hb' hkp hob; rw [HPL.out] at hown' ⊢; have HBW : Hid (Below w.heap.size w w') := (HB.out.trans (HBX.out.mono HB.out.size)).trans hb')
      refine hK.out _ _ (HSB.out _ HBW.out) (fun hHeld2 => ?_)
      clear hK K
      try simp only [List.getElem_toArray, List.getElem_cons_zero, List.getElem_cons_succ, Act.put, List.setIfInBounds_toArray, List.set_cons_zero, List.set_cons_succ]
      refine wpAnyH_take (i := 21) (oi := _) (v := ?_) rfl (by kernel_rfl) (by kernel_rfl) (by kernel_rfl) (fun _ _ _ h => h) (Or.inl ⟨by rfl, ?_⟩) (by assumption) ?_
      rotate_left
      · intro w hSw; (try dsimp only at hSw); go_simp; (try with_reducible rfl)
      simp only [List.getElem_toArray, List.getElem_cons_zero, List.getElem_cons_succ, Act.put, List.setIfInBounds_toArray, List.set_cons_zero, List.set_cons_succ]
      refine wpAnyH_done (by kernel_rfl) ?_ _
      have HR : Hid (Region.Own w' w.heap.size (.slice (some ⟨G, 0, none⟩) (k + 1) cap) (xs.take (k + 1))) := by
        rw [Hid, hN.out]
        exact Region.Own.push HP1.out HP2.out HP3.out HP4.out HBX.out HQ3.out HB.out.size hown' hkp (hob.imp id (fun e => by omega))
      clear hown' hb' hkp hob hHeld hHeld2 y0 y1 y2 hb hb1
      go_wp2
      go_roundg (n - (k + 1))
      case measure => have := Hgk.out; omega
      case rel => exact ⟨k + 1, _, by omega, rfl, by go_num, rfl, HBW.out, HR.out⟩
    · have hp : 0 < NN := by omega
      obtain ⟨bN, oN, rfl, _, _⟩ := HIX.out.2.2 hp
      refine wpAnyH_ready (rs := [17]) (by kernel_rfl) (by simp) ?_
      refine AllReadyH.cons (o := _) rfl (fun K hK => ?_) AllReadyH.nil
      (refine step_pushAll (by rfl) (.tmp 23) (.tmp 28) 32 (by rfl) wr.heap.size 9 1 Try.underlying32 infoStr (by rfl) (by decide) strcells strcells_len strcells_one (.slice (some ⟨g1, 0, none⟩) 0 0) [] nr bN oN NN NC (by rfl) HOM.out (by rfl) (HIX.out.below HBM.out) hp (by simp; omega) (by decide) HBM.out.size ?_; intro G2 cap2 w2 hown2 hb2 _ _; rw [List.length_nil, Nat.zero_add, List.nil_append] at hown2; rw [List.length_nil, Nat.zero_add]; have HQ2 := Lib.hid hown2; have HB2 := Lib.hid (HBM.out.trans hb2))
      refine hK.out _ _ (HSB.out _ (HB.out.trans (HB2.out.mono HB.out.size))) (fun hHeld2 => ?_)
      clear hK K
      try simp only [List.getElem_toArray, List.getElem_cons_zero, List.getElem_cons_succ, Act.put, List.setIfInBounds_toArray, List.set_cons_zero, List.set_cons_succ]
      clear hown2 hb2
      refine wpAnyH_take (i := 18) (oi := _) (v := ?_) rfl (by kernel_rfl) (by kernel_rfl) (by kernel_rfl) (fun _ _ _ h => h) (Or.inl ⟨by rfl, ?_⟩) (by assumption) ?_
      rotate_left
      · intro w hSw; (try dsimp only at hSw); go_simp; (try with_reducible rfl)
      simp only [List.getElem_toArray, List.getElem_cons_zero, List.getElem_cons_succ, Act.put, List.setIfInBounds_toArray, List.set_cons_zero, List.set_cons_succ]
      have HBX : Hid (Below wr.heap.size wr (w2.alloc (.cells #[.string xi, .int .i64 xl, .slice (some ⟨G2, 0, none⟩) NN cap2] 34))) := HB2.out.alloc HB2.out.size _
      have HOX := Lib.hid (Own.new w2 34 #[.string xi, .int .i64 xl, .slice (some ⟨G2, 0, none⟩) NN cap2])
      have HQ3 := Lib.hid (HQ2.out.alloc (.cells #[.string xi, .int .i64 xl, .slice (some ⟨G2, 0, none⟩) NN cap2] 34))
      refine wpAnyH_ready (rs := [19]) (by kernel_rfl) (by simp) ?_
      refine AllReadyH.cons (o := _) rfl (fun K hK => ?_) AllReadyH.nil
      simp only [List.getElem_toArray, List.getElem_cons_zero, List.getElem_cons_succ]
      go_simp
      refine hK.out _ _ (HSB.out _ (HB.out.trans (HBX.out.mono HB.out.size))) (fun hHeld2 => ?_)
      clear hK K
      try simp only [List.getElem_toArray, List.getElem_cons_zero, List.getElem_cons_succ, Act.put, List.setIfInBounds_toArray, List.set_cons_zero, List.set_cons_succ]
      obtain ⟨w3, hw3⟩ : ∃ w3, w2.alloc (.cells #[.string xi, .int .i64 xl, .slice (some ⟨G2, 0, none⟩) NN cap2] 34) = w3 := ⟨_, rfl⟩
      obtain ⟨g3, hg3⟩ : ∃ g3, w2.heap.size = g3 := ⟨_, rfl⟩
      rw [hw3] at hHeld2 HBX HOX HQ3 ⊢
      rw [hg3] at HOX ⊢
      clear hw3 hg3
      refine wpAnyH_ready (rs := [20]) (by kernel_rfl) (by simp) ?_
      refine AllReadyH.cons (o := _) rfl (fun K hK => ?_) AllReadyH.nil
      (refine step_pushAll (by rfl) (.tmp 12) (.tmp 31) 24 (by rfl) w.heap.size 34 3 Try.underlying24 infoRegion (by rfl) (by decide) RegionR.cells RegionR.cells_len RegionR.cells_one v ps [(⟨xi, xl, (some ⟨G2, 0, none⟩), NN, cap2, nr⟩ : RegionR)] g3 0 1 1 (by rfl) (HP1.out.below' HBX.out) (by rfl) (sliceOne HOX.out) (by decide) (by rw [HPL.out]; omega) (by decide) (Nat.le_trans HB.out.size HBX.out.size) ?_; intro G cap w' hown' hb' hkp hob; rw [HPL.out] at hown' ⊢; have HBW : Hid (Below w.heap.size w w') := (HB.out.trans (HBX.out.mono HB.out.size)).trans hb')
      refine hK.out _ _ (HSB.out _ HBW.out) (fun hHeld2 => ?_)
      clear hK K
      try simp only [List.getElem_toArray, List.getElem_cons_zero, List.getElem_cons_succ, Act.put, List.setIfInBounds_toArray, List.set_cons_zero, List.set_cons_succ]
      refine wpAnyH_take (i := 21) (oi := _) (v := ?_) rfl (by kernel_rfl) (by kernel_rfl) (by kernel_rfl) (fun _ _ _ h => h) (Or.inl ⟨by rfl, ?_⟩) (by assumption) ?_
      rotate_left
      · intro w hSw; (try dsimp only at hSw); go_simp; (try with_reducible rfl)
      simp only [List.getElem_toArray, List.getElem_cons_zero, List.getElem_cons_succ, Act.put, List.setIfInBounds_toArray, List.set_cons_zero, List.set_cons_succ]
      refine wpAnyH_done (by kernel_rfl) ?_ _
      have HR : Hid (Region.Own w' w.heap.size (.slice (some ⟨G, 0, none⟩) (k + 1) cap) (xs.take (k + 1))) := by
        rw [Hid, hN.out]
        exact Region.Own.push HP1.out HP2.out HP3.out HP4.out HBX.out HQ3.out HB.out.size hown' hkp (hob.imp id (fun e => by omega))
      clear hown' hb' hkp hob hHeld hHeld2 y0 y1 y2 hb hb1
      go_wp2
      go_roundg (n - (k + 1))
      case measure => have := Hgk.out; omega
      case rel => exact ⟨k + 1, _, by omega, rfl, by go_num, rfl, HBW.out, HR.out⟩
theorem Region.Own.rebase {w : World} {base b2 : Nat} {v : Value} {xs : List Region} (h : Region.Own w base v xs) (hb : b2 ≤ base) : Region.Own w b2 v xs := by
  obtain ⟨ps, h1, h2, h3⟩ := h
  exact ⟨ps, h1.rebase hb, fun p hp => (h2 p hp).rebase hb, h3⟩
set_option maxRecDepth 100000 in
set_option maxHeartbeats 1000000 in
theorem specSetLevel_ok (A : Option Addr) (n c : Nat) (xs : List Region) (w : World) (hx : Region.Sl w A n xs) (hg : ∀ x ∈ xs, x.Good) (hv : regionsB xs = true) (i : Nat) (r : Region) (hi : xs[i]? = some r) (l : Int) (hl : 1 ≤ l ∧ l ≤ 5) :
    Calls Try.prog 8 #[.slice A n c, .string r.id, .int .i64 l] w (RetP (fun v w' => ∃ u, v = .tuple #[u, .int .i64 0] ∧ Region.Own w' w.heap.size u (withLv xs ((xs.map Region.level).set i l))) w) := by
  have HX := Lib.hid hx
  have HL := Lib.hid hx.len
  have HG := Lib.hid hg
  have hlt : i < n := by rw [← HL.out]; exact (List.getElem?_eq_some_iff.1 hi).1
  have h8 : n ≤ 8 := by rw [← HL.out]; exact regionsB_len hv
  have hf : findR xs r.id = (i : Int) := (levelOf_at hv hi).1
  have hl5 : inB l 1 5 = true := inB_iff.2 hl
  have HNR : Hid (∀ x ∈ xs, x.near.length ≤ 1000) := fun x hx => by have := near_len hv hx; omega
  obtain ⟨id, hid⟩ : ∃ id, r.id = id := ⟨_, rfl⟩
  rw [hid] at hf ⊢
  clear hx hg hi hid hl
  go_enter Try.func8, Try.ntmps8
  go_wp2_with fail
  refine (l18Ok_any A n c xs _ HX.out HG.out).mono ?_
  rintro e w1 ⟨rfl, hb1⟩
  rw [hv]
  have HB1 := Lib.hid hb1
  have HX1 := Lib.hid (HX.out.below hb1)
  clear hb1 hv
  go_wp2_with fail
  refine (l17Is_any _ _).mono ?_
  rintro e w2 ⟨rfl, rfl⟩
  rw [hl5]
  go_wp2_with fail
  refine (l18Find_any id A n c xs w1 HX1.out).mono ?_
  rintro e w2 ⟨rfl, rfl⟩
  rw [hf]
  clear hf hl5
  go_wp2_with fail
  refine (l18Own_any A n c xs w1 HX1.out (by omega) HNR.out).mono ?_
  rintro e w3 ⟨v3, rfl, ho3, hb3⟩
  have HB3 := Lib.hid (HB1.out.trans (hb3.mono HB1.out.size))
  obtain ⟨ps, hp1, hp2, hp3, hp4⟩ := ho3
  have hpl : ps.length = n := by rw [← HL.out, hp4, List.length_map]
  obtain ⟨g, cap, rfl, hg0, hg1⟩ := hp1.block (by intro e; rw [e] at hpl; simp at hpl; omega)
  have fl := hp1.frozen
  rw [hpl] at hp1 hp3 ⊢
  have HO3 : Hid (Region.Own w3 w1.heap.size (.slice (some ⟨g, 0, none⟩) n cap) xs) := ⟨ps, hp1, hp2, hp3, hp4⟩
  obtain ⟨b2, o2, r2, hA2, hb2, hr2, hi2, y0, y1, y2⟩ := HO3.out.sl.at_ hlt
  injection hA2 with hA2
  injection hA2 with he1 he2 _
  subst he1 he2
  rw [Nat.zero_add] at y1
  have HOL := Lib.hid ((HO3.out.level i l))
  clear hp1 hp2 hp3 hp4 hpl hr2 hi2 y0 y2 hb3
  go_wp2
  refine bodyPost_ret (v := .tuple #[.slice (some ⟨g, 0, none⟩) n cap, .int .i64 0]) (by simp [results, Try.results8, go_sem]) rfl ?_
  refine RetP.mk ⟨_, rfl, ?_⟩ ?_
  · exact HOL.out.rebase HB1.out.size
  · exact HB3.out.setCell (Nat.le_trans HB1.out.size hg0) _

end Go.Proofs.Ytpibiieibofggaa
