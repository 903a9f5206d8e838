/- What the laws of the drift draw: shares, and fields that are valid. -/
import Derived.Test.YtllchmacipacnaaGreatDoorFldP
import Derived.Test.YtllchmacipacnaaGreatDoorSrc
import Derived.Test.YtllchmacipacnaaGreatDoorSrcK
import Derived.Test.YtllchmacipacnaaGreatDoorPushF
import Derived.Test.YtllchmacipacnaaGreatDoorFldG
import Derived.Deep.RegionHeld3
import Derived.Deep.RegionLaw
import Derived.BigQuiet
namespace Go.Proofs.YtllchmacipacnaaGreatDoor
open Go.RowKit

theorem SrcAt.growF {A : Option Addr} {n c : Nat} {ds : List Int} {bs k B : Nat} {w0 w w' : World} (h : SrcAt A n c ds bs k w0 w) (hb : Below B w w') (hB : bs < B) : SrcAt A n c ds bs k w0 w' := by
  obtain ⟨s, ho⟩ := h.own
  exact ⟨h.sl, h.by_, h.below.trans (hb.mono (by have := h.base; omega)), h.base, s, ho.below hb hB⟩
set_option maxHeartbeats 1000000 in
theorem l06DrawShare_any (A : Option Addr) (n c : Nat) (ds : List Int) (bs k : Nat) (w0 w : World) (h : SrcAt A n c ds bs k w0 w) (hk : k ≤ 100000) :
    Calls Tryz.prog 34 #[.pointer (some ⟨bs, 0, none⟩)] w (fun e w' => ∃ (y : Int) (k' : Nat), e = .returned (.int .i64 y) ∧ k' ≤ k + 2 ∧ SrcAt A n c ds bs k' w0 w' ∧ Span bs (bs + 1) w w') := by
  have HLT : Hid (bs < w.heap.size) := h.lt
  obtain ⟨w1, hw1⟩ : ∃ w1, w.alloc (.cells #[.int .i64 0, .int .i64 100, .int .i64 300, .int .i64 500, .int .i64 1000, .int .i64 1001, .int .i64 (-1), .int .i64 250] 2) = w1 := ⟨_, rfl⟩
  have hb1 : Below w.heap.size w w1 := by rw [← hw1]; exact (Below.refl _ _).alloc (Nat.le_refl _) _
  have HX1 : Hid (SliceOf w1 1 i64cells (some ⟨w.heap.size, 0, none⟩) 8 [0, 100, 300, 500, 1000, 1001, -1, 250]) := by rw [Hid, ← hw1]; exact sliceOf_new w 2 [0, 100, 300, 500, 1000, 1001, -1, 250] (by simp)
  have HS1 := Lib.hid (h.grow hb1)
  have HB1 := Lib.hid hb1
  clear h hb1
  go_enter Tryz.func34, Tryz.ntmps34
  go_wp2_with fail
  try rw [hw1]
  clear hw1
  refine (srcAmong_any A n c ds bs k 8 8 w.heap.size 0 [0, 100, 300, 500, 1000, 1001, -1, 250] w0 w1 HS1.out (by omega) (by omega) (by omega) HX1.out (by have := HLT.out; omega)).mono ?_
  rintro e w2 ⟨y, k', rfl, _, hk', hs2, ha2⟩
  have HS2 := Lib.hid hs2
  have HA2 : Hid (Span bs (bs + 1) w w2) := (Span.of_below HB1.out (Nat.le_refl _)).trans ha2
  clear hs2 ha2
  go_wp2
  go_ret
  exact ⟨y, k', rfl, hk', HS2.out, HA2.out⟩
set_option maxHeartbeats 2000000 in
theorem l06DrawOk_any (A : Option Addr) (n c : Nat) (ds : List Int) (bs k0 : Nat) (w0 w : World) (h : SrcAt A n c ds bs k0 w0 w) (hk0 : k0 ≤ 1000) :
    Calls Tryz.prog 48 #[.pointer (some ⟨bs, 0, none⟩)] w (fun e w' => ∃ (f : FieldR) (k' : Nat), e = .returned (.agg #[.int .i64 f.rows, .int .i64 f.columns, .slice f.massesA f.massesN f.massesC]) ∧ k' ≤ 2000 ∧ SrcAt A n c ds bs k' w0 w' ∧ OwnsL w' w.heap.size 2 1 i64cells (.slice f.massesA f.massesN f.massesC) f.masses ∧ 1 ≤ f.massesN ∧ f.massesN ≤ 16 ∧ f.masses.length = f.massesN ∧ 1 ≤ f.rows ∧ f.rows ≤ 4 ∧ Span bs (bs + 1) w w') := by
  have hbs := h.lt
  have HLT : Hid (bs < w.heap.size) := hbs
  obtain ⟨w1, hw1⟩ : ∃ w1, w.alloc (.cells #[.int .i64 0, .int .i64 0, .slice none 0 0] 26) = w1 := ⟨_, rfl⟩
  have hb1 : Below w.heap.size w w1 := by rw [← hw1]; exact (Below.refl _ _).alloc (Nat.le_refl _) _
  have HR1 : Hid (Own w1 w.heap.size 26 #[.int .i64 0, .int .i64 0, .slice none 0 0]) := by rw [Hid, ← hw1]; exact Own.new _ _ _
  have HS1 := Lib.hid (h.grow hb1)
  have HSP1 : Hid (Span bs (bs + 1) w w1) := Span.of_below hb1 (Nat.le_refl _)
  clear h hb1
  go_enter Tryz.func48, Tryz.ntmps48
  go_wp2_with fail
  try rw [hw1]
  clear hw1
  refine (srcPick_any A n c ds bs k0 4 w0 w1 HS1.out (by omega) (by omega) (by omega)).mono ?_
  rintro e w2 ⟨R, k1, rfl, hR, hk1, hs2, ha2⟩
  have HS2 := Lib.hid hs2
  have HR2 := Lib.hid (HR1.out.span ha2 (.inr (by omega)))
  have HSP2 := Lib.hid (HSP1.out.trans ha2)
  clear hs2 ha2
  go_wp2_with fail
  refine (srcPick_any A n c ds bs k1 4 w0 w2 HS2.out (by omega) (by omega) (by omega)).mono ?_
  rintro e w3 ⟨C, k2, rfl, hC, hk2, hs3, ha3⟩
  have HS3 := Lib.hid hs3
  have HR3 := Lib.hid (HR2.out.span ha3 (.inr (by omega)))
  have HSP3 := Lib.hid (HSP2.out.trans ha3)
  clear hs3 ha3
  have eR : (1 : Int) + (R : Int) = ((R + 1 : Nat) : Int) := by omega
  have eC : (1 : Int) + (C : Int) = ((C + 1 : Nat) : Int) := by omega
  obtain ⟨RR, hRR⟩ : ∃ RR, R + 1 = RR := ⟨_, rfl⟩
  obtain ⟨CC, hCC⟩ : ∃ CC, C + 1 = CC := ⟨_, rfl⟩
  rw [hRR] at eR
  rw [hCC] at eC
  have hR4 : 1 ≤ RR ∧ RR ≤ 4 := by omega
  have hC4 : 1 ≤ CC ∧ CC ≤ 4 := by omega
  obtain ⟨N, hN⟩ : ∃ N, RR * CC = N := ⟨_, rfl⟩
  have hN1 : 1 ≤ N := by rw [← hN]; exact Nat.mul_le_mul hR4.1 hC4.1
  have hN16 : N ≤ 16 := by rw [← hN]; exact Nat.mul_le_mul hR4.2 hC4.2
  have hNe : (RR : Int) * (CC : Int) = (N : Int) := by rw [← hN, Int.natCast_mul]
  have hNw : IntKind.i64.wrap ((RR : Int) * (CC : Int)) = (N : Int) := by rw [hNe]; exact IntWalk.i64_in _ (by omega)
  obtain ⟨X, hX⟩ : ∃ X, w3.heap.size = X := ⟨_, rfl⟩
  obtain ⟨w4, hw4⟩ : ∃ w4, w3.alloc (.cells #[.int .i64 RR, .int .i64 CC, .slice none 0 0] 26) = w4 := ⟨_, rfl⟩
  have hb4 : Below w3.heap.size w3 w4 := by rw [← hw4]; exact (Below.refl _ _).alloc (Nat.le_refl _) _
  have HX4 : Hid (Own w4 X 26 #[.int .i64 RR, .int .i64 CC, .slice none 0 0]) := by rw [Hid, ← hw4, ← hX]; exact Own.new _ _ _
  have HR4 := Lib.hid (HR3.out.below' hb4)
  have HS4 := Lib.hid (HS3.out.grow hb4)
  have HSP4 := Lib.hid (HSP3.out.trans (Span.of_below hb4 (Nat.le_refl _)))
  have HXL : Hid (w.heap.size < X) := by rw [Hid, ← hX]; exact HR3.out.lt
  have HBX : Hid (bs < X) := Nat.lt_trans HLT.out HXL.out
  have HZ4 : Hid (X + 1 ≤ w4.heap.size) := HX4.out.lt
  have HK2 : Hid (k2 ≤ 1010) := by rw [Hid]; omega
  have HW4 := Lib.hid hw4
  have HX := Lib.hid hX
  clear hb4 hw4 hX HR1 HS1 HR2 HS2 HR3 HS3 hRR hCC hR hC hk1 hk2 hN
  go_wp2
  rw [HW4.out, HX.out]
  go_loopg [4] N (fun gk i wr => ∃ (k kk : Nat) (v : Value) (ms : List Int), k ≤ N ∧ gk = N - k ∧ i = .int .i64 k ∧ kk ≤ 1010 + 2 * k ∧ SrcAt A n c ds bs kk w0 wr ∧ Own wr w.heap.size 26 #[.int .i64 0, .int .i64 0, .slice none 0 0] ∧ Own wr X 26 #[.int .i64 RR, .int .i64 CC, v] ∧ OwnsL wr (X + 1) 2 1 i64cells v ms ∧ ms.length = k ∧ X + 1 ≤ wr.heap.size ∧ Span bs (bs + 1) w wr)
  case atStart => exact ⟨0, k2, _, [], Nat.zero_le _, rfl, rfl, by have := HK2.out; omega, HS4.out, HR4.out, HX4.out, OwnsL.nil_ _ _ _ _ _, rfl, HZ4.out, HSP4.out⟩
  case round =>
    obtain ⟨k, kk, v, ms, hk, hgk, rfl, hkk, hsr, hr, hx, hown, hml, hz, hsp⟩ := hrel
    have HGK := Lib.hid hgk
    have HKK := Lib.hid hkk
    have HSR := Lib.hid hsr
    have HRR := Lib.hid hr
    have HXR := Lib.hid hx
    have HOW := Lib.hid hown
    have HML := Lib.hid hml
    have HZ := Lib.hid hz
    have HSP := Lib.hid hsp
    clear hsp hgk hkk hsr hr hx hown hml hz
    have c0 := HXR.out.cell 0
    have c1 := HXR.out.cell 1
    have c2 := HXR.out.cell 2
    simp at c0 c1 c2
    by_cases hlt : k < N
    rotate_left
    · obtain rfl : k = N := by omega
      obtain ⟨VA, vc, rfl, _, _, _⟩ := HOW.out.slice i64cells_len
      have hown := HOW.out
      rw [HML.out] at hown c2
      have lX := HXR.out.lt
      have z0 := HRR.out.cell 0
      have z1 := HRR.out.cell 1
      have z2 := HRR.out.cell 2
      have dz := HRR.out.frozen
      have lz := HRR.out.lt
      simp at z0 z1 z2
      have HOWN := Lib.hid hown
      clear hown
      go_wp2
      have h3 := put3 HRR.out (.int .i64 RR) (.int .i64 CC) (.slice VA k vc) (Below.refl w.heap.size wr) (Nat.le_refl _)
      have h4 : OwnsL (((wr.setCell ⟨w.heap.size, 0, none⟩ (.int .i64 RR)).setCell ⟨w.heap.size, 1, none⟩ (.int .i64 CC)).setCell ⟨w.heap.size, 2, none⟩ (.slice VA k vc)) (X + 1) 2 1 i64cells (.slice VA k vc) ms := HOWN.out.kept (fun b hb => put3_heap wr w.heap.size _ _ _ b (by have h1 := (HOWN.out.lt b hb).1; have h2 := HXL.out; omega))
      have h5 : SrcAt A n c ds bs kk w0 (((wr.setCell ⟨w.heap.size, 0, none⟩ (.int .i64 RR)).setCell ⟨w.heap.size, 1, none⟩ (.int .i64 CC)).setCell ⟨w.heap.size, 2, none⟩ (.slice VA k vc)) := ((HSR.out.put (p := ⟨w.heap.size, 0, none⟩) (by have := HLT.out; simp only; omega) (by have := HSR.out.base; have := HLT.out; simp only; omega) _).put (p := ⟨w.heap.size, 1, none⟩) (by have := HLT.out; simp only; omega) (by have := HSR.out.base; have := HLT.out; simp only; omega) _).put (p := ⟨w.heap.size, 2, none⟩) (by have := HLT.out; simp only; omega) (by have := HSR.out.base; have := HLT.out; simp only; omega) _
      obtain ⟨wf, hwf⟩ : ∃ wf, ((wr.setCell ⟨w.heap.size, 0, none⟩ (.int .i64 RR)).setCell ⟨w.heap.size, 1, none⟩ (.int .i64 CC)).setCell ⟨w.heap.size, 2, none⟩ (.slice VA k vc) = wf := ⟨_, rfl⟩
      have hzf : Span bs (bs + 1) w wf := by rw [← hwf]; exact (((HSP.out.new (p := ⟨w.heap.size, 0, none⟩) (Nat.le_refl _) _).new (p := ⟨w.heap.size, 1, none⟩) (Nat.le_refl _) _).new (p := ⟨w.heap.size, 2, none⟩) (Nat.le_refl _) _)
      rw [hwf] at h3 h4 h5 ⊢
      have f0 := h3.1.cell 0
      have f1 := h3.1.cell 1
      have f2 := h3.1.cell 2
      simp at f0 f1 f2
      exact bodyPost_ret (v := .agg #[.int .i64 RR, .int .i64 CC, .slice VA k vc]) (by simp [results, Tryz.results48, go_sem, f0, f1, f2]) rfl ⟨⟨RR, CC, VA, k, vc, ms⟩, kk, rfl, by have := HKK.out; omega, h5, h4.rebase (by have := HXL.out; omega), hN1, hN16, HML.out, by simp only; omega, by simp only; omega, hzf⟩
    have hyw : ∀ q : Nat, q < 80 → IntKind.i64.wrap (250 * (q : Int)) = 250 * (q : Int) := fun q hq => IntWalk.i64_in _ (by omega)
    have HYW := Lib.hid hyw
    clear hyw
    go_upto_region 5 with fail
    clear c0 c1
    refine wp_region_held_drew (S := (fun _ => True)) (by kernel_rfl) (trivial) (fun hHeld => ?_)
    simp only [List.size_toArray, List.length_cons, List.length_nil, Nat.zero_add, Nat.reduceAdd]
    obtain ⟨wd, hwd⟩ : ∃ wd, wr.drew = wd := ⟨_, rfl⟩
    have hbd : Below wr.heap.size wr wd := by rw [← hwd]; exact (Below.refl _ _).drew
    have HSD := Lib.hid (HSR.out.grow hbd)
    have HRD := Lib.hid (HRR.out.below' hbd)
    have HXD := Lib.hid (HXR.out.below' hbd)
    have HOD := Lib.hid (HOW.out.below' hbd)
    have HSPD := Lib.hid (HSP.out.trans (Span.of_below hbd (Nat.le_refl _)))
    have HZD : Hid (X + 1 ≤ wd.heap.size) := Nat.le_trans HZ.out hbd.size
    rw [hwd]
    clear hwd hbd c2
    refine wpAnyH_take (i := 0) (oi := _) (v := ?_) rfl (by kernel_rfl) (by kernel_rfl) (by kernel_rfl) (fun _ _ _ h => h) (Or.inl ⟨by rfl, ?_⟩) (by assumption) ?_
    rotate_left
    · intro w hSw; (try dsimp only at hSw); go_simp; (try with_reducible rfl)
    simp only [List.getElem_toArray, List.getElem_cons_zero, Act.put, List.setIfInBounds_toArray, List.set_cons_zero, List.set_cons_succ]
    refine wpAnyH_take (i := 2) (oi := _) (v := ?_) rfl (by kernel_rfl) (by kernel_rfl) (by kernel_rfl) (fun _ _ _ h => h) (Or.inl ⟨by rfl, ?_⟩) (by assumption) ?_
    rotate_left
    · intro w hSw; (try dsimp only at hSw); go_simp; (try with_reducible rfl)
    simp only [List.getElem_toArray, List.getElem_cons_zero, List.getElem_cons_succ, Act.put, List.setIfInBounds_toArray, List.set_cons_zero, List.set_cons_succ]
    refine wpAnyH_ready (rs := [1, 3]) (by kernel_rfl) (by simp) ?_
    refine AllReadyH.cons (o := _) rfl (fun K hK => ?_) (AllReadyH.cons (o := _) rfl (fun K hK => ?_) AllReadyH.nil)
    · have c2 := HXD.out.cell 2
      have lX := HXD.out.lt
      simp at c2
      simp only [List.getElem_toArray, List.getElem_cons_zero, List.getElem_cons_succ]
      go_simp
      refine hK.out _ _ trivial (fun hHeld2 => ?_)
      clear hK K c2 lX
      try simp only [List.getElem_toArray, List.getElem_cons_zero, List.getElem_cons_succ, Act.put, List.setIfInBounds_toArray, List.set_cons_zero, List.set_cons_succ]
      refine wpAnyH_ready (rs := [3]) (by kernel_rfl) (by simp) ?_
      refine AllReadyH.cons (o := _) rfl (fun K hK => ?_) AllReadyH.nil
      simp only [List.getElem_toArray, List.getElem_cons_zero, List.getElem_cons_succ]
      go_simp
      (go_at_call 49; (with_reducible refine Calls.mono (srcPick_any A n c ds bs kk 80 w0 wd HSD.out (by have := HKK.out; omega) (by omega) (by omega)) ?_); rintro e w6 ⟨q, k6, rfl, hq, hk6, hs6, ha6⟩; have HX6 := Lib.hid (HXD.out.span ha6 (.inr (by have := HBX.out; omega))))
      refine hK.out _ _ (trivial) (fun hHeld2 => ?_)
      clear hK K
      try simp only [List.getElem_toArray, List.getElem_cons_zero, List.getElem_cons_succ, Act.put, List.setIfInBounds_toArray, List.set_cons_zero, List.set_cons_succ]
      have HS6 := Lib.hid hs6
      have HR6 := Lib.hid (HRD.out.span ha6 (.inr (by have := HLT.out; omega)))
      have HO6 := Lib.hid (HOD.out.span ha6 (fun b hb => .inr (by have := (HOD.out.lt b hb).1; have := HBX.out; omega)))
      have HZ6 : Hid (X + 1 ≤ w6.heap.size) := Nat.le_trans HZD.out ha6.size
      have HK6 : Hid (k6 ≤ 1010 + 2 * (k + 1)) := by have := HKK.out; rw [Hid]; omega
      have HSP6 := Lib.hid (HSPD.out.trans ha6)
      clear hs6 ha6 hk6
      refine wpAnyH_take (i := 4) (oi := _) (v := ?_) rfl (by kernel_rfl) (by kernel_rfl) (by kernel_rfl) (fun _ _ _ h => h) (Or.inl ⟨by rfl, ?_⟩) (by assumption) ?_
      rotate_left
      · intro w hSw; (try dsimp only at hSw); go_simp; (try with_reducible rfl)
      simp only [List.getElem_toArray, List.getElem_cons_zero, List.getElem_cons_succ, Act.put, List.setIfInBounds_toArray, List.set_cons_zero, List.set_cons_succ]
      rw [HYW.out q hq]
      have HBM : Hid (Below w6.heap.size w6 (w6.alloc (.cells #[.int .i64 (250 * (q : Int))] 2))) := (Below.refl _ _).alloc (Nat.le_refl _) _
      refine wpAnyH_ready (rs := [5]) (by kernel_rfl) (by simp) ?_
      refine AllReadyH.cons (o := _) rfl (fun K hK => ?_) AllReadyH.nil
      simp only [List.getElem_toArray, List.getElem_cons_zero, List.getElem_cons_succ]
      go_simp
      refine hK.out _ _ (trivial) (fun hHeld2 => ?_)
      clear hK K
      try simp only [List.getElem_toArray, List.getElem_cons_zero, List.getElem_cons_succ, Act.put, List.setIfInBounds_toArray, List.set_cons_zero, List.set_cons_succ]
      refine wpAnyH_ready (rs := [6]) (by kernel_rfl) (by simp) ?_
      refine AllReadyH.cons (o := _) rfl (fun K hK => ?_) AllReadyH.nil
      (refine step_push2 (by rfl) (.tmp 22) (.tmp 26) 24 (by rfl) (X + 1) 2 Tryz.underlying24 infoI64 (by rfl) v ms (250 * (q : Int)) w6.heap.size (by rfl) (HO6.out.below' HBM.out) (by first | rfl | simp [go_sem]) (cellR_new _ _ _) (by rw [HML.out]; omega) (by decide) (Nat.le_trans HZ6.out HBM.out.size) ?_; intro G7 cap7 w7 hown' hb' _ _; rw [HML.out] at hown' ⊢; have HX7 : Own w7 X 26 #[.int .i64 RR, .int .i64 CC, v] := (HX6.out.below' HBM.out).below hb' (Nat.lt_succ_self _))
      refine hK.out _ _ (trivial) (fun hHeld2 => ?_)
      clear hK K
      try simp only [List.getElem_toArray, List.getElem_cons_zero, List.getElem_cons_succ, Act.put, List.setIfInBounds_toArray, List.set_cons_zero, List.set_cons_succ]
      refine wpAnyH_take (i := 7) (oi := _) (v := ?_) rfl (by kernel_rfl) (by kernel_rfl) (by kernel_rfl) (fun _ _ _ h => h) (Or.inl ⟨by rfl, ?_⟩) (by assumption) ?_
      rotate_left
      · intro w hSw; (try dsimp only at hSw); go_simp; (try with_reducible rfl)
      simp only [List.getElem_toArray, List.getElem_cons_zero, List.getElem_cons_succ, Act.put, List.setIfInBounds_toArray, List.set_cons_zero, List.set_cons_succ]
      have HS7 := Lib.hid ((HS6.out.grow HBM.out).growF hb' (by have := HBX.out; omega))
      have HR7 : Hid (Own w7 w.heap.size 26 #[.int .i64 0, .int .i64 0, .slice none 0 0]) := (HR6.out.below' HBM.out).below hb' (by have := HXL.out; omega)
      have HZ7 : Hid (X + 1 ≤ w7.heap.size) := Nat.le_trans (Nat.le_trans HZ6.out HBM.out.size) hb'.size
      have HSP7 := Lib.hid ((HSP6.out.trans (Span.of_below HBM.out (Nat.le_refl _))).low (hb'.mono (by have := HXL.out; omega)))
      have HO7 := Lib.hid hown'
      have HXX7 := Lib.hid HX7
      clear hown' hb' HX7
      have c2 := HXX7.out.cell 2
      have dX := HXX7.out.frozen
      have lX := HXX7.out.lt
      simp at c2
      have HX8 : Hid (Own (w7.setCell ⟨X, 2, none⟩ (.slice (some ⟨G7, 0, none⟩) (k + 1) cap7)) X 26 #[.int .i64 RR, .int .i64 CC, .slice (some ⟨G7, 0, none⟩) (k + 1) cap7]) := by
        have h := HXX7.out.put 2 (.slice (some ⟨G7, 0, none⟩) (k + 1) cap7)
        rw [Hid]
        simpa using h
      have HS8 : Hid (SrcAt A n c ds bs k6 w0 (w7.setCell ⟨X, 2, none⟩ (.slice (some ⟨G7, 0, none⟩) (k + 1) cap7))) := HS7.out.put (by have := HBX.out; simp only; omega) (by have := HS7.out.base; have := HBX.out; simp only; omega) _
      have HR8 : Hid (Own (w7.setCell ⟨X, 2, none⟩ (.slice (some ⟨G7, 0, none⟩) (k + 1) cap7)) w.heap.size 26 #[.int .i64 0, .int .i64 0, .slice none 0 0]) := HR7.out.far (by have := HXL.out; simp only; omega) _
      have HO8 : Hid (OwnsL (w7.setCell ⟨X, 2, none⟩ (.slice (some ⟨G7, 0, none⟩) (k + 1) cap7)) (X + 1) 2 1 i64cells (.slice (some ⟨G7, 0, none⟩) (k + 1) cap7) (ms ++ [250 * (q : Int)])) := HO7.out.kept (fun b hb => Below.heap_setCell w7 ⟨X, 2, none⟩ _ b (by have := (HO7.out.lt b hb).1; simp only; omega))
      have HSP8 : Hid (Span bs (bs + 1) w (w7.setCell ⟨X, 2, none⟩ (.slice (some ⟨G7, 0, none⟩) (k + 1) cap7))) := HSP7.out.new (by have := HXL.out; simp only; omega) _
      have HZ8 : Hid (X + 1 ≤ (w7.setCell ⟨X, 2, none⟩ (.slice (some ⟨G7, 0, none⟩) (k + 1) cap7)).heap.size) := by rw [Hid]; simpa using HZ7.out
      refine wpAnyH_ready (rs := [8]) (by kernel_rfl) (by simp) ?_
      refine AllReadyH.cons (o := _) rfl (fun K hK => ?_) AllReadyH.nil
      simp only [List.getElem_toArray, List.getElem_cons_zero, List.getElem_cons_succ]
      go_simp
      refine hK.out _ _ (trivial) (fun hHeld2 => ?_)
      clear hK K
      try simp only [List.getElem_toArray, List.getElem_cons_zero, List.getElem_cons_succ, Act.put, List.setIfInBounds_toArray, List.set_cons_zero, List.set_cons_succ]
      refine wpAnyH_done (by kernel_rfl) ?_ _
      clear c2 dX lX hHeld hHeld2
      go_wp2
      go_roundg (N - (k + 1))
      case measure => have := HGK.out; omega
      case rel => exact ⟨k + 1, k6, _, _, by omega, rfl, by go_num, HK6.out, HS8.out, HR8.out, HX8.out, HO8.out, by rw [List.length_append, HML.out]; rfl, HZ8.out, HSP8.out⟩
    · simp only [List.getElem_toArray, List.getElem_cons_zero, List.getElem_cons_succ]
      go_simp
      go_at_call 49; (with_reducible refine Calls.mono (srcPick_any A n c ds bs kk 80 w0 wd HSD.out (by have := HKK.out; omega) (by omega) (by omega)) ?_); rintro e w6 ⟨q, k6, rfl, hq, hk6, hs6, ha6⟩; have HX6 := Lib.hid (HXD.out.span ha6 (.inr (by have := HBX.out; omega)))
      refine hK.out _ _ trivial (fun hHeld2 => ?_)
      clear hK K
      try simp only [List.getElem_toArray, List.getElem_cons_zero, List.getElem_cons_succ, Act.put, List.setIfInBounds_toArray, List.set_cons_zero, List.set_cons_succ]
      have HS6 := Lib.hid hs6
      have HR6 := Lib.hid (HRD.out.span ha6 (.inr (by have := HLT.out; omega)))
      have HO6 := Lib.hid (HOD.out.span ha6 (fun b hb => .inr (by have := (HOD.out.lt b hb).1; have := HBX.out; omega)))
      have HZ6 : Hid (X + 1 ≤ w6.heap.size) := Nat.le_trans HZD.out ha6.size
      have HK6 : Hid (k6 ≤ 1010 + 2 * (k + 1)) := by have := HKK.out; rw [Hid]; omega
      have HSP6 := Lib.hid (HSPD.out.trans ha6)
      clear hs6 ha6 hk6
      refine wpAnyH_take (i := 4) (oi := _) (v := ?_) rfl (by kernel_rfl) (by kernel_rfl) (by kernel_rfl) (fun _ _ _ h => h) (Or.inl ⟨by rfl, ?_⟩) (by assumption) ?_
      rotate_left
      · intro w hSw; (try dsimp only at hSw); go_simp; (try with_reducible rfl)
      simp only [List.getElem_toArray, List.getElem_cons_zero, List.getElem_cons_succ, Act.put, List.setIfInBounds_toArray, List.set_cons_zero, List.set_cons_succ]
      rw [HYW.out q hq]
      have HBM : Hid (Below w6.heap.size w6 (w6.alloc (.cells #[.int .i64 (250 * (q : Int))] 2))) := (Below.refl _ _).alloc (Nat.le_refl _) _
      refine wpAnyH_ready (rs := [1, 5]) (by kernel_rfl) (by simp) ?_
      refine AllReadyH.cons (o := _) rfl (fun K hK => ?_) (AllReadyH.cons (o := _) rfl (fun K hK => ?_) AllReadyH.nil)
      · have c2 := HX6.out.cell 2
        have lX := HX6.out.lt
        simp at c2
        simp only [List.getElem_toArray, List.getElem_cons_zero, List.getElem_cons_succ]
        go_simp
        refine hK.out _ _ trivial (fun hHeld2 => ?_)
        clear hK K c2 lX
        try simp only [List.getElem_toArray, List.getElem_cons_zero, List.getElem_cons_succ, Act.put, List.setIfInBounds_toArray, List.set_cons_zero, List.set_cons_succ]
        refine wpAnyH_ready (rs := [5]) (by kernel_rfl) (by simp) ?_
        refine AllReadyH.cons (o := _) rfl (fun K hK => ?_) AllReadyH.nil
        simp only [List.getElem_toArray, List.getElem_cons_zero, List.getElem_cons_succ]
        go_simp
        refine hK.out _ _ (trivial) (fun hHeld2 => ?_)
        clear hK K
        try simp only [List.getElem_toArray, List.getElem_cons_zero, List.getElem_cons_succ, Act.put, List.setIfInBounds_toArray, List.set_cons_zero, List.set_cons_succ]
        refine wpAnyH_ready (rs := [6]) (by kernel_rfl) (by simp) ?_
        refine AllReadyH.cons (o := _) rfl (fun K hK => ?_) AllReadyH.nil
        (refine step_push2 (by rfl) (.tmp 22) (.tmp 26) 24 (by rfl) (X + 1) 2 Tryz.underlying24 infoI64 (by rfl) v ms (250 * (q : Int)) w6.heap.size (by rfl) (HO6.out.below' HBM.out) (by first | rfl | simp [go_sem]) (cellR_new _ _ _) (by rw [HML.out]; omega) (by decide) (Nat.le_trans HZ6.out HBM.out.size) ?_; intro G7 cap7 w7 hown' hb' _ _; rw [HML.out] at hown' ⊢; have HX7 : Own w7 X 26 #[.int .i64 RR, .int .i64 CC, v] := (HX6.out.below' HBM.out).below hb' (Nat.lt_succ_self _))
        refine hK.out _ _ (trivial) (fun hHeld2 => ?_)
        clear hK K
        try simp only [List.getElem_toArray, List.getElem_cons_zero, List.getElem_cons_succ, Act.put, List.setIfInBounds_toArray, List.set_cons_zero, List.set_cons_succ]
        refine wpAnyH_take (i := 7) (oi := _) (v := ?_) rfl (by kernel_rfl) (by kernel_rfl) (by kernel_rfl) (fun _ _ _ h => h) (Or.inl ⟨by rfl, ?_⟩) (by assumption) ?_
        rotate_left
        · intro w hSw; (try dsimp only at hSw); go_simp; (try with_reducible rfl)
        simp only [List.getElem_toArray, List.getElem_cons_zero, List.getElem_cons_succ, Act.put, List.setIfInBounds_toArray, List.set_cons_zero, List.set_cons_succ]
        have HS7 := Lib.hid ((HS6.out.grow HBM.out).growF hb' (by have := HBX.out; omega))
        have HR7 : Hid (Own w7 w.heap.size 26 #[.int .i64 0, .int .i64 0, .slice none 0 0]) := (HR6.out.below' HBM.out).below hb' (by have := HXL.out; omega)
        have HZ7 : Hid (X + 1 ≤ w7.heap.size) := Nat.le_trans (Nat.le_trans HZ6.out HBM.out.size) hb'.size
        have HSP7 := Lib.hid ((HSP6.out.trans (Span.of_below HBM.out (Nat.le_refl _))).low (hb'.mono (by have := HXL.out; omega)))
        have HO7 := Lib.hid hown'
        have HXX7 := Lib.hid HX7
        clear hown' hb' HX7
        have c2 := HXX7.out.cell 2
        have dX := HXX7.out.frozen
        have lX := HXX7.out.lt
        simp at c2
        have HX8 : Hid (Own (w7.setCell ⟨X, 2, none⟩ (.slice (some ⟨G7, 0, none⟩) (k + 1) cap7)) X 26 #[.int .i64 RR, .int .i64 CC, .slice (some ⟨G7, 0, none⟩) (k + 1) cap7]) := by
          have h := HXX7.out.put 2 (.slice (some ⟨G7, 0, none⟩) (k + 1) cap7)
          rw [Hid]
          simpa using h
        have HS8 : Hid (SrcAt A n c ds bs k6 w0 (w7.setCell ⟨X, 2, none⟩ (.slice (some ⟨G7, 0, none⟩) (k + 1) cap7))) := HS7.out.put (by have := HBX.out; simp only; omega) (by have := HS7.out.base; have := HBX.out; simp only; omega) _
        have HR8 : Hid (Own (w7.setCell ⟨X, 2, none⟩ (.slice (some ⟨G7, 0, none⟩) (k + 1) cap7)) w.heap.size 26 #[.int .i64 0, .int .i64 0, .slice none 0 0]) := HR7.out.far (by have := HXL.out; simp only; omega) _
        have HO8 : Hid (OwnsL (w7.setCell ⟨X, 2, none⟩ (.slice (some ⟨G7, 0, none⟩) (k + 1) cap7)) (X + 1) 2 1 i64cells (.slice (some ⟨G7, 0, none⟩) (k + 1) cap7) (ms ++ [250 * (q : Int)])) := HO7.out.kept (fun b hb => Below.heap_setCell w7 ⟨X, 2, none⟩ _ b (by have := (HO7.out.lt b hb).1; simp only; omega))
        have HSP8 : Hid (Span bs (bs + 1) w (w7.setCell ⟨X, 2, none⟩ (.slice (some ⟨G7, 0, none⟩) (k + 1) cap7))) := HSP7.out.new (by have := HXL.out; simp only; omega) _
        have HZ8 : Hid (X + 1 ≤ (w7.setCell ⟨X, 2, none⟩ (.slice (some ⟨G7, 0, none⟩) (k + 1) cap7)).heap.size) := by rw [Hid]; simpa using HZ7.out
        refine wpAnyH_ready (rs := [8]) (by kernel_rfl) (by simp) ?_
        refine AllReadyH.cons (o := _) rfl (fun K hK => ?_) AllReadyH.nil
        simp only [List.getElem_toArray, List.getElem_cons_zero, List.getElem_cons_succ]
        go_simp
        refine hK.out _ _ (trivial) (fun hHeld2 => ?_)
        clear hK K
        try simp only [List.getElem_toArray, List.getElem_cons_zero, List.getElem_cons_succ, Act.put, List.setIfInBounds_toArray, List.set_cons_zero, List.set_cons_succ]
        refine wpAnyH_done (by kernel_rfl) ?_ _
        clear c2 dX lX hHeld hHeld2
        go_wp2
        go_roundg (N - (k + 1))
        case measure => have := HGK.out; omega
        case rel => exact ⟨k + 1, k6, _, _, by omega, rfl, by go_num, HK6.out, HS8.out, HR8.out, HX8.out, HO8.out, by rw [List.length_append, HML.out]; rfl, HZ8.out, HSP8.out⟩
      · have c2 := (HX6.out.below' HBM.out).cell 2
        have lX := (HX6.out.below' HBM.out).lt
        simp at c2
        simp only [List.getElem_toArray, List.getElem_cons_zero, List.getElem_cons_succ]
        go_simp
        refine hK.out _ _ trivial (fun hHeld2 => ?_)
        clear hK K
        try simp only [List.getElem_toArray, List.getElem_cons_zero, List.getElem_cons_succ, Act.put, List.setIfInBounds_toArray, List.set_cons_zero, List.set_cons_succ]
        refine wpAnyH_ready (rs := [1]) (by kernel_rfl) (by simp) ?_
        refine AllReadyH.cons (o := _) rfl (fun K hK => ?_) AllReadyH.nil
        simp only [List.getElem_toArray, List.getElem_cons_zero, List.getElem_cons_succ]
        go_simp
        refine hK.out _ _ (trivial) (fun hHeld2 => ?_)
        clear hK K
        try simp only [List.getElem_toArray, List.getElem_cons_zero, List.getElem_cons_succ, Act.put, List.setIfInBounds_toArray, List.set_cons_zero, List.set_cons_succ]
        clear c2 lX
        refine wpAnyH_ready (rs := [6]) (by kernel_rfl) (by simp) ?_
        refine AllReadyH.cons (o := _) rfl (fun K hK => ?_) AllReadyH.nil
        (refine step_push2 (by rfl) (.tmp 22) (.tmp 26) 24 (by rfl) (X + 1) 2 Tryz.underlying24 infoI64 (by rfl) v ms (250 * (q : Int)) w6.heap.size (by rfl) (HO6.out.below' HBM.out) (by first | rfl | simp [go_sem]) (cellR_new _ _ _) (by rw [HML.out]; omega) (by decide) (Nat.le_trans HZ6.out HBM.out.size) ?_; intro G7 cap7 w7 hown' hb' _ _; rw [HML.out] at hown' ⊢; have HX7 : Own w7 X 26 #[.int .i64 RR, .int .i64 CC, v] := (HX6.out.below' HBM.out).below hb' (Nat.lt_succ_self _))
        refine hK.out _ _ (trivial) (fun hHeld2 => ?_)
        clear hK K
        try simp only [List.getElem_toArray, List.getElem_cons_zero, List.getElem_cons_succ, Act.put, List.setIfInBounds_toArray, List.set_cons_zero, List.set_cons_succ]
        refine wpAnyH_take (i := 7) (oi := _) (v := ?_) rfl (by kernel_rfl) (by kernel_rfl) (by kernel_rfl) (fun _ _ _ h => h) (Or.inl ⟨by rfl, ?_⟩) (by assumption) ?_
        rotate_left
        · intro w hSw; (try dsimp only at hSw); go_simp; (try with_reducible rfl)
        simp only [List.getElem_toArray, List.getElem_cons_zero, List.getElem_cons_succ, Act.put, List.setIfInBounds_toArray, List.set_cons_zero, List.set_cons_succ]
        have HS7 := Lib.hid ((HS6.out.grow HBM.out).growF hb' (by have := HBX.out; omega))
        have HR7 : Hid (Own w7 w.heap.size 26 #[.int .i64 0, .int .i64 0, .slice none 0 0]) := (HR6.out.below' HBM.out).below hb' (by have := HXL.out; omega)
        have HZ7 : Hid (X + 1 ≤ w7.heap.size) := Nat.le_trans (Nat.le_trans HZ6.out HBM.out.size) hb'.size
        have HSP7 := Lib.hid ((HSP6.out.trans (Span.of_below HBM.out (Nat.le_refl _))).low (hb'.mono (by have := HXL.out; omega)))
        have HO7 := Lib.hid hown'
        have HXX7 := Lib.hid HX7
        clear hown' hb' HX7
        have c2 := HXX7.out.cell 2
        have dX := HXX7.out.frozen
        have lX := HXX7.out.lt
        simp at c2
        have HX8 : Hid (Own (w7.setCell ⟨X, 2, none⟩ (.slice (some ⟨G7, 0, none⟩) (k + 1) cap7)) X 26 #[.int .i64 RR, .int .i64 CC, .slice (some ⟨G7, 0, none⟩) (k + 1) cap7]) := by
          have h := HXX7.out.put 2 (.slice (some ⟨G7, 0, none⟩) (k + 1) cap7)
          rw [Hid]
          simpa using h
        have HS8 : Hid (SrcAt A n c ds bs k6 w0 (w7.setCell ⟨X, 2, none⟩ (.slice (some ⟨G7, 0, none⟩) (k + 1) cap7))) := HS7.out.put (by have := HBX.out; simp only; omega) (by have := HS7.out.base; have := HBX.out; simp only; omega) _
        have HR8 : Hid (Own (w7.setCell ⟨X, 2, none⟩ (.slice (some ⟨G7, 0, none⟩) (k + 1) cap7)) w.heap.size 26 #[.int .i64 0, .int .i64 0, .slice none 0 0]) := HR7.out.far (by have := HXL.out; simp only; omega) _
        have HO8 : Hid (OwnsL (w7.setCell ⟨X, 2, none⟩ (.slice (some ⟨G7, 0, none⟩) (k + 1) cap7)) (X + 1) 2 1 i64cells (.slice (some ⟨G7, 0, none⟩) (k + 1) cap7) (ms ++ [250 * (q : Int)])) := HO7.out.kept (fun b hb => Below.heap_setCell w7 ⟨X, 2, none⟩ _ b (by have := (HO7.out.lt b hb).1; simp only; omega))
        have HSP8 : Hid (Span bs (bs + 1) w (w7.setCell ⟨X, 2, none⟩ (.slice (some ⟨G7, 0, none⟩) (k + 1) cap7))) := HSP7.out.new (by have := HXL.out; simp only; omega) _
        have HZ8 : Hid (X + 1 ≤ (w7.setCell ⟨X, 2, none⟩ (.slice (some ⟨G7, 0, none⟩) (k + 1) cap7)).heap.size) := by rw [Hid]; simpa using HZ7.out
        refine wpAnyH_ready (rs := [8]) (by kernel_rfl) (by simp) ?_
        refine AllReadyH.cons (o := _) rfl (fun K hK => ?_) AllReadyH.nil
        simp only [List.getElem_toArray, List.getElem_cons_zero, List.getElem_cons_succ]
        go_simp
        refine hK.out _ _ (trivial) (fun hHeld2 => ?_)
        clear hK K
        try simp only [List.getElem_toArray, List.getElem_cons_zero, List.getElem_cons_succ, Act.put, List.setIfInBounds_toArray, List.set_cons_zero, List.set_cons_succ]
        refine wpAnyH_done (by kernel_rfl) ?_ _
        clear c2 dX lX hHeld hHeld2
        go_wp2
        go_roundg (N - (k + 1))
        case measure => have := HGK.out; omega
        case rel => exact ⟨k + 1, k6, _, _, by omega, rfl, by go_num, HK6.out, HS8.out, HR8.out, HX8.out, HO8.out, by rw [List.length_append, HML.out]; rfl, HZ8.out, HSP8.out⟩

end Go.Proofs.YtllchmacipacnaaGreatDoor
