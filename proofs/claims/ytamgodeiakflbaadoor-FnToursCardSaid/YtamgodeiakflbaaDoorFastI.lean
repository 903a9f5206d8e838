/- FastestRoute of the program. -/
import Derived.Test.YtamgodeiakflbaaDoorFastS
import Derived.Test.YtamgodeiakflbaaDoorFarI
namespace Go.Proofs.YtamgodeiakflbaaDoor
open Go.RowKit

set_option maxRecDepth 100000 in
set_option maxHeartbeats 1000000 in
theorem fastClo_any (n p a b5 bt bf oF cF : Nat) (A : Option Addr) (bF nl c : Nat) (xs : List Leg) (F : List Int) (w : World) (h5 : w.cell? ⟨b5, 0, none⟩ = some (.slice A nl c)) (ht : w.cell? ⟨bt, 0, none⟩ = some (.int .i64 a)) (hf : w.cell? ⟨bf, 0, none⟩ = some (.slice (some ⟨bF, oF, none⟩) n cF)) (hx : SliceOf w 4 Leg.cells A nl xs) (hF : SliceOf w 1 i64cells (some ⟨bF, oF, none⟩) n F) (hv : legsOk (n : Int) xs = true) (hp : p < n) (ha : a < n) (hB : ∀ p, -1 ≤ val F p ∧ val F p ≤ 403200) :
    Calls Tryd.prog 22 #[.int .i64 p, .pointer (some ⟨b5, 0, none⟩), .pointer (some ⟨bt, 0, none⟩), .pointer (some ⟨bf, 0, none⟩)] w (Ret (.bool (goOn xs F a p)) w) := by
  have HX := Lib.hid hx
  have HFS := Lib.hid hF
  have HV := Lib.hid hv
  have lt5 := World.block_lt_of_cell? w _ h5
  have ltt := World.block_lt_of_cell? w _ ht
  have ltf := World.block_lt_of_cell? w _ hf
  obtain ⟨_, _, hA, ltF, _⟩ := val_at hF ha
  injection hA with hA
  injection hA with e1 e2 _
  subst e1 e2
  have H5 := Lib.hid h5
  have HT := Lib.hid ht
  have HFC := Lib.hid hf
  clear hx hF hv
  obtain ⟨va, hva⟩ : ∃ z, val F a = z := ⟨_, rfl⟩
  obtain ⟨vp, hvp⟩ : ∃ z, val F p = z := ⟨_, rfl⟩
  have hab := hB a
  have hpb := hB p
  rw [hva] at hab
  rw [hvp] at hpb
  have HVA := Lib.hid hva
  have HVP := Lib.hid hvp
  clear hva hvp hB
  obtain ⟨l, hl⟩ : ∃ l, legD xs ((a : Int), (p : Int)) = l := ⟨_, rfl⟩
  have HLG := Lib.hid hl
  clear hl
  go_enter Tryd.func22, Tryd.ntmps22
  go_wp2_with fail
  (with_reducible refine (legBetween_any (a : Int) (p : Int) _ _ _ xs _ HX.out).mono ?_)
  rintro e w1 ⟨rfl, hb1⟩
  rw [HLG.out]
  unfold Leg.agg
  have hbd := legD_bounds (p := ((a : Int), (p : Int))) HV.out
  rw [HLG.out] at hbd
  obtain ⟨hm1, hm2, _, _⟩ := hbd
  clear h5 ht hf
  have h5 := (hb1.cell (p := ⟨b5, 0, none⟩) lt5).trans H5.out
  cases hh : hasLeg xs ((a : Int), (p : Int))
  · have HG : Hid (false = goOn xs F a p) := by
      rw [Hid]; symm
      rw [← Bool.not_eq_true, goOn_iff, hh]
      exact fun h => by cases h.1
    clear hh
    have hsub := fun (g : Sub (w1.alloc (.cells #[.int .i64 l.from_, .int .i64 l.to_, .int .i64 l.minutes, .int .i64 l.exposure] 32))) b o (h : b < (w1.alloc (.cells #[.int .i64 l.from_, .int .i64 l.to_, .int .i64 l.minutes, .int .i64 l.exposure] 32)).heap.size) => g.cell b o h
    go_wp2_with fail
    refine wp_region_sub (by kernel_rfl) (by kernel_rfl) ?_
    repeat (go_big_quiet_step (fail))
    refine wpQuiet_nil ?_
    intro wg hg
    have HBg := Lib.hid (hb1.trans (((Below.refl w1.heap.size w1).alloc (Nat.le_refl _) (.cells #[.int .i64 l.from_, .int .i64 l.to_, .int .i64 l.minutes, .int .i64 l.exposure] 32)).trans (hg.mono (by simp)) |>.mono hb1.size))
    clear hsub hg hb1
    go_wp2
    go_ret
    exact Ret.b HG.out HBg.out
  · obtain ⟨w2, hw2⟩ : ∃ w2, w1.alloc (.cells #[.int .i64 l.from_, .int .i64 l.to_, .int .i64 l.minutes, .int .i64 l.exposure] 32) = w2 := ⟨_, rfl⟩
    have HG3 : Hid ((decide (0 ≤ vp) = false ∧ goOn xs F a p = false) ∨ (decide (0 ≤ vp) = true ∧ (vp + l.minutes == va) = false ∧ goOn xs F a p = false) ∨ (decide (0 ≤ vp) = true ∧ (vp + l.minutes == va) = true ∧ goOn xs F a p = true)) := by
      rcases goOn_cases (xs := xs) HVA.out HVP.out with ⟨hk, _⟩ | ⟨k, x, hxk, hk, hgo⟩
      · obtain ⟨k, _, h2⟩ := leg_ix hh
        rw [hk] at h2; omega
      · obtain ⟨k', h1, h2⟩ := leg_ix hh
        rw [hk] at h2
        have : k = k' := by omega
        subst this
        rw [hxk] at h1
        injection h1 with h1
        rw [HLG.out] at h1
        rw [← h1]; exact hgo
    have hOl : Own w2 w1.heap.size 32 #[.int .i64 l.from_, .int .i64 l.to_, .int .i64 l.minutes, .int .i64 l.exposure] := by rw [← hw2]; exact Own.new _ _ _
    have hB2 : Below w1.heap.size w1 w2 := by rw [← hw2]; exact (Below.refl _ _).alloc (Nat.le_refl _) _
    go_wp2_with fail
    obtain ⟨X, hX⟩ : ∃ X, w1.heap.size = X := ⟨_, rfl⟩
    obtain ⟨m, hm⟩ : ∃ m, l.minutes = m := ⟨_, rfl⟩
    have hBw := hb1.trans (hB2.mono hb1.size)
    have HBW := Lib.hid hBw
    have l2 := hOl.cell 2
    have ltl := hOl.lt
    rw [hX] at l2 ltl ⊢
    simp at l2
    rw [hm] at l2 hm1 hm2
    have HG3' := HG3.out
    rw [hm] at HG3'
    have ht := (hBw.cell (p := ⟨bt, 0, none⟩) ltt).trans HT.out
    have hf := (hBw.cell (p := ⟨bf, 0, none⟩) ltf).trans HFC.out
    have fa := (hBw.cell (p := ⟨bF, oF + a, none⟩) ltF).trans (val_cell HFS.out ha)
    have fp := (hBw.cell (p := ⟨bF, oF + p, none⟩) ltF).trans (val_cell HFS.out hp)
    rw [HVA.out] at fa
    rw [HVP.out] at fp
    have lt5 := Nat.lt_of_lt_of_le lt5 hBw.size
    have ltt := Nat.lt_of_lt_of_le ltt hBw.size
    have ltf := Nat.lt_of_lt_of_le ltf hBw.size
    have ltF := Nat.lt_of_lt_of_le ltF hBw.size
    have hs : IntKind.i64.wrap (vp + m) = vp + m := IntWalk.i64_in _ (by omega)
    have hsub := fun (g : Sub w2) b o (h : b < w2.heap.size) => g.cell b o h
    clear hw2 hX hm hOl hB2 hBw hb1 h5 hh
    rcases HG3' with ⟨c1, hgo⟩ | ⟨c1, c2, hgo⟩ | ⟨c1, c2, hgo⟩
    all_goals
      have HG := Lib.hid hgo
      clear hgo
      go_wp2_with fail
      refine wp_region_sub (by kernel_rfl) (by kernel_rfl) ?_
      repeat (go_big_quiet_step (fail))
      refine wpQuiet_nil ?_
      intro wg hg
      have HBg := Lib.hid (HBW.out.trans (hg.mono HBW.out.size))
      clear hsub hg fa fp ht hf l2
      go_wp2
      go_ret
      exact Ret.b HG.out.symm HBg.out
set_option maxRecDepth 100000 in
set_option maxHeartbeats 1000000 in
theorem leastFast_any (n a b5 bt bf oF cF : Nat) (A : Option Addr) (bF nl c : Nat) (xs : List Leg) (F : List Int) (w : World) (h5 : w.cell? ⟨b5, 0, none⟩ = some (.slice A nl c)) (ht : w.cell? ⟨bt, 0, none⟩ = some (.int .i64 a)) (hf : w.cell? ⟨bf, 0, none⟩ = some (.slice (some ⟨bF, oF, none⟩) n cF)) (hx : SliceOf w 4 Leg.cells A nl xs) (hF : SliceOf w 1 i64cells (some ⟨bF, oF, none⟩) n F) (hv : legsOk (n : Int) xs = true) (ha : a < n) (hB : ∀ p, -1 ≤ val F p ∧ val F p ≤ 403200) (hn : n ≤ 12) (hex : ∃ p, p < n ∧ goOn xs F a p = true) :
    Calls Tryd.prog 21 #[.int .i64 0, .int .i64 ((n : Int) - 1), .func (.func 22) #[] #[.pointer (some ⟨b5, 0, none⟩), .pointer (some ⟨bt, 0, none⟩), .pointer (some ⟨bf, 0, none⟩)]] w (fun e w' => ∃ p : Nat, e = .returned (.tuple #[.int .i64 p, .bool true]) ∧ p < n ∧ goOn xs F a p = true ∧ (∀ q, q < p → goOn xs F a q = false) ∧ Below w.heap.size w w') := by
  have HX := Lib.hid hx
  have HFS := Lib.hid hF
  have HV := Lib.hid hv
  have HB := Lib.hid hB
  have HE := Lib.hid hex
  have lt5 := World.block_lt_of_cell? w _ h5
  have ltt := World.block_lt_of_cell? w _ ht
  have ltf := World.block_lt_of_cell? w _ hf
  have H5 := Lib.hid h5
  have HT := Lib.hid ht
  have HFC := Lib.hid hf
  clear hx hF hv hB hex h5 ht hf
  go_enter Tryd.func21, Tryd.ntmps21
  go_wp2
  go_loopg [8] n (fun gk s8 wr => ∃ p : Nat, p ≤ n ∧ gk = n - p ∧ s8 = .int .i64 p ∧ (∀ q, q < p → goOn xs F a q = false) ∧ Below w.heap.size w wr)
  case atStart => exact ⟨0, Nat.zero_le _, rfl, rfl, fun q h => absurd h (by omega), Below.refl _ _⟩
  case round =>
    obtain ⟨p, hp, hgp, rfl, hall, hb⟩ := hrel
    have Hgp := Lib.hid hgp
    have HA := Lib.hid hall
    have HBR := Lib.hid hb
    clear hgp hall hb
    by_cases hpn : p < n
    · have hle : (p : Int) ≤ (n : Int) - 1 := by omega
      have hle2 : (p : Int) < (n : Int) := by omega
      go_wp2_with fail
      (with_reducible refine (fastClo_any n p a b5 bt bf oF cF A bF nl c xs F _ ((HBR.out.cell (p := ⟨b5, 0, none⟩) lt5).trans H5.out) ((HBR.out.cell (p := ⟨bt, 0, none⟩) ltt).trans HT.out) ((HBR.out.cell (p := ⟨bf, 0, none⟩) ltf).trans HFC.out) (HX.out.below HBR.out) (HFS.out.below HBR.out) HV.out hpn ha HB.out).mono ?_)
      rintro e w5 ⟨rfl, hb5⟩
      have HB5 := Lib.hid (HBR.out.trans (hb5.mono HBR.out.size))
      clear hb5
      cases hgo : goOn xs F a p
      · have HG := Lib.hid hgo
        clear hgo
        go_wp2
        go_roundg (n - (p + 1))
        case measure => have := Hgp.out; omega
        case rel => exact ⟨p + 1, by omega, rfl, by go_num, all_step HA.out HG.out, HB5.out⟩
      · have HG := Lib.hid hgo
        clear hgo
        go_wp2
        go_ret2
        exact ⟨p, rfl, hpn, HG.out, HA.out, HB5.out⟩
    · obtain ⟨q, hq, hgo⟩ := HE.out
      rw [HA.out q (by omega)] at hgo
      cases hgo
set_option maxRecDepth 100000 in
set_option maxHeartbeats 1000000 in
theorem implFastest_any (pts s g : Int) (A : Option Addr) (nl c : Nat) (xs : List Leg) (w : World) (hx : SliceOf w 4 Leg.cells A nl xs) :
    Calls Tryd.prog 7 #[.int .i64 pts, .slice A nl c, .int .i64 s, .int .i64 g] w (RetLT 2 1 i64cells (fastR pts xs s g) [.int .i64 (fastM pts xs s g), .int .i64 (fastC pts xs s g)] w) := by
  have hBx : Below w.heap.size w (w.alloc (.cells #[.slice A nl c] 24)) := (Below.refl _ _).alloc (Nat.le_refl _) _
  have HBX0 := Lib.hid hBx
  have HO5 := Lib.hid (Own.new w 24 #[.slice A nl c])
  have HX := Lib.hid (hx.below hBx)
  have HL := Lib.hid hx.len
  clear hBx hx
  cases hv : legsOk pts xs
  · have HC : Hid (fastC pts xs s g = 1) := by rw [Hid]; unfold fastC; rw [if_pos hv]
    have HM := Lib.hid (fast_no (show fastC pts xs s g ≠ 0 by rw [HC.out]; decide))
    go_enter Tryd.func7, Tryd.ntmps7
    go_wp2_with fail
    refine (implValidLegs_any _ _ _ _ xs _ HX.out).mono ?_
    rintro e w1 ⟨rfl, hb1⟩
    have HB := Lib.hid (HBX0.out.trans (hb1.mono HBX0.out.size))
    clear hb1
    go_wp2
    go_ret3
    exact RetLT.no3 HC.out.symm HM.out.1.symm HM.out.2 HB.out
  have ⟨_, _⟩ := legsOk_pts hv
  have hnl : nl ≤ 24 := by rw [← HL.out]; exact legs_24 hv
  by_cases hin : (inB s 0 (pts - 1) && inB g 0 (pts - 1)) = true
  rotate_left
  · have hin : (inB s 0 (pts - 1) && inB g 0 (pts - 1)) = false := by simpa using hin
    have HC : Hid (fastC pts xs s g = 2) := by rw [Hid]; unfold fastC; rw [if_neg (by rw [hv]; simp), if_pos hin]
    have HM := Lib.hid (fast_no (show fastC pts xs s g ≠ 0 by rw [HC.out]; decide))
    rcases cases2 (inB s 0 (pts - 1)) (inB g 0 (pts - 1)) with h0 | ⟨h0, h1⟩ | ⟨h0, h1⟩
    · clear hin
      go_enter Tryd.func7, Tryd.ntmps7
      go_wp2_with fail
      refine (implValidLegs_any _ _ _ _ xs _ HX.out).mono ?_
      rintro e w1 ⟨rfl, hb1⟩
      have HB := Lib.hid (HBX0.out.trans (hb1.mono HBX0.out.size))
      clear hb1
      go_wp2_with (go_at_call 19; refine (within_any _ _ _ _).mono ?_; rintro e w' ⟨rfl, rfl⟩)
      go_ret3
      exact RetLT.no3 HC.out.symm HM.out.1.symm HM.out.2 HB.out
    · clear hin
      go_enter Tryd.func7, Tryd.ntmps7
      go_wp2_with fail
      refine (implValidLegs_any _ _ _ _ xs _ HX.out).mono ?_
      rintro e w1 ⟨rfl, hb1⟩
      have HB := Lib.hid (HBX0.out.trans (hb1.mono HBX0.out.size))
      clear hb1
      go_wp2_with (go_at_call 19; refine (within_any _ _ _ _).mono ?_; rintro e w' ⟨rfl, rfl⟩)
      go_ret3
      exact RetLT.no3 HC.out.symm HM.out.1.symm HM.out.2 HB.out
    · rw [h0, h1] at hin; cases hin
  have HA : Hid (askC pts xs s g = 0) := by rw [Hid]; unfold askC; rw [if_neg (by rw [hv]; simp), if_neg (by rw [hin]; simp)]
  rw [Bool.and_eq_true] at hin
  obtain ⟨h0, h1⟩ := hin
  obtain ⟨n, a0, b0, rfl, rfl, rfl, _, ha0, hb0, hn12⟩ := askC_zero HA.out
  have HV := Lib.hid hv
  go_enter Tryd.func7, Tryd.ntmps7
  go_wp2_with fail
  refine (implValidLegs_any _ _ _ _ xs _ HX.out).mono ?_
  rintro e w1 ⟨rfl, hb1⟩
  have HB1 := Lib.hid (HBX0.out.trans (hb1.mono HBX0.out.size))
  have HO51 := Lib.hid (HO5.out.below' hb1)
  have HX1 := Lib.hid (HX.out.below hb1)
  have y5 := HO51.out.cell 0
  have l5 := HO51.out.lt
  simp at y5
  clear hb1 hv
  go_wp2_with (go_at_call 19; refine (within_any _ _ _ _).mono ?_; rintro e w' ⟨rfl, rfl⟩)
  (with_reducible refine (minutesTo_any n b0 _ _ _ xs _ HX1.out HV.out hb0 hn12).mono ?_)
  rintro e w2 ⟨v, rfl, hown, hb2⟩
  clear y5 l5
  obtain ⟨F, hF⟩ : ∃ F, farL xs n b0 = F := ⟨_, rfl⟩
  obtain ⟨FA, cF, rfl, hfc, hfm, hfs⟩ := hown.slice i64cells_len
  have hFl : F.length = n := by rw [← hF]; exact farL_len
  rw [hF] at hfs hfc hown ⊢
  rw [hFl] at hfs hfc ⊢
  have HF := Lib.hid hF
  have HFB : Hid (∀ p, -1 ≤ val F p ∧ val F p ≤ 403200) := fun p => by
    have h1 := (farL_tight (n := n) rfl HV.out hb0).two p
    have h2 := farL_bnd (n := n) rfl HV.out hb0 n p
    rw [← hF]; unfold farL at h1 ⊢; omega
  clear hown hF hFl
  obtain ⟨w3, hw3⟩ : ∃ w3, w2.alloc (.cells #[.slice FA n cF] 28) = w3 := ⟨_, rfl⟩
  obtain ⟨X, hX⟩ : ∃ X, w2.heap.size = X := ⟨_, rfl⟩
  have hB3 : Below w2.heap.size w2 w3 := by rw [← hw3]; exact (Below.refl _ _).alloc (Nat.le_refl _) _
  have HO11 : Hid (Own w3 X 28 #[.slice FA n cF]) := by rw [Hid, ← hw3, ← hX]; exact Own.new _ _ _
  have HO5 := Lib.hid ((HO51.out.below' hb2).below' hB3)
  have HX3 := Lib.hid ((HX1.out.below hb2).below hB3)
  have HFS := Lib.hid (hfs.below hB3)
  have HB3 : Hid (Below w.heap.size w w3) := (HB1.out.trans (hb2.mono HB1.out.size)).trans (hB3.mono (Nat.le_trans HB1.out.size hb2.size))
  have y5 := HO5.out.cell 0
  have l5 := HO5.out.lt
  have y11 := HO11.out.cell 0
  have l11 := HO11.out.lt
  simp at y5 y11
  clear hfs hb2 hB3 HO51 HX1
  obtain ⟨bF, oF, rfl, hbF, fs⟩ := val_at HFS.out ha0
  obtain ⟨vs, hvs⟩ : ∃ z, val F a0 = z := ⟨_, rfl⟩
  rw [hvs] at fs
  have HVS := Lib.hid hvs
  have hvb := HFB.out a0
  rw [hvs] at hvb
  clear hvs
  by_cases hneg : vs < 0
  · have HN : Hid (fastC n xs a0 b0 = 3) := by rw [Hid, fastC_on HA.out, HF.out, HVS.out, if_pos hneg]
    have HM := Lib.hid (fast_no (show fastC n xs a0 b0 ≠ 0 by rw [HN.out]; decide))
    go_wp2
    go_ret3
    exact RetLT.no3 HN.out.symm HM.out.1.symm HM.out.2 HB3.out
  have HN : Hid (fastC n xs a0 b0 = 0) := by rw [Hid, fastC_on HA.out, HF.out, HVS.out, if_neg hneg]
  have hd : decide (vs < 0) = false := decide_eq_false hneg
  have HO1 : Hid (OwnsL (w3.alloc (.cells #[.int .i64 a0] 2)) w3.heap.size 2 1 i64cells (.slice (some ⟨w3.heap.size, 0, none⟩) 1 1) (([] ++ [a0]).map Int.ofNat)) := ownsL_lit w3 [(a0 : Int)] _ (Nat.le_refl _) (by simp)
  have HS1 : Hid (Stand xs n b0 a0 a0 []) := by
    refine ⟨ha0, ?_, rfl⟩
    rw [HF.out, HVS.out]; omega
  go_wp2
  clear hd fs y5 y11
  have HXW := Lib.hid hX
  clear hX hw3
  go_loopg [12, 13] vs.toNat (fun gk s12 s13 wr => ∃ (a bt : Nat) (v : Value) (pre : List Nat), gk = (val F a).toNat ∧ s13 = .pointer (some ⟨bt, 0, none⟩) ∧ v = s12 ∧ Stand xs n b0 a0 a pre ∧ Below w3.heap.size w3 wr ∧ OwnsL wr w3.heap.size 2 1 i64cells v ((pre ++ [a]).map Int.ofNat) ∧ Own wr bt 2 #[.int .i64 a] ∧ w3.heap.size ≤ bt ∧ ∀ k, v.ownBlock = some k → k ≠ bt)
  case atStart => exact ⟨a0, w3.heap.size + 1, _, [], by rw [HVS.out], by simp, rfl, HS1.out, ((Below.refl _ _).alloc (Nat.le_refl _) _).alloc (by simp) _, HO1.out.alloc _, by simpa using Own.new (w3.alloc (.cells #[.int .i64 a0] 2)) 2 #[.int .i64 a0], by omega, fun k hk => by simp [Value.ownBlock] at hk; omega⟩
  case round =>
    obtain ⟨a, bt, v, pre, hgk, rfl, rfl, hst, hb, hown, hbt, hbt3, hne⟩ := hrel
    have Hgk := Lib.hid hgk
    have HST := Lib.hid hst
    have HB := Lib.hid hb
    have HO := Lib.hid hown
    have HBT := Lib.hid hbt
    have HNE := Lib.hid hne
    have HB3T := Lib.hid hbt3
    have han := hst.lt
    have yt := hbt.cell 0
    have lt := hbt.lt
    simp at yt
    clear hgk hst hb hown hbt hne hbt3
    by_cases hag : a = b0
    · subst hag
      have HE := Lib.hid HST.out.end_
      have hq : ((a : Int) != (a : Int)) = false := by simp
      have hq2 : ((a : Int) == (a : Int)) = true := by simp
      have hlt := Nat.lt_of_lt_of_le hbF HB.out.size
      have fs := (HB.out.cell (p := ⟨bF, oF + a0, none⟩) hbF).trans (val_cell HFS.out ha0)
      rw [HVS.out] at fs
      have l11' := Nat.lt_of_lt_of_le l11 HB.out.size
      have y11 := (HB.out.cell (p := ⟨X, 0, none⟩) l11).trans (HO11.out.cell 0)
      simp at y11
      have hsub := fun (g : Sub wr) b o (h : b < wr.heap.size) => g.cell b o h
      have HM : Hid (vs = fastM n xs a0 a) := by rw [Hid]; unfold fastM; rw [if_pos HN.out, Int.toNat_natCast, Int.toNat_natCast, Int.toNat_natCast, HF.out, HVS.out]
      have HR : Hid ((pre ++ [a]).map Int.ofNat = fastR n xs a0 a) := by rw [Hid]; unfold fastR; rw [if_pos HN.out, Int.toNat_natCast, Int.toNat_natCast, Int.toNat_natCast, HE.out]
      go_wp2_with fail
      clear yt lt
      go_wp2_with fail
      refine wp_region_sub (by kernel_rfl) (by kernel_rfl) ?_
      repeat (go_big_quiet_step (fail))
      refine wpQuiet_nil ?_
      intro wg hg
      have HOg : Hid (OwnsL wg w3.heap.size 2 1 i64cells v (fastR n xs a0 a)) := by rw [Hid, ← HR.out]; exact HO.out.below' hg
      have HBg := Lib.hid (HB3.out.trans ((HB.out.trans (hg.mono HB.out.size)).mono HB3.out.size))
      clear hsub fs hg y11
      go_wp2
      go_ret3
      exact RetLT.yes3 HN.out.symm HM.out HOg.out HB3.out.size HBg.out
    · have hq : ((a : Int) != (b0 : Int)) = true := by simp; omega
      have hq2 : ((a : Int) == (b0 : Int)) = false := by simp; omega
      have HLN : Hid (pre.length ≤ 403201) := by
        have := HST.out.len
        rw [HF.out, HVS.out] at this
        rw [Hid]; omega
      have HNX : Hid (∃ p, p < n ∧ goOn xs F a p = true) := by rw [Hid, ← HF.out]; exact next_some rfl HV.out hb0 HST.out.pos hag
      have c5 := (HB.out.cell (p := ⟨w.heap.size, 0, none⟩) l5).trans (HO5.out.cell 0)
      have c11 := (HB.out.cell (p := ⟨X, 0, none⟩) l11).trans (HO11.out.cell 0)
      simp at c5 c11
      have C5 := Lib.hid c5
      have C11 := Lib.hid c11
      have CT := Lib.hid yt
      clear c5 c11
      go_wp2_with fail
      (with_reducible refine (leastFast_any n a _ bt _ oF cF _ bF _ _ xs F _ C5.out CT.out C11.out (HX3.out.below HB.out) (HFS.out.below HB.out) HV.out han HFB.out hn12 HNX.out).mono ?_)
      rintro e w5 ⟨p, rfl, hpn, hgo, hall, hb5⟩
      have HNS : Hid (Stand xs n b0 a0 p (pre ++ [a]) ∧ val F p < val F a) := by
        have h := HST.out.next HV.out hb0 hag hpn (by rw [HF.out]; exact hgo) (by rw [HF.out]; exact hall)
        rw [HF.out] at h
        exact h
      have HB5 := Lib.hid (HB.out.trans (hb5.mono HB.out.size))
      have HO5' := Lib.hid (HO.out.below' hb5)
      have HBT5 := Lib.hid (HBT.out.below' hb5)
      clear hq hq2 hgo hall hb5 yt lt
      have dt := HBT5.out.frozen
      have lt := HBT5.out.lt
      have yt := HBT5.out.cell 0
      simp at yt
      obtain ⟨wz, hwz⟩ : ∃ wz, w5.setCell ⟨bt, 0, none⟩ (.int .i64 p) = wz := ⟨_, rfl⟩
      have HBZ : Hid (Below w3.heap.size w3 wz) := by rw [Hid, ← hwz]; exact HB5.out.setCell HB3T.out _
      have HBTZ : Hid (Own wz bt 2 #[.int .i64 p]) := by rw [Hid, ← hwz]; simpa using HBT5.out.put 0 (.int .i64 p)
      have HOZ : Hid (OwnsL wz w3.heap.size 2 1 i64cells v ((pre ++ [a]).map Int.ofNat)) := by
        rw [Hid, ← hwz]
        exact HO5'.out.kept (fun k hk => Below.heap_setCell w5 ⟨bt, 0, none⟩ _ k (HNE.out k hk))
      have zt := HBTZ.out.cell 0
      have ltz := HBTZ.out.lt
      simp at zt
      go_wp2_with (at_builtin; refine wpList_push (by rfl) (.tmp 54) (.tmp 56) 28 (by rfl) w3.heap.size 2 1 Tryd.underlying28 infoI64 (by rfl) (by decide) i64cells i64cells_len i64cells_one _ v _ (p : Int) (by rfl) (by rfl) HOZ.out (by first | rfl | simp [go_sem]) (by have := HLN.out; simp; omega) (by decide) HBZ.out.size ?_)
      intro v' w' hown' hb' hkp
      have HW : Hid (OwnsL w' w3.heap.size 2 1 i64cells v' (((pre ++ [a]) ++ [p]).map Int.ofNat)) := by rw [Hid]; simpa using hown'
      have HBw := Lib.hid (HBZ.out.trans hb')
      have HBTw : Hid (Own w' bt 2 #[.int .i64 p]) := (hkp bt ltz (fun h => HNE.out bt h.symm rfl)).trans HBTZ.out
      clear hown' hb' hkp hwz yt dt lt zt ltz
      have yt := HBTw.out.cell 0
      have lt := HBTw.out.lt
      simp at yt
      go_wp2
      go_roundg (val F p).toNat
      case measure => have h1 := Hgk.out; have h2 := HNS.out.2; have := HFB.out p; have := HNS.out.1.pos; rw [HF.out] at this; omega
      case rel => exact ⟨p, w'.heap.size, v', pre ++ [a], rfl, rfl, rfl, HNS.out.1, HBw.out.alloc HBw.out.size _, HW.out.alloc _, Own.new _ _ _, HBw.out.size, fun k hk => Nat.ne_of_lt (HW.out.lt k hk).2⟩

end Go.Proofs.YtamgodeiakflbaaDoor
