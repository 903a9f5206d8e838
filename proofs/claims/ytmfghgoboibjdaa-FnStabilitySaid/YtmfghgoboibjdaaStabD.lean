/- The profile that the law of stability draws is valid. -/
import Derived.Test.YtmfghgoboibjdaaStabM
import Derived.Test.YtmfghgoboibjdaaSrcK
import Derived.Test.YtmfghgoboibjdaaPush2
namespace Go.Proofs.Ytmfghgoboibjdaa
open Go.RowKit

theorem Span.far {lo hi : Nat} {a w : World} (h : Span lo hi a w) {p : Addr} (hp : a.heap.size ≤ p.block) (u : Value) : Span lo hi a (w.setCell p u) :=
  ⟨h.os, h.tape, h.output, by simpa using h.size, fun k hk ho => (Below.heap_setCell w p u k (by omega)).trans (h.block k hk ho)⟩
/-- The layer that is being drawn, in block X, and the result's own block R. -/
structure OneAt (A : Option Addr) (n c : Nat) (ds : List Int) (bs k R X : Nat) (cs : Array Value) (w0 w wr : World) : Prop where
  src : SrcAt A n c ds bs k w0 wr
  res : Own wr R 30 #[.int .i64 0, .int .i64 0, .int .i64 0, .int .i64 0, .int .i64 0, .int .i64 0, .int .i64 0]
  own : Own wr X 30 cs
  span : Span bs (bs + 1) w wr
  hR : w.heap.size ≤ R
  hX : R < X
  hb : bs < w.heap.size
theorem OneAt.picked {A : Option Addr} {n c : Nat} {ds : List Int} {bs k k' R X : Nat} {cs : Array Value} {w0 w wr w' : World} (h : OneAt A n c ds bs k R X cs w0 w wr) (hs : SrcAt A n c ds bs k' w0 w') (ha : Span bs (bs + 1) wr w') : OneAt A n c ds bs k' R X cs w0 w w' :=
  ⟨hs, Own.span h.res ha (.inr (by have := h.hR; have := h.hb; omega)), Own.span h.own ha (.inr (by have := h.hR; have := h.hb; have := h.hX; omega)), h.span.trans ha, h.hR, h.hX, h.hb⟩
theorem OneAt.put {A : Option Addr} {n c : Nat} {ds : List Int} {bs k R X : Nat} {cs cs' : Array Value} {w0 w wr : World} (h : OneAt A n c ds bs k R X cs w0 w wr) (i : Nat) (v : Value) (he : cs.setIfInBounds i v = cs') : OneAt A n c ds bs k R X cs' w0 w (wr.setCell ⟨X, i, none⟩ v) :=
  ⟨h.src.put (p := ⟨X, i, none⟩) (by have := h.hR; have := h.hb; have := h.hX; simp only; omega) (by have := h.hR; have := h.hX; have := h.src.base; have := h.hb; simp only; omega) v, h.res.far (p := ⟨X, i, none⟩) (by have := h.hX; simp only; omega) v, by have := h.own.put i v; rwa [he] at this,
   Span.far h.span (p := ⟨X, i, none⟩) (by have := h.hR; have := h.hX; simp only; omega) v, h.hR, h.hX, h.hb⟩
theorem OneAt.grow {A : Option Addr} {n c : Nat} {ds : List Int} {bs k R X : Nat} {cs : Array Value} {w0 w wr w' : World} (h : OneAt A n c ds bs k R X cs w0 w wr) (hb : Below wr.heap.size wr w') : OneAt A n c ds bs k R X cs w0 w w' :=
  ⟨h.src.grow hb, h.res.below' hb, h.own.below' hb, h.span.trans (Span.of_below hb (Nat.le_refl _)), h.hR, h.hX, h.hb⟩
set_option maxRecDepth 100000 in
set_option maxHeartbeats 1000000 in
theorem l03DrawOne_ok (A : Option Addr) (n c : Nat) (ds : List Int) (bs k : Nat) (w0 w : World) (h : SrcAt A n c ds bs k w0 w) (hk : k ≤ 1000) :
    Calls Try.prog 46 #[.pointer (some ⟨bs, 0, none⟩)] w (fun e w' => ∃ (x : Layer) (k' : Nat), e = .returned (.agg #[.int .i64 x.form, .int .i64 x.ice, .int .i64 x.water, .int .i64 x.density, .int .i64 x.degrees, .int .i64 x.hardness, .int .i64 x.age]) ∧ x.oneB = true ∧ k' ≤ k + 14 ∧ SrcAt A n c ds bs k' w0 w' ∧ Span bs (bs + 1) w w') := by
  obtain ⟨R, hR⟩ : ∃ R, w.heap.size = R := ⟨_, rfl⟩
  obtain ⟨wr, hwr⟩ : ∃ wr, w.alloc (.cells #[.int .i64 0, .int .i64 0, .int .i64 0, .int .i64 0, .int .i64 0, .int .i64 0, .int .i64 0] 30) = wr := ⟨_, rfl⟩
  have hb : Below w.heap.size w wr := by rw [← hwr]; exact (Below.refl _ _).alloc (Nat.le_refl _) _
  have HSR := Lib.hid (h.grow hb)
  have HRE : Hid (Own wr R 30 #[.int .i64 0, .int .i64 0, .int .i64 0, .int .i64 0, .int .i64 0, .int .i64 0, .int .i64 0]) := by rw [Hid, ← hwr, ← hR]; exact Own.new _ _ _
  have HSW := Lib.hid (Span.of_below (lo := bs) (hi := bs + 1) hb (Nat.le_refl _))
  have HBS := Lib.hid h.lt
  have HR := Lib.hid hR
  have HWR := Lib.hid hwr
  clear h hb hR hwr
  go_enter Try.func46, Try.ntmps46
  go_wp2_with fail
  rw [HWR.out, HR.out]
  refine (srcPick_any A n c ds bs k 6 w0 wr HSR.out (by omega) (by omega) (by omega)).mono ?_
  rintro e w1 ⟨p1, k1, rfl, hp1, hk1, hs1, ha1⟩
  obtain ⟨f, hf⟩ : ∃ f, 1 + (p1 : Int) = f := ⟨_, rfl⟩
  have HFB : Hid (1 ≤ f ∧ f ≤ 6) := by rw [Hid]; omega
  obtain ⟨X, hX⟩ : ∃ X, w1.heap.size = X := ⟨_, rfl⟩
  obtain ⟨wx, hwx⟩ : ∃ wx, w1.alloc (.cells #[.int .i64 f, .int .i64 0, .int .i64 0, .int .i64 0, .int .i64 0, .int .i64 0, .int .i64 0] 30) = wx := ⟨_, rfl⟩
  have hbx : Below w1.heap.size w1 wx := by rw [← hwx]; exact (Below.refl _ _).alloc (Nat.le_refl _) _
  have hRX : R < X := by have := HRE.out.lt; have := ha1.size; omega
  have H1 : Hid (OneAt A n c ds bs k1 R X #[.int .i64 f, .int .i64 0, .int .i64 0, .int .i64 0, .int .i64 0, .int .i64 0, .int .i64 0] w0 w wx) :=
    ⟨hs1.grow hbx, (Own.span HRE.out ha1 (.inr (by have := HR.out; have := HBS.out; omega))).below' hbx, by rw [← hwx, ← hX]; exact Own.new _ _ _, (HSW.out.trans ha1).trans (Span.of_below hbx (Nat.le_refl _)), Nat.le_of_eq HR.out, hRX, HBS.out⟩
  have HWX := Lib.hid hwx
  have HX := Lib.hid hX
  clear hs1 ha1 hbx hwx hX
  go_wp2_with fail
  rw [HWX.out, HX.out]
  clear hf
  refine (srcPick_any A n c ds bs k1 120 w0 _ H1.out.src (by omega) (by omega) (by omega)).mono ?_
  rintro e v1 ⟨p2, k2, rfl, hp2, hk2, hs, ha⟩
  have HP1 := Lib.hid (H1.out.picked hs ha)
  obtain ⟨ice, hv⟩ : ∃ ice, 1000 + 500 * (p2 : Int) = ice := ⟨_, rfl⟩
  have HE := Lib.hid hv
  have HB2 : Hid (1000 ≤ ice ∧ ice ≤ 60500) := by rw [Hid]; omega
  obtain ⟨u1, hu⟩ : ∃ u, v1.setCell ⟨X, 1, none⟩ (.int .i64 ice) = u := ⟨_, rfl⟩
  have H2 : Hid (OneAt A n c ds bs k2 R X #[.int .i64 f, .int .i64 ice, .int .i64 0, .int .i64 0, .int .i64 0, .int .i64 0, .int .i64 0] w0 w u1) := by rw [Hid, ← hu]; exact HP1.out.put 1 (.int .i64 ice) (by simp)
  have HU1 := Lib.hid hu
  have y := HP1.out.own.cell 1
  have fy := HP1.out.own.frozen
  have ly := HP1.out.own.lt
  simp at y
  clear hs ha hu hv
  go_wp2_with fail
  rw [HE.out, HU1.out]
  clear y fy ly
  have hz1 : v1.heap.size = u1.heap.size := by rw [← HU1.out]; simp
  rw [hz1]
  have hsn := sliceOf_new u1 2 [0, 0, 0, 100, 700, 3000] (by decide)
  have hbn : Below u1.heap.size u1 (u1.alloc (.cells #[.int .i64 0, .int .i64 0, .int .i64 0, .int .i64 100, .int .i64 700, .int .i64 3000] 2)) := (Below.refl _ _).alloc (Nat.le_refl _) _
  have HG2 := Lib.hid (H2.out.grow hbn)
  refine (srcAmong_any A n c ds bs k2 6 _ _ 0 [0, 0, 0, 100, 700, 3000] w0 _ HG2.out.src (by omega) (by omega) (by omega) hsn (by have := H2.out.src.lt; omega)).mono ?_
  rintro e v2 ⟨wat, k3, rfl, hwat, hk3, hs, ha⟩
  have HP2 := Lib.hid (HG2.out.picked hs ha)
  have hwb : 0 ≤ wat ∧ wat ≤ 3000 := by simp at hwat; omega
  have HB3 := Lib.hid hwb
  obtain ⟨u2, hu⟩ : ∃ u, v2.setCell ⟨X, 2, none⟩ (.int .i64 wat) = u := ⟨_, rfl⟩
  have H3 : Hid (OneAt A n c ds bs k3 R X #[.int .i64 f, .int .i64 ice, .int .i64 wat, .int .i64 0, .int .i64 0, .int .i64 0, .int .i64 0] w0 w u2) := by rw [Hid, ← hu]; exact HP2.out.put 2 (.int .i64 wat) (by simp)
  have HU2 := Lib.hid hu
  have y := HP2.out.own.cell 2
  have fy := HP2.out.own.frozen
  have ly := HP2.out.own.lt
  simp at y
  clear hs ha hu hsn hbn hwat
  go_wp2_with fail
  rw [HU2.out]
  clear y fy ly
  refine (srcPick_any A n c ds bs k3 40 w0 _ H3.out.src (by omega) (by omega) (by omega)).mono ?_
  rintro e v3 ⟨p4, k4, rfl, hp4, hk4, hs, ha⟩
  have HP3 := Lib.hid (H3.out.picked hs ha)
  obtain ⟨den, hv⟩ : ∃ den, 60 + 10 * (p4 : Int) = den := ⟨_, rfl⟩
  have HE := Lib.hid hv
  have HB4 : Hid (60 ≤ den ∧ den ≤ 450) := by rw [Hid]; omega
  obtain ⟨u3, hu⟩ : ∃ u, v3.setCell ⟨X, 3, none⟩ (.int .i64 den) = u := ⟨_, rfl⟩
  have H4 : Hid (OneAt A n c ds bs k4 R X #[.int .i64 f, .int .i64 ice, .int .i64 wat, .int .i64 den, .int .i64 0, .int .i64 0, .int .i64 0] w0 w u3) := by rw [Hid, ← hu]; exact HP3.out.put 3 (.int .i64 den) (by simp)
  have HU3 := Lib.hid hu
  have y := HP3.out.own.cell 3
  have fy := HP3.out.own.frozen
  have ly := HP3.out.own.lt
  simp at y
  clear hs ha hu hv
  go_wp2_with fail
  rw [HE.out, HU3.out]
  clear y fy ly
  refine (srcPick_any A n c ds bs k4 30 w0 _ H4.out.src (by omega) (by omega) (by omega)).mono ?_
  rintro e v4 ⟨p5, k5, rfl, hp5, hk5, hs, ha⟩
  have HP4 := Lib.hid (H4.out.picked hs ha)
  obtain ⟨deg, hv⟩ : ∃ deg, -50 * (p5 : Int) = deg := ⟨_, rfl⟩
  have HE := Lib.hid hv
  have HB5 : Hid (-1450 ≤ deg ∧ deg ≤ 0) := by rw [Hid]; omega
  obtain ⟨u4, hu⟩ : ∃ u, v4.setCell ⟨X, 4, none⟩ (.int .i64 deg) = u := ⟨_, rfl⟩
  have H5 : Hid (OneAt A n c ds bs k5 R X #[.int .i64 f, .int .i64 ice, .int .i64 wat, .int .i64 den, .int .i64 deg, .int .i64 0, .int .i64 0] w0 w u4) := by rw [Hid, ← hu]; exact HP4.out.put 4 (.int .i64 deg) (by simp)
  have HU4 := Lib.hid hu
  have y := HP4.out.own.cell 4
  have fy := HP4.out.own.frozen
  have ly := HP4.out.own.lt
  simp at y
  clear hs ha hu hv
  have y2 := HP4.out.own.cell 2
  simp at y2
  by_cases hw0 : 0 < wat
  · obtain ⟨u5, hu5⟩ : ∃ u5, u4.setCell ⟨X, 4, none⟩ (.int .i64 0) = u5 := ⟨_, rfl⟩
    have H6 : Hid (OneAt A n c ds bs k5 R X #[.int .i64 f, .int .i64 ice, .int .i64 wat, .int .i64 den, .int .i64 0, .int .i64 0, .int .i64 0] w0 w u5) := by rw [Hid, ← hu5]; exact H5.out.put 4 (.int .i64 0) (by simp)
    have HU5 : Hid ((v4.setCell ⟨X, 4, none⟩ (.int .i64 deg)).setCell ⟨X, 4, none⟩ (.int .i64 0) = u5) := by rw [Hid, HU4.out]; exact hu5
    clear hu5
    go_wp2_with fail
    rw [HE.out, HU5.out]
    clear y y2 fy ly
    refine (srcPick_any A n c ds bs k5 6 w0 _ H6.out.src (by omega) (by omega) (by omega)).mono ?_
    rintro e v6 ⟨p6, k6, rfl, hp6, hk6, hs, ha⟩
    have HP6 := Lib.hid (H6.out.picked hs ha)
    obtain ⟨hard, hv⟩ : ∃ hard, 1 + (p6 : Int) = hard := ⟨_, rfl⟩
    have HE := Lib.hid hv
    have HB6 : Hid (1 ≤ hard ∧ hard ≤ 6) := by rw [Hid]; omega
    obtain ⟨u6, hu⟩ : ∃ u, v6.setCell ⟨X, 5, none⟩ (.int .i64 hard) = u := ⟨_, rfl⟩
    have H7 : Hid (OneAt A n c ds bs k6 R X #[.int .i64 f, .int .i64 ice, .int .i64 wat, .int .i64 den, .int .i64 0, .int .i64 hard, .int .i64 0] w0 w u6) := by rw [Hid, ← hu]; exact HP6.out.put 5 (.int .i64 hard) (by simp)
    have HU6 := Lib.hid hu
    have y := HP6.out.own.cell 5
    have fy := HP6.out.own.frozen
    have ly := HP6.out.own.lt
    simp at y
    clear hs ha hu hv
    go_wp2_with fail
    rw [HE.out, HU6.out]
    clear y fy ly
    refine (srcPick_any A n c ds bs k6 400 w0 _ H7.out.src (by omega) (by omega) (by omega)).mono ?_
    rintro e v7 ⟨p7, k7, rfl, hp7, hk7, hs, ha⟩
    have HP7 := Lib.hid (H7.out.picked hs ha)
    obtain ⟨u7, hu⟩ : ∃ u, v7.setCell ⟨X, 6, none⟩ (.int .i64 p7) = u := ⟨_, rfl⟩
    have H8 : Hid (OneAt A n c ds bs k7 R X #[.int .i64 f, .int .i64 ice, .int .i64 wat, .int .i64 den, .int .i64 0, .int .i64 hard, .int .i64 p7] w0 w u7) := by rw [Hid, ← hu]; exact HP7.out.put 6 (.int .i64 p7) (by simp)
    have HU7 := Lib.hid hu
    obtain ⟨uf, huf⟩ : ∃ uf, ((((((u7.setCell ⟨R, 0, none⟩ (.int .i64 f)).setCell ⟨R, 1, none⟩ (.int .i64 ice)).setCell ⟨R, 2, none⟩ (.int .i64 wat)).setCell ⟨R, 3, none⟩ (.int .i64 den)).setCell ⟨R, 4, none⟩ (.int .i64 0)).setCell ⟨R, 5, none⟩ (.int .i64 hard)).setCell ⟨R, 6, none⟩ (.int .i64 p7) = uf := ⟨_, rfl⟩
    have HOF : Hid (Own uf R 30 #[.int .i64 f, .int .i64 ice, .int .i64 wat, .int .i64 den, .int .i64 0, .int .i64 hard, .int .i64 p7]) := by
      rw [Hid, ← huf]
      simpa using ((((((H8.out.res.put 0 (.int .i64 f)).put 1 (.int .i64 ice)).put 2 (.int .i64 wat)).put 3 (.int .i64 den)).put 4 (.int .i64 0)).put 5 (.int .i64 hard)).put 6 (.int .i64 p7)
    have hbsR : bs ≠ R := by have := H8.out.hb; have := H8.out.hR; omega
    have hw0R : w0.heap.size ≤ R := by have := H8.out.src.base; have := H8.out.hb; have := H8.out.hR; omega
    have HSF : Hid (SrcAt A n c ds bs k7 w0 uf) := by
      rw [Hid, ← huf]
      exact ((((((H8.out.src.put (p := ⟨R, 0, none⟩) hbsR hw0R _).put (p := ⟨R, 1, none⟩) hbsR hw0R _).put (p := ⟨R, 2, none⟩) hbsR hw0R _).put (p := ⟨R, 3, none⟩) hbsR hw0R _).put (p := ⟨R, 4, none⟩) hbsR hw0R _).put (p := ⟨R, 5, none⟩) hbsR hw0R _).put (p := ⟨R, 6, none⟩) hbsR hw0R _
    have HAF : Hid (Span bs (bs + 1) w uf) := by
      rw [Hid, ← huf]
      have hr := H8.out.hR
      exact Span.far (Span.far (Span.far (Span.far (Span.far (Span.far (Span.far H8.out.span (p := ⟨R, 0, none⟩) hr _) (p := ⟨R, 1, none⟩) hr _) (p := ⟨R, 2, none⟩) hr _) (p := ⟨R, 3, none⟩) hr _) (p := ⟨R, 4, none⟩) hr _) (p := ⟨R, 5, none⟩) hr _) (p := ⟨R, 6, none⟩) hr _
    have HUF : Hid ((((((((v7.setCell ⟨X, 6, none⟩ (.int .i64 p7)).setCell ⟨R, 0, none⟩ (.int .i64 f)).setCell ⟨R, 1, none⟩ (.int .i64 ice)).setCell ⟨R, 2, none⟩ (.int .i64 wat)).setCell ⟨R, 3, none⟩ (.int .i64 den)).setCell ⟨R, 4, none⟩ (.int .i64 0)).setCell ⟨R, 5, none⟩ (.int .i64 hard)).setCell ⟨R, 6, none⟩ (.int .i64 p7) = uf) := by rw [Hid, HU7.out]; exact huf
    have y0 := HP7.out.own.cell 0
    have y1 := HP7.out.own.cell 1
    have y2 := HP7.out.own.cell 2
    have y3 := HP7.out.own.cell 3
    have y4 := HP7.out.own.cell 4
    have y5 := HP7.out.own.cell 5
    have y6 := HP7.out.own.cell 6
    have fy := HP7.out.own.frozen
    have ly := HP7.out.own.lt
    have z0 := HP7.out.res.cell 0
    have z1 := HP7.out.res.cell 1
    have z2 := HP7.out.res.cell 2
    have z3 := HP7.out.res.cell 3
    have z4 := HP7.out.res.cell 4
    have z5 := HP7.out.res.cell 5
    have z6 := HP7.out.res.cell 6
    have fz := HP7.out.res.frozen
    have lz := HP7.out.res.lt
    have hne : R ≠ X := by have := HP7.out.hX; omega
    simp at y0 y1 y2 y3 y4 y5 y6 z0 z1 z2 z3 z4 z5 z6
    have HK : Hid (k7 ≤ k + 14) := by rw [Hid]; omega
    have HONE : Hid (Layer.oneB ⟨f, ice, wat, den, 0, hard, p7⟩ = true) := by
      have b1 := HFB.out
      have b2 := HB2.out
      have b3 := HB3.out
      have b4 := HB4.out
      have b5 := HB5.out
      have b6 := HB6.out
      rw [Hid]
      unfold Layer.oneB
      simp only [Bool.and_eq_true, inB_iff]
      omega
    clear hs ha hu huf hbsR hw0R
    go_wp2
    rw [HUF.out]
    have f0 := HOF.out.cell 0
    have f1 := HOF.out.cell 1
    have f2 := HOF.out.cell 2
    have f3 := HOF.out.cell 3
    have f4 := HOF.out.cell 4
    have f5 := HOF.out.cell 5
    have f6 := HOF.out.cell 6
    simp at f0 f1 f2 f3 f4 f5 f6
    exact bodyPost_ret (v := .agg #[.int .i64 f, .int .i64 ice, .int .i64 wat, .int .i64 den, .int .i64 0, .int .i64 hard, .int .i64 p7]) (by simp [results, Try.results46, go_sem, f0, f1, f2, f3, f4, f5, f6]) rfl ⟨⟨f, ice, wat, den, 0, hard, p7⟩, k7, rfl, HONE.out, HK.out, HSF.out, HAF.out⟩
  · go_wp2_with fail
    rw [HE.out, HU4.out]
    clear y y2 fy ly
    refine (srcPick_any A n c ds bs k5 6 w0 _ H5.out.src (by omega) (by omega) (by omega)).mono ?_
    rintro e v6 ⟨p6, k6, rfl, hp6, hk6, hs, ha⟩
    have HP6 := Lib.hid (H5.out.picked hs ha)
    obtain ⟨hard, hv⟩ : ∃ hard, 1 + (p6 : Int) = hard := ⟨_, rfl⟩
    have HE := Lib.hid hv
    have HB6 : Hid (1 ≤ hard ∧ hard ≤ 6) := by rw [Hid]; omega
    obtain ⟨u6, hu⟩ : ∃ u, v6.setCell ⟨X, 5, none⟩ (.int .i64 hard) = u := ⟨_, rfl⟩
    have H7 : Hid (OneAt A n c ds bs k6 R X #[.int .i64 f, .int .i64 ice, .int .i64 wat, .int .i64 den, .int .i64 deg, .int .i64 hard, .int .i64 0] w0 w u6) := by rw [Hid, ← hu]; exact HP6.out.put 5 (.int .i64 hard) (by simp)
    have HU6 := Lib.hid hu
    have y := HP6.out.own.cell 5
    have fy := HP6.out.own.frozen
    have ly := HP6.out.own.lt
    simp at y
    clear hs ha hu hv
    go_wp2_with fail
    rw [HE.out, HU6.out]
    clear y fy ly
    refine (srcPick_any A n c ds bs k6 400 w0 _ H7.out.src (by omega) (by omega) (by omega)).mono ?_
    rintro e v7 ⟨p7, k7, rfl, hp7, hk7, hs, ha⟩
    have HP7 := Lib.hid (H7.out.picked hs ha)
    obtain ⟨u7, hu⟩ : ∃ u, v7.setCell ⟨X, 6, none⟩ (.int .i64 p7) = u := ⟨_, rfl⟩
    have H8 : Hid (OneAt A n c ds bs k7 R X #[.int .i64 f, .int .i64 ice, .int .i64 wat, .int .i64 den, .int .i64 deg, .int .i64 hard, .int .i64 p7] w0 w u7) := by rw [Hid, ← hu]; exact HP7.out.put 6 (.int .i64 p7) (by simp)
    have HU7 := Lib.hid hu
    obtain ⟨uf, huf⟩ : ∃ uf, ((((((u7.setCell ⟨R, 0, none⟩ (.int .i64 f)).setCell ⟨R, 1, none⟩ (.int .i64 ice)).setCell ⟨R, 2, none⟩ (.int .i64 wat)).setCell ⟨R, 3, none⟩ (.int .i64 den)).setCell ⟨R, 4, none⟩ (.int .i64 deg)).setCell ⟨R, 5, none⟩ (.int .i64 hard)).setCell ⟨R, 6, none⟩ (.int .i64 p7) = uf := ⟨_, rfl⟩
    have HOF : Hid (Own uf R 30 #[.int .i64 f, .int .i64 ice, .int .i64 wat, .int .i64 den, .int .i64 deg, .int .i64 hard, .int .i64 p7]) := by
      rw [Hid, ← huf]
      simpa using ((((((H8.out.res.put 0 (.int .i64 f)).put 1 (.int .i64 ice)).put 2 (.int .i64 wat)).put 3 (.int .i64 den)).put 4 (.int .i64 deg)).put 5 (.int .i64 hard)).put 6 (.int .i64 p7)
    have hbsR : bs ≠ R := by have := H8.out.hb; have := H8.out.hR; omega
    have hw0R : w0.heap.size ≤ R := by have := H8.out.src.base; have := H8.out.hb; have := H8.out.hR; omega
    have HSF : Hid (SrcAt A n c ds bs k7 w0 uf) := by
      rw [Hid, ← huf]
      exact ((((((H8.out.src.put (p := ⟨R, 0, none⟩) hbsR hw0R _).put (p := ⟨R, 1, none⟩) hbsR hw0R _).put (p := ⟨R, 2, none⟩) hbsR hw0R _).put (p := ⟨R, 3, none⟩) hbsR hw0R _).put (p := ⟨R, 4, none⟩) hbsR hw0R _).put (p := ⟨R, 5, none⟩) hbsR hw0R _).put (p := ⟨R, 6, none⟩) hbsR hw0R _
    have HAF : Hid (Span bs (bs + 1) w uf) := by
      rw [Hid, ← huf]
      have hr := H8.out.hR
      exact Span.far (Span.far (Span.far (Span.far (Span.far (Span.far (Span.far H8.out.span (p := ⟨R, 0, none⟩) hr _) (p := ⟨R, 1, none⟩) hr _) (p := ⟨R, 2, none⟩) hr _) (p := ⟨R, 3, none⟩) hr _) (p := ⟨R, 4, none⟩) hr _) (p := ⟨R, 5, none⟩) hr _) (p := ⟨R, 6, none⟩) hr _
    have HUF : Hid ((((((((v7.setCell ⟨X, 6, none⟩ (.int .i64 p7)).setCell ⟨R, 0, none⟩ (.int .i64 f)).setCell ⟨R, 1, none⟩ (.int .i64 ice)).setCell ⟨R, 2, none⟩ (.int .i64 wat)).setCell ⟨R, 3, none⟩ (.int .i64 den)).setCell ⟨R, 4, none⟩ (.int .i64 deg)).setCell ⟨R, 5, none⟩ (.int .i64 hard)).setCell ⟨R, 6, none⟩ (.int .i64 p7) = uf) := by rw [Hid, HU7.out]; exact huf
    have y0 := HP7.out.own.cell 0
    have y1 := HP7.out.own.cell 1
    have y2 := HP7.out.own.cell 2
    have y3 := HP7.out.own.cell 3
    have y4 := HP7.out.own.cell 4
    have y5 := HP7.out.own.cell 5
    have y6 := HP7.out.own.cell 6
    have fy := HP7.out.own.frozen
    have ly := HP7.out.own.lt
    have z0 := HP7.out.res.cell 0
    have z1 := HP7.out.res.cell 1
    have z2 := HP7.out.res.cell 2
    have z3 := HP7.out.res.cell 3
    have z4 := HP7.out.res.cell 4
    have z5 := HP7.out.res.cell 5
    have z6 := HP7.out.res.cell 6
    have fz := HP7.out.res.frozen
    have lz := HP7.out.res.lt
    have hne : R ≠ X := by have := HP7.out.hX; omega
    simp at y0 y1 y2 y3 y4 y5 y6 z0 z1 z2 z3 z4 z5 z6
    have HK : Hid (k7 ≤ k + 14) := by rw [Hid]; omega
    have HONE : Hid (Layer.oneB ⟨f, ice, wat, den, deg, hard, p7⟩ = true) := by
      have b1 := HFB.out
      have b2 := HB2.out
      have b3 := HB3.out
      have b4 := HB4.out
      have b5 := HB5.out
      have b6 := HB6.out
      rw [Hid]
      unfold Layer.oneB
      simp only [Bool.and_eq_true, inB_iff]
      omega
    clear hs ha hu huf hbsR hw0R
    go_wp2
    rw [HUF.out]
    have f0 := HOF.out.cell 0
    have f1 := HOF.out.cell 1
    have f2 := HOF.out.cell 2
    have f3 := HOF.out.cell 3
    have f4 := HOF.out.cell 4
    have f5 := HOF.out.cell 5
    have f6 := HOF.out.cell 6
    simp at f0 f1 f2 f3 f4 f5 f6
    exact bodyPost_ret (v := .agg #[.int .i64 f, .int .i64 ice, .int .i64 wat, .int .i64 den, .int .i64 deg, .int .i64 hard, .int .i64 p7]) (by simp [results, Try.results46, go_sem, f0, f1, f2, f3, f4, f5, f6]) rfl ⟨⟨f, ice, wat, den, deg, hard, p7⟩, k7, rfl, HONE.out, HK.out, HSF.out, HAF.out⟩

end Go.Proofs.Ytmfghgoboibjdaa
