/- ReadLeg of the reference. -/
import Derived.Test.YtgianbcplnciiaaDoorTwo
import Derived.Test.YtgianbcplnciiaaDoorReadLeg
import Derived.Deep.RegionHeld3
namespace Go.Proofs.YtgianbcplnciiaaDoor
open Go.RowKit

theorem put4 {T : TypeId} {R : Nat} {w v : World} {p q r s : Value} (h : Own v R T #[p, q, r, s]) (a b c d : Value) (hb : Below w.heap.size w v) (hR : w.heap.size ≤ R) : Own ((((v.setCell ⟨R, 0, none⟩ a).setCell ⟨R, 1, none⟩ b).setCell ⟨R, 2, none⟩ c).setCell ⟨R, 3, none⟩ d) R T #[a, b, c, d] ∧ Below w.heap.size w ((((v.setCell ⟨R, 0, none⟩ a).setCell ⟨R, 1, none⟩ b).setCell ⟨R, 2, none⟩ c).setCell ⟨R, 3, none⟩ d) :=
  ⟨by simpa using ((((h.put 0 a).put 1 b).put 2 c).put 3 d), (((hb.setCell (p := ⟨R, 0, none⟩) hR _).setCell (p := ⟨R, 1, none⟩) hR _).setCell (p := ⟨R, 2, none⟩) hR _).setCell (p := ⟨R, 3, none⟩) hR _⟩
theorem heldQ {wr w' : World} {b1 b2 o1 o2 o3 o4 : Nat} {v1 v2 v3 v4 : Value} (h1 : b1 < wr.heap.size) (h2 : b2 < wr.heap.size) (x0 : wr.cell? ⟨b1, o1, none⟩ = some v1) (x1 : wr.cell? ⟨b1, o2, none⟩ = some v2) (y0 : wr.cell? ⟨b2, o3, none⟩ = some v3) (y1 : wr.cell? ⟨b2, o4, none⟩ = some v4) (hb : Below wr.heap.size wr w') : w'.cell? ⟨b1, o1, none⟩ = some v1 ∧ w'.cell? ⟨b1, o2, none⟩ = some v2 ∧ w'.cell? ⟨b2, o3, none⟩ = some v3 ∧ w'.cell? ⟨b2, o4, none⟩ = some v4 ∧ Below wr.heap.size wr w' :=
  ⟨(hb.cell (p := ⟨b1, o1, none⟩) h1).trans x0, (hb.cell (p := ⟨b1, o2, none⟩) h1).trans x1, (hb.cell (p := ⟨b2, o3, none⟩) h2).trans y0, (hb.cell (p := ⟨b2, o4, none⟩) h2).trans y1, hb⟩
theorem pieces_leg {s : ByteArray} {ps : List ByteArray} {last : ByteArray} (h : Pieces 32 s.data.toList ps last) {x : Leg} (hx : x.oneB 12 = true) (he : s = legText x) : ∃ a, ps = [a] ∧ a.data.toList = Lib.itoa x.from_ ++ 45 :: Lib.itoa x.to_ ∧ last.data.toList = Lib.itoa x.minutes ++ 33 :: Lib.itoa x.exposure := by
  have hp := Leg.one_parts hx
  have no2 : ∀ {n m : Int} {c : UInt8}, 0 ≤ n → 0 ≤ m → c ≠ 32 → (32 : UInt8) ∉ Lib.itoa n ++ c :: Lib.itoa m := fun hn hm hc h => by
    rcases List.mem_append.1 h with h1 | h1
    · exact itoa_not hn (by decide) h1
    · rcases List.mem_cons.1 h1 with h2 | h2
      · exact hc h2.symm
      · exact itoa_not hm (by decide) h2
  obtain ⟨h1, h2⟩ := h.two (a := ⟨(Lib.itoa x.from_ ++ 45 :: Lib.itoa x.to_).toArray⟩) (b := ⟨(Lib.itoa x.minutes ++ 33 :: Lib.itoa x.exposure).toArray⟩) (by rw [he, legText_list]) (no2 hp.1 hp.2.1 (by decide)) (no2 hp.2.2.1 hp.2.2.2.1 (by decide))
  exact ⟨_, h1, rfl, by rw [h2]⟩
theorem noLeg_len {s : ByteArray} {ps : List ByteArray} {last : ByteArray} (h : Pieces 32 s.data.toList ps last) (hn : (ps ++ [last]).length ≠ 2) : ReadsLeg s none :=
  ⟨fun x e => (by cases e), fun _ x hx he => by
    obtain ⟨a, h1, _⟩ := pieces_leg h hx he
    rw [h1] at hn
    exact hn rfl⟩
theorem noLeg_one {s a b : ByteArray} (h : Pieces 32 s.data.toList [a] b) (hn : NoTwo a 45 ∨ NoTwo b 33) : ReadsLeg s none :=
  ⟨fun x e => (by cases e), fun _ x hx he => by
    obtain ⟨a', h1, h2, h3⟩ := pieces_leg h hx he
    injection h1 with h1 _
    subst h1
    have hp := Leg.one_parts hx
    rcases hn with hn | hn
    · exact hn _ _ hp.1 hp.2.1 hp.2.2.2.2.1 hp.2.2.2.2.2.1 h2
    · exact hn _ _ hp.2.2.1 hp.2.2.2.1 hp.2.2.2.2.2.2.1 hp.2.2.2.2.2.2.2 h3⟩
theorem two_same {c : UInt8} {x y n m : Int} (sx : Small x) (sy : Small y) (sn : Small n) (sm : Small m) (h1 : c ∉ Lib.itoa x) (h2 : c ∉ Lib.itoa n) (h : Lib.itoa x ++ c :: Lib.itoa y = Lib.itoa n ++ c :: Lib.itoa m) : x = n ∧ y = m := by
  obtain ⟨e1, e2⟩ := first_uniq h1 h2 h
  exact ⟨itoa_inj sx.i64 sn.i64 e1, itoa_inj sy.i64 sm.i64 e2⟩
theorem reads_two {s a b : ByteArray} {B C : Nat} {w1 w2 : World} {v1 v2 : Value} {x y m e : Int} (h : Pieces 32 s.data.toList [a] b) (h1 : TwoOk a 45 B w1 v1 x y) (h2 : TwoOk b 33 C w2 v2 m e) : ReadsLeg s (if (⟨x, y, m, e⟩ : Leg).oneB 12 = true then some ⟨x, y, m, e⟩ else none) := by
  by_cases ho : (⟨x, y, m, e⟩ : Leg).oneB 12 = true
  · rw [if_pos ho]
    refine ⟨fun z hz => ?_, fun hz => (by cases hz)⟩
    injection hz with hz
    subst hz
    refine ⟨ho, data_ext ?_⟩
    rw [legText_list, h.all, joinE_cons, h1.txt, h2.txt]
    simp [joinE]
  · rw [if_neg ho]
    refine ⟨fun z hz => (by cases hz), fun _ z hz he => ?_⟩
    obtain ⟨a', g1, g2, g3⟩ := pieces_leg h hz he
    injection g1 with g1 _
    subst g1
    have hp := Leg.one_parts hz
    have e1 := two_same h1.sx h1.sy hp.2.2.2.2.1 hp.2.2.2.2.2.1 h1.nx (itoa_not hp.1 (by decide)) (h1.txt.symm.trans g2)
    have e2 := two_same h2.sx h2.sy hp.2.2.2.2.2.2.1 hp.2.2.2.2.2.2.2 h2.nx (itoa_not hp.2.2.1 (by decide)) (h2.txt.symm.trans g3)
    apply ho
    rw [e1.1, e1.2, e2.1, e2.2]
    cases z
    exact hz
theorem oneW12 (x : Leg) : Leg.oneW 12 x = Leg.oneB 12 x := congrFun (Leg.oneW_eq (by decide)) x
set_option maxRecDepth 100000 in
set_option maxHeartbeats 4000000 in
theorem specReadLeg_any (s : ByteArray) (w : World) (hs : s.size ≤ 1048576) : Calls Tryd.prog 15 #[.string s] w (fun e w' => ∃ r : Option Leg, e = .returned (.tuple #[legOf r, .bool r.isSome]) ∧ ReadsLeg s r ∧ Below w.heap.size w w') := by
  obtain ⟨R, hR⟩ : ∃ R, w.heap.size = R := ⟨_, rfl⟩
  obtain ⟨w0, hw0⟩ : ∃ w0, w.alloc (.cells #[.int .i64 0, .int .i64 0, .int .i64 0, .int .i64 0] 25) = w0 := ⟨_, rfl⟩
  have hb0 : Below w.heap.size w w0 := by rw [← hw0]; exact (Below.refl _ _).alloc (Nat.le_refl _) _
  have HR0 : Hid (Own w0 R 25 #[.int .i64 0, .int .i64 0, .int .i64 0, .int .i64 0]) := by rw [Hid, ← hw0, ← hR]; exact Own.new _ _ _
  have HB0 := Lib.hid hb0
  have HRW : Hid (w.heap.size ≤ R) := Nat.le_of_eq hR
  have HWR := Lib.hid hw0
  have HR := Lib.hid hR
  clear hb0 hw0 hR
  go_enter Tryd.func15, Tryd.ntmps15
  go_wp2_with fail
  rw [HWR.out, HR.out]
  refine (l01Split_any s 32 w0 hs).mono ?_
  rintro e w1 ⟨v, ps, last, rfl, hown, hp, hb⟩
  obtain ⟨A, cp, rfl, _, _, hsl⟩ := hown.slice strcells_len
  have HP := Lib.hid hp
  have HB1 := Lib.hid (HB0.out.trans (hb.mono HB0.out.size))
  have HR1 := Lib.hid (HR0.out.below' hb)
  have HSL := Lib.hid hsl
  obtain ⟨n, hn⟩ : ∃ n, (ps ++ [last]).length = n := ⟨_, rfl⟩
  rw [hn] at HSL ⊢
  have hnl := hsl.le
  rw [hn] at hnl
  clear hown hp hb hsl
  by_cases h2 : n ≠ 2
  · have HNO := Lib.hid (noLeg_len HP.out (by rw [hn]; exact h2))
    have hne : ((n : Int) != 2) = true := by simp; omega
    clear h2 hn
    obtain ⟨uf, huf⟩ : ∃ uf, (((w1.setCell ⟨R, 0, none⟩ (.int .i64 0)).setCell ⟨R, 1, none⟩ (.int .i64 0)).setCell ⟨R, 2, none⟩ (.int .i64 0)).setCell ⟨R, 3, none⟩ (.int .i64 0) = uf := ⟨_, rfl⟩
    have HOF := Lib.hid (put4 HR1.out (.int .i64 0) (.int .i64 0) (.int .i64 0) (.int .i64 0) HB1.out HRW.out)
    rw [huf] at HOF
    have HUF := Lib.hid huf
    clear huf
    have z0 := HR1.out.cell 0
    have z1 := HR1.out.cell 1
    have z2 := HR1.out.cell 2
    have z3 := HR1.out.cell 3
    have fz := HR1.out.frozen
    have lz := HR1.out.lt
    simp at z0 z1 z2 z3
    go_wp2
    rw [HUF.out]
    have f0 := HOF.out.1.cell 0
    have f1 := HOF.out.1.cell 1
    have f2 := HOF.out.1.cell 2
    have f3 := HOF.out.1.cell 3
    simp at f0 f1 f2 f3
    exact bodyPost_ret (v := .tuple #[.agg #[.int .i64 0, .int .i64 0, .int .i64 0, .int .i64 0], .bool false]) (by simp [results, Tryd.results15, go_sem, f0, f1, f2, f3]) rfl ⟨none, rfl, HNO.out, HOF.out.2⟩
  obtain rfl : n = 2 := by omega
  obtain ⟨a, rfl⟩ : ∃ a, ps = [a] := by
    cases ps with
    | nil => simp at hn
    | cons a r => cases r with
      | nil => exact ⟨a, rfl⟩
      | cons _ _ => simp at hn
  obtain ⟨b0, o0, y0, rfl, hb0, hy0, x0⟩ := strs_at HSL.out (k := 0) (by decide)
  obtain ⟨b1, o1, y1, he, _, hy1, x1⟩ := strs_at HSL.out (k := 1) (by decide)
  injection he with he
  injection he with he1 he2
  subst he1 he2
  simp at hy0 hy1
  subst hy0 hy1
  rw [Nat.add_zero] at x0
  have hsz : a.size ≤ 1048576 ∧ last.size ≤ 1048576 := by
    have h1 := congrArg List.length HP.out.all
    rw [joinE_cons] at h1
    have e1 : s.data.toList.length = s.size := by rw [Array.length_toList]; rfl
    simp [joinE] at h1
    have e4 : s.data.size = s.size := rfl
    have e5 : a.data.size = a.size := rfl
    have e6 : last.data.size = last.size := rfl
    omega
  have HSZ := Lib.hid hsz
  have HX1 := Lib.hid x1
  have HLB := Lib.hid hb0
  clear hn hsz h2
  go_wp2_with fail
  refine (l23Two_any a 45 w1 HSZ.out.1 (by decide)).mono ?_
  rintro e w2 ⟨va, one, rfl, hyes, hno, hb⟩
  have HY1 := Lib.hid hyes
  have HN1 := Lib.hid hno
  have HBL := Lib.hid hb
  have HB2 := Lib.hid (HB1.out.trans (hb.mono HB1.out.size))
  have HR2 := Lib.hid (HR1.out.below' hb)
  have x1' : w2.cell? ⟨b0, o0 + 1, none⟩ = some (.string last) := (hb.cell (p := ⟨b0, o0 + 1, none⟩) HLB.out).trans HX1.out
  have hl2 : b0 < w2.heap.size := Nat.lt_of_lt_of_le HLB.out hb.size
  clear hyes hno hb x0 x1 hb0
  go_wp2_with fail
  refine (l23Two_any last 33 w2 HSZ.out.2 (by decide)).mono ?_
  rintro e w3 ⟨vb, two, rfl, hyes, hno, hb⟩
  have HY2 := Lib.hid hyes
  have HN2 := Lib.hid hno
  have HBR := Lib.hid hb
  have HB3 := Lib.hid (HB2.out.trans (hb.mono HB2.out.size))
  have HR3 := Lib.hid (HR2.out.below' hb)
  clear hyes hno hb x1' hl2
  cases one
  · have HNO := Lib.hid (noLeg_one HP.out (.inl (HN1.out rfl)))
    obtain ⟨uf, huf⟩ : ∃ uf, (((w3.setCell ⟨R, 0, none⟩ (.int .i64 0)).setCell ⟨R, 1, none⟩ (.int .i64 0)).setCell ⟨R, 2, none⟩ (.int .i64 0)).setCell ⟨R, 3, none⟩ (.int .i64 0) = uf := ⟨_, rfl⟩
    have HOF := Lib.hid (put4 HR3.out (.int .i64 0) (.int .i64 0) (.int .i64 0) (.int .i64 0) HB3.out HRW.out)
    rw [huf] at HOF
    have HUF := Lib.hid huf
    clear huf
    have z0 := HR3.out.cell 0
    have z1 := HR3.out.cell 1
    have z2 := HR3.out.cell 2
    have z3 := HR3.out.cell 3
    have fz := HR3.out.frozen
    have lz := HR3.out.lt
    simp at z0 z1 z2 z3
    go_wp2
    rw [HUF.out]
    have f0 := HOF.out.1.cell 0
    have f1 := HOF.out.1.cell 1
    have f2 := HOF.out.1.cell 2
    have f3 := HOF.out.1.cell 3
    simp at f0 f1 f2 f3
    exact bodyPost_ret (v := .tuple #[.agg #[.int .i64 0, .int .i64 0, .int .i64 0, .int .i64 0], .bool false]) (by simp [results, Tryd.results15, go_sem, f0, f1, f2, f3]) rfl ⟨none, rfl, HNO.out, HOF.out.2⟩
  cases two
  · have HNO := Lib.hid (noLeg_one HP.out (.inr (HN2.out rfl)))
    obtain ⟨uf, huf⟩ : ∃ uf, (((w3.setCell ⟨R, 0, none⟩ (.int .i64 0)).setCell ⟨R, 1, none⟩ (.int .i64 0)).setCell ⟨R, 2, none⟩ (.int .i64 0)).setCell ⟨R, 3, none⟩ (.int .i64 0) = uf := ⟨_, rfl⟩
    have HOF := Lib.hid (put4 HR3.out (.int .i64 0) (.int .i64 0) (.int .i64 0) (.int .i64 0) HB3.out HRW.out)
    rw [huf] at HOF
    have HUF := Lib.hid huf
    clear huf
    have z0 := HR3.out.cell 0
    have z1 := HR3.out.cell 1
    have z2 := HR3.out.cell 2
    have z3 := HR3.out.cell 3
    have fz := HR3.out.frozen
    have lz := HR3.out.lt
    simp at z0 z1 z2 z3
    go_wp2
    rw [HUF.out]
    have f0 := HOF.out.1.cell 0
    have f1 := HOF.out.1.cell 1
    have f2 := HOF.out.1.cell 2
    have f3 := HOF.out.1.cell 3
    simp at f0 f1 f2 f3
    exact bodyPost_ret (v := .tuple #[.agg #[.int .i64 0, .int .i64 0, .int .i64 0, .int .i64 0], .bool false]) (by simp [results, Tryd.results15, go_sem, f0, f1, f2, f3]) rfl ⟨none, rfl, HNO.out, HOF.out.2⟩
  obtain ⟨x, y, ok1⟩ := HY1.out rfl
  obtain ⟨m, e, ok2⟩ := HY2.out rfl
  obtain ⟨A1, c1, rfl, _, _, s1⟩ := (ok1.own.below' HBR.out).slice (show ∀ x, (i64cells x).length = 1 from fun _ => rfl)
  obtain ⟨A2, c2, rfl, _, _, s2⟩ := ok2.own.slice (show ∀ x, (i64cells x).length = 1 from fun _ => rfl)
  have HRD := Lib.hid (reads_two HP.out ok1 ok2)
  obtain ⟨p1, q1, i0, rfl, lp, hi0, u0⟩ := ints_at s1 (k := 0) (by simp)
  obtain ⟨p1', q1', i1, he, _, hi1, u1⟩ := ints_at s1 (k := 1) (by simp)
  injection he with he
  injection he with he1 he2
  subst he1 he2
  simp at hi0 hi1
  subst hi0 hi1
  obtain ⟨p2, q2, j0, rfl, lq, hj0, t0⟩ := ints_at s2 (k := 0) (by simp)
  obtain ⟨p2', q2', j1, he, _, hj1, t1⟩ := ints_at s2 (k := 1) (by simp)
  injection he with he
  injection he with he1 he2
  subst he1 he2
  simp at hj0 hj1
  subst hj0 hj1
  rw [Nat.add_zero] at u0 t0
  simp only [List.length_cons, List.length_nil] at *
  clear ok1 ok2 s1 s2
  go_upto_region 8 with fail
  go_cut [9] from 37 to 49 (fun s9 wx => ∃ g : Nat, s9 = .pointer (some ⟨g, 0, none⟩) ∧ w3.heap.size ≤ g ∧ Own wx g 25 #[.int .i64 x, .int .i64 y, .int .i64 m, .int .i64 e] ∧ Below w3.heap.size w3 wx)
  case first =>
    go_region_held3 (fun w' => w'.cell? ⟨p1, q1, none⟩ = some (.int .i64 x) ∧ w'.cell? ⟨p1, q1 + 1, none⟩ = some (.int .i64 y) ∧ w'.cell? ⟨p2, q2, none⟩ = some (.int .i64 m) ∧ w'.cell? ⟨p2, q2 + 1, none⟩ = some (.int .i64 e) ∧ Below w3.heap.size w3 w')
      (first
        | exact heldQ lp lq u0 u1 t0 t1 (Below.refl _ _)
        | exact heldQ lp lq u0 u1 t0 t1 (Below.drew (Below.refl _ _))
        | exact heldQ lp lq u0 u1 t0 t1 ((Below.refl _ _).drew.alloc (Nat.le_refl _) _)
        | exact heldQ lp lq u0 u1 t0 t1 ((Below.refl _ _).alloc (Nat.le_refl _) _).drew
        | exact heldQ lp lq u0 u1 t0 t1 ((Below.refl _ _).alloc (Nat.le_refl _) _))
      (fail)
    all_goals (go_wp2_with fail; go_meet)
    all_goals (refine ⟨w3.heap.size, rfl, Nat.le_refl _, ?_, ?_⟩)
    all_goals (first | exact Own.new _ _ _ | exact Own.drew (Own.new _ _ _) | exact (put4 (Own.new _ _ _) _ _ _ _ ((Below.refl _ _).alloc (Nat.le_refl _) _) (Nat.le_refl _)).1 | exact (put4 (Own.drew (Own.new _ _ _)) _ _ _ _ (((Below.refl _ _).alloc (Nat.le_refl _) _).drew) (Nat.le_refl _)).1 | exact (put4 (Own.new _ _ _) _ _ _ _ ((Below.refl _ _).alloc (Nat.le_refl _) _) (Nat.le_refl _)).2 | exact (put4 (Own.drew (Own.new _ _ _)) _ _ _ _ (((Below.refl _ _).alloc (Nat.le_refl _) _).drew) (Nat.le_refl _)).2 | exact (Below.refl _ _).alloc (Nat.le_refl _) _ | exact ((Below.refl _ _).alloc (Nat.le_refl _) _).drew)
  case rest =>
    obtain ⟨g, rfl, hg3, hO, hB⟩ := hcut
    skip
    have HO4 := Lib.hid hO
    have HB4 := Lib.hid (HB3.out.trans (hB.mono HB3.out.size))
    have HR4 := Lib.hid (HR3.out.below' hB)
    have hgr : g ≠ R := by
      have := HR3.out.lt
      omega
    have d0 := HO4.out.cell 0
    have d1 := HO4.out.cell 1
    have d2 := HO4.out.cell 2
    have d3 := HO4.out.cell 3
    have dl := HO4.out.lt
    simp at d0 d1 d2 d3
    have HCC := Lib.hid (l23One_any ⟨x, y, m, e⟩ g 0 12 _ dl d0 d1 d2 d3)
    clear u0 u1 t0 t1 lp lq hg3 hO hB d0 d1 d2 d3 dl
    go_wp2_with fail
    refine HCC.out.mono ?_
    rintro en w5 ⟨rfl, hb⟩
    rw [oneW12]
    have HO5 := Lib.hid (HO4.out.below' hb)
    have HB5 := Lib.hid (HB4.out.trans (hb.mono HB4.out.size))
    have HR5 := Lib.hid (HR4.out.below' hb)
    clear hb
    cases ho : (⟨x, y, m, e⟩ : Leg).oneB 12
    · have HNO : Hid (ReadsLeg s none) := by have := HRD.out; rwa [ho, if_neg (by decide)] at this
      obtain ⟨uf, huf⟩ : ∃ uf, (((w5.setCell ⟨R, 0, none⟩ (.int .i64 0)).setCell ⟨R, 1, none⟩ (.int .i64 0)).setCell ⟨R, 2, none⟩ (.int .i64 0)).setCell ⟨R, 3, none⟩ (.int .i64 0) = uf := ⟨_, rfl⟩
      have HOF := Lib.hid (put4 HR5.out (.int .i64 0) (.int .i64 0) (.int .i64 0) (.int .i64 0) HB5.out HRW.out)
      rw [huf] at HOF
      have HUF := Lib.hid huf
      clear huf
      have z0 := HR5.out.cell 0
      have z1 := HR5.out.cell 1
      have z2 := HR5.out.cell 2
      have z3 := HR5.out.cell 3
      have fz := HR5.out.frozen
      have lz := HR5.out.lt
      simp at z0 z1 z2 z3
      go_wp2
      rw [HUF.out]
      have f0 := HOF.out.1.cell 0
      have f1 := HOF.out.1.cell 1
      have f2 := HOF.out.1.cell 2
      have f3 := HOF.out.1.cell 3
      simp at f0 f1 f2 f3
      exact bodyPost_ret (v := .tuple #[.agg #[.int .i64 0, .int .i64 0, .int .i64 0, .int .i64 0], .bool false]) (by simp [results, Tryd.results15, go_sem, f0, f1, f2, f3]) rfl ⟨none, rfl, HNO.out, HOF.out.2⟩
    · have HYS : Hid (ReadsLeg s (some ⟨x, y, m, e⟩)) := by have := HRD.out; rwa [ho, if_pos rfl] at this
      have e0 := HO5.out.cell 0
      have e1 := HO5.out.cell 1
      have e2 := HO5.out.cell 2
      have e3 := HO5.out.cell 3
      simp at e0 e1 e2 e3
      obtain ⟨uf, huf⟩ : ∃ uf, (((w5.setCell ⟨R, 0, none⟩ (.int .i64 x)).setCell ⟨R, 1, none⟩ (.int .i64 y)).setCell ⟨R, 2, none⟩ (.int .i64 m)).setCell ⟨R, 3, none⟩ (.int .i64 e) = uf := ⟨_, rfl⟩
      have HOF := Lib.hid (put4 HR5.out (.int .i64 x) (.int .i64 y) (.int .i64 m) (.int .i64 e) HB5.out HRW.out)
      rw [huf] at HOF
      have HUF := Lib.hid huf
      clear huf
      have z0 := HR5.out.cell 0
      have z1 := HR5.out.cell 1
      have z2 := HR5.out.cell 2
      have z3 := HR5.out.cell 3
      have fz := HR5.out.frozen
      have lz := HR5.out.lt
      simp at z0 z1 z2 z3
      go_wp2
      rw [HUF.out]
      have f0 := HOF.out.1.cell 0
      have f1 := HOF.out.1.cell 1
      have f2 := HOF.out.1.cell 2
      have f3 := HOF.out.1.cell 3
      simp at f0 f1 f2 f3
      exact bodyPost_ret (v := .tuple #[.agg #[.int .i64 x, .int .i64 y, .int .i64 m, .int .i64 e], .bool true]) (by simp [results, Tryd.results15, go_sem, f0, f1, f2, f3]) rfl ⟨some ⟨x, y, m, e⟩, rfl, HYS.out, HOF.out.2⟩

end Go.Proofs.YtgianbcplnciiaaDoor
