/- The walk of the law FnRunout: it returns true. -/
import Derived.Test.YthlgfmdlecdchaaR8Grid
import Derived.Test.YthlgfmdlecdchaaR8Mass
import Derived.Test.YthlgfmdlecdchaaR8
import Derived.Test.YthlgfmdlecdchaaRunoutQ
import Derived.Test.YthlgfmdlecdchaaRunC
import Derived.Test.YthlgfmdlecdchaaRunE
import Derived.Test.YthlgfmdlecdchaaRunF
import Derived.Test.YthlgfmdlecdchaaRunH
import Derived.Test.YthlgfmdlecdchaaFricI
import Derived.Deep.RegionHeld3
namespace Go.Proofs.Ythlgfmdlecdchaa
open Go.RowKit

theorem topT_bd {g : Grid} (hg : gridB g = true) (ms : List Int) : ∀ k, k ≤ g.heights.length → 0 ≤ topT g ms k ∧ topT g ms k ≤ 5000
  | 0, _ => by unfold topT; simp
  | k + 1, hk => by
    have ih := topT_bd hg ms k (by omega)
    have hy : g.heights[k]? = some g.heights[k] := List.getElem?_eq_getElem (by omega)
    have hb := (gridB_parts hg)
    have hh : 0 ≤ ht g (k : Int) ∧ ht g (k : Int) ≤ 5000 := by
      unfold ht
      rw [Int.toNat_natCast, List.getD_eq_getElem?_getD, hy]
      rw [gridB_iff] at hg
      exact inB_iff.1 (List.all_eq_true.1 hg.2.2.2.2 _ (List.getElem_mem _))
    unfold topT at ih ⊢
    rw [List.range_succ, List.foldl_append, List.foldl_cons, List.foldl_nil]
    split <;> omega
theorem ints_cell {w : World} {b o n : Nat} {xs : List Int} (h : SliceOf w 1 i64cells (some ⟨b, o, none⟩) n xs) {k : Nat} (hk : k < n) : ∃ x, xs[k]? = some x ∧ w.cell? ⟨b, o + k, none⟩ = some (.int .i64 x) ∧ b < w.heap.size := by
  obtain ⟨b', o', x, hA, hb, hx, hc⟩ := ints_at h hk
  injection hA with hA
  injection hA with e1 e2 _
  subst e1 e2
  exact ⟨x, hx, hc, hb⟩
/-- A box that holds a grid. -/
structure BoxG (X : Nat) (g : GridR) (w : World) : Prop where
  own : Own w X 26 #[.int .i64 g.rows, .int .i64 g.columns, .int .i64 g.size, .slice g.heightsA g.heightsN g.heightsC]
  gi : g.In w
theorem BoxG.grow {X : Nat} {g : GridR} {w w' : World} (h : BoxG X g w) (hb : Below w.heap.size w w') : BoxG X g w' := ⟨h.own.below' hb, h.gi.below hb⟩
theorem BoxG.cells {X : Nat} {g : GridR} {w : World} (h : BoxG X g w) : w.cell? ⟨X, 0, none⟩ = some (.int .i64 g.rows) ∧ w.cell? ⟨X, 1, none⟩ = some (.int .i64 g.columns) ∧ w.cell? ⟨X, 2, none⟩ = some (.int .i64 g.size) ∧ w.cell? ⟨X, 3, none⟩ = some (.slice g.heightsA g.heightsN g.heightsC) ∧ X < w.heap.size :=
  ⟨h.own.cell 0, h.own.cell 1, h.own.cell 2, h.own.cell 3, h.own.lt⟩
theorem BoxG.ht {X : Nat} {g : GridR} {w : World} (h : BoxG X g w) (hb : gridB g.val = true) {a o : Nat} (hA : g.heightsA = some ⟨a, o, none⟩) {k : Nat} (hk : k < g.heightsN) : ∃ y, ht g.val k = y ∧ w.cell? ⟨a, o + k, none⟩ = some (.int .i64 y) ∧ 0 ≤ y ∧ y ≤ 5000 ∧ a < w.heap.size := by
  obtain ⟨b', o', hA', hb', hc, h0, h1⟩ := hts_at h.gi hb hk
  rw [hA] at hA'
  injection hA' with hA'
  injection hA' with e1 e2 _
  subst e1 e2
  exact ⟨_, rfl, hc, h0, h1, hb'⟩
theorem reachA_zero {g : Grid} {ms : List Int} {fr : Int} (h : runC g ms fr = 0) : reachA g ms fr = reachL g ms fr := by
  unfold reachA; rw [if_pos h]
set_option maxRecDepth 100000 in
set_option maxHeartbeats 20000000 in
theorem walk_FnRunout (A0 : Option Addr) (n0 c0 : Nat) (x0 : List Int) (A1 : Option Addr) (n1 c1 : Nat) (x1 : List Int) (w : World) (s0 : SliceOf w 1 u8cells A0 n0 x0) (g0 : ∀ x ∈ x0, 0 ≤ x ∧ x ≤ 255) (s1 : SliceOf w 1 u8cells A1 n1 x1) (g1 : ∀ x ∈ x1, 0 ≤ x ∧ x ≤ 255) :
    Calls Try.prog 3 #[.slice A0 n0 c0, .slice A1 n1 c1] w (Ret (.bool true) w) := by
  have S0 := Lib.hid s0
  have S1 := Lib.hid s1
  have G0 := Lib.hid g0
  have G1 := Lib.hid g1
  have hn0 := s0.le
  have hn1 := s1.le
  clear s0 s1 g0 g1
  cases hlong : (decide (1048576 < n0) || decide (1048576 < n1))
  rotate_left
  · go_enter Try.func3, Try.ntmps3
    go_wp2_with (go_at_call 6; refine (r8Long_any A0 A1 n0 c0 n1 c1 _ hn0 hn1).mono ?_; rintro e w' ⟨rfl, rfl⟩; rw [hlong])
    go_ret
    exact Ret.b rfl (Below.refl _ _)
  go_enter Try.func3, Try.ntmps3
  go_wp2_with fail
  refine (r8Long_any A0 A1 n0 c0 n1 c1 _ hn0 hn1).mono ?_
  rintro e w' ⟨rfl, rfl⟩
  rw [hlong]
  clear hlong
  go_wp2_with fail
  refine (r8Grid_any A0 n0 c0 x0 w S0.out G0.out).mono ?_
  rintro e w1 ⟨g, rfl, hgi, hgb, hb1⟩
  obtain ⟨X, hX⟩ : ∃ X, w1.heap.size = X := ⟨_, rfl⟩
  obtain ⟨wb, hwb⟩ : ∃ wb, w1.alloc (.cells #[.int .i64 g.rows, .int .i64 g.columns, .int .i64 g.size, .slice g.heightsA g.heightsN g.heightsC] 26) = wb := ⟨_, rfl⟩
  have hbb : Below w1.heap.size w1 wb := by rw [← hwb]; exact (Below.refl _ _).alloc (Nat.le_refl _) _
  have HBX : Hid (BoxG X g wb) := ⟨by rw [← hwb, ← hX]; exact Own.new _ _ _, hgi.below hbb⟩
  have HBW : Hid (Below w.heap.size w wb) := hb1.trans (hbb.mono hb1.size)
  have HS1 := Lib.hid ((S1.out.below hb1).below hbb)
  have HGB := Lib.hid hgb
  have hglen : g.val.heights.length = g.heightsN := hgi.1.len
  have hn64 : 1 ≤ g.heightsN ∧ g.heightsN ≤ 64 := by
    have h := gridB_parts hgb
    have h2 := (mul_i64 h.1 h.2.1).2
    have h3 := h.2.2.2.1
    rw [hglen] at h3
    omega
  obtain ⟨hn1', hn64'⟩ := hn64
  have HGL := Lib.hid hglen
  obtain ⟨ga, go, hgA, _⟩ := hts_at hgi hgb (show 0 < g.heightsN by omega)
  have HGA := Lib.hid hgA
  obtain ⟨y0, y1, y2, y3, ly⟩ := HBX.out.cells
  clear hb1 hbb hgi hgb hglen hgA
  go_wp2_with fail
  try rw [hwb]
  clear hwb hX y0 y1 y2 y3 ly
  refine (r8Masses_any g A1 n1 c1 x1 wb HS1.out G1.out hn64').mono ?_
  rintro e w2 ⟨v, ms, rfl, hown, hml, hmb, hb2⟩
  obtain ⟨MA, mc, rfl, hmc, _, hmsl⟩ := hown.slice i64cells_len
  rw [hml] at hmsl hmc ⊢
  obtain ⟨ma, mo, _, rfl, _, _⟩ := ints_at hmsl (show 0 < g.heightsN by omega)
  have HM2 := Lib.hid hmsl
  have HX2 := Lib.hid (HBX.out.grow hb2)
  have HB2 := Lib.hid (HBW.out.trans (hb2.mono HBW.out.size))
  have HS2 := Lib.hid (HS1.out.below hb2)
  have HDR : Hid (DrawnM g.val ms) := ⟨HGB.out, hml.trans HGL.out.symm, hmb⟩
  have HML := Lib.hid hml
  obtain ⟨y0, y1, y2, y3, ly⟩ := HX2.out.cells
  clear hown hml hmb hb2 hmsl
  go_wp2_with fail
  refine (r8At_any A1 n1 c1 x1 60 100 w2 HS2.out G1.out (by omega) (by omega) (by omega)).mono ?_
  rintro e w' ⟨fq, rfl, hfq, rfl⟩
  obtain ⟨fr, hfr⟩ : ∃ fr : Int, 50 + 10 * (fq : Int) = fr := ⟨_, rfl⟩
  have hf1 : 1 ≤ fr := by omega
  have hf2 : fr ≤ 5000 := by omega
  have HC0 := Lib.hid (HDR.out.run hf1 hf2).1
  obtain ⟨R, hR0⟩ : ∃ R, reachL g.val ms fr = R := ⟨_, rfl⟩
  have HR0 := Lib.hid hR0
  clear hR0
  go_wp2_with fail
  try rw [hfr]
  clear hfr hfq y0 y1 y2 y3 ly
  refine (specReachedBy_any g _ g.heightsN mc ms fr w2 HX2.out.gi HM2.out).mono ?_
  rintro e w3 ⟨v, rfl, hown, hb3⟩
  rw [HC0.out]
  rw [reachA_zero HC0.out, HR0.out] at hown
  obtain ⟨RA, rc, rfl, hrc, _, hrsl⟩ := hown.slice i64cells_len
  have HM3 := Lib.hid (HM2.out.below hb3)
  have HX3 := Lib.hid (HX2.out.grow hb3)
  have HB3 := Lib.hid (HB2.out.trans (hb3.mono HB2.out.size))
  have HS3 := Lib.hid (HS2.out.below hb3)
  obtain ⟨rl, hrl⟩ : ∃ rl, R.length = rl := ⟨_, rfl⟩
  rw [hrl] at hrsl hrc ⊢
  have hrn := hrsl.le
  have HR3 := Lib.hid hrsl
  have HRL := Lib.hid hrl
  obtain ⟨y0, y1, y2, y3, ly⟩ := HX3.out.cells
  clear hown hb3 hrsl hrl
  have hlow := lowest HDR.out hf1 hf2
  rw [HR0.out] at hlow
  obtain ⟨LW, hLW⟩ : ∃ LW, lowA g.val ms fr = LW := ⟨_, rfl⟩
  obtain ⟨LK, hLK⟩ : ∃ LK, lowK g.val ms fr = LK := ⟨_, rfl⟩
  obtain ⟨DR, hDR⟩ : ∃ DR, dropA g.val ms fr = DR := ⟨_, rfl⟩
  rw [hLW, hLK, hDR] at hlow
  have HLW := Lib.hid hLW
  have HLK := Lib.hid hLK
  have HDD := Lib.hid hDR
  have HLOW := Lib.hid hlow
  clear hLW hLK hDR hlow
  go_wp2_with fail
  clear y0 y1 y2 y3 ly
  refine (implLowestOf_any g _ g.heightsN mc ms fr w3 HX3.out.gi HM3.out).mono ?_
  rintro e w4 ⟨rfl, hb4⟩
  rw [HLW.out, HLK.out]
  have HM4 := Lib.hid (HM3.out.below hb4)
  have HX4 := Lib.hid (HX3.out.grow hb4)
  have HB4 := Lib.hid (HB3.out.trans (hb4.mono HB3.out.size))
  have HS4 := Lib.hid (HS3.out.below hb4)
  have HR4 := Lib.hid (HR3.out.below hb4)
  obtain ⟨y0, y1, y2, y3, ly⟩ := HX4.out.cells
  clear hb4
  go_wp2_with fail
  clear y0 y1 y2 y3 ly
  refine (implDropOf_any g _ g.heightsN mc ms fr w4 HX4.out.gi HM4.out).mono ?_
  rintro e w5 ⟨rfl, hb5⟩
  rw [HDD.out, HLK.out]
  have HM5 := Lib.hid (HM4.out.below hb5)
  have HX5 := Lib.hid (HX4.out.grow hb5)
  have HB5 := Lib.hid (HB4.out.trans (hb5.mono HB4.out.size))
  have HS5 := Lib.hid (HS4.out.below hb5)
  have HR5 := Lib.hid (HR4.out.below hb5)
  clear hb5
  rcases HLOW.out with ⟨hRe, hK⟩ | ⟨hRe, hK, b, hA, hbl, hqb, hD, hD0, hall⟩
  · have hrl0 : rl = 0 := by rw [← HRL.out, hRe]; rfl
    subst hrl0
    subst hK
    have HRE := Lib.hid hRe
    clear hRe
    go_wp2
    go_loopg [14, 15] g.heightsN (fun gk tt i wr => ∃ (k : Nat) (q : Int), k ≤ g.heightsN ∧ gk = g.heightsN - k ∧ tt = .int .i64 q ∧ i = .int .i64 k ∧ topT g.val ms k = q ∧ 0 ≤ q ∧ q ≤ 5000 ∧ Below w5.heap.size w5 wr)
    case atStart => exact ⟨0, 0, Nat.zero_le _, rfl, rfl, rfl, rfl, by omega, by omega, Below.refl _ _⟩
    case round =>
      obtain ⟨k, q, hk, hgk, rfl, rfl, hq, hq0, hq1, hb⟩ := hrel
      have Hgk := Lib.hid hgk
      have HQ := Lib.hid hq
      have HBB := Lib.hid hb
      have HXr := Lib.hid (HX5.out.grow hb)
      have HMr := Lib.hid (HM5.out.below hb)
      have HRr := Lib.hid (HR5.out.below hb)
      have HSr := Lib.hid (HS5.out.below hb)
      have HBr := Lib.hid (HB5.out.trans (hb.mono HB5.out.size))
      clear hgk hq hb
      by_cases hlt : k < g.heightsN
      rotate_left
      · have hkn : k = g.heightsN := by omega
        have HKN := Lib.hid hkn
        have hkm : ¬ ((k : Int) < (g.heightsN : Int)) := by omega
        obtain ⟨y0, y1, y2, y3, ly⟩ := HXr.out.cells
        go_wp2_with fail
        refine (r8At_any A1 n1 c1 x1 61 g.heightsN wr HSr.out G1.out (by omega) (by omega) (by omega)).mono ?_
        rintro e w' ⟨cl, rfl, hcl, rfl⟩
        go_wp2_with fail
        refine (implFrictionFor_any g _ g.heightsN mc ms (cl : Int) wr HXr.out.gi HMr.out).mono ?_
        rintro e wf ⟨rfl, hbf⟩
        clear y0 y1 y2 y3 ly
        have HXf := Lib.hid (HXr.out.grow hbf)
        have HMf := Lib.hid (HMr.out.below hbf)
        have HSf := Lib.hid (HSr.out.below hbf)
        have HBf := Lib.hid (HBr.out.trans (hbf.mono HBr.out.size))
        obtain ⟨m, hm, mcell, mlt⟩ := ints_cell HMf.out hcl
        have hfc := friction HDR.out hm
        obtain ⟨FA, hFA⟩ : ∃ FA, fricA g.val ms (cl : Int) = FA := ⟨_, rfl⟩
        obtain ⟨FK, hFK⟩ : ∃ FK, fricK g.val ms (cl : Int) = FK := ⟨_, rfl⟩
        rw [hFA, hFK] at hfc ⊢
        clear hbf hm hFA hFK
        rcases hfc with ⟨hp, hK6⟩ | ⟨hp, hK3⟩ | ⟨hp, hK0, hL1, hL2, hLn, hLb⟩
        · have hd : decide (0 < m) = true := decide_eq_true hp
          subst hK6
          go_wp2
          go_ret
          exact Ret.b rfl HBf.out
        · have hd : decide (0 < m) = false := decide_eq_false (by omega)
          subst hK3
          go_wp2
          go_ret
          exact Ret.b rfl HBf.out
        · have hd : decide (0 < m) = false := decide_eq_false (by omega)
          subst hK0
          have HLN := Lib.hid hLn
          have HLB := Lib.hid hLb
          clear hLn hLb
          obtain ⟨y0, y1, y2, y3, ly⟩ := HXf.out.cells
          go_wp2_with fail
          clear y0 y1 y2 y3 ly mcell
          refine (specReachedBy_any g _ g.heightsN mc ms FA wf HXf.out.gi HMf.out).mono ?_
          rintro e wg ⟨v, rfl, hown, hbg⟩
          have hc1 := (HDR.out.run hL1 hL2).1
          rw [hc1]
          rw [reachA_zero hc1] at hown
          obtain ⟨QA, qc, rfl, hqc, _, hqsl⟩ := hown.slice i64cells_len
          obtain ⟨Q, hQ⟩ : ∃ Q, reachL g.val ms FA = Q := ⟨_, rfl⟩
          rw [hQ] at hqsl hqc ⊢
          have HLQ := Lib.hid HLN.out
          rw [hQ] at HLQ
          obtain ⟨ql, hql⟩ : ∃ ql, Q.length = ql := ⟨_, rfl⟩
          rw [hql] at hqsl hqc ⊢
          have HQ1 := Lib.hid hqsl
          have HXg := Lib.hid (HXf.out.grow hbg)
          have HMg := Lib.hid (HMf.out.below hbg)
          have HSg := Lib.hid (HSf.out.below hbg)
          have HBg := Lib.hid (HBf.out.trans (hbg.mono HBf.out.size))
          clear hown hbg hc1 hqsl hqc hQ hql
          go_wp2_with fail
          refine (r8Has_any QA ql qc Q (cl : Int) wg HQ1.out).mono ?_
          rintro e w' ⟨rfl, rfl⟩
          rw [HLQ.out]
          by_cases hone : FA = 1
          · subst hone
            go_wp2
            go_ret
            exact Ret.b rfl HBg.out
          have h1 : (FA == 1) = false := by simp [hone]
          obtain ⟨u, hu⟩ : ∃ u : Nat, FA - 1 = u := ⟨(FA - 1).toNat, by omega⟩
          have hu1 : 1 ≤ u ∧ u ≤ 4999 := by omega
          obtain ⟨hu1, hu2⟩ := hu1
          go_wp2_with fail
          refine (r8Wide_any A1 n1 c1 x1 62 60000 wg HSg.out G1.out (by omega) (by omega) (by omega)).mono ?_
          rintro e w' ⟨z, rfl, hz, rfl⟩
          have hmz : (u : Int) ≠ 0 := by omega
          have ht := tmod_nat (z : Int) u (by omega)
          have hlt2 := Nat.mod_lt (z : Int).toNat (show 0 < u by omega)
          obtain ⟨r, hr⟩ : ∃ r, (z : Int).toNat % u = r := ⟨_, rfl⟩
          rw [hr] at ht hlt2
          clear hr
          have hwu : IntKind.i64.wrap (FA - 1) = (u : Int) := by rw [hu]; exact IntWalk.i64_in _ (by omega)
          obtain ⟨o, ho⟩ : ∃ o : Int, 1 + (r : Int) = o := ⟨_, rfl⟩
          obtain ⟨y0, y1, y2, y3, ly⟩ := HXg.out.cells
          go_wp2_with fail
          try rw [ho]
          clear y0 y1 y2 y3 ly ht hmz hz
          have ho1 : 1 ≤ o := by omega
          have ho2 : o < FA := by omega
          refine (specReachedBy_any g _ g.heightsN mc ms o wg HXg.out.gi HMg.out).mono ?_
          rintro e wh ⟨v, rfl, hown, hbh⟩
          have hc1 := (HDR.out.run ho1 (show o ≤ 5000 by omega)).1
          rw [hc1]
          rw [reachA_zero hc1] at hown
          obtain ⟨PA, pc, rfl, hpc, _, hpsl⟩ := hown.slice i64cells_len
          have HLP := Lib.hid (HLB.out o ho1 ho2)
          obtain ⟨P, hP⟩ : ∃ P, reachL g.val ms o = P := ⟨_, rfl⟩
          rw [hP] at hpsl hpc HLP ⊢
          obtain ⟨pl, hpl⟩ : ∃ pl, P.length = pl := ⟨_, rfl⟩
          rw [hpl] at hpsl hpc ⊢
          have HXh := Lib.hid (HXg.out.grow hbh)
          have HMh := Lib.hid (HMg.out.below hbh)
          have HBh := Lib.hid (HBg.out.trans (hbh.mono HBg.out.size))
          have HP1 := Lib.hid hpsl
          clear hown hbh hc1 hpsl hpc hP hpl
          obtain ⟨y0, y1, y2, y3, ly⟩ := HXh.out.cells
          go_wp2_with fail
          clear y0 y1 y2 y3 ly
          refine (specReachedBy_any g _ g.heightsN mc ms (u : Int) wh HXh.out.gi HMh.out).mono ?_
          rintro e wi ⟨v, rfl, hown, hbi⟩
          have hc1 := (HDR.out.run (fr := (u : Int)) (by omega) (by omega)).1
          rw [hc1]
          rw [reachA_zero hc1] at hown
          obtain ⟨EA, ec, rfl, hec, _, hesl⟩ := hown.slice i64cells_len
          have HLE := Lib.hid (HLB.out (u : Int) (by omega) (by omega))
          obtain ⟨E, hE⟩ : ∃ E, reachL g.val ms (u : Int) = E := ⟨_, rfl⟩
          rw [hE] at hesl hec HLE ⊢
          obtain ⟨el, hel⟩ : ∃ el, E.length = el := ⟨_, rfl⟩
          rw [hel] at hesl hec ⊢
          have HBi := Lib.hid (HBh.out.trans (hbi.mono HBh.out.size))
          have HPi := Lib.hid (HP1.out.below hbi)
          have HEi := Lib.hid hesl
          clear hown hbi hc1 hesl hec hE hel
          go_wp2_with fail
          refine (r8Has_any PA pl pc P (cl : Int) wi HPi.out).mono ?_
          rintro e w' ⟨rfl, rfl⟩
          rw [HLP.out]
          go_wp2_with fail
          refine (r8Has_any EA el ec E (cl : Int) wi HEi.out).mono ?_
          rintro e w' ⟨rfl, rfl⟩
          rw [HLE.out]
          go_wp2
          go_ret
          exact Ret.b rfl HBi.out
      obtain ⟨y0, y1, y2, y3, ly⟩ := HXr.out.cells
      obtain ⟨m, hm, _, _⟩ := ints_cell HMr.out hlt
      have HMK := Lib.hid hm
      obtain ⟨t, hta, hts⟩ := arrive HDR.out hf1 hf2 hm
      rw [HR0.out] at hts
      have HTA := Lib.hid hta
      have HTS := Lib.hid hts
      obtain ⟨AK, hAK⟩ : ∃ AK, arivK g.val ms fr (k : Int) = AK := ⟨_, rfl⟩
      have HAK := Lib.hid hAK
      clear hm hta hts hAK
      go_wp2_with fail
      clear y0 y1 y2 y3 ly
      refine (implArrivalOf_any g _ g.heightsN mc ms fr (k : Int) wr HXr.out.gi HMr.out).mono ?_
      rintro e w6 ⟨rfl, hb6⟩
      have HBB6 := Lib.hid (HBB.out.trans (hb6.mono HBB.out.size))
      have HX6 := Lib.hid (HXr.out.grow hb6)
      have HM6 := Lib.hid (HMr.out.below hb6)
      have HR6 := Lib.hid (HRr.out.below hb6)
      clear hb6
      rw [HTA.out, HAK.out]
      obtain ⟨y0, y1, y2, y3, ly⟩ := HX6.out.cells
      rw [HGA.out] at y3
      obtain ⟨m', hm', mcell, mlt⟩ := ints_cell HM6.out hlt
      rw [HMK.out] at hm'
      injection hm' with hm'
      subst hm'
      obtain ⟨H1, hH1, hcell, hh0, hh1, glt⟩ := HX6.out.ht HGB.out HGA.out hlt
      have HHT := Lib.hid hH1
      clear hH1
      have hts := HTS.out
      rw [HAK.out] at hts
      rcases hts with ⟨hak, hhas, ⟨ht0, hmp⟩ | ⟨ht1, hmp⟩⟩ | ⟨hak, hhas⟩
      · have HT := Lib.hid (topT_yes (g := g.val) HMK.out hmp)
        have hd : decide (0 < m) = true := decide_eq_true hmp
        subst hak
        subst ht0
        go_wp2_with fail
        refine (r8Has_any RA _ rc R (k : Int) w6 HR6.out).mono ?_
        rintro e w' ⟨rfl, rfl⟩
        rw [hhas]
        clear hhas
        go_wp2
        go_roundg (g.heightsN - (k + 1))
        case measure => have := Hgk.out; omega
        case rel => exact ⟨k + 1, max q H1, by omega, rfl, rfl, by go_num, by rw [HT.out, HQ.out, HHT.out], by omega, by omega, HBB6.out⟩
      · have HT := Lib.hid (topT_no (g := g.val) HMK.out (show ¬ 0 < m by omega))
        have hd : decide (0 < m) = false := decide_eq_false (by omega)
        have hz : (t == 0) = false := by simp; omega
        have hl : decide (t < 0) = false := decide_eq_false (by omega)
        subst hak
        go_wp2_with fail
        refine (r8Has_any RA _ rc R (k : Int) w6 HR6.out).mono ?_
        rintro e w' ⟨rfl, rfl⟩
        rw [hhas]
        clear hhas
        go_wp2
        go_roundg (g.heightsN - (k + 1))
        case measure => have := Hgk.out; omega
        case rel => exact ⟨k + 1, q, by omega, rfl, rfl, by go_num, by rw [HT.out, HQ.out], by omega, by omega, HBB6.out⟩
      · subst hak
        go_wp2_with fail
        refine (r8Has_any RA _ rc R (k : Int) w6 HR6.out).mono ?_
        rintro e w' ⟨rfl, rfl⟩
        rw [hhas]
        clear hhas
        by_cases hmp : 0 < m
        · have HT := Lib.hid (topT_yes (g := g.val) HMK.out hmp)
          have hd : decide (0 < m) = true := decide_eq_true hmp
          go_wp2
          go_roundg (g.heightsN - (k + 1))
          case measure => have := Hgk.out; omega
          case rel => exact ⟨k + 1, max q H1, by omega, rfl, rfl, by go_num, by rw [HT.out, HQ.out, HHT.out], by omega, by omega, HBB6.out⟩
        · have HT := Lib.hid (topT_no (g := g.val) HMK.out hmp)
          have hd : decide (0 < m) = false := decide_eq_false hmp
          go_wp2
          go_roundg (g.heightsN - (k + 1))
          case measure => have := Hgk.out; omega
          case rel => exact ⟨k + 1, q, by omega, rfl, rfl, by go_num, by rw [HT.out, HQ.out], by omega, by omega, HBB6.out⟩
  · have hrl0 : 1 ≤ rl := by
      rw [← HRL.out]
      cases R with
      | nil => exact absurd rfl hRe
      | cons _ _ => simp
    subst hK
    subst hA
    have hbn : b < g.heightsN := by rw [← HML.out]; exact hbl
    have HQB := Lib.hid hqb
    have HDE := Lib.hid hD
    have HALL := Lib.hid hall
    have hdR : decide (0 < rl) = true := decide_eq_true (by omega)
    clear hRe hqb hD hall hbl
    obtain ⟨ra, ro, _, rfl, _, _⟩ := ints_at HR5.out (show 0 < rl by omega)

    go_wp2
    go_loopg [14, 15] g.heightsN (fun gk tt i wr => ∃ (k : Nat) (q : Int), k ≤ g.heightsN ∧ gk = g.heightsN - k ∧ tt = .int .i64 q ∧ i = .int .i64 k ∧ topT g.val ms k = q ∧ 0 ≤ q ∧ q ≤ 5000 ∧ Below w5.heap.size w5 wr)
    case atStart => exact ⟨0, 0, Nat.zero_le _, rfl, rfl, rfl, rfl, by omega, by omega, Below.refl _ _⟩
    case round =>
      obtain ⟨k, q, hk, hgk, rfl, rfl, hq, hq0, hq1, hb⟩ := hrel
      have Hgk := Lib.hid hgk
      have HQ := Lib.hid hq
      have HBB := Lib.hid hb
      have HXr := Lib.hid (HX5.out.grow hb)
      have HMr := Lib.hid (HM5.out.below hb)
      have HRr := Lib.hid (HR5.out.below hb)
      have HSr := Lib.hid (HS5.out.below hb)
      have HBr := Lib.hid (HB5.out.trans (hb.mono HB5.out.size))
      clear hgk hq hb
      by_cases hlt : k < g.heightsN
      rotate_left
      · have hkn : k = g.heightsN := by omega
        have HKN := Lib.hid hkn
        have hkm : ¬ ((k : Int) < (g.heightsN : Int)) := by omega
        obtain ⟨y0, y1, y2, y3, ly⟩ := HXr.out.cells
        rw [HGA.out] at y3
        obtain ⟨HB0, hHB0, bcell, hbb0, hbb1, glt⟩ := HXr.out.ht HGB.out HGA.out hbn
        have hw1 : IntKind.i64.wrap (q - HB0) = DR := by
          have h := HDE.out
          have h2 : g.val.heights.getD b 0 = HB0 := hHB0
          rw [h2, HML.out, ← HKN.out, HQ.out] at h
          rw [h]; exact IntWalk.i64_in _ (by omega)
        have HHB := Lib.hid hHB0
        clear hHB0
        go_wp2_with fail
        refine (r8Has_any _ rl rc R (b : Int) wr HRr.out).mono ?_
        rintro e w' ⟨rfl, rfl⟩
        rw [HQB.out]
        go_wp2
        go_loopg [18] rl (fun gk s18 wq => ∃ j : Nat, j ≤ rl ∧ gk = rl - j ∧ s18 = .int .i64 j ∧ Below wr.heap.size wr wq)
        case atStart => exact ⟨0, by omega, rfl, rfl, Below.refl _ _⟩
        case round =>
          obtain ⟨j, hj, hgj, rfl, hbq⟩ := hrel
          have Hgj := Lib.hid hgj
          have HBq := Lib.hid hbq
          have HXq := Lib.hid (HXr.out.grow hbq)
          have HMq := Lib.hid (HMr.out.below hbq)
          have HRq := Lib.hid (HRr.out.below hbq)
          have HSq := Lib.hid (HSr.out.below hbq)
          have HBWq := Lib.hid (HBr.out.trans (hbq.mono HBr.out.size))
          clear hgj hbq y0 y1 y2 y3 ly bcell glt
          by_cases hjl : j < rl
          rotate_left
          · have hjn : ¬ ((j : Int) < (rl : Int)) := by omega
            obtain ⟨y0, y1, y2, y3, ly⟩ := HXq.out.cells
            go_wp2_with fail
            refine (r8At_any A1 n1 c1 x1 61 g.heightsN wr HSq.out G1.out (by omega) (by omega) (by omega)).mono ?_
            rintro e w' ⟨cl, rfl, hcl, rfl⟩
            go_wp2_with fail
            refine (implFrictionFor_any g _ g.heightsN mc ms (cl : Int) wr HXq.out.gi HMq.out).mono ?_
            rintro e wf ⟨rfl, hbf⟩
            clear y0 y1 y2 y3 ly
            have HXf := Lib.hid (HXq.out.grow hbf)
            have HMf := Lib.hid (HMq.out.below hbf)
            have HSf := Lib.hid (HSq.out.below hbf)
            have HBf := Lib.hid (HBWq.out.trans (hbf.mono HBWq.out.size))
            obtain ⟨m, hm, mcell, mlt⟩ := ints_cell HMf.out hcl
            have hfc := friction HDR.out hm
            obtain ⟨FA, hFA⟩ : ∃ FA, fricA g.val ms (cl : Int) = FA := ⟨_, rfl⟩
            obtain ⟨FK, hFK⟩ : ∃ FK, fricK g.val ms (cl : Int) = FK := ⟨_, rfl⟩
            rw [hFA, hFK] at hfc ⊢
            clear hbf hm hFA hFK
            rcases hfc with ⟨hp, hK6⟩ | ⟨hp, hK3⟩ | ⟨hp, hK0, hL1, hL2, hLn, hLb⟩
            · have hd : decide (0 < m) = true := decide_eq_true hp
              subst hK6
              go_wp2
              go_ret
              exact Ret.b rfl HBf.out
            · have hd : decide (0 < m) = false := decide_eq_false (by omega)
              subst hK3
              go_wp2
              go_ret
              exact Ret.b rfl HBf.out
            · have hd : decide (0 < m) = false := decide_eq_false (by omega)
              subst hK0
              have HLN := Lib.hid hLn
              have HLB := Lib.hid hLb
              clear hLn hLb
              obtain ⟨y0, y1, y2, y3, ly⟩ := HXf.out.cells
              go_wp2_with fail
              clear y0 y1 y2 y3 ly mcell
              refine (specReachedBy_any g _ g.heightsN mc ms FA wf HXf.out.gi HMf.out).mono ?_
              rintro e wg ⟨v, rfl, hown, hbg⟩
              have hc1 := (HDR.out.run hL1 hL2).1
              rw [hc1]
              rw [reachA_zero hc1] at hown
              obtain ⟨QA, qc, rfl, hqc, _, hqsl⟩ := hown.slice i64cells_len
              obtain ⟨Q, hQ⟩ : ∃ Q, reachL g.val ms FA = Q := ⟨_, rfl⟩
              rw [hQ] at hqsl hqc ⊢
              have HLQ := Lib.hid HLN.out
              rw [hQ] at HLQ
              obtain ⟨ql, hql⟩ : ∃ ql, Q.length = ql := ⟨_, rfl⟩
              rw [hql] at hqsl hqc ⊢
              have HQ1 := Lib.hid hqsl
              have HXg := Lib.hid (HXf.out.grow hbg)
              have HMg := Lib.hid (HMf.out.below hbg)
              have HSg := Lib.hid (HSf.out.below hbg)
              have HBg := Lib.hid (HBf.out.trans (hbg.mono HBf.out.size))
              clear hown hbg hc1 hqsl hqc hQ hql
              go_wp2_with fail
              refine (r8Has_any QA ql qc Q (cl : Int) wg HQ1.out).mono ?_
              rintro e w' ⟨rfl, rfl⟩
              rw [HLQ.out]
              by_cases hone : FA = 1
              · subst hone
                go_wp2
                go_ret
                exact Ret.b rfl HBg.out
              have h1 : (FA == 1) = false := by simp [hone]
              obtain ⟨u, hu⟩ : ∃ u : Nat, FA - 1 = u := ⟨(FA - 1).toNat, by omega⟩
              have hu1 : 1 ≤ u ∧ u ≤ 4999 := by omega
              obtain ⟨hu1, hu2⟩ := hu1
              go_wp2_with fail
              refine (r8Wide_any A1 n1 c1 x1 62 60000 wg HSg.out G1.out (by omega) (by omega) (by omega)).mono ?_
              rintro e w' ⟨z, rfl, hz, rfl⟩
              have hmz : (u : Int) ≠ 0 := by omega
              have ht := tmod_nat (z : Int) u (by omega)
              have hlt2 := Nat.mod_lt (z : Int).toNat (show 0 < u by omega)
              obtain ⟨r, hr⟩ : ∃ r, (z : Int).toNat % u = r := ⟨_, rfl⟩
              rw [hr] at ht hlt2
              clear hr
              have hwu : IntKind.i64.wrap (FA - 1) = (u : Int) := by rw [hu]; exact IntWalk.i64_in _ (by omega)
              obtain ⟨o, ho⟩ : ∃ o : Int, 1 + (r : Int) = o := ⟨_, rfl⟩
              obtain ⟨y0, y1, y2, y3, ly⟩ := HXg.out.cells
              go_wp2_with fail
              try rw [ho]
              clear y0 y1 y2 y3 ly ht hmz hz
              have ho1 : 1 ≤ o := by omega
              have ho2 : o < FA := by omega
              refine (specReachedBy_any g _ g.heightsN mc ms o wg HXg.out.gi HMg.out).mono ?_
              rintro e wh ⟨v, rfl, hown, hbh⟩
              have hc1 := (HDR.out.run ho1 (show o ≤ 5000 by omega)).1
              rw [hc1]
              rw [reachA_zero hc1] at hown
              obtain ⟨PA, pc, rfl, hpc, _, hpsl⟩ := hown.slice i64cells_len
              have HLP := Lib.hid (HLB.out o ho1 ho2)
              obtain ⟨P, hP⟩ : ∃ P, reachL g.val ms o = P := ⟨_, rfl⟩
              rw [hP] at hpsl hpc HLP ⊢
              obtain ⟨pl, hpl⟩ : ∃ pl, P.length = pl := ⟨_, rfl⟩
              rw [hpl] at hpsl hpc ⊢
              have HXh := Lib.hid (HXg.out.grow hbh)
              have HMh := Lib.hid (HMg.out.below hbh)
              have HBh := Lib.hid (HBg.out.trans (hbh.mono HBg.out.size))
              have HP1 := Lib.hid hpsl
              clear hown hbh hc1 hpsl hpc hP hpl
              obtain ⟨y0, y1, y2, y3, ly⟩ := HXh.out.cells
              go_wp2_with fail
              clear y0 y1 y2 y3 ly
              refine (specReachedBy_any g _ g.heightsN mc ms (u : Int) wh HXh.out.gi HMh.out).mono ?_
              rintro e wi ⟨v, rfl, hown, hbi⟩
              have hc1 := (HDR.out.run (fr := (u : Int)) (by omega) (by omega)).1
              rw [hc1]
              rw [reachA_zero hc1] at hown
              obtain ⟨EA, ec, rfl, hec, _, hesl⟩ := hown.slice i64cells_len
              have HLE := Lib.hid (HLB.out (u : Int) (by omega) (by omega))
              obtain ⟨E, hE⟩ : ∃ E, reachL g.val ms (u : Int) = E := ⟨_, rfl⟩
              rw [hE] at hesl hec HLE ⊢
              obtain ⟨el, hel⟩ : ∃ el, E.length = el := ⟨_, rfl⟩
              rw [hel] at hesl hec ⊢
              have HBi := Lib.hid (HBh.out.trans (hbi.mono HBh.out.size))
              have HPi := Lib.hid (HP1.out.below hbi)
              have HEi := Lib.hid hesl
              clear hown hbi hc1 hesl hec hE hel
              go_wp2_with fail
              refine (r8Has_any PA pl pc P (cl : Int) wi HPi.out).mono ?_
              rintro e w' ⟨rfl, rfl⟩
              rw [HLP.out]
              go_wp2_with fail
              refine (r8Has_any EA el ec E (cl : Int) wi HEi.out).mono ?_
              rintro e w' ⟨rfl, rfl⟩
              rw [HLE.out]
              go_wp2
              go_ret
              exact Ret.b rfl HBi.out
          obtain ⟨y0, y1, y2, y3, ly⟩ := HXq.out.cells
          rw [HGA.out] at y3
          obtain ⟨x, hx, xcell, xlt⟩ := ints_cell HRq.out hjl
          obtain ⟨c, rfl, hcl, hcm⟩ := HALL.out x (List.mem_of_getElem? hx)
          rw [HML.out] at hcl
          obtain ⟨HC, hHC, ccell, hc0, hc1, glt⟩ := HXq.out.ht HGB.out HGA.out hcl
          obtain ⟨HB1, hHB1, bcell, _, _, _⟩ := HXq.out.ht HGB.out HGA.out hbn
          have hle : HB1 ≤ HC := by rw [← hHC, ← hHB1]; exact hcm
          have hdl : decide (HC < HB1) = false := decide_eq_false (by omega)
          have hjlt : (j : Int) < (rl : Int) := by omega
          clear hx hcm hHC hHB1
          have hsub := fun (g : Sub wr) b o (h : b < wr.heap.size) => g.cell b o h
          go_wp2_with fail
          refine wp_region_sub (by kernel_rfl) (by kernel_rfl) ?_
          repeat (go_big_quiet_step (fail))
          refine wpQuiet_nil ?_
          intro wg hg
          have HBqg := Lib.hid (HBq.out.trans (hg.mono HBq.out.size))
          clear y0 y1 y2 y3 ly xcell ccell bcell hsub hg
          go_wp2
          go_roundg (rl - (j + 1))
          case measure => have := Hgj.out; omega
          case rel => exact ⟨j + 1, by omega, rfl, by go_num, HBqg.out⟩
      obtain ⟨y0, y1, y2, y3, ly⟩ := HXr.out.cells
      obtain ⟨m, hm, _, _⟩ := ints_cell HMr.out hlt
      have HMK := Lib.hid hm
      obtain ⟨t, hta, hts⟩ := arrive HDR.out hf1 hf2 hm
      rw [HR0.out] at hts
      have HTA := Lib.hid hta
      have HTS := Lib.hid hts
      obtain ⟨AK, hAK⟩ : ∃ AK, arivK g.val ms fr (k : Int) = AK := ⟨_, rfl⟩
      have HAK := Lib.hid hAK
      clear hm hta hts hAK
      go_wp2_with fail
      clear y0 y1 y2 y3 ly
      refine (implArrivalOf_any g _ g.heightsN mc ms fr (k : Int) wr HXr.out.gi HMr.out).mono ?_
      rintro e w6 ⟨rfl, hb6⟩
      have HBB6 := Lib.hid (HBB.out.trans (hb6.mono HBB.out.size))
      have HX6 := Lib.hid (HXr.out.grow hb6)
      have HM6 := Lib.hid (HMr.out.below hb6)
      have HR6 := Lib.hid (HRr.out.below hb6)
      clear hb6
      rw [HTA.out, HAK.out]
      obtain ⟨y0, y1, y2, y3, ly⟩ := HX6.out.cells
      rw [HGA.out] at y3
      obtain ⟨m', hm', mcell, mlt⟩ := ints_cell HM6.out hlt
      rw [HMK.out] at hm'
      injection hm' with hm'
      subst hm'
      obtain ⟨H1, hH1, hcell, hh0, hh1, glt⟩ := HX6.out.ht HGB.out HGA.out hlt
      have HHT := Lib.hid hH1
      clear hH1
      have hts := HTS.out
      rw [HAK.out] at hts
      rcases hts with ⟨hak, hhas, ⟨ht0, hmp⟩ | ⟨ht1, hmp⟩⟩ | ⟨hak, hhas⟩
      · have HT := Lib.hid (topT_yes (g := g.val) HMK.out hmp)
        have hd : decide (0 < m) = true := decide_eq_true hmp
        subst hak
        subst ht0
        go_wp2_with fail
        refine (r8Has_any _ _ rc R (k : Int) w6 HR6.out).mono ?_
        rintro e w' ⟨rfl, rfl⟩
        rw [hhas]
        clear hhas
        go_wp2
        go_roundg (g.heightsN - (k + 1))
        case measure => have := Hgk.out; omega
        case rel => exact ⟨k + 1, max q H1, by omega, rfl, rfl, by go_num, by rw [HT.out, HQ.out, HHT.out], by omega, by omega, HBB6.out⟩
      · have HT := Lib.hid (topT_no (g := g.val) HMK.out (show ¬ 0 < m by omega))
        have hd : decide (0 < m) = false := decide_eq_false (by omega)
        have hz : (t == 0) = false := by simp; omega
        have hl : decide (t < 0) = false := decide_eq_false (by omega)
        subst hak
        go_wp2_with fail
        refine (r8Has_any _ _ rc R (k : Int) w6 HR6.out).mono ?_
        rintro e w' ⟨rfl, rfl⟩
        rw [hhas]
        clear hhas
        go_wp2
        go_roundg (g.heightsN - (k + 1))
        case measure => have := Hgk.out; omega
        case rel => exact ⟨k + 1, q, by omega, rfl, rfl, by go_num, by rw [HT.out, HQ.out], by omega, by omega, HBB6.out⟩
      · subst hak
        go_wp2_with fail
        refine (r8Has_any _ _ rc R (k : Int) w6 HR6.out).mono ?_
        rintro e w' ⟨rfl, rfl⟩
        rw [hhas]
        clear hhas
        by_cases hmp : 0 < m
        · have HT := Lib.hid (topT_yes (g := g.val) HMK.out hmp)
          have hd : decide (0 < m) = true := decide_eq_true hmp
          go_wp2
          go_roundg (g.heightsN - (k + 1))
          case measure => have := Hgk.out; omega
          case rel => exact ⟨k + 1, max q H1, by omega, rfl, rfl, by go_num, by rw [HT.out, HQ.out, HHT.out], by omega, by omega, HBB6.out⟩
        · have HT := Lib.hid (topT_no (g := g.val) HMK.out hmp)
          have hd : decide (0 < m) = false := decide_eq_false hmp
          go_wp2
          go_roundg (g.heightsN - (k + 1))
          case measure => have := Hgk.out; omega
          case rel => exact ⟨k + 1, q, by omega, rfl, rfl, by go_num, by rw [HT.out, HQ.out], by omega, by omega, HBB6.out⟩

end Go.Proofs.Ythlgfmdlecdchaa
