/- The program's least times to a goal. -/
import Derived.Test.YtamgodeiakflbaaDoorFarS
import Derived.Test.YtamgodeiakflbaaDoorInts
namespace Go.Proofs.YtamgodeiakflbaaDoor
open Go.RowKit

/-- The flag says whether anything was bettered since F. -/
structure Flag (F f : List Int) (mo : Bool) : Prop where
  le : Leq f F
  yes : mo = true → ¬ Leq F f
  no : mo = false → f = F
theorem Flag.keep {F f f' : List Int} {mo : Bool} (h : Flag F f mo) (e : f' = f) : Flag F f' mo := e ▸ h
theorem Flag.up {F f : List Int} {mo : Bool} {a b : Nat} {m : Int} (h : Flag F f mo) (hb : b < f.length) (hm : 1 ≤ m) (h0 : 0 ≤ val f a) (h1 : val f b < 0 ∨ val f a + m < val f b) : Flag F (relax f (a, b, m)) true := by
  have hl := relax_le (f := f) (e := (a, b, m)) hb hm
  refine ⟨hl.trans h.le, fun _ hc => ?_, fun h => by cases h⟩
  have := noeff (f := f) (e := (a, b, m)) hb hm (h.le.trans hc)
  rw [(eff_iff (f := f) (e := (a, b, m))).2 ⟨h0, h1⟩] at this
  cases this
theorem relax4m {F f : List Int} {mo : Bool} {a b : Nat} {m va vb : Int} (ha : val f a = va) (hb : val f b = vb) (hl : b < f.length) (hm : 1 ≤ m) (hF : Flag F f mo) : (decide (0 ≤ va) = false ∧ relax f (a, b, m) = f ∧ Flag F (relax f (a, b, m)) mo) ∨ (decide (0 ≤ va) = true ∧ decide (vb < 0) = true ∧ relax f (a, b, m) = f.set b (va + m) ∧ Flag F (relax f (a, b, m)) true) ∨ (decide (0 ≤ va) = true ∧ decide (vb < 0) = false ∧ decide (va + m < vb) = true ∧ relax f (a, b, m) = f.set b (va + m) ∧ Flag F (relax f (a, b, m)) true) ∨ (decide (0 ≤ va) = true ∧ decide (vb < 0) = false ∧ decide (va + m < vb) = false ∧ relax f (a, b, m) = f ∧ Flag F (relax f (a, b, m)) mo) := by
  rcases relax4 (m := m) ha hb with ⟨c1, he⟩ | ⟨c1, c2, he⟩ | ⟨c1, c2, c3, he⟩ | ⟨c1, c2, c3, he⟩
  · exact .inl ⟨c1, he, hF.keep he⟩
  · have h1 := of_decide_eq_true c1
    have h2 := of_decide_eq_true c2
    exact .inr (.inl ⟨c1, c2, he, hF.up hl hm (by omega) (.inl (by omega))⟩)
  · have h1 := of_decide_eq_true c1
    have h3 := of_decide_eq_true c3
    exact .inr (.inr (.inl ⟨c1, c2, c3, he, hF.up hl hm (by omega) (.inr (by omega))⟩))
  · exact .inr (.inr (.inr ⟨c1, c2, c3, he, hF.keep he⟩))
theorem flag_end {n g r : Nat} {xs : List Leg} {mo : Bool} (hv : legsOk (n : Int) xs = true) (hg : g < n) (hr : r ≤ n) (h : Flag (farN (edges xs) n g r) (farN (edges xs) n g (r + 1)) mo) : (mo = true → r + 1 ≤ n) ∧ (mo = false → farN (edges xs) n g (r + 1) = farL xs n g) := by
  have ho := edges_ok (n := n) rfl hv
  refine ⟨fun hm => ?_, fun hm => ?_⟩
  · by_cases e : r = n
    · have h1 := (far_end hg ho (r + 1) (by omega)).1
      have h2 := (far_end hg ho r (by omega)).1
      have := h.yes hm
      rw [h1, h2] at this
      exact absurd (Leq.refl _) this
    · omega
  · have he := h.no hm
    have hfx := sweep_fix (edges xs) (farN (edges xs) n g r) ho (farN_len r) (by
      have : (edges xs).foldl relax (farN (edges xs) n g r) = farN (edges xs) n g (r + 1) := rfl
      rw [this, he]; exact Leq.refl _)
    have := farN_stay hfx.1 (n - r)
    rw [show r + (n - r) = n by omega] at this
    rw [he]; unfold farL; exact this.symm
theorem fillL_set (n k : Nat) (h : k < n) : (List.replicate k (-1 : Int) ++ List.replicate (n - k) 0).set k (-1) = List.replicate (k + 1) (-1) ++ List.replicate (n - (k + 1)) 0 := by
  rw [List.set_append_right _ _ (by simp)]
  rw [List.length_replicate, Nat.sub_self, show n - k = (n - (k + 1)) + 1 by omega, List.replicate_succ, List.set_cons_zero, List.replicate_succ' (n := k), List.append_assoc]
  rfl
theorem leg_agg (x : Leg) : x.cells.toArray = #[.int .i64 x.from_, .int .i64 x.to_, .int .i64 x.minutes, .int .i64 x.exposure] := rfl
set_option maxRecDepth 100000 in
set_option maxHeartbeats 1000000 in
theorem minutesTo_any (n g : Nat) (A : Option Addr) (nl c : Nat) (xs : List Leg) (w : World) (hx : SliceOf w 4 Leg.cells A nl xs) (hv : legsOk (n : Int) xs = true) (hg : g < n) (hn1 : n ≤ 12) :
    Calls Tryd.prog 20 #[.int .i64 n, .slice A nl c, .int .i64 g] w (RetL 2 1 i64cells (farL xs n g) w) := by
  have HL := Lib.hid hx.len
  have HX := Lib.hid hx
  have HV := Lib.hid hv
  have hnl : nl ≤ 24 := by rw [← hx.len]; exact legs_24 hv
  have hmk := make_n (P := Tryd.prog) (t := 28) (n := n) Tryd.underlying28 infoI64 (by omega) (by omega)
  clear hx hv
  go_enter Tryd.func20, Tryd.ntmps20
  go_wp2
  clear hmk
  obtain ⟨G, hG⟩ : ∃ G, w.heap.size = G := ⟨_, rfl⟩
  have HG := Lib.hid hG
  have HF0 : Hid (IntsAt (w.alloc (.cells (madeCells #[.int .i64 0] n) 2)) G (List.replicate n 0)) := by rw [Hid, ← hG]; exact intsAt_made w n
  have HB0 : Hid (Below w.heap.size w (w.alloc (.cells (madeCells #[.int .i64 0] n) 2))) := (Below.refl _ _).alloc (Nat.le_refl _) _
  rw [hG]
  clear hG
  go_loopg [19] n (fun gk i wr => ∃ (k : Nat), k ≤ n ∧ gk = n - k ∧ i = .int .i64 k ∧ Below w.heap.size w wr ∧ IntsAt wr G (List.replicate k (-1) ++ List.replicate (n - k) 0))
  case atStart => exact ⟨0, Nat.zero_le _, rfl, rfl, HB0.out, by simpa using HF0.out⟩
  case round =>
    obtain ⟨k, hk, hgk, rfl, hb, hown⟩ := hrel
    have Hgk := Lib.hid hgk
    have Hown := Lib.hid hown
    have Hb := Lib.hid hb
    clear hgk hown hb
    by_cases hlt : k < n
    · have df := Hown.out.frozen
      have hl := Hown.out.lt
      have hc := Hown.out.cell (i := k) (x := 0) (by rw [List.getElem?_append_right (by simp), List.length_replicate, Nat.sub_self, List.getElem?_replicate, if_pos (by omega)])
      go_wp2
      have HW : Hid (IntsAt (wr.setCell ⟨G, k, none⟩ (.int .i64 (-1))) G (List.replicate (k + 1) (-1) ++ List.replicate (n - (k + 1)) 0)) := by
        rw [Hid, ← fillL_set n k hlt]; exact Hown.out.set k (-1)
      have HBW : Hid (Below w.heap.size w (wr.setCell ⟨G, k, none⟩ (.int .i64 (-1)))) := Hb.out.setCell (by have := HG.out; simp; omega) _
      clear df hl hc
      go_roundg (n - (k + 1))
      case measure => have := Hgk.out; omega
      case rel => exact ⟨k + 1, by omega, rfl, by go_num, HBW.out, HW.out⟩
    · have hkn : k = n := by omega
      subst hkn
      have hown := Hown.out
      rw [Nat.sub_self, List.replicate_zero, List.append_nil] at hown
      have HO := Lib.hid hown
      have df := hown.frozen
      have hl := hown.lt
      have hc := hown.cell (i := g) (x := -1) (by simp [hg])
      clear hown
      go_wp2
      have HOW : Hid (IntsAt (wr.setCell ⟨G, g, none⟩ (.int .i64 0)) G (farN (edges xs) k g 0)) := HO.out.set g 0
      have HBW : Hid (Below w.heap.size w (wr.setCell ⟨G, g, none⟩ (.int .i64 0))) := Hb.out.setCell (by have := HG.out; simp; omega) _
      clear df hc hl
      go_loopg [9] (k + 1) (fun gr s9 wx => ∃ (r : Nat) (mo : Bool), r ≤ k + 1 ∧ gr = k + 1 - r ∧ s9 = .bool mo ∧ (mo = true → r ≤ k) ∧ (mo = false → farN (edges xs) k g r = farL xs k g) ∧ Below w.heap.size w wx ∧ IntsAt wx G (farN (edges xs) k g r))
      case atStart => exact ⟨0, true, Nat.zero_le _, rfl, rfl, fun _ => Nat.zero_le _, (fun h => by cases h), HBW.out, HOW.out⟩
      case round =>
        obtain ⟨r, mo, hr, hgr, rfl, hyes, hno, hb1, ho1⟩ := hrel
        have Hgr := Lib.hid hgr
        have Hb1 := Lib.hid hb1
        have Ho1 := Lib.hid ho1
        clear hgr hb1 ho1
        cases mo
        · have HE := Lib.hid (hno rfl)
          clear hyes hno
          go_wp2
          go_ret
          exact RetP.mk (HE.out ▸ Ho1.out.owns (farN_len r) (by omega) (by have := HG.out; omega)) Hb1.out
        · have hrk := hyes rfl
          clear hyes hno
          go_wp2
          go_loopg [9, 32] nl (fun gi s9 i2 wx => ∃ (i : Nat) (mo : Bool), i ≤ nl ∧ gi = nl - i ∧ s9 = .bool mo ∧ i2 = .int .i64 i ∧ Flag (farN (edges xs) k g r) ((edges (xs.take i)).foldl relax (farN (edges xs) k g r)) mo ∧ Below w.heap.size w wx ∧ IntsAt wx G ((edges (xs.take i)).foldl relax (farN (edges xs) k g r)))
          case atStart => exact ⟨0, false, Nat.zero_le _, rfl, rfl, rfl, ⟨by simpa [edges] using Leq.refl _, (fun h => by cases h), (fun _ => by simp [edges])⟩, Hb1.out, by simpa [edges] using Ho1.out⟩
          case round =>
            obtain ⟨i, mo, hi, hgi, rfl, rfl, hfl, hb2, ho2⟩ := hrel
            have Hgi := Lib.hid hgi
            have H2 := Lib.hid hb2
            clear hgi
            by_cases hin : i < nl
            · obtain ⟨b1, o1, x, hA, hbb, hxi, x0, x1, x2, x3⟩ := Leg.at_ HX.out hin
              subst hA
              have hf := legs_fit HV.out x (List.mem_of_getElem? hxi)
              obtain ⟨a, ha⟩ : ∃ a : Nat, x.from_ = a := ⟨x.from_.toNat, by have := hf.f0; omega⟩
              obtain ⟨b, hbx⟩ : ∃ b : Nat, x.to_ = b := ⟨x.to_.toNat, by have := hf.f0; have := hf.ft; omega⟩
              obtain ⟨m, hm⟩ : ∃ m, x.minutes = m := ⟨_, rfl⟩
              obtain ⟨ex, hex⟩ : ∃ m, x.exposure = m := ⟨_, rfl⟩
              have hET := edges_take hxi (farN (edges xs) k g r)
              have hfit : a < k ∧ b < k ∧ 1 ≤ m ∧ m ≤ 600 := by have := hf.f0; have := hf.ft; have := hf.t1; have := hf.m1; have := hf.m2; omega
              rw [ha, hbx, hm, Int.toNat_natCast, Int.toNat_natCast] at hET
              rw [ha] at x0
              rw [hbx] at x1
              rw [hm] at x2
              rw [hex] at x3
              obtain ⟨f, hfe⟩ : ∃ f, (edges (xs.take i)).foldl relax (farN (edges xs) k g r) = f := ⟨_, rfl⟩
              have hmid := mid_ok (k := i) HV.out hg (show r ≤ 13 by omega)
              rw [hfe] at ho2 hET hmid hfl
              have HET := Lib.hid hET
              have HFL1 := Lib.hid hmid.1
              have HFB1 : Hid (∀ p, -1 ≤ val f p ∧ val f p ≤ 404000) := fun p => by have := hmid.2 p; omega
              have HM6 : Hid (m ≤ 600) := hfit.2.2.2
              have HFG0 := Lib.hid hfl
              have ⟨_, _, _, _⟩ := hfit
              have x0 := (H2.out.cell (p := ⟨b1, o1 + i * 4, none⟩) hbb).trans x0
              have x1 := (H2.out.cell (p := ⟨b1, o1 + i * 4 + 1, none⟩) hbb).trans x1
              have x2 := (H2.out.cell (p := ⟨b1, o1 + i * 4 + 2, none⟩) hbb).trans x2
              have x3 := (H2.out.cell (p := ⟨b1, o1 + i * 4 + 3, none⟩) hbb).trans x3
              have hlt1 := Nat.lt_of_lt_of_le hbb H2.out.size
              have HO2' := Lib.hid ho2
              clear hb2 ho2 hET hmid hf ha hbx hm hex hfe hxi hbb hfit hfl
              go_wp2
              obtain ⟨wk, hwk⟩ : ∃ wk, wr.alloc (.cells #[.int .i64 a, .int .i64 b, .int .i64 m, .int .i64 ex] 32) = wk := ⟨_, rfl⟩
              obtain ⟨X, hX⟩ : ∃ X, wr.heap.size = X := ⟨_, rfl⟩
              have hBk : Below wr.heap.size wr wk := by rw [← hwk]; exact (Below.refl _ _).alloc (Nat.le_refl _) _
              have HXL : Hid (Own wk X 32 #[.int .i64 a, .int .i64 b, .int .i64 m, .int .i64 ex]) := by rw [Hid, ← hwk, ← hX]; exact Own.new _ _ _
              have H2k := Lib.hid (H2.out.trans (hBk.mono H2.out.size))
              have HO2 := Lib.hid (HO2'.out.below' hBk)
              have HXG : Hid (X ≠ G) := by have := HO2'.out.lt; rw [Hid, ← hX]; omega
              rw [hwk, hX]
              clear hwk hX hBk x0 x1 x2 x3 hlt1 HO2'
              have ix0 : ∀ w : World, (Instr.index 71 (.agg #[.int .i64 a, .int .i64 b, .int .i64 b, .int .i64 a]) (.int .i64 0)).run Tryd.prog w = .ok (.agg #[.int .i64 a, .int .i64 b]) w := fun _ => by kernel_rfl
              have ix1 : ∀ w : World, (Instr.index 71 (.agg #[.int .i64 a, .int .i64 b, .int .i64 b, .int .i64 a]) (.int .i64 1)).run Tryd.prog w = .ok (.agg #[.int .i64 b, .int .i64 a]) w := fun _ => by kernel_rfl
              refine wp_loop_rounds 3 ?_
              rw [rounds_succ]
              go_wp2_with fail
              obtain ⟨wa1, hwa⟩ : ∃ wa, wk.alloc (.cells #[.int .i64 a, .int .i64 b] 70) = wa := ⟨_, rfl⟩
              obtain ⟨Y1, hY⟩ : ∃ Y, wk.heap.size = Y := ⟨_, rfl⟩
              have hBa : Below wk.heap.size wk wa1 := by rw [← hwa]; exact (Below.refl _ _).alloc (Nat.le_refl _) _
              have HT1 : Hid (Own wa1 Y1 70 #[.int .i64 a, .int .i64 b]) := by rw [Hid, ← hwa, ← hY]; exact Own.new _ _ _
              have HBa1 := Lib.hid (H2k.out.trans (hBa.mono H2k.out.size))
              have HOa1 := Lib.hid (HO2.out.below' hBa)
              have HXa1 := Lib.hid (HXL.out.below' hBa)
              have HYG1 : Hid (Y1 ≠ G) := by have := HO2.out.lt; rw [Hid, ← hY]; omega
              rw [hwa, hY]
              clear hwa hBa hY
              obtain ⟨va, hva⟩ : ∃ z, val f a = z := ⟨_, rfl⟩
              obtain ⟨vb, hvb⟩ : ∃ z, val f b = z := ⟨_, rfl⟩
              have hab := HFB1.out a
              have hbb := HFB1.out b
              rw [hva] at hab
              rw [hvb] at hbb
              have HVA : Hid (f[a]? = some va) := by rw [Hid, ← hva]; exact val_get (by rw [HFL1.out]; omega)
              have HVB : Hid (f[b]? = some vb) := by rw [Hid, ← hvb]; exact val_get (by rw [HFL1.out]; omega)
              have hs : IntKind.i64.wrap (va + m) = va + m := IntWalk.i64_in _ (by omega)
              have HF4 := Lib.hid (relax4m (m := m) hva hvb (by rw [HFL1.out]; omega) (by omega) HFG0.out)
              clear hva hvb
              have ca := HOa1.out.cell HVA.out
              have cb := HOa1.out.cell HVB.out
              have df := HOa1.out.frozen
              have hltG := HOa1.out.lt
              have m0 := HXa1.out.cell 2
              have hltX := HXa1.out.lt
              have t0 := HT1.out.cell 0
              have t1 := HT1.out.cell 1
              have hltT := HT1.out.lt
              simp at m0 t0 t1
              have hsub := fun (g : Sub wa1) b o (h : b < wa1.heap.size) => g.cell b o h
              go_wp2_with fail
              refine wp_region_sub (by kernel_rfl) (by kernel_rfl) ?_
              repeat (go_big_quiet_step (fail))
              refine wpQuiet_nil ?_
              intro wg hg
              have HBb1 := Lib.hid (HBa1.out.trans (hg.mono HBa1.out.size))
              have HOb1 := Lib.hid (HOa1.out.below' hg)
              have HXb1 := Lib.hid (HXa1.out.below' hg)
              have HTb1 := Lib.hid (HT1.out.below' hg)
              clear ca cb df hltG m0 hltX t0 t1 hltT hsub hg
              obtain ⟨wd1, hwd⟩ : ∃ z, wg = z := ⟨_, rfl⟩
              rw [hwd] at HBb1 HOb1 HXb1 HTb1 ⊢
              clear hwd
              rcases HF4.out with ⟨c1, he, hfg⟩ | ⟨c1, c2, he, hfg⟩ | ⟨c1, c2, c3, he, hfg⟩ | ⟨c1, c2, c3, he, hfg⟩
              focus
                have HE := Lib.hid he
                have HFG1 := Lib.hid hfg
                clear he hfg
                have ca := HOb1.out.cell HVA.out
                have cb := HOb1.out.cell HVB.out
                have df := HOb1.out.frozen
                have hltG := HOb1.out.lt
                have m0 := HXb1.out.cell 2
                have hltX := HXb1.out.lt
                have t0 := HTb1.out.cell 0
                have t1 := HTb1.out.cell 1
                have hltT := HTb1.out.lt
                simp at m0 t0 t1
                go_wp2_with fail
                obtain ⟨ww1, hww⟩ : ∃ ww, wd1 = ww := ⟨_, rfl⟩
                have HB1 : Hid (Below w.heap.size w ww1) := by rw [Hid, ← hww]; exact HBb1.out
                have HO3 : Hid (IntsAt ww1 G (relax f (a, b, m))) := by rw [Hid, HE.out, ← hww]; exact HOb1.out
                have HXc1 : Hid (Own ww1 X 32 #[.int .i64 a, .int .i64 b, .int .i64 m, .int .i64 ex]) := by rw [Hid, ← hww]; exact HXb1.out
                rw [hww]
                clear hww ca cb df hltG m0 hltX t0 t1 hltT c1 hs hab hbb HVA HVB HF4 HE
              rotate_left
              focus
                have HE := Lib.hid he
                have HFG1 := Lib.hid hfg
                clear he hfg
                have ca := HOb1.out.cell HVA.out
                have cb := HOb1.out.cell HVB.out
                have df := HOb1.out.frozen
                have hltG := HOb1.out.lt
                have m0 := HXb1.out.cell 2
                have hltX := HXb1.out.lt
                have t0 := HTb1.out.cell 0
                have t1 := HTb1.out.cell 1
                have hltT := HTb1.out.lt
                simp at m0 t0 t1
                go_wp2_with fail
                obtain ⟨ww1, hww⟩ : ∃ ww, wd1.setCell ⟨G, b, none⟩ (.int .i64 (va + m)) = ww := ⟨_, rfl⟩
                have HB1 : Hid (Below w.heap.size w ww1) := by rw [Hid, ← hww]; exact HBb1.out.setCell (by have := HG.out; simp; omega) _
                have HO3 : Hid (IntsAt ww1 G (relax f (a, b, m))) := by rw [Hid, HE.out, ← hww]; exact HOb1.out.set _ _
                have HXc1 : Hid (Own ww1 X 32 #[.int .i64 a, .int .i64 b, .int .i64 m, .int .i64 ex]) := by rw [Hid, ← hww]; exact HXb1.out.far HXG.out _
                rw [hww]
                clear hww ca cb df hltG m0 hltX t0 t1 hltT c1 c2 hs hab hbb HVA HVB HF4 HE
              rotate_left
              focus
                have HE := Lib.hid he
                have HFG1 := Lib.hid hfg
                clear he hfg
                have ca := HOb1.out.cell HVA.out
                have cb := HOb1.out.cell HVB.out
                have df := HOb1.out.frozen
                have hltG := HOb1.out.lt
                have m0 := HXb1.out.cell 2
                have hltX := HXb1.out.lt
                have t0 := HTb1.out.cell 0
                have t1 := HTb1.out.cell 1
                have hltT := HTb1.out.lt
                simp at m0 t0 t1
                go_wp2_with fail
                obtain ⟨ww1, hww⟩ : ∃ ww, wd1.setCell ⟨G, b, none⟩ (.int .i64 (va + m)) = ww := ⟨_, rfl⟩
                have HB1 : Hid (Below w.heap.size w ww1) := by rw [Hid, ← hww]; exact HBb1.out.setCell (by have := HG.out; simp; omega) _
                have HO3 : Hid (IntsAt ww1 G (relax f (a, b, m))) := by rw [Hid, HE.out, ← hww]; exact HOb1.out.set _ _
                have HXc1 : Hid (Own ww1 X 32 #[.int .i64 a, .int .i64 b, .int .i64 m, .int .i64 ex]) := by rw [Hid, ← hww]; exact HXb1.out.far HXG.out _
                rw [hww]
                clear hww ca cb df hltG m0 hltX t0 t1 hltT c1 c2 c3 hs hab hbb HVA HVB HF4 HE
              rotate_left
              focus
                have HE := Lib.hid he
                have HFG1 := Lib.hid hfg
                clear he hfg
                have ca := HOb1.out.cell HVA.out
                have cb := HOb1.out.cell HVB.out
                have df := HOb1.out.frozen
                have hltG := HOb1.out.lt
                have m0 := HXb1.out.cell 2
                have hltX := HXb1.out.lt
                have t0 := HTb1.out.cell 0
                have t1 := HTb1.out.cell 1
                have hltT := HTb1.out.lt
                simp at m0 t0 t1
                go_wp2_with fail
                obtain ⟨ww1, hww⟩ : ∃ ww, wd1 = ww := ⟨_, rfl⟩
                have HB1 : Hid (Below w.heap.size w ww1) := by rw [Hid, ← hww]; exact HBb1.out
                have HO3 : Hid (IntsAt ww1 G (relax f (a, b, m))) := by rw [Hid, HE.out, ← hww]; exact HOb1.out
                have HXc1 : Hid (Own ww1 X 32 #[.int .i64 a, .int .i64 b, .int .i64 m, .int .i64 ex]) := by rw [Hid, ← hww]; exact HXb1.out
                rw [hww]
                clear hww ca cb df hltG m0 hltX t0 t1 hltT c1 c2 c3 hs hab hbb HVA HVB HF4 HE
              rotate_left
              all_goals
                obtain ⟨f1, hf1⟩ : ∃ f1, relax f (a, b, m) = f1 := ⟨_, rfl⟩
                have HF1 := Lib.hid hf1
                have hbd1 := relax_in (e := (a, b, m)) HFL1.out (show b < k by omega) (show 0 ≤ m by omega) HM6.out HFB1.out
                rw [hf1] at hbd1 HO3 HFG1
                have HFL2 := Lib.hid hbd1.1
                have HFB2 := Lib.hid hbd1.2
                clear hbd1 hf1
                rw [rounds_succ]
                go_wp2_with fail
                obtain ⟨wa2, hwa⟩ : ∃ wa, ww1.alloc (.cells #[.int .i64 b, .int .i64 a] 70) = wa := ⟨_, rfl⟩
                obtain ⟨Y2, hY⟩ : ∃ Y, ww1.heap.size = Y := ⟨_, rfl⟩
                have hBa : Below ww1.heap.size ww1 wa2 := by rw [← hwa]; exact (Below.refl _ _).alloc (Nat.le_refl _) _
                have HT2 : Hid (Own wa2 Y2 70 #[.int .i64 b, .int .i64 a]) := by rw [Hid, ← hwa, ← hY]; exact Own.new _ _ _
                have HBa2 := Lib.hid (HB1.out.trans (hBa.mono HB1.out.size))
                have HOa2 := Lib.hid (HO3.out.below' hBa)
                have HXa2 := Lib.hid (HXc1.out.below' hBa)
                have HYG2 : Hid (Y2 ≠ G) := by have := HO3.out.lt; rw [Hid, ← hY]; omega
                rw [hwa, hY]
                clear hwa hBa hY
                obtain ⟨va, hva⟩ : ∃ z, val f1 b = z := ⟨_, rfl⟩
                obtain ⟨vb, hvb⟩ : ∃ z, val f1 a = z := ⟨_, rfl⟩
                have hab := HFB2.out b
                have hbb := HFB2.out a
                rw [hva] at hab
                rw [hvb] at hbb
                have HVA : Hid (f1[b]? = some va) := by rw [Hid, ← hva]; exact val_get (by rw [HFL2.out]; omega)
                have HVB : Hid (f1[a]? = some vb) := by rw [Hid, ← hvb]; exact val_get (by rw [HFL2.out]; omega)
                have hs : IntKind.i64.wrap (va + m) = va + m := IntWalk.i64_in _ (by omega)
                have HF4 := Lib.hid (relax4m (m := m) hva hvb (by rw [HFL2.out]; omega) (by omega) HFG1.out)
                clear hva hvb
                have ca := HOa2.out.cell HVA.out
                have cb := HOa2.out.cell HVB.out
                have df := HOa2.out.frozen
                have hltG := HOa2.out.lt
                have m0 := HXa2.out.cell 2
                have hltX := HXa2.out.lt
                have t0 := HT2.out.cell 0
                have t1 := HT2.out.cell 1
                have hltT := HT2.out.lt
                simp at m0 t0 t1
                have hsub := fun (g : Sub wa2) b o (h : b < wa2.heap.size) => g.cell b o h
                go_wp2_with fail
                refine wp_region_sub (by kernel_rfl) (by kernel_rfl) ?_
                repeat (go_big_quiet_step (fail))
                refine wpQuiet_nil ?_
                intro wg hg
                have HBb2 := Lib.hid (HBa2.out.trans (hg.mono HBa2.out.size))
                have HOb2 := Lib.hid (HOa2.out.below' hg)
                have HXb2 := Lib.hid (HXa2.out.below' hg)
                have HTb2 := Lib.hid (HT2.out.below' hg)
                clear ca cb df hltG m0 hltX t0 t1 hltT hsub hg
                obtain ⟨wd2, hwd⟩ : ∃ z, wg = z := ⟨_, rfl⟩
                rw [hwd] at HBb2 HOb2 HXb2 HTb2 ⊢
                clear hwd
                rcases HF4.out with ⟨c1, he, hfg⟩ | ⟨c1, c2, he, hfg⟩ | ⟨c1, c2, c3, he, hfg⟩ | ⟨c1, c2, c3, he, hfg⟩
                focus
                  have HE := Lib.hid he
                  have HFG2 := Lib.hid hfg
                  clear he hfg
                  have ca := HOb2.out.cell HVA.out
                  have cb := HOb2.out.cell HVB.out
                  have df := HOb2.out.frozen
                  have hltG := HOb2.out.lt
                  have m0 := HXb2.out.cell 2
                  have hltX := HXb2.out.lt
                  have t0 := HTb2.out.cell 0
                  have t1 := HTb2.out.cell 1
                  have hltT := HTb2.out.lt
                  simp at m0 t0 t1
                  go_wp2_with fail
                  obtain ⟨ww2, hww⟩ : ∃ ww, wd2 = ww := ⟨_, rfl⟩
                  have HB2 : Hid (Below w.heap.size w ww2) := by rw [Hid, ← hww]; exact HBb2.out
                  have HO4 : Hid (IntsAt ww2 G (relax f1 (b, a, m))) := by rw [Hid, HE.out, ← hww]; exact HOb2.out
                  have HXc2 : Hid (Own ww2 X 32 #[.int .i64 a, .int .i64 b, .int .i64 m, .int .i64 ex]) := by rw [Hid, ← hww]; exact HXb2.out
                  rw [hww]
                  clear hww ca cb df hltG m0 hltX t0 t1 hltT c1 hs hab hbb HVA HVB HF4 HE
                rotate_left
                focus
                  have HE := Lib.hid he
                  have HFG2 := Lib.hid hfg
                  clear he hfg
                  have ca := HOb2.out.cell HVA.out
                  have cb := HOb2.out.cell HVB.out
                  have df := HOb2.out.frozen
                  have hltG := HOb2.out.lt
                  have m0 := HXb2.out.cell 2
                  have hltX := HXb2.out.lt
                  have t0 := HTb2.out.cell 0
                  have t1 := HTb2.out.cell 1
                  have hltT := HTb2.out.lt
                  simp at m0 t0 t1
                  go_wp2_with fail
                  obtain ⟨ww2, hww⟩ : ∃ ww, wd2.setCell ⟨G, a, none⟩ (.int .i64 (va + m)) = ww := ⟨_, rfl⟩
                  have HB2 : Hid (Below w.heap.size w ww2) := by rw [Hid, ← hww]; exact HBb2.out.setCell (by have := HG.out; simp; omega) _
                  have HO4 : Hid (IntsAt ww2 G (relax f1 (b, a, m))) := by rw [Hid, HE.out, ← hww]; exact HOb2.out.set _ _
                  have HXc2 : Hid (Own ww2 X 32 #[.int .i64 a, .int .i64 b, .int .i64 m, .int .i64 ex]) := by rw [Hid, ← hww]; exact HXb2.out.far HXG.out _
                  rw [hww]
                  clear hww ca cb df hltG m0 hltX t0 t1 hltT c1 c2 hs hab hbb HVA HVB HF4 HE
                rotate_left
                focus
                  have HE := Lib.hid he
                  have HFG2 := Lib.hid hfg
                  clear he hfg
                  have ca := HOb2.out.cell HVA.out
                  have cb := HOb2.out.cell HVB.out
                  have df := HOb2.out.frozen
                  have hltG := HOb2.out.lt
                  have m0 := HXb2.out.cell 2
                  have hltX := HXb2.out.lt
                  have t0 := HTb2.out.cell 0
                  have t1 := HTb2.out.cell 1
                  have hltT := HTb2.out.lt
                  simp at m0 t0 t1
                  go_wp2_with fail
                  obtain ⟨ww2, hww⟩ : ∃ ww, wd2.setCell ⟨G, a, none⟩ (.int .i64 (va + m)) = ww := ⟨_, rfl⟩
                  have HB2 : Hid (Below w.heap.size w ww2) := by rw [Hid, ← hww]; exact HBb2.out.setCell (by have := HG.out; simp; omega) _
                  have HO4 : Hid (IntsAt ww2 G (relax f1 (b, a, m))) := by rw [Hid, HE.out, ← hww]; exact HOb2.out.set _ _
                  have HXc2 : Hid (Own ww2 X 32 #[.int .i64 a, .int .i64 b, .int .i64 m, .int .i64 ex]) := by rw [Hid, ← hww]; exact HXb2.out.far HXG.out _
                  rw [hww]
                  clear hww ca cb df hltG m0 hltX t0 t1 hltT c1 c2 c3 hs hab hbb HVA HVB HF4 HE
                rotate_left
                focus
                  have HE := Lib.hid he
                  have HFG2 := Lib.hid hfg
                  clear he hfg
                  have ca := HOb2.out.cell HVA.out
                  have cb := HOb2.out.cell HVB.out
                  have df := HOb2.out.frozen
                  have hltG := HOb2.out.lt
                  have m0 := HXb2.out.cell 2
                  have hltX := HXb2.out.lt
                  have t0 := HTb2.out.cell 0
                  have t1 := HTb2.out.cell 1
                  have hltT := HTb2.out.lt
                  simp at m0 t0 t1
                  go_wp2_with fail
                  obtain ⟨ww2, hww⟩ : ∃ ww, wd2 = ww := ⟨_, rfl⟩
                  have HB2 : Hid (Below w.heap.size w ww2) := by rw [Hid, ← hww]; exact HBb2.out
                  have HO4 : Hid (IntsAt ww2 G (relax f1 (b, a, m))) := by rw [Hid, HE.out, ← hww]; exact HOb2.out
                  have HXc2 : Hid (Own ww2 X 32 #[.int .i64 a, .int .i64 b, .int .i64 m, .int .i64 ex]) := by rw [Hid, ← hww]; exact HXb2.out
                  rw [hww]
                  clear hww ca cb df hltG m0 hltX t0 t1 hltT c1 c2 c3 hs hab hbb HVA HVB HF4 HE
                rotate_left
                all_goals
                  have HFF : Hid (IntsAt ww2 G ((edges (xs.take (i + 1))).foldl relax (farN (edges xs) k g r))) := by rw [Hid, HET.out, HF1.out]; exact HO4.out
                  rw [← HF1.out, ← HET.out] at HFG2
                  rw [rounds_succ]
                  go_wp2
                  go_roundg (nl - (i + 1))
                  case measure => have := Hgi.out; omega
                  case rel => exact ⟨i + 1, _, by omega, rfl, rfl, by go_num, HFG2.out, HB2.out, HFF.out⟩
            · have hii : i = nl := by omega
              rw [List.take_of_length_le (by rw [HL.out]; omega)] at ho2 hfl
              have HFF : Hid (IntsAt wr G (farN (edges xs) k g (r + 1))) := ho2
              have HFE := Lib.hid (flag_end HV.out hg hrk hfl)
              clear hb2 ho2 hfl
              go_wp2
              go_roundg (k + 1 - (r + 1))
              case measure => have := Hgr.out; omega
              case rel => exact ⟨r + 1, mo, by omega, rfl, rfl, HFE.out.1, HFE.out.2, H2.out, HFF.out⟩

end Go.Proofs.YtamgodeiakflbaaDoor
