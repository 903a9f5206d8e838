/- The reference's least times to a goal. -/
import Derived.Test.YtamgodeiakflbaaDoorFastP
import Derived.Test.YtamgodeiakflbaaDoorTours
import Derived.Test.YtamgodeiakflbaaDoorOwn2
import Derived.Test.YtamgodeiakflbaaDoorPush2
namespace Go.Proofs.YtamgodeiakflbaaDoor
open Go.RowKit

theorem val_get {f : List Int} {a : Nat} (h : a < f.length) : f[a]? = some (val f a) := by
  unfold val; rw [List.getD_eq_getElem?_getD, List.getElem?_eq_getElem h]; rfl
theorem relax_yes {f : List Int} {a b : Nat} {m : Int} (h0 : 0 ≤ val f a) (h : val f b < 0 ∨ val f a + m < val f b) : relax f (a, b, m) = f.set b (val f a + m) := by
  unfold relax; rw [if_pos (eff_iff.2 ⟨h0, h⟩)]
theorem relax_not {f : List Int} {a b : Nat} {m : Int} (h : ¬ (0 ≤ val f a ∧ (val f b < 0 ∨ val f a + m < val f b))) : relax f (a, b, m) = f := by
  unfold relax; rw [if_neg (fun he => h (eff_iff.1 he))]
theorem edges_take {xs : List Leg} {k : Nat} {x : Leg} (hx : xs[k]? = some x) (f : List Int) : (edges (xs.take (k + 1))).foldl relax f = relax (relax ((edges (xs.take k)).foldl relax f) (x.from_.toNat, x.to_.toNat, x.minutes)) (x.to_.toNat, x.from_.toNat, x.minutes) := by
  unfold edges
  rw [List.take_succ_eq_append_getElem (List.getElem?_eq_some_iff.1 hx).1, (List.getElem?_eq_some_iff.1 hx).2, List.flatMap_append, List.foldl_append]
  rfl
theorem edges_sub {xs : List Leg} {k : Nat} {e : Nat × Nat × Int} (h : e ∈ edges (xs.take k)) : e ∈ edges xs := by
  obtain ⟨x, hx, he⟩ := mem_edges.1 h
  exact mem_edges.2 ⟨x, List.mem_of_mem_take hx, he⟩
theorem relax4 {f : List Int} {a b : Nat} {m va vb : Int} (ha : val f a = va) (hb : val f b = vb) : (decide (0 ≤ va) = false ∧ relax f (a, b, m) = f) ∨ (decide (0 ≤ va) = true ∧ decide (vb < 0) = true ∧ relax f (a, b, m) = f.set b (va + m)) ∨ (decide (0 ≤ va) = true ∧ decide (vb < 0) = false ∧ decide (va + m < vb) = true ∧ relax f (a, b, m) = f.set b (va + m)) ∨ (decide (0 ≤ va) = true ∧ decide (vb < 0) = false ∧ decide (va + m < vb) = false ∧ relax f (a, b, m) = f) := by
  subst ha hb
  by_cases h1 : 0 ≤ val f a
  · by_cases h2 : val f b < 0
    · exact .inr (.inl ⟨decide_eq_true h1, decide_eq_true h2, relax_yes h1 (.inl h2)⟩)
    · by_cases h3 : val f a + m < val f b
      · exact .inr (.inr (.inl ⟨decide_eq_true h1, decide_eq_false h2, decide_eq_true h3, relax_yes h1 (.inr h3)⟩))
      · exact .inr (.inr (.inr ⟨decide_eq_true h1, decide_eq_false h2, decide_eq_false h3, relax_not (fun h => by omega)⟩))
  · exact .inl ⟨decide_eq_false h1, relax_not (fun h => h1 h.1)⟩
theorem relax_in {f : List Int} {e : Nat × Nat × Int} {n : Nat} (hl : f.length = n) (hb : e.2.1 < n) (h0 : 0 ≤ e.2.2) (h6 : e.2.2 ≤ 600) (h : ∀ p, -1 ≤ val f p ∧ val f p ≤ 404000) : (relax f e).length = n ∧ ∀ p, -1 ≤ val (relax f e) p ∧ val (relax f e) p ≤ 405000 := by
  refine ⟨by rw [relax_len, hl], fun p => ?_⟩
  rw [relax_val (by omega)]
  have h1 := h p
  have h2 := h e.1
  split
  · rename_i he
    have := (eff_iff.1 he.1).1
    omega
  · omega
/-- What is known within a sweep. -/
theorem mid_ok {n g r k : Nat} {xs : List Leg} (hv : legsOk (n : Int) xs = true) (hg : g < n) (hr : r ≤ 13) : ((edges (xs.take k)).foldl relax (farN (edges xs) n g r)).length = n ∧ ∀ p, -1 ≤ val ((edges (xs.take k)).foldl relax (farN (edges xs) n g r)) p ∧ val ((edges (xs.take k)).foldl relax (farN (edges xs) n g r)) p ≤ 403200 := by
  have ho := edges_ok (n := n) rfl hv
  have ho' : EdgesOk n (edges (xs.take k)) := fun e he => ho e (edges_sub he)
  refine ⟨by rw [sweep_len, farN_len], fun p => ⟨?_, ?_⟩⟩
  · have := (Tight.sweep (ES := edges xs) _ _ (fun e he => edges_sub he) ho' (farN_len r) (farN_tight hg ho r)).two p
    omega
  · have hl : (edges (xs.take k)).length ≤ 48 := by rw [edges_len, List.length_take]; have := legs_24 hv; omega
    have := sweep_bnd _ (farN (edges xs) n g r) (28800 * r) ho' (fun e he => edges_600 hv e (edges_sub he)) (farN_len r) (farL_bnd rfl hv hg r) p
    omega
set_option maxRecDepth 100000 in
set_option maxHeartbeats 1000000 in
theorem l23Far_any (n g : Nat) (A : Option Addr) (nl c : Nat) (xs : List Leg) (w : World) (hx : SliceOf w 4 Leg.cells A nl xs) (hv : legsOk (n : Int) xs = true) (hg : g < n) (hn1 : n ≤ 12) :
    Calls Tryd.prog 35 #[.int .i64 n, .slice A nl c, .int .i64 g] w (RetL 2 1 i64cells (farL xs n g) w) := by
  have HL := Lib.hid hx.len
  have HX := Lib.hid hx
  have HV := Lib.hid hv
  have hnl : nl ≤ 24 := by rw [← hx.len]; exact legs_24 hv
  clear hx hv
  go_enter Tryd.func35, Tryd.ntmps35
  go_wp2
  go_loopg [7, 8] n (fun gk s i wr => ∃ (k : Nat) (v : Value), k ≤ n ∧ gk = n - k ∧ i = .int .i64 k ∧ v = s ∧ Below w.heap.size w wr ∧ OwnsL wr w.heap.size 2 1 i64cells v (List.replicate k (-1)))
  case atStart => exact ⟨0, _, Nat.zero_le _, rfl, rfl, rfl, (Below.refl _ _).alloc (Nat.le_refl _) _, OwnsL.made _ _ _ _ _ (Nat.le_refl _)⟩
  case round =>
    obtain ⟨k, v, hk, hgk, rfl, rfl, hb, hown⟩ := hrel
    have Hgk := Lib.hid hgk
    have Hown := Lib.hid hown
    have Hb := Lib.hid hb
    clear hgk hown hb
    by_cases hlt : k < n
    · go_wp2_with (at_builtin; refine wpList_push (by rfl) (.tmp 19) (.tmp 20) 28 (by rfl) w.heap.size 2 1 Tryd.underlying28 infoI64 (by rfl) (by decide) i64cells i64cells_len i64cells_one _ v _ (-1) (by rfl) (by rfl) Hown.out (by first | rfl | simp [go_sem]) (by simp; omega) (by decide) Hb.out.size ?_)
      intro v' w' hown' hb' _
      have Hbw := Lib.hid (Hb.out.trans hb')
      have HW : Hid (OwnsL w' w.heap.size 2 1 i64cells v' (List.replicate (k + 1) (-1))) := by
        rw [Hid, List.replicate_succ']; exact hown'
      clear hown' hb'
      go_wp2
      go_roundg (n - (k + 1))
      case measure => have := Hgk.out; omega
      case rel => exact ⟨k + 1, v', by omega, rfl, by go_num, rfl, Hbw.out, HW.out⟩
    · have hkn : k = n := by omega
      subst hkn
      obtain ⟨G, cap, rfl, hG1, hG2⟩ := Hown.out.block (by intro h; have := congrArg List.length h; simp at this; omega)
      have hown := Hown.out
      simp only [List.length_replicate] at hown ⊢
      have HO := Lib.hid hown
      have df := hown.frozen
      have hcell := hown.cellAt (k := g) (x := -1) (by simp [hg])
      have HG1 := Lib.hid hG1
      clear hown
      go_wp2
      have HOW : Hid (OwnsL (wr.setCell ⟨G, g, none⟩ (.int .i64 0)) w.heap.size 2 1 i64cells (.slice (some ⟨G, 0, none⟩) k cap) (farN (edges xs) k g 0)) := HO.out.setAt 0
      have HBW : Hid (Below w.heap.size w (wr.setCell ⟨G, g, none⟩ (.int .i64 0))) := Hb.out.setCell HG1.out _
      clear df hcell
      go_loopg [9, 10, 11, 12] k (fun gr i1 _ _ _ wx => ∃ r : Nat, r ≤ k ∧ gr = k - r ∧ i1 = .int .i64 r ∧ Below w.heap.size w wx ∧ OwnsL wx w.heap.size 2 1 i64cells (.slice (some ⟨G, 0, none⟩) k cap) (farN (edges xs) k g r))
      case atStart => exact ⟨0, Nat.zero_le _, rfl, rfl, HBW.out, HOW.out⟩
      case round =>
        obtain ⟨r, hr, hgr, rfl, hb1, ho1⟩ := hrel
        have Hgr := Lib.hid hgr
        have Hb1 := Lib.hid hb1
        have Ho1 := Lib.hid ho1
        clear hgr hb1 ho1
        by_cases hrk : r < k
        · go_wp2
          go_loopg [10, 11, 12] nl (fun gi i2 _ _ wx => ∃ i : Nat, i ≤ nl ∧ gi = nl - i ∧ i2 = .int .i64 i ∧ Below w.heap.size w wx ∧ OwnsL wx w.heap.size 2 1 i64cells (.slice (some ⟨G, 0, none⟩) k cap) ((edges (xs.take i)).foldl relax (farN (edges xs) k g r)))
          case atStart => exact ⟨0, Nat.zero_le _, rfl, rfl, Hb1.out, by simpa [edges] using Ho1.out⟩
          case round =>
            obtain ⟨i, hi, hgi, rfl, hb2, ho2⟩ := hrel
            have Hgi := Lib.hid hgi
            have H2 := Lib.hid hb2
            clear hgi
            by_cases hin : i < nl
            · obtain ⟨b1, o1, x, hA, hbb, hxi, x0, x1, x2, x3⟩ := Leg.at_ HX.out hin
              subst hA
              have hf := legs_fit HV.out x (List.mem_of_getElem? hxi)
              obtain ⟨a, ha⟩ : ∃ a : Nat, x.from_ = a := ⟨x.from_.toNat, by have := hf.f0; omega⟩
              obtain ⟨b, hbx⟩ : ∃ b : Nat, x.to_ = b := ⟨x.to_.toNat, by have := hf.f0; have := hf.ft; omega⟩
              obtain ⟨m, hm⟩ : ∃ m, x.minutes = m := ⟨_, rfl⟩
              have hET := edges_take hxi (farN (edges xs) k g r)
              have hfit : a < k ∧ b < k ∧ 1 ≤ m ∧ m ≤ 600 := by have := hf.f0; have := hf.ft; have := hf.t1; have := hf.m1; have := hf.m2; omega
              rw [ha, hbx, hm, Int.toNat_natCast, Int.toNat_natCast] at hET
              rw [ha] at x0
              rw [hbx] at x1
              rw [hm] at x2
              obtain ⟨f, hfe⟩ : ∃ f, (edges (xs.take i)).foldl relax (farN (edges xs) k g r) = f := ⟨_, rfl⟩
              have hmid := mid_ok (k := i) HV.out hg (show r ≤ 13 by omega)
              rw [hfe] at ho2 hET hmid
              have HO2 := Lib.hid ho2
              have HET := Lib.hid hET
              have HFL1 := Lib.hid hmid.1
              have HFB1 : Hid (∀ p, -1 ≤ val f p ∧ val f p ≤ 404000) := fun p => by have := hmid.2 p; omega
              have HM6 : Hid (m ≤ 600) := hfit.2.2.2
              have X0 := Lib.hid x0
              have X1 := Lib.hid x1
              have X2 := Lib.hid x2
              have HBB := Lib.hid hbb
              have ⟨_, _, _, _⟩ := hfit
              have hnc : nl ≤ 24 := hnl
              clear hb2 ho2 hET hmid x0 x1 x2 x3 hf ha hbx hm hfe hxi hbb hfit
              have hlt1 := Nat.lt_of_lt_of_le HBB.out H2.out.size
              have x0 := (H2.out.cell (p := ⟨b1, o1 + i * 4, none⟩) HBB.out).trans X0.out
              have x1 := (H2.out.cell (p := ⟨b1, o1 + i * 4 + 1, none⟩) HBB.out).trans X1.out
              go_wp2_with fail
              clear hlt1 x0 x1
              obtain ⟨va, hva⟩ : ∃ z, val f a = z := ⟨_, rfl⟩
              obtain ⟨vb, hvb⟩ : ∃ z, val f b = z := ⟨_, rfl⟩
              have hab := HFB1.out a
              have hbb := HFB1.out b
              rw [hva] at hab
              rw [hvb] at hbb
              have HVA : Hid (f[a]? = some va) := by rw [Hid, ← hva]; exact val_get (by rw [HFL1.out]; omega)
              have HVB : Hid (f[b]? = some vb) := by rw [Hid, ← hvb]; exact val_get (by rw [HFL1.out]; omega)
              have hs : IntKind.i64.wrap (va + m) = va + m := IntWalk.i64_in _ (by omega)
              have HF4 := Lib.hid (relax4 (m := m) hva hvb)
              clear hva hvb
              rcases HF4.out with ⟨c1, he⟩ | ⟨c1, c2, he⟩ | ⟨c1, c2, c3, he⟩ | ⟨c1, c2, c3, he⟩
              have HE := Lib.hid he
              clear he
              have hlt1 := Nat.lt_of_lt_of_le HBB.out H2.out.size
              have x0 := (H2.out.cell (p := ⟨b1, o1 + i * 4, none⟩) HBB.out).trans X0.out
              have x1 := (H2.out.cell (p := ⟨b1, o1 + i * 4 + 1, none⟩) HBB.out).trans X1.out
              have x2 := (H2.out.cell (p := ⟨b1, o1 + i * 4 + 2, none⟩) HBB.out).trans X2.out
              have ca := HO2.out.cellAt HVA.out
              have cb := HO2.out.cellAt HVB.out
              have df := HO2.out.frozen
              have hlt := (HO2.out.lt G rfl).2
              have hsub := fun (g : Sub wr) b o (h : b < wr.heap.size) => g.cell b o h
              go_wp2_with fail
              refine wp_region_sub (by kernel_rfl) (by kernel_rfl) ?_
              repeat (go_big_quiet_step (fail))
              refine wpQuiet_nil ?_
              intro wg hg
              have HBa1 := Lib.hid (H2.out.trans (hg.mono H2.out.size))
              have HOa1 := Lib.hid (HO2.out.below' hg)
              clear hlt1 x0 x1 x2 ca cb df hlt hsub hg
              try go_wp2_with fail
              obtain ⟨ww1, hww⟩ : ∃ ww, wg = ww := ⟨_, rfl⟩
              have HB1 : Hid (Below w.heap.size w ww1) := by rw [Hid, ← hww]; exact HBa1.out
              have HO1 : Hid (OwnsL ww1 w.heap.size 2 1 i64cells (.slice (some ⟨G, 0, none⟩) k cap) (relax f (a, b, m))) := by rw [Hid, HE.out, ← hww]; exact HOa1.out
              rw [hww]
              clear hww
              clear c1 hs hab hbb HVA HVB HF4 HE
              rotate_left
              have HE := Lib.hid he
              clear he
              have hlt1 := Nat.lt_of_lt_of_le HBB.out H2.out.size
              have x0 := (H2.out.cell (p := ⟨b1, o1 + i * 4, none⟩) HBB.out).trans X0.out
              have x1 := (H2.out.cell (p := ⟨b1, o1 + i * 4 + 1, none⟩) HBB.out).trans X1.out
              have x2 := (H2.out.cell (p := ⟨b1, o1 + i * 4 + 2, none⟩) HBB.out).trans X2.out
              have ca := HO2.out.cellAt HVA.out
              have cb := HO2.out.cellAt HVB.out
              have df := HO2.out.frozen
              have hlt := (HO2.out.lt G rfl).2
              have hsub := fun (g : Sub wr) b o (h : b < wr.heap.size) => g.cell b o h
              go_wp2_with fail
              refine wp_region_sub (by kernel_rfl) (by kernel_rfl) ?_
              repeat (go_big_quiet_step (fail))
              refine wpQuiet_nil ?_
              intro wg hg
              have HBa1 := Lib.hid (H2.out.trans (hg.mono H2.out.size))
              have HOa1 := Lib.hid (HO2.out.below' hg)
              clear hlt1 x0 x1 x2 ca cb df hlt hsub hg
              have hlt1 := Nat.lt_of_lt_of_le HBB.out HBa1.out.size
              have x0 := (HBa1.out.cell (p := ⟨b1, o1 + i * 4, none⟩) HBB.out).trans X0.out
              have x1 := (HBa1.out.cell (p := ⟨b1, o1 + i * 4 + 1, none⟩) HBB.out).trans X1.out
              have x2 := (HBa1.out.cell (p := ⟨b1, o1 + i * 4 + 2, none⟩) HBB.out).trans X2.out
              have ca := HOa1.out.cellAt HVA.out
              have cb := HOa1.out.cellAt HVB.out
              have df := HOa1.out.frozen
              have hlt := (HOa1.out.lt G rfl).2
              have hsub := fun (g : Sub wg) b o (h : b < wg.heap.size) => g.cell b o h
              go_wp2_with fail
              refine wp_region_sub_tail 13 (by kernel_rfl) (by kernel_rfl) ?_
              simp only [List.take_succ_cons, List.take_zero, List.drop_succ_cons, List.drop_zero]
              repeat (go_big_quiet_step (fail))
              refine wpQuiet_nil ?_
              intro wg hg
              have HBb1 := Lib.hid (HBa1.out.trans (hg.mono HBa1.out.size))
              have HOb1 := Lib.hid (HOa1.out.below' hg)
              clear hlt1 x0 x1 x2 ca cb df hlt hsub hg
              have cb := HOb1.out.cellAt HVB.out
              have df := HOb1.out.frozen
              have hlt := (HOb1.out.lt G rfl).2
              go_wp2_with fail
              obtain ⟨ww1, hww⟩ : ∃ ww, wg.setCell ⟨G, b, none⟩ (.int .i64 (va + m)) = ww := ⟨_, rfl⟩
              have HB1 : Hid (Below w.heap.size w ww1) := by rw [Hid, ← hww]; exact HBb1.out.setCell HG1.out _
              have HO1 : Hid (OwnsL ww1 w.heap.size 2 1 i64cells (.slice (some ⟨G, 0, none⟩) k cap) (relax f (a, b, m))) := by rw [Hid, HE.out, ← hww]; exact HOb1.out.setAt _
              rw [hww]
              clear hww cb df hlt
              clear c1 c2 hs hab hbb HVA HVB HF4 HE
              rotate_left
              have HE := Lib.hid he
              clear he
              have hlt1 := Nat.lt_of_lt_of_le HBB.out H2.out.size
              have x0 := (H2.out.cell (p := ⟨b1, o1 + i * 4, none⟩) HBB.out).trans X0.out
              have x1 := (H2.out.cell (p := ⟨b1, o1 + i * 4 + 1, none⟩) HBB.out).trans X1.out
              have x2 := (H2.out.cell (p := ⟨b1, o1 + i * 4 + 2, none⟩) HBB.out).trans X2.out
              have ca := HO2.out.cellAt HVA.out
              have cb := HO2.out.cellAt HVB.out
              have df := HO2.out.frozen
              have hlt := (HO2.out.lt G rfl).2
              have hsub := fun (g : Sub wr) b o (h : b < wr.heap.size) => g.cell b o h
              go_wp2_with fail
              refine wp_region_sub (by kernel_rfl) (by kernel_rfl) ?_
              repeat (go_big_quiet_step (fail))
              refine wpQuiet_nil ?_
              intro wg hg
              have HBa1 := Lib.hid (H2.out.trans (hg.mono H2.out.size))
              have HOa1 := Lib.hid (HO2.out.below' hg)
              clear hlt1 x0 x1 x2 ca cb df hlt hsub hg
              have hlt1 := Nat.lt_of_lt_of_le HBB.out HBa1.out.size
              have x0 := (HBa1.out.cell (p := ⟨b1, o1 + i * 4, none⟩) HBB.out).trans X0.out
              have x1 := (HBa1.out.cell (p := ⟨b1, o1 + i * 4 + 1, none⟩) HBB.out).trans X1.out
              have x2 := (HBa1.out.cell (p := ⟨b1, o1 + i * 4 + 2, none⟩) HBB.out).trans X2.out
              have ca := HOa1.out.cellAt HVA.out
              have cb := HOa1.out.cellAt HVB.out
              have df := HOa1.out.frozen
              have hlt := (HOa1.out.lt G rfl).2
              have hsub := fun (g : Sub wg) b o (h : b < wg.heap.size) => g.cell b o h
              go_wp2_with fail
              refine wp_region_sub_tail 13 (by kernel_rfl) (by kernel_rfl) ?_
              simp only [List.take_succ_cons, List.take_zero, List.drop_succ_cons, List.drop_zero]
              repeat (go_big_quiet_step (fail))
              refine wpQuiet_nil ?_
              intro wg hg
              have HBb1 := Lib.hid (HBa1.out.trans (hg.mono HBa1.out.size))
              have HOb1 := Lib.hid (HOa1.out.below' hg)
              clear hlt1 x0 x1 x2 ca cb df hlt hsub hg
              have cb := HOb1.out.cellAt HVB.out
              have df := HOb1.out.frozen
              have hlt := (HOb1.out.lt G rfl).2
              go_wp2_with fail
              obtain ⟨ww1, hww⟩ : ∃ ww, wg.setCell ⟨G, b, none⟩ (.int .i64 (va + m)) = ww := ⟨_, rfl⟩
              have HB1 : Hid (Below w.heap.size w ww1) := by rw [Hid, ← hww]; exact HBb1.out.setCell HG1.out _
              have HO1 : Hid (OwnsL ww1 w.heap.size 2 1 i64cells (.slice (some ⟨G, 0, none⟩) k cap) (relax f (a, b, m))) := by rw [Hid, HE.out, ← hww]; exact HOb1.out.setAt _
              rw [hww]
              clear hww cb df hlt
              clear c1 c2 c3 hs hab hbb HVA HVB HF4 HE
              rotate_left
              have HE := Lib.hid he
              clear he
              have hlt1 := Nat.lt_of_lt_of_le HBB.out H2.out.size
              have x0 := (H2.out.cell (p := ⟨b1, o1 + i * 4, none⟩) HBB.out).trans X0.out
              have x1 := (H2.out.cell (p := ⟨b1, o1 + i * 4 + 1, none⟩) HBB.out).trans X1.out
              have x2 := (H2.out.cell (p := ⟨b1, o1 + i * 4 + 2, none⟩) HBB.out).trans X2.out
              have ca := HO2.out.cellAt HVA.out
              have cb := HO2.out.cellAt HVB.out
              have df := HO2.out.frozen
              have hlt := (HO2.out.lt G rfl).2
              have hsub := fun (g : Sub wr) b o (h : b < wr.heap.size) => g.cell b o h
              go_wp2_with fail
              refine wp_region_sub (by kernel_rfl) (by kernel_rfl) ?_
              repeat (go_big_quiet_step (fail))
              refine wpQuiet_nil ?_
              intro wg hg
              have HBa1 := Lib.hid (H2.out.trans (hg.mono H2.out.size))
              have HOa1 := Lib.hid (HO2.out.below' hg)
              clear hlt1 x0 x1 x2 ca cb df hlt hsub hg
              try go_wp2_with fail
              obtain ⟨ww1, hww⟩ : ∃ ww, wg = ww := ⟨_, rfl⟩
              have HB1 : Hid (Below w.heap.size w ww1) := by rw [Hid, ← hww]; exact HBa1.out
              have HO1 : Hid (OwnsL ww1 w.heap.size 2 1 i64cells (.slice (some ⟨G, 0, none⟩) k cap) (relax f (a, b, m))) := by rw [Hid, HE.out, ← hww]; exact HOa1.out
              rw [hww]
              clear hww
              clear c1 c2 c3 hs hab hbb HVA HVB HF4 HE
              rotate_left
              all_goals
                obtain ⟨f1, hf1⟩ : ∃ f1, relax f (a, b, m) = f1 := ⟨_, rfl⟩
                have HF1 := Lib.hid hf1
                have hbd1 := relax_in (e := (a, b, m)) HFL1.out (show b < k by omega) (show 0 ≤ m by omega) HM6.out HFB1.out
                rw [hf1] at hbd1 HO1
                have HFL2 := Lib.hid hbd1.1
                have HFB2 := Lib.hid hbd1.2
                clear hbd1 hf1
                obtain ⟨va, hva⟩ : ∃ z, val f1 b = z := ⟨_, rfl⟩
                obtain ⟨vb, hvb⟩ : ∃ z, val f1 a = z := ⟨_, rfl⟩
                have hab := HFB2.out b
                have hbb := HFB2.out a
                rw [hva] at hab
                rw [hvb] at hbb
                have HVA : Hid (f1[b]? = some va) := by rw [Hid, ← hva]; exact val_get (by rw [HFL2.out]; omega)
                have HVB : Hid (f1[a]? = some vb) := by rw [Hid, ← hvb]; exact val_get (by rw [HFL2.out]; omega)
                have hs : IntKind.i64.wrap (va + m) = va + m := IntWalk.i64_in _ (by omega)
                have HF4 := Lib.hid (relax4 (m := m) hva hvb)
                clear hva hvb
                rcases HF4.out with ⟨c1, he⟩ | ⟨c1, c2, he⟩ | ⟨c1, c2, c3, he⟩ | ⟨c1, c2, c3, he⟩
                have HE := Lib.hid he
                clear he
                have hlt1 := Nat.lt_of_lt_of_le HBB.out HB1.out.size
                have x0 := (HB1.out.cell (p := ⟨b1, o1 + i * 4, none⟩) HBB.out).trans X0.out
                have x1 := (HB1.out.cell (p := ⟨b1, o1 + i * 4 + 1, none⟩) HBB.out).trans X1.out
                have x2 := (HB1.out.cell (p := ⟨b1, o1 + i * 4 + 2, none⟩) HBB.out).trans X2.out
                have ca := HO1.out.cellAt HVA.out
                have cb := HO1.out.cellAt HVB.out
                have df := HO1.out.frozen
                have hlt := (HO1.out.lt G rfl).2
                have hsub := fun (g : Sub ww1) b o (h : b < ww1.heap.size) => g.cell b o h
                go_wp2_with fail
                refine wp_region_sub (by kernel_rfl) (by kernel_rfl) ?_
                repeat (go_big_quiet_step (fail))
                refine wpQuiet_nil ?_
                intro wg hg
                have HBa2 := Lib.hid (HB1.out.trans (hg.mono HB1.out.size))
                have HOa2 := Lib.hid (HO1.out.below' hg)
                clear hlt1 x0 x1 x2 ca cb df hlt hsub hg
                try go_wp2_with fail
                obtain ⟨ww2, hww⟩ : ∃ ww, wg = ww := ⟨_, rfl⟩
                have HB2 : Hid (Below w.heap.size w ww2) := by rw [Hid, ← hww]; exact HBa2.out
                have HO2 : Hid (OwnsL ww2 w.heap.size 2 1 i64cells (.slice (some ⟨G, 0, none⟩) k cap) (relax f1 (b, a, m))) := by rw [Hid, HE.out, ← hww]; exact HOa2.out
                rw [hww]
                clear hww
                clear c1 hs hab hbb HVA HVB HF4 HE
                rotate_left
                have HE := Lib.hid he
                clear he
                have hlt1 := Nat.lt_of_lt_of_le HBB.out HB1.out.size
                have x0 := (HB1.out.cell (p := ⟨b1, o1 + i * 4, none⟩) HBB.out).trans X0.out
                have x1 := (HB1.out.cell (p := ⟨b1, o1 + i * 4 + 1, none⟩) HBB.out).trans X1.out
                have x2 := (HB1.out.cell (p := ⟨b1, o1 + i * 4 + 2, none⟩) HBB.out).trans X2.out
                have ca := HO1.out.cellAt HVA.out
                have cb := HO1.out.cellAt HVB.out
                have df := HO1.out.frozen
                have hlt := (HO1.out.lt G rfl).2
                have hsub := fun (g : Sub ww1) b o (h : b < ww1.heap.size) => g.cell b o h
                go_wp2_with fail
                refine wp_region_sub (by kernel_rfl) (by kernel_rfl) ?_
                repeat (go_big_quiet_step (fail))
                refine wpQuiet_nil ?_
                intro wg hg
                have HBa2 := Lib.hid (HB1.out.trans (hg.mono HB1.out.size))
                have HOa2 := Lib.hid (HO1.out.below' hg)
                clear hlt1 x0 x1 x2 ca cb df hlt hsub hg
                have hlt1 := Nat.lt_of_lt_of_le HBB.out HBa2.out.size
                have x0 := (HBa2.out.cell (p := ⟨b1, o1 + i * 4, none⟩) HBB.out).trans X0.out
                have x1 := (HBa2.out.cell (p := ⟨b1, o1 + i * 4 + 1, none⟩) HBB.out).trans X1.out
                have x2 := (HBa2.out.cell (p := ⟨b1, o1 + i * 4 + 2, none⟩) HBB.out).trans X2.out
                have ca := HOa2.out.cellAt HVA.out
                have cb := HOa2.out.cellAt HVB.out
                have df := HOa2.out.frozen
                have hlt := (HOa2.out.lt G rfl).2
                have hsub := fun (g : Sub wg) b o (h : b < wg.heap.size) => g.cell b o h
                go_wp2_with fail
                refine wp_region_sub_tail 13 (by kernel_rfl) (by kernel_rfl) ?_
                simp only [List.take_succ_cons, List.take_zero, List.drop_succ_cons, List.drop_zero]
                repeat (go_big_quiet_step (fail))
                refine wpQuiet_nil ?_
                intro wg hg
                have HBb2 := Lib.hid (HBa2.out.trans (hg.mono HBa2.out.size))
                have HOb2 := Lib.hid (HOa2.out.below' hg)
                clear hlt1 x0 x1 x2 ca cb df hlt hsub hg
                have cb := HOb2.out.cellAt HVB.out
                have df := HOb2.out.frozen
                have hlt := (HOb2.out.lt G rfl).2
                go_wp2_with fail
                obtain ⟨ww2, hww⟩ : ∃ ww, wg.setCell ⟨G, a, none⟩ (.int .i64 (va + m)) = ww := ⟨_, rfl⟩
                have HB2 : Hid (Below w.heap.size w ww2) := by rw [Hid, ← hww]; exact HBb2.out.setCell HG1.out _
                have HO2 : Hid (OwnsL ww2 w.heap.size 2 1 i64cells (.slice (some ⟨G, 0, none⟩) k cap) (relax f1 (b, a, m))) := by rw [Hid, HE.out, ← hww]; exact HOb2.out.setAt _
                rw [hww]
                clear hww cb df hlt
                clear c1 c2 hs hab hbb HVA HVB HF4 HE
                rotate_left
                have HE := Lib.hid he
                clear he
                have hlt1 := Nat.lt_of_lt_of_le HBB.out HB1.out.size
                have x0 := (HB1.out.cell (p := ⟨b1, o1 + i * 4, none⟩) HBB.out).trans X0.out
                have x1 := (HB1.out.cell (p := ⟨b1, o1 + i * 4 + 1, none⟩) HBB.out).trans X1.out
                have x2 := (HB1.out.cell (p := ⟨b1, o1 + i * 4 + 2, none⟩) HBB.out).trans X2.out
                have ca := HO1.out.cellAt HVA.out
                have cb := HO1.out.cellAt HVB.out
                have df := HO1.out.frozen
                have hlt := (HO1.out.lt G rfl).2
                have hsub := fun (g : Sub ww1) b o (h : b < ww1.heap.size) => g.cell b o h
                go_wp2_with fail
                refine wp_region_sub (by kernel_rfl) (by kernel_rfl) ?_
                repeat (go_big_quiet_step (fail))
                refine wpQuiet_nil ?_
                intro wg hg
                have HBa2 := Lib.hid (HB1.out.trans (hg.mono HB1.out.size))
                have HOa2 := Lib.hid (HO1.out.below' hg)
                clear hlt1 x0 x1 x2 ca cb df hlt hsub hg
                have hlt1 := Nat.lt_of_lt_of_le HBB.out HBa2.out.size
                have x0 := (HBa2.out.cell (p := ⟨b1, o1 + i * 4, none⟩) HBB.out).trans X0.out
                have x1 := (HBa2.out.cell (p := ⟨b1, o1 + i * 4 + 1, none⟩) HBB.out).trans X1.out
                have x2 := (HBa2.out.cell (p := ⟨b1, o1 + i * 4 + 2, none⟩) HBB.out).trans X2.out
                have ca := HOa2.out.cellAt HVA.out
                have cb := HOa2.out.cellAt HVB.out
                have df := HOa2.out.frozen
                have hlt := (HOa2.out.lt G rfl).2
                have hsub := fun (g : Sub wg) b o (h : b < wg.heap.size) => g.cell b o h
                go_wp2_with fail
                refine wp_region_sub_tail 13 (by kernel_rfl) (by kernel_rfl) ?_
                simp only [List.take_succ_cons, List.take_zero, List.drop_succ_cons, List.drop_zero]
                repeat (go_big_quiet_step (fail))
                refine wpQuiet_nil ?_
                intro wg hg
                have HBb2 := Lib.hid (HBa2.out.trans (hg.mono HBa2.out.size))
                have HOb2 := Lib.hid (HOa2.out.below' hg)
                clear hlt1 x0 x1 x2 ca cb df hlt hsub hg
                have cb := HOb2.out.cellAt HVB.out
                have df := HOb2.out.frozen
                have hlt := (HOb2.out.lt G rfl).2
                go_wp2_with fail
                obtain ⟨ww2, hww⟩ : ∃ ww, wg.setCell ⟨G, a, none⟩ (.int .i64 (va + m)) = ww := ⟨_, rfl⟩
                have HB2 : Hid (Below w.heap.size w ww2) := by rw [Hid, ← hww]; exact HBb2.out.setCell HG1.out _
                have HO2 : Hid (OwnsL ww2 w.heap.size 2 1 i64cells (.slice (some ⟨G, 0, none⟩) k cap) (relax f1 (b, a, m))) := by rw [Hid, HE.out, ← hww]; exact HOb2.out.setAt _
                rw [hww]
                clear hww cb df hlt
                clear c1 c2 c3 hs hab hbb HVA HVB HF4 HE
                rotate_left
                have HE := Lib.hid he
                clear he
                have hlt1 := Nat.lt_of_lt_of_le HBB.out HB1.out.size
                have x0 := (HB1.out.cell (p := ⟨b1, o1 + i * 4, none⟩) HBB.out).trans X0.out
                have x1 := (HB1.out.cell (p := ⟨b1, o1 + i * 4 + 1, none⟩) HBB.out).trans X1.out
                have x2 := (HB1.out.cell (p := ⟨b1, o1 + i * 4 + 2, none⟩) HBB.out).trans X2.out
                have ca := HO1.out.cellAt HVA.out
                have cb := HO1.out.cellAt HVB.out
                have df := HO1.out.frozen
                have hlt := (HO1.out.lt G rfl).2
                have hsub := fun (g : Sub ww1) b o (h : b < ww1.heap.size) => g.cell b o h
                go_wp2_with fail
                refine wp_region_sub (by kernel_rfl) (by kernel_rfl) ?_
                repeat (go_big_quiet_step (fail))
                refine wpQuiet_nil ?_
                intro wg hg
                have HBa2 := Lib.hid (HB1.out.trans (hg.mono HB1.out.size))
                have HOa2 := Lib.hid (HO1.out.below' hg)
                clear hlt1 x0 x1 x2 ca cb df hlt hsub hg
                try go_wp2_with fail
                obtain ⟨ww2, hww⟩ : ∃ ww, wg = ww := ⟨_, rfl⟩
                have HB2 : Hid (Below w.heap.size w ww2) := by rw [Hid, ← hww]; exact HBa2.out
                have HO2 : Hid (OwnsL ww2 w.heap.size 2 1 i64cells (.slice (some ⟨G, 0, none⟩) k cap) (relax f1 (b, a, m))) := by rw [Hid, HE.out, ← hww]; exact HOa2.out
                rw [hww]
                clear hww
                clear c1 c2 c3 hs hab hbb HVA HVB HF4 HE
                rotate_left
                all_goals
                  have HFF : Hid (OwnsL ww2 w.heap.size 2 1 i64cells (.slice (some ⟨G, 0, none⟩) k cap) ((edges (xs.take (i + 1))).foldl relax (farN (edges xs) k g r))) := by rw [Hid, HET.out, HF1.out]; exact HO2.out
                  try go_wp2
                  go_roundg (nl - (i + 1))
                  case measure => have := Hgi.out; omega
                  case rel => exact ⟨i + 1, by omega, rfl, by go_num, HB2.out, HFF.out⟩
            · have hii : i = nl := by omega
              have HFF : Hid (OwnsL wr w.heap.size 2 1 i64cells (.slice (some ⟨G, 0, none⟩) k cap) (farN (edges xs) k g (r + 1))) := by
                rw [List.take_of_length_le (by rw [HL.out]; omega)] at ho2
                exact ho2
              clear hb2 ho2
              go_wp2
              go_roundg (k - (r + 1))
              case measure => have := Hgr.out; omega
              case rel => exact ⟨r + 1, by omega, rfl, by go_num, H2.out, HFF.out⟩
        · have hrr : r = k := by omega
          subst hrr
          go_wp2
          go_ret
          exact RetP.mk Ho1.out Hb1.out

end Go.Proofs.YtamgodeiakflbaaDoor
