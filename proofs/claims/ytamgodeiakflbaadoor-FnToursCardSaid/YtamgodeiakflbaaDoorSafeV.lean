/- The program's search for the safest route: visit. -/
import Derived.Test.YtamgodeiakflbaaDoorSafeT
namespace Go.Proofs.YtamgodeiakflbaaDoor
open Go.RowKit

def tourC (n g : Nat) (A : Option Addr) (nl c : Nat) (vr vb : Value) (st : St) : Array Value := #[.int .i64 n, .slice A nl c, .int .i64 g, .int .i64 st.bud, vr, vb, .int .i64 st.least]
theorem tour_cells {n g : Nat} {A : Option Addr} {nl c : Nat} {T : TypeId} {w0 w : World} {bs : Nat} {rt : List Int} {st : St} {vr vb : Value} (h : TourAt (tourC n g A nl c) T w0 bs rt st vr vb w) :
    w.cell? ⟨bs, 0, none⟩ = some (.int .i64 n) ∧ w.cell? ⟨bs, 1, none⟩ = some (.slice A nl c) ∧ w.cell? ⟨bs, 2, none⟩ = some (.int .i64 g) ∧ w.cell? ⟨bs, 3, none⟩ = some (.int .i64 st.bud) ∧ w.cell? ⟨bs, 4, none⟩ = some vr ∧ w.cell? ⟨bs, 5, none⟩ = some vb ∧ w.cell? ⟨bs, 6, none⟩ = some (.int .i64 st.least) ∧ (∀ i, w.frozen? ⟨bs, i, none⟩ = false) ∧ bs < w.heap.size :=
  ⟨h.box.cell 0, h.box.cell 1, h.box.cell 2, h.box.cell 3, h.box.cell 4, h.box.cell 5, h.box.cell 6, h.box.frozen, h.box.lt⟩
set_option maxRecDepth 100000 in
set_option maxHeartbeats 1000000 in
theorem visit_any (n g : Nat) (A : Option Addr) (nl c : Nat) (xs : List Leg) (w0 : World) (bs : Nat) (hx : SliceOf w0 4 Leg.cells A nl xs) (hv : legsOk (n : Int) xs = true) (hn : n ≤ 12) :
    ∀ (f : Nat) (rt : List Int) (left expo : Int) (st : St) (vr vb : Value) (w : World), TourAt (tourC n g A nl c) 56 w0 bs rt st vr vb w → RtOk n f rt left expo → 0 ≤ st.bud → st.bud ≤ 20000 →
    Calls Tryd.prog 29 #[.pointer (some ⟨bs, 0, none⟩), .int .i64 left, .int .i64 expo] w (fun e w' => e = .returned (.tuple #[]) ∧ ∃ vr' vb', TourAt (tourC n g A nl c) 56 w0 bs rt (goS xs n g f rt left expo st) vr' vb' w') := by
  have HX := Lib.hid hx
  have HV := Lib.hid hv
  clear hx hv
  intro f
  induction f with
  | zero => intro rt left expo st vr vb w _ hok; exact absurd hok.fuel (by omega)
  | succ f ih =>
    intro rt left expo st vr vb w hT hok h0 h1
    have HIH := Lib.hid ih
    have HOK := Lib.hid hok
    have hlen1 := hok.ne
    have hlen2 := hok.len
    obtain ⟨r, hr⟩ : ∃ r, rt.length = r + 1 := ⟨rt.length - 1, by omega⟩
    obtain ⟨G, cap, rfl, hG1, hG2⟩ := hT.route.block (by intro h; rw [h] at hr; cases hr)
    have hcap : r + 1 ≤ cap := by
      obtain ⟨A', c', e, hc', _, _⟩ := hT.route.slice i64cells_len
      injection e with _ _ e3
      rw [hr] at hc'; omega
    simp only [hr] at hT
    have HR := Lib.hid hr
    have hr12 : r ≤ 12 := by omega
    have HT := Lib.hid hT
    have hl0 := hok.l0
    have hl1 := hok.l1
    have he0 := hok.e0
    have he1 : expo ≤ 13000 := by have := hok.e1; omega
    obtain ⟨a, ha, han, _⟩ := hok.last
    have HA := Lib.hid ha
    obtain ⟨y0, y1, y2, y3, y4, y5, y6, dd, lb⟩ := tour_cells hT
    clear ih hok hT ha hr hlen1 hlen2
    by_cases hb : st.bud - 1 < 0
    · go_enter Tryd.func29, Tryd.ntmps29
      go_wp2
      refine bodyPost_ret (results_none rfl _ _ _) rfl ?_
      exact ⟨rfl, _, _, by rw [goS_out hb]; exact HT.out.num 3 _ rfl rfl⟩
    obtain ⟨s1, hs1⟩ : ∃ s1 : St, { st with bud := st.bud - 1 } = s1 := ⟨_, rfl⟩
    have HS1 := Lib.hid hs1
    have HB := Lib.hid hb
    have hd : decide (st.bud - 1 < 0) = false := decide_eq_false hb
    go_enter Tryd.func29, Tryd.ntmps29
    go_wp2_with fail
    obtain ⟨w1, hw1⟩ : ∃ w1, w.setCell ⟨bs, 3, none⟩ (.int .i64 (st.bud - 1)) = w1 := ⟨_, rfl⟩
    have HT1 : Hid (TourAt (tourC n g A nl c) 56 w0 bs rt s1 (.slice (some ⟨G, 0, none⟩) (r + 1) cap) vb w1) := by rw [Hid, ← hw1, ← hs1]; exact HT.out.num 3 _ rfl rfl
    rw [hw1]
    clear hw1 hs1 y0 y1 y2 y3 y4 y5 y6 dd lb hd hb HT
    obtain ⟨y0, y1, y2, y3, y4, y5, y6, dd, lb⟩ := tour_cells HT1.out
    have yl := HT1.out.route.cellAt (last_get HR.out)
    have ylt := (HT1.out.route.lt G rfl).2
    rw [HA.out] at yl
    have e1 : IntKind.i64.wrap ((r : Int) + 1 - 1) = (r : Int) := by rw [Int.add_sub_cancel]; exact IntWalk.i64_in _ (by omega)
    have e1b : IntKind.i64.wrap (r : Int) = (r : Int) := IntWalk.i64_in _ (by omega)
    have e2 : (0 : Int) ≤ (r : Int) := by omega
    have hsub := fun (g : Sub w1) b o (h : b < w1.heap.size) => g.cell b o h
    go_wp2_with fail
    refine wp_region_sub (by kernel_rfl) (by kernel_rfl) ?_
    repeat (go_big_quiet_step (fail))
    refine wpQuiet_nil ?_
    intro wg hg
    have HT2 := Lib.hid (HT1.out.grow hg)
    clear y0 y1 y2 y3 y4 y5 y6 dd lb yl ylt e1 e1b e2 hsub hg HT1
    obtain ⟨y0, y1, y2, y3, y4, y5, y6, dd, lb⟩ := tour_cells HT2.out
    by_cases hag : a = g
    · subst hag
      have hq : ((a : Int) == (a : Int)) = true := by simp
      have HL1 : Hid (s1.least = st.least) := by rw [Hid, ← HS1.out]
      by_cases hl : st.least < 0 ∨ expo < st.least
      · have HG : Hid (goS xs n a (f + 1) rt left expo st = ⟨st.bud - 1, rt, expo⟩) := goS_goal (by have := HB.out; omega) HA.out hl
        have HB1 : Hid (s1.bud = st.bud - 1) := by rw [Hid, ← HS1.out]
        rw [← HL1.out] at hl
        have hl2 : decide (s1.least < 0) = true ∨ decide (s1.least < 0) = false ∧ decide (expo < s1.least) = true := by
          by_cases h : s1.least < 0
          · exact .inl (decide_eq_true h)
          · exact .inr ⟨decide_eq_false h, decide_eq_true (by omega)⟩
        clear hl
        rcases hl2 with c1 | ⟨c1, c2⟩
        all_goals
          go_wp2_with fail
          (with_reducible refine (cloneI_any G 0 (r + 1) cap rt _ (HT2.out.route.sl i64cells_len) (by omega)).mono ?_)
          rintro e w3 ⟨v3, rfl, ho3, hb3⟩
          obtain ⟨G3, cap3, rfl, _, _⟩ := ho3.block (by intro h; have := HR.out; rw [h] at this; cases this)
          rw [HR.out] at ho3 ⊢
          have HT3 := Lib.hid (HT2.out.grow hb3)
          have HO3 := Lib.hid ho3
          have HSZ := Lib.hid HT2.out.below.size
          have HLT := Lib.hid HT2.out.box.lt
          have HRL := Lib.hid HT2.out.route.lt
          clear y0 y1 y2 y3 y4 y5 y6 dd lb hb3 ho3 c1 HT2
          try clear c2
          obtain ⟨y0, y1, y2, y3, y4, y5, y6, dd, lb⟩ := tour_cells HT3.out
          go_wp2
          refine bodyPost_ret (results_none rfl _ _ _) rfl ?_
          refine ⟨rfl, .slice (some ⟨G, 0, none⟩) (r + 1) cap, .slice (some ⟨G3, 0, none⟩) (r + 1) cap3, ?_⟩
          rw [HG.out]
          refine TourAt.num (st := ⟨st.bud - 1, rt, s1.least⟩) (TourAt.put HT3.out 5 _ ?_ HT3.out.route (HO3.out.rebase HSZ.out) HT3.out.rb (fun k hk => ?_) (fun k hk hv => ?_)) 6 _ ?_ rfl
          · rw [← HB1.out]; rfl
          · have := (HO3.out.lt k hk).1
            have := HLT.out
            omega
          · have h1 := (HO3.out.lt k hv).1
            have h2 := (HRL.out k hk).2
            omega
          · rfl
      · have HG : Hid (goS xs n a (f + 1) rt left expo st = s1) := by rw [Hid, ← HS1.out]; exact goS_worse (by have := HB.out; omega) HA.out hl
        rw [← HL1.out] at hl
        have c1 : decide (s1.least < 0) = false := decide_eq_false (fun h => hl (.inl h))
        have c2 : decide (expo < s1.least) = false := decide_eq_false (fun h => hl (.inr h))
        clear hl
        go_wp2
        refine bodyPost_ret (results_none rfl _ _ _) rfl ?_
        exact ⟨rfl, _, _, by rw [HG.out]; exact HT2.out⟩
    · have hq : ((a : Int) == (g : Int)) = false := by simp; omega
      have HG : Hid (goS xs n g (f + 1) rt left expo st = goK xs n g f rt left expo s1 n) := by
        rw [Hid, ← HS1.out]; exact goS_on (by have := HB.out; omega) (by rw [HA.out]; omega)
      have HB1 : Hid (0 ≤ s1.bud ∧ s1.bud ≤ 20000) := by rw [Hid, ← HS1.out]; have := HB.out; simp only; omega
      go_wp2
      clear hq y0 y1 y2 y3 y4 y5 y6 dd lb
      go_loopg [69] n (fun gk s69 wr => ∃ (k : Nat) (vr vb : Value), k ≤ n ∧ gk = n - k ∧ s69 = .int .i64 k ∧ 0 ≤ (goK xs n g f rt left expo s1 k).bud ∧ TourAt (tourC n g A nl c) 56 w0 bs rt (goK xs n g f rt left expo s1 k) vr vb wr)
      case atStart => exact ⟨0, _, _, Nat.zero_le _, rfl, rfl, by rw [goK_zero]; exact HB1.out.1, by rw [goK_zero]; exact HT2.out⟩
      case round =>
        obtain ⟨k, vr, vb, hk, hgk, rfl, hbk, hT⟩ := hrel
        obtain ⟨sk, hsk⟩ : ∃ sk, goK xs n g f rt left expo s1 k = sk := ⟨_, rfl⟩
        rw [hsk] at hbk hT
        have HSK := Lib.hid hsk
        have Hgk := Lib.hid hgk
        have HBK := Lib.hid hbk
        obtain ⟨G, cap, rfl, hG1, hG2⟩ := hT.route.block (by intro h; have := HR.out; rw [h] at this; cases this)
        rw [HR.out] at hT
        have HT := Lib.hid hT
        clear hsk hgk hbk hT hG1 hG2
        by_cases hkn : k < n
        · obtain ⟨y0, y1, y2, y3, y4, y5, y6, dd, lb⟩ := tour_cells HT.out
          go_wp2_with fail
          (with_reducible refine (legBetween_any (a : Int) (k : Int) _ _ _ xs _ (HX.out.below HT.out.below)).mono ?_)
          rintro e w5 ⟨rfl, hb5⟩
          obtain ⟨l, hl⟩ : ∃ l, legD xs ((a : Int), (k : Int)) = l := ⟨_, rfl⟩
          have HLG : Hid (legOf xs rt k = l) := by rw [Hid, ← hl]; unfold legOf; rw [HA.out]
          have hbd := legD_bounds (p := ((a : Int), (k : Int))) HV.out
          rw [hl] at hbd ⊢
          obtain ⟨hm1, hm2, hx1, hx2⟩ := hbd
          unfold Leg.agg
          have HST : Hid (goK xs n g f rt left expo s1 (k + 1) = if stepOk xs rt left k = true then goS xs n g f (rt ++ [(k : Int)]) (left - l.minutes) (expo + l.exposure) sk else sk) := by
            rw [Hid, goK_succ, HSK.out, if_neg (by have := HBK.out; omega), HLG.out]
          have hcs := stepOk_cases xs rt left k
          rw [HA.out, HLG.out] at hcs
          have HT5 := Lib.hid (HT.out.grow hb5)
          have hnc : SliceOf (w5.alloc (.cells #[.int .i64 l.from_, .int .i64 l.to_, .int .i64 l.minutes, .int .i64 l.exposure] 32)) 1 i64cells (some ⟨G, 0, none⟩) (r + 1) rt := (HT5.out.grow ((Below.refl _ _).alloc (Nat.le_refl _) _)).route.sl i64cells_len
          have HNC := Lib.hid hnc
          clear y0 y1 y2 y3 y4 y5 y6 dd lb hl hb5 HT hnc
          obtain ⟨y0, y1, y2, y3, y4, y5, y6, dd, lb⟩ := tour_cells HT5.out
          rcases hcs with ⟨c1, hs⟩ | ⟨c1, c2, hs⟩ | ⟨c1, c2, c3, hs⟩ | ⟨c1, c2, c3, hs⟩
          · have HF : Hid (goK xs n g f rt left expo s1 (k + 1) = sk) := by rw [Hid, HST.out, hs]; rfl
            clear hs
            rw [c1]
            clear c1
            go_wp2_with fail
            go_roundg (n - (k + 1))
            case measure => have := Hgk.out; omega
            case rel => exact ⟨k + 1, _, _, by omega, rfl, by go_num, by rw [HF.out]; exact HBK.out, by rw [HF.out]; exact HT5.out.grow ((Below.refl _ _).alloc (Nat.le_refl _) _)⟩
          · have HF : Hid (goK xs n g f rt left expo s1 (k + 1) = sk) := by rw [Hid, HST.out, hs]; rfl
            clear hs
            rw [c1]
            clear c1
            go_wp2_with fail
            go_roundg (n - (k + 1))
            case measure => have := Hgk.out; omega
            case rel => exact ⟨k + 1, _, _, by omega, rfl, by go_num, by rw [HF.out]; exact HBK.out, by rw [HF.out]; exact HT5.out.grow ((Below.refl _ _).alloc (Nat.le_refl _) _)⟩
          · have HF : Hid (goK xs n g f rt left expo s1 (k + 1) = sk) := by rw [Hid, HST.out, hs]; rfl
            clear hs
            rw [c1]
            clear c1
            go_wp2_with (go_at_call 46; refine (containsI_any (k : Int) _ _ _ rt _ HNC.out).mono ?_; rintro e w' ⟨rfl, rfl⟩; rw [c3])
            go_roundg (n - (k + 1))
            case measure => have := Hgk.out; omega
            case rel => exact ⟨k + 1, _, _, by omega, rfl, by go_num, by rw [HF.out]; exact HBK.out, by rw [HF.out]; exact HT5.out.grow ((Below.refl _ _).alloc (Nat.le_refl _) _)⟩
          · have HF : Hid (goK xs n g f rt left expo s1 (k + 1) = goS xs n g f (rt ++ [(k : Int)]) (left - l.minutes) (expo + l.exposure) sk) := by rw [Hid, HST.out, hs]; rfl
            have HOKN : Hid (RtOk n f (rt ++ [(k : Int)]) (left - l.minutes) (expo + l.exposure)) := by
              have := HOK.out.next HV.out hkn hs
              rw [HLG.out] at this; exact this
            clear hs
            rw [c1]
            clear c1
            obtain ⟨w6, hw6⟩ : ∃ w6, w5.alloc (.cells #[.int .i64 l.from_, .int .i64 l.to_, .int .i64 l.minutes, .int .i64 l.exposure] 32) = w6 := ⟨_, rfl⟩
            obtain ⟨X, hX⟩ : ∃ X, w5.heap.size = X := ⟨_, rfl⟩
            have hB6 : Below w5.heap.size w5 w6 := by rw [← hw6]; exact (Below.refl _ _).alloc (Nat.le_refl _) _
            have HL6 : Hid (Own w6 X 32 #[.int .i64 l.from_, .int .i64 l.to_, .int .i64 l.minutes, .int .i64 l.exposure]) := by rw [Hid, ← hw6, ← hX]; exact Own.new _ _ _
            have HGX : Hid (G < X) := by rw [Hid, ← hX]; exact (HT5.out.route.lt G rfl).2
            have HBX : Hid (bs < X) := by rw [Hid, ← hX]; exact lb
            have HT6 := Lib.hid (HT5.out.grow hB6)
            rw [hw6] at HNC
            clear y0 y1 y2 y3 y4 y5 y6 dd lb hB6
            obtain ⟨y0, y1, y2, y3, y4, y5, y6, dd, lb⟩ := tour_cells HT6.out
            have l2 := HL6.out.cell 2
            have l3 := HL6.out.cell 3
            have ll := HL6.out.lt
            simp at l2 l3
            go_wp2_with (first | (go_at_call 46; refine (containsI_any (k : Int) _ _ _ rt _ HNC.out).mono ?_; rintro e w' ⟨rfl, rfl⟩; rw [c3]) | (at_builtin; refine wpList_push2 (by rfl) (.tmp 102) (.tmp 104) 28 (by rfl) w0.heap.size 2 1 Tryd.underlying28 infoI64 (by rfl) (by decide) i64cells i64cells_len i64cells_one _ (.slice (some ⟨G, 0, none⟩) (r + 1) cap) rt (k : Int) (by rfl) (by rfl) HT6.out.route (by first | rfl | simp [go_sem]) (by rw [HR.out]; omega) (by decide) HT6.out.below.size ?_))
            intro v' w' hown' hb' hkp hob
            have hrk : (rt ++ [(k : Int)]).length = r + 1 + 1 := by rw [List.length_append, HR.out]; rfl
            have HRK := Lib.hid hrk
            obtain ⟨G7, cap7, rfl, _, _⟩ := hown'.block (by simp)
            rw [hrk] at hown' hob ⊢
            have hap := TourAt.append (i := 4) HT6.out hown' hb' hkp hob rfl
            have HBX7 := Lib.hid hap.1
            have HT7 := Lib.hid hap.2
            have HL7 : Hid (Own w' X 32 #[.int .i64 l.from_, .int .i64 l.to_, .int .i64 l.minutes, .int .i64 l.exposure]) := (hkp X ll (fun e => by have h1 := HGX.out; have h2 : some X = some G := e; injection h2 with h2; omega)).trans HL6.out
            clear y0 y1 y2 y3 y4 y5 y6 dd lb l2 l3 ll hown' hb' hkp hob hap hrk c2 c3 hw6 hX
            have z4 := HBX7.out.cell 4
            have dz := HBX7.out.frozen
            have lz := HBX7.out.lt
            have l2 := HL7.out.cell 2
            have l3 := HL7.out.cell 3
            have ll := HL7.out.lt
            simp [tourC] at z4 l2 l3
            have hbx : bs ≠ X := by have := HBX.out; omega
            go_wp2_with fail
            (with_reducible refine (HIH.out (rt ++ [(k : Int)]) (left - l.minutes) (expo + l.exposure) sk _ vb _ HT7.out HOKN.out HBK.out ?_).mono ?_)
            · have := (goK_bud xs n g 20000 f rt left expo s1 HB1.out.1 HB1.out.2 k).2
              rw [HSK.out] at this
              exact this
            rintro e w8 ⟨rfl, vr8, vb8, hT8⟩
            obtain ⟨s8, hs8⟩ : ∃ z, goS xs n g f (rt ++ [(k : Int)]) (left - l.minutes) (expo + l.exposure) sk = z := ⟨_, rfl⟩
            have HF8 : Hid (goK xs n g f rt left expo s1 (k + 1) = s8) := by rw [Hid, HF.out, hs8]
            rw [hs8] at hT8
            have hbd8 := goK_bud xs n g 20000 f rt left expo s1 HB1.out.1 HB1.out.2 (k + 1)
            rw [HF8.out] at hbd8
            obtain ⟨G8, cap8, rfl, _, _⟩ := hT8.route.block (by simp)
            have hcap8 : r + 1 + 1 ≤ cap8 := by
              obtain ⟨A', c', e, hc', _, _⟩ := hT8.route.slice i64cells_len
              injection e with _ _ e3
              rw [HRK.out] at hc'; omega
            rw [HRK.out] at hT8
            obtain ⟨q, hq⟩ : ∃ q, r + 1 = q := ⟨_, rfl⟩
            have HQ := Lib.hid hq
            rw [hq] at hT8 hcap8
            have HT8 := Lib.hid hT8
            have hq13 : q ≤ 13 := by omega
            clear hs8 hT8 z4 dz lz l2 l3 ll hq
            obtain ⟨y0, y1, y2, y3, y4, y5, y6, dd, lb⟩ := tour_cells HT8.out
            have e1 : IntKind.i64.wrap ((q : Int) + 1 - 1) = (q : Int) := by rw [Int.add_sub_cancel]; exact IntWalk.i64_in _ (by omega)
            have e1b : IntKind.i64.wrap (q : Int) = (q : Int) := IntWalk.i64_in _ (by omega)
            have e2 : (0 : Int) ≤ (q : Int) := by omega
            have e3 : (q : Int) ≤ (cap8 : Int) := by omega
            have hsub := fun (g : Sub w8) b o (h : b < w8.heap.size) => g.cell b o h
            go_wp2_with fail
            refine wp_region_sub_tail 14 (by kernel_rfl) (by kernel_rfl) ?_
            simp only [List.take_succ_cons, List.take_zero, List.drop_succ_cons, List.drop_zero]
            repeat (go_big_quiet_step (fail))
            refine wpQuiet_nil ?_
            intro wg hg
            have HT9 := Lib.hid (HT8.out.grow hg)
            clear y0 y1 y2 y3 y4 y5 y6 dd lb e1 e1b e2 e3 hsub hg HT8
            obtain ⟨y0, y1, y2, y3, y4, y5, y6, dd, lb⟩ := tour_cells HT9.out
            obtain ⟨wz, hwz⟩ : ∃ wz, wg.setCell ⟨bs, 4, none⟩ (.slice (some ⟨G8, 0, none⟩) q cap8) = wz := ⟨_, rfl⟩
            have HTZ : Hid (TourAt (tourC n g A nl c) 56 w0 bs rt s8 (.slice (some ⟨G8, 0, none⟩) q cap8) vb8 wz) := by
              rw [Hid, ← hwz]
              exact HT9.out.put 4 _ rfl HT9.out.route.shrink HT9.out.best HT9.out.rb HT9.out.bb HT9.out.ne
            have u3 := HTZ.out.box.cell 3
            simp [tourC] at u3
            have ul := HTZ.out.box.lt
            by_cases hb8 : s8.bud < 0
            · have HFN : Hid (goS xs n g (f + 1) rt left expo st = s8) := by
                have h := goK_stop (xs := xs) (n := n) (g := g) (f := f) (rt := rt) (left := left) (expo := expo) (st := s1) (k := k + 1) (by rw [HF8.out]; exact hb8) (n - (k + 1))
                rw [show k + 1 + (n - (k + 1)) = n by omega, HF8.out] at h
                rw [Hid, HG.out, h]
              go_wp2
              refine bodyPost_ret (results_none rfl _ _ _) rfl ?_
              exact ⟨rfl, _, _, by rw [HFN.out]; exact HTZ.out⟩
            · have hd8 : decide (s8.bud < 0) = false := decide_eq_false hb8
              go_wp2
              go_roundg (n - (k + 1))
              case measure => have := Hgk.out; omega
              case rel => exact ⟨k + 1, _, _, by omega, rfl, by go_num, by rw [HF8.out]; omega, by rw [HF8.out]; exact HTZ.out⟩
        · have hkk : k = n := by omega
          subst hkk
          go_wp2
          go_end0
          exact ⟨rfl, _, _, by rw [HG.out, HSK.out]; exact HT.out⟩

end Go.Proofs.YtamgodeiakflbaaDoor
