/- The reference's search for the safest route: next. -/
import Derived.Test.YtoociholchamhaaSafeT
namespace Go.Proofs.Ytoociholchamhaa
open Go.RowKit

def searchC (n g : Nat) (limit budget : Int) (A : Option Addr) (nl c : Nat) (vr vb : Value) (st : St) : Array Value := #[.int .i64 n, .slice A nl c, .int .i64 g, .int .i64 limit, vr, vb, .int .i64 st.least, .int .i64 (budget - st.bud), .int .i64 budget]
theorem search_cells {n g : Nat} {limit budget : Int} {A : Option Addr} {nl c : Nat} {T : TypeId} {w0 w : World} {bs : Nat} {rt : List Int} {st : St} {vr vb : Value} (h : TourAt (searchC n g limit budget A nl c) T w0 bs rt st vr vb w) :
    w.cell? ⟨bs, 0, none⟩ = some (.int .i64 n) ∧ w.cell? ⟨bs, 1, none⟩ = some (.slice A nl c) ∧ w.cell? ⟨bs, 2, none⟩ = some (.int .i64 g) ∧ w.cell? ⟨bs, 3, none⟩ = some (.int .i64 limit) ∧ w.cell? ⟨bs, 4, none⟩ = some vr ∧ w.cell? ⟨bs, 5, none⟩ = some vb ∧ w.cell? ⟨bs, 6, none⟩ = some (.int .i64 st.least) ∧ w.cell? ⟨bs, 7, none⟩ = some (.int .i64 (budget - st.bud)) ∧ w.cell? ⟨bs, 8, none⟩ = some (.int .i64 budget) ∧ (∀ i, w.frozen? ⟨bs, i, none⟩ = false) ∧ bs < w.heap.size :=
  ⟨h.box.cell 0, h.box.cell 1, h.box.cell 2, h.box.cell 3, h.box.cell 4, h.box.cell 5, h.box.cell 6, h.box.cell 7, h.box.cell 8, h.box.frozen, h.box.lt⟩
theorem search_bud {n g : Nat} {limit budget N : Int} {A : Option Addr} {nl c : Nat} {vr vb : Value} {st : St} (h : budget - st.bud = N) : searchC n g limit budget A nl c vr vb { st with bud := st.bud - 1 } = (searchC n g limit budget A nl c vr vb st).setIfInBounds 7 (.int .i64 (N + 1)) := by
  unfold searchC
  simp only [← h]
  rw [show budget - (st.bud - 1) = budget - st.bud + 1 by omega]
  rfl
def Sought (C : Value → Value → St → Array Value) (T : TypeId) (w0 : World) (bs : Nat) (rt : List Int) (st : St) (e : Ending) (w' : World) : Prop := ∃ (b : Bool) (rt' : List Int) (vr' vb' : Value), e = .returned (.bool b) ∧ TourAt C T w0 bs rt' st vr' vb' w' ∧ (b = true → st.bud < 0) ∧ (b = false → 0 ≤ st.bud ∧ rt' = rt)
set_option maxRecDepth 100000 in
set_option maxHeartbeats 2000000 in
theorem search_any (n g : Nat) (limit budget : Int) (A : Option Addr) (nl c : Nat) (xs : List Leg) (w0 : World) (bs : Nat) (hx : SliceOf w0 4 Leg.cells A nl xs) (hv : legsOk (n : Int) xs = true) (hn : n ≤ 12) (hL0 : 0 ≤ limit) (hL1 : limit ≤ 10000) (hU0 : 1 ≤ budget) (hU1 : budget ≤ 20000) :
    ∀ (f : Nat) (rt : List Int) (mi expo : Int) (st : St) (vr vb : Value) (w : World), TourAt (searchC n g limit budget A nl c) 80 w0 bs rt st vr vb w → RtOk n f rt (limit - mi) expo → 0 ≤ st.bud → st.bud ≤ budget →
    Calls Try.prog 61 #[.pointer (some ⟨bs, 0, none⟩), .int .i64 mi, .int .i64 expo] w (Sought (searchC n g limit budget A nl c) 80 w0 bs rt (goS xs n g f rt (limit - mi) expo st)) := by
  have HX := Lib.hid hx
  have HV := Lib.hid hv
  clear hx hv
  intro f
  induction f with
  | zero => intro rt mi expo st vr vb w _ hok; exact absurd hok.fuel (by omega)
  | succ f ih =>
    intro rt mi expo st vr vb w hT hok h0 h1
    have HIH := Lib.hid ih
    have HOK := Lib.hid hok
    have hlen1 := hok.ne
    have hlen2 := hok.len
    obtain ⟨r, hr⟩ : ∃ r, rt.length = r + 1 := ⟨rt.length - 1, by omega⟩
    obtain ⟨G, cap, rfl, hG1, hG2⟩ := hT.route.block (by intro h; rw [h] at hr; cases hr)
    have hcap : r + 1 ≤ cap := by
      obtain ⟨A', c', e, hc', _, _⟩ := hT.route.slice i64cells_len
      injection e with _ _ e3
      rw [hr] at hc'; omega
    simp only [hr] at hT
    have HR := Lib.hid hr
    have hr12 : r ≤ 12 := by omega
    have HT := Lib.hid hT
    have hl0 : mi ≤ limit := by have := hok.l0; omega
    have hl1 : -10000 ≤ mi := by have := hok.l1; omega
    have he0 := hok.e0
    have he1 : expo ≤ 13000 := by have := hok.e1; omega
    obtain ⟨a, ha, han, ham⟩ := hok.last
    have HA := Lib.hid ha
    have HAM := Lib.hid ham
    obtain ⟨N, hN⟩ : ∃ N, budget - st.bud = N := ⟨_, rfl⟩
    have hN0 : 0 ≤ N := by omega
    have hN1 : N ≤ budget := by omega
    have HN := Lib.hid hN
    obtain ⟨y0, y1, y2, y3, y4, y5, y6, y7, y8, dd, lb⟩ := search_cells hT
    rw [hN] at y7
    obtain ⟨s1, hs1⟩ : ∃ s1 : St, { st with bud := st.bud - 1 } = s1 := ⟨_, rfl⟩
    have HS1 := Lib.hid hs1
    clear ih hok hT ha hr hlen1 hlen2 hN ham
    go_enter Try.func61, Try.ntmps61
    go_wp2_with fail
    obtain ⟨w1, hw1⟩ : ∃ w1, w.setCell ⟨bs, 7, none⟩ (.int .i64 (N + 1)) = w1 := ⟨_, rfl⟩
    have HT1 : Hid (TourAt (searchC n g limit budget A nl c) 80 w0 bs rt s1 (.slice (some ⟨G, 0, none⟩) (r + 1) cap) vb w1) := by rw [Hid, ← hw1, ← hs1]; exact HT.out.num 7 _ (search_bud HN.out) rfl
    have HN1 : Hid (budget - s1.bud = N + 1) := by rw [Hid, ← hs1]; have := HN.out; simp only; omega
    rw [hw1]
    clear hw1 hs1 y0 y1 y2 y3 y4 y5 y6 y7 y8 dd lb HT
    obtain ⟨y0, y1, y2, y3, y4, y5, y6, y7, y8, dd, lb⟩ := search_cells HT1.out
    rw [HN1.out] at y7
    by_cases hb : st.bud - 1 < 0
    · have hd : decide (budget < N + 1) = true := decide_eq_true (by have := HN.out; omega)
      have HG : Hid (goS xs n g (f + 1) rt (limit - mi) expo st = s1) := by rw [Hid, ← HS1.out]; exact goS_out hb
      have HB : Hid (s1.bud < 0) := by rw [Hid, ← HS1.out]; exact hb
      clear hb
      have hsub := fun (g : Sub w1) b o (h : b < w1.heap.size) => g.cell b o h
      go_wp2_with fail
      refine wp_region_sub (by kernel_rfl) (by kernel_rfl) ?_
      repeat (go_big_quiet_step (fail))
      refine wpQuiet_nil ?_
      intro wg hg
      have HT2 := Lib.hid (HT1.out.grow hg)
      clear y0 y1 y2 y3 y4 y5 y6 y7 y8 dd lb hsub hg
      go_wp2
      go_ret
      exact ⟨true, rt, _, _, rfl, by rw [HG.out]; exact HT2.out, fun _ => by rw [HG.out]; exact HB.out, fun h => by cases h⟩
    have HB := Lib.hid hb
    have hd : decide (budget < N + 1) = false := decide_eq_false (by have := HN.out; omega)
    have hsub := fun (g : Sub w1) b o (h : b < w1.heap.size) => g.cell b o h
    go_wp2_with fail
    refine wp_region_sub (by kernel_rfl) (by kernel_rfl) ?_
    repeat (go_big_quiet_step (fail))
    refine wpQuiet_nil ?_
    intro wg hg
    have HT2 := Lib.hid (HT1.out.grow hg)
    clear y0 y1 y2 y3 y4 y5 y6 y7 y8 dd lb hsub hg HT1 hb
    go_wp2_with fail
    clear hd
    obtain ⟨y0, y1, y2, y3, y4, y5, y6, y7, y8, dd, lb⟩ := search_cells HT2.out
    have yl := HT2.out.route.cellAt (last_get HR.out)
    have ylt := (HT2.out.route.lt G rfl).2
    rw [HA.out] at yl
    have e1 : IntKind.i64.wrap ((r : Int) + 1 - 1) = (r : Int) := by rw [Int.add_sub_cancel]; exact IntWalk.i64_in _ (by omega)
    have e1b : IntKind.i64.wrap (r : Int) = (r : Int) := IntWalk.i64_in _ (by omega)
    have e2 : (0 : Int) ≤ (r : Int) := by omega
    obtain ⟨wd, hwd⟩ : ∃ wd, wg = wd := ⟨_, rfl⟩
    rw [hwd] at HT2 y0 y1 y2 y3 y4 y5 y6 y7 y8 dd lb yl ylt ⊢
    clear hwd
    have hsub := fun (g : Sub wd) b o (h : b < wd.heap.size) => g.cell b o h
    go_wp2_with fail
    refine wp_region_sub (by kernel_rfl) (by kernel_rfl) ?_
    repeat (go_big_quiet_step (fail))
    refine wpQuiet_nil ?_
    intro wg hg
    have HT3 := Lib.hid (HT2.out.grow hg)
    clear y0 y1 y2 y3 y4 y5 y6 y7 y8 dd lb yl ylt e1 e1b e2 hsub hg HT2
    obtain ⟨y0, y1, y2, y3, y4, y5, y6, y7, y8, dd, lb⟩ := search_cells HT3.out
    by_cases hag : a = g
    · subst hag
      have hq : ((a : Int) == (a : Int)) = true := by simp
      have HL1 : Hid (s1.least = st.least) := by rw [Hid, ← HS1.out]
      have HB1 : Hid (s1.bud = st.bud - 1) := by rw [Hid, ← HS1.out]
      by_cases hl : st.least < 0 ∨ expo < st.least
      · have HG : Hid (goS xs n a (f + 1) rt (limit - mi) expo st = ⟨st.bud - 1, rt, expo⟩) := goS_goal (by have := HB.out; omega) HA.out hl
        rw [← HL1.out] at hl
        have hl2 : decide (s1.least < 0) = true ∨ decide (s1.least < 0) = false ∧ decide (expo < s1.least) = true := by
          by_cases h : s1.least < 0
          · exact .inl (decide_eq_true h)
          · exact .inr ⟨decide_eq_false h, decide_eq_true (by omega)⟩
        clear hl
        rcases hl2 with c1 | ⟨c1, c2⟩
        all_goals
          go_wp2_with fail
          (with_reducible refine (l00Own_any G 0 (r + 1) cap rt _ (HT3.out.route.sl i64cells_len) (by omega)).mono ?_)
          rintro e w3 ⟨v3, rfl, ho3, hb3⟩
          obtain ⟨G3, cap3, rfl, _, _⟩ := ho3.block (by intro h; have := HR.out; rw [h] at this; cases this)
          rw [HR.out] at ho3 ⊢
          have HT4 := Lib.hid (HT3.out.grow hb3)
          have HO3 := Lib.hid ho3
          have HSZ := Lib.hid HT3.out.below.size
          have HLT := Lib.hid HT3.out.box.lt
          have HRL := Lib.hid HT3.out.route.lt
          clear y0 y1 y2 y3 y4 y5 y6 y7 y8 dd lb hb3 ho3 c1 HT3
          try clear c2
          obtain ⟨y0, y1, y2, y3, y4, y5, y6, y7, y8, dd, lb⟩ := search_cells HT4.out
          go_wp2
          go_ret
          refine ⟨false, rt, .slice (some ⟨G, 0, none⟩) (r + 1) cap, .slice (some ⟨G3, 0, none⟩) (r + 1) cap3, rfl, ?_, (fun h => by cases h), fun _ => ⟨by rw [HG.out]; have := HB.out; simp only; omega, rfl⟩⟩
          rw [HG.out]
          refine TourAt.num (st := ⟨st.bud - 1, rt, s1.least⟩) (TourAt.put HT4.out 5 _ ?_ HT4.out.route (HO3.out.rebase HSZ.out) HT4.out.rb (fun k hk => ?_) (fun k hk hv => ?_)) 6 _ ?_ rfl
          · rw [← HB1.out]; rfl
          · have := (HO3.out.lt k hk).1
            have := HLT.out
            omega
          · have h1 := (HO3.out.lt k hv).1
            have h2 := (HRL.out k hk).2
            omega
          · rfl
      · have HG : Hid (goS xs n a (f + 1) rt (limit - mi) expo st = s1) := by rw [Hid, ← HS1.out]; exact goS_worse (by have := HB.out; omega) HA.out hl
        rw [← HL1.out] at hl
        have c1 : decide (s1.least < 0) = false := decide_eq_false (fun h => hl (.inl h))
        have c2 : decide (expo < s1.least) = false := decide_eq_false (fun h => hl (.inr h))
        clear hl
        go_wp2
        go_ret
        exact ⟨false, rt, _, _, rfl, by rw [HG.out]; exact HT3.out, (fun h => by cases h), fun _ => ⟨by rw [HG.out, HB1.out]; have := HB.out; omega, rfl⟩⟩
    · have hq : ((a : Int) == (g : Int)) = false := by simp; omega
      have HG : Hid (goS xs n g (f + 1) rt (limit - mi) expo st = goK xs n g f rt (limit - mi) expo s1 n) := by
        rw [Hid, ← HS1.out]; exact goS_on (by have := HB.out; omega) (by rw [HA.out]; omega)
      have HB1 : Hid (0 ≤ s1.bud ∧ s1.bud ≤ budget) := by rw [Hid, ← HS1.out]; have := HB.out; simp only; omega
      go_wp2
      clear hq y0 y1 y2 y3 y4 y5 y6 y7 y8 dd lb
      go_loopg [8] n (fun gk s8 wr => ∃ (k : Nat) (vr vb : Value), k ≤ n ∧ gk = n - k ∧ s8 = .int .i64 k ∧ 0 ≤ (goK xs n g f rt (limit - mi) expo s1 k).bud ∧ TourAt (searchC n g limit budget A nl c) 80 w0 bs rt (goK xs n g f rt (limit - mi) expo s1 k) vr vb wr)
      case atStart => exact ⟨0, _, _, Nat.zero_le _, rfl, rfl, by rw [goK_zero]; exact HB1.out.1, by rw [goK_zero]; exact HT3.out⟩
      case round =>
        obtain ⟨k, vr, vb, hk, hgk, rfl, hbk, hT⟩ := hrel
        obtain ⟨sk, hsk⟩ : ∃ sk, goK xs n g f rt (limit - mi) expo s1 k = sk := ⟨_, rfl⟩
        rw [hsk] at hbk hT
        have HSK := Lib.hid hsk
        have Hgk := Lib.hid hgk
        have HBK := Lib.hid hbk
        obtain ⟨G, cap, rfl, hG1, hG2⟩ := hT.route.block (by intro h; have := HR.out; rw [h] at this; cases this)
        rw [HR.out] at hT
        have HT := Lib.hid hT
        obtain ⟨y0, y1, y2, y3, y4, y5, y6, y7, y8, dd, lb⟩ := search_cells hT
        clear hsk hgk hbk hT hG1 hG2
        by_cases hkn : k < n
        · go_wp2_with fail
          (with_reducible refine (l23Leg_any (a : Int) (k : Int) _ _ _ xs _ (HX.out.below HT.out.below)).mono ?_)
          rintro e w5 ⟨rfl, hb5⟩
          obtain ⟨l, hl⟩ : ∃ l, legD xs ((a : Int), (k : Int)) = l := ⟨_, rfl⟩
          have HLG : Hid (legOf xs rt k = l) := by rw [Hid, ← hl]; unfold legOf; rw [HA.out]
          have hbd := legD_bounds (p := ((a : Int), (k : Int))) HV.out
          rw [hl] at hbd
          obtain ⟨hm1, hm2, hx1, hx2⟩ := hbd
          have HST : Hid (goK xs n g f rt (limit - mi) expo s1 (k + 1) = if stepOk xs rt (limit - mi) k = true then goS xs n g f (rt ++ [(k : Int)]) (limit - mi - l.minutes) (expo + l.exposure) sk else sk) := by
            rw [Hid, goK_succ, HSK.out, if_neg (by have := HBK.out; omega), HLG.out]
          have HT5 := Lib.hid (HT.out.grow hb5)
          have HNC := Lib.hid (HT5.out.route.sl i64cells_len)
          have HDL := Lib.hid hl
          clear y0 y1 y2 y3 y4 y5 y6 y7 y8 dd lb hl hb5 HT
          obtain ⟨y0, y1, y2, y3, y4, y5, y6, y7, y8, dd, lb⟩ := search_cells HT5.out
          have hcs := stepOk_cases xs rt (limit - mi) k
          rw [HA.out, HLG.out] at hcs
          rcases leg_cases (xs := xs) (p := ((a : Int), (k : Int))) with ⟨j, x, hxj, hfj, hhl, hdl⟩ | ⟨hfj, hhl, _⟩
          · rw [HDL.out] at hdl
            subst hdl
            obtain ⟨b1, o1, x', hAx, hbb, hxi, x0, x1, x2, x3⟩ := Leg.at_ HX.out (show j < nl by rw [← HX.out.len]; exact (List.getElem?_eq_some_iff.1 hxj).1)
            subst hAx
            rw [hxj] at hxi
            injection hxi with hxi
            subst hxi
            have hka : ((k : Int) == (a : Int)) = false := by
              have : k ≠ a := fun e => by
                subst e
                have := leg_self HV.out k
                rw [hfj] at this; omega
              simp; omega
            have hjn : (j : Int) < (nl : Int) := by have h1 := HX.out.len; have h2 := (List.getElem?_eq_some_iff.1 hxj).1; omega
            have HX2 := Lib.hid x2
            have HX3 := Lib.hid x3
            have HBB := Lib.hid hbb
            have x2 := (HT5.out.below.cell (p := ⟨b1, o1 + j * 4 + 2, none⟩) hbb).trans x2
            have x3 := (HT5.out.below.cell (p := ⟨b1, o1 + j * 4 + 3, none⟩) hbb).trans x3
            have hltb := Nat.lt_of_lt_of_le hbb HT5.out.below.size
            have hs : IntKind.i64.wrap (mi + l.minutes) = mi + l.minutes := IntWalk.i64_in _ (by omega)
            have hjz : decide ((j : Int) < 0) = false := decide_eq_false (by omega)
            rw [hfj]
            clear hfj hxj x0 x1 hbb
            rcases hcs with ⟨c1, _⟩ | ⟨_, c2, hst⟩ | ⟨_, c2, c3, hst⟩ | ⟨_, c2, c3, hst⟩
            · rw [hhl] at c1; cases c1
            · have HF : Hid (goK xs n g f rt (limit - mi) expo s1 (k + 1) = sk) := by rw [Hid, HST.out, hst]; rfl
              have hgt : decide (limit < mi + l.minutes) = true := decide_eq_true (by have := of_decide_eq_true c2; omega)
              clear hst c2 hhl
              cases c3 : hasB rt (k : Int)
              all_goals
                have hsub := fun (g : Sub w5) b o (h : b < w5.heap.size) => g.cell b o h
                go_wp2_with fail
                refine wp_region_sub (by kernel_rfl) (by kernel_rfl) ?_
                repeat (go_big_quiet_step (exact Calls.sub_of_same_eq (l00Has_any (k : Int) _ _ _ rt _ (HNC.out.below (Sub.below _))) (congrArg Value.bool c3)))
                refine wpQuiet_nil ?_
                intro wg hg
                have HT6 := Lib.hid (HT5.out.grow hg)
                clear y0 y1 y2 y3 y4 y5 y6 y7 y8 dd lb hsub hg hka hs hltb x2 x3 hjz
                go_wp2
                go_roundg (n - (k + 1))
                case measure => have := Hgk.out; omega
                case rel => exact ⟨k + 1, _, _, by omega, rfl, by go_num, by rw [HF.out]; exact HBK.out, by rw [HF.out]; exact HT6.out⟩
            · have HF : Hid (goK xs n g f rt (limit - mi) expo s1 (k + 1) = sk) := by rw [Hid, HST.out, hst]; rfl
              clear hst c2 hhl
              have hsub := fun (g : Sub w5) b o (h : b < w5.heap.size) => g.cell b o h
              go_wp2_with fail
              refine wp_region_sub (by kernel_rfl) (by kernel_rfl) ?_
              repeat (go_big_quiet_step (exact Calls.sub_of_same_eq (l00Has_any (k : Int) _ _ _ rt _ (HNC.out.below (Sub.below _))) (congrArg Value.bool c3)))
              refine wpQuiet_nil ?_
              intro wg hg
              have HT6 := Lib.hid (HT5.out.grow hg)
              clear y0 y1 y2 y3 y4 y5 y6 y7 y8 dd lb hsub hg hka hs hltb x2 x3 hjz
              go_wp2
              go_roundg (n - (k + 1))
              case measure => have := Hgk.out; omega
              case rel => exact ⟨k + 1, _, _, by omega, rfl, by go_num, by rw [HF.out]; exact HBK.out, by rw [HF.out]; exact HT6.out⟩
            · have HF : Hid (goK xs n g f rt (limit - mi) expo s1 (k + 1) = goS xs n g f (rt ++ [(k : Int)]) (limit - mi - l.minutes) (expo + l.exposure) sk) := by rw [Hid, HST.out, hst]; rfl
              have HOKN : Hid (RtOk n f (rt ++ [(k : Int)]) (limit - mi - l.minutes) (expo + l.exposure)) := by
                have := HOK.out.next HV.out hkn hst
                rw [HLG.out] at this; exact this
              have hgt : decide (limit < mi + l.minutes) = false := decide_eq_false (by have := of_decide_eq_false c2; omega)
              have hmi : mi + l.minutes ≤ limit := by have := of_decide_eq_false c2; omega
              clear hst c2 hhl
              have hsub := fun (g : Sub w5) b o (h : b < w5.heap.size) => g.cell b o h
              go_wp2_with fail
              refine wp_region_sub (by kernel_rfl) (by kernel_rfl) ?_
              repeat (go_big_quiet_step (exact Calls.sub_of_same_eq (l00Has_any (k : Int) _ _ _ rt _ (HNC.out.below (Sub.below _))) (congrArg Value.bool c3)))
              refine wpQuiet_nil ?_
              intro wg hg
              have HT6 := Lib.hid (HT5.out.grow hg)
              clear y0 y1 y2 y3 y4 y5 y6 y7 y8 dd lb hsub hg hka hltb x2 x3 hgt hjz
              obtain ⟨y0, y1, y2, y3, y4, y5, y6, y7, y8, dd, lb⟩ := search_cells HT6.out
              go_wp2_with (at_builtin; refine wpList_push2 (by rfl) (.tmp 120) (.tmp 122) 23 (by rfl) w0.heap.size 2 1 Try.underlying23 infoI64 (by rfl) (by decide) i64cells i64cells_len i64cells_one _ (.slice (some ⟨G, 0, none⟩) (r + 1) cap) rt (k : Int) (by rfl) (by rfl) HT6.out.route (by first | rfl | simp [go_sem]) (by rw [HR.out]; omega) (by decide) HT6.out.below.size ?_)
              intro v' w' hown' hb' hkp hob
              have hrk : (rt ++ [(k : Int)]).length = r + 1 + 1 := by rw [List.length_append, HR.out]; rfl
              have HRK := Lib.hid hrk
              obtain ⟨G7, cap7, rfl, _, _⟩ := hown'.block (by simp)
              rw [hrk] at hown' hob ⊢
              have hap := TourAt.append (i := 4) HT6.out hown' hb' hkp hob rfl
              have HBX7 := Lib.hid hap.1
              have HT7 := Lib.hid hap.2
              clear y0 y1 y2 y3 y4 y5 y6 y7 y8 dd lb hown' hb' hkp hob hap hrk c3
              have z4 := HBX7.out.cell 4
              have dz := HBX7.out.frozen
              have lz := HBX7.out.lt
              simp [searchC] at z4
              go_wp2_with fail
              obtain ⟨w7, hw7⟩ : ∃ w7, w'.setCell ⟨bs, 4, none⟩ (.slice (some ⟨G7, 0, none⟩) (r + 1 + 1) cap7) = w7 := ⟨_, rfl⟩
              rw [hw7] at HT7 ⊢
              clear hw7 z4 dz lz
              obtain ⟨y0, y1, y2, y3, y4, y5, y6, y7, y8, dd, lb⟩ := search_cells HT7.out
              have x2 := (HT7.out.below.cell (p := ⟨b1, o1 + j * 4 + 2, none⟩) HBB.out).trans HX2.out
              have x3 := (HT7.out.below.cell (p := ⟨b1, o1 + j * 4 + 3, none⟩) HBB.out).trans HX3.out
              have hltb := Nat.lt_of_lt_of_le HBB.out HT7.out.below.size
              have hs3 : IntKind.i64.wrap (expo + l.exposure) = expo + l.exposure := IntWalk.i64_in _ (by omega)
              have hsub := fun (g : Sub w7) b o (h : b < w7.heap.size) => g.cell b o h
              go_wp2_with fail
              refine wp_region_sub_tail 21 (by kernel_rfl) (by kernel_rfl) ?_
              simp only [List.take_succ_cons, List.take_zero, List.drop_succ_cons, List.drop_zero]
              repeat (go_big_quiet_step (fail))
              refine wpQuiet_nil ?_
              intro wg hg
              have HT8 := Lib.hid (HT7.out.grow hg)
              clear y0 y1 y2 y3 y4 y5 y6 y7 y8 dd lb hsub hg x2 x3 hltb hs hs3
              go_wp2_with fail
              (with_reducible refine (HIH.out (rt ++ [(k : Int)]) (mi + l.minutes) (expo + l.exposure) sk _ vb _ HT8.out ?_ HBK.out ?_).mono ?_)
              · have := HOKN.out
                rw [show limit - mi - l.minutes = limit - (mi + l.minutes) by omega] at this
                exact this
              · have := (goK_bud xs n g budget f rt (limit - mi) expo s1 HB1.out.1 HB1.out.2 k).2
                rw [HSK.out] at this
                exact this
              rintro e w8 ⟨bb, rt8, vr8, vb8, rfl, hT8, hby, hbn⟩
              rw [show limit - (mi + l.minutes) = limit - mi - l.minutes by omega] at hT8 hby hbn
              obtain ⟨s8, hs8⟩ : ∃ z, goS xs n g f (rt ++ [(k : Int)]) (limit - mi - l.minutes) (expo + l.exposure) sk = z := ⟨_, rfl⟩
              have HF8 : Hid (goK xs n g f rt (limit - mi) expo s1 (k + 1) = s8) := by rw [Hid, HF.out, hs8]
              rw [hs8] at hT8 hby hbn
              have HT8' := Lib.hid hT8
              clear hs8 hT8
              cases bb
              · have hbn2 := hbn rfl
                have HB8 := Lib.hid hbn2.1
                have h8 := hbn2.2
                subst h8
                clear hby hbn hbn2
                obtain ⟨G8, cap8, rfl, _, _⟩ := HT8'.out.route.block (by simp)
                have hcap8 : r + 1 + 1 ≤ cap8 := by
                  obtain ⟨A', c', e, hc', _, _⟩ := HT8'.out.route.slice i64cells_len
                  injection e with _ _ e3
                  rw [HRK.out] at hc'; omega
                have hT8 := HT8'.out
                rw [HRK.out] at hT8
                obtain ⟨q, hq⟩ : ∃ q, r + 1 = q := ⟨_, rfl⟩
                have HQ := Lib.hid hq
                rw [hq] at hT8 hcap8
                have HT9 := Lib.hid hT8
                have hq13 : q ≤ 13 := by omega
                clear hT8 hq
                obtain ⟨y0, y1, y2, y3, y4, y5, y6, y7, y8, dd, lb⟩ := search_cells HT9.out
                have e1 : IntKind.i64.wrap ((q : Int) + 1 - 1) = (q : Int) := by rw [Int.add_sub_cancel]; exact IntWalk.i64_in _ (by omega)
                have e1b : IntKind.i64.wrap (q : Int) = (q : Int) := IntWalk.i64_in _ (by omega)
                have e2 : (0 : Int) ≤ (q : Int) := by omega
                have e3 : (q : Int) ≤ (cap8 : Int) := by omega
                have hsub := fun (g : Sub w8) b o (h : b < w8.heap.size) => g.cell b o h
                go_wp2_with fail
                refine wp_region_sub_tail 14 (by kernel_rfl) (by kernel_rfl) ?_
                simp only [List.take_succ_cons, List.take_zero, List.drop_succ_cons, List.drop_zero]
                repeat (go_big_quiet_step (fail))
                refine wpQuiet_nil ?_
                intro wg hg
                have HTA := Lib.hid (HT9.out.grow hg)
                clear y0 y1 y2 y3 y4 y5 y6 y7 y8 dd lb e1 e1b e2 e3 hsub hg
                obtain ⟨y0, y1, y2, y3, y4, y5, y6, y7, y8, dd, lb⟩ := search_cells HTA.out
                have HTZ : Hid (TourAt (searchC n g limit budget (some ⟨b1, o1, none⟩) nl c) 80 w0 bs rt s8 (.slice (some ⟨G8, 0, none⟩) q cap8) vb8 (wg.setCell ⟨bs, 4, none⟩ (.slice (some ⟨G8, 0, none⟩) q cap8))) :=
                  HTA.out.put 4 _ rfl HTA.out.route.shrink HTA.out.best HTA.out.rb HTA.out.bb HTA.out.ne
                go_wp2
                go_roundg (n - (k + 1))
                case measure => have := Hgk.out; omega
                case rel => exact ⟨k + 1, _, _, by omega, rfl, by go_num, by rw [HF8.out]; exact HB8.out, by rw [HF8.out]; exact HTZ.out⟩
              · have hb8 := hby rfl
                have HFN : Hid (goS xs n g (f + 1) rt (limit - mi) expo st = s8) := by
                  have h := goK_stop (xs := xs) (n := n) (g := g) (f := f) (rt := rt) (left := limit - mi) (expo := expo) (st := s1) (k := k + 1) (by rw [HF8.out]; exact hb8) (n - (k + 1))
                  rw [show k + 1 + (n - (k + 1)) = n by omega, HF8.out] at h
                  rw [Hid, HG.out, h]
                have HB8 := Lib.hid hb8
                clear hby hbn hb8
                go_wp2
                go_ret
                exact ⟨true, rt8, _, _, rfl, by rw [HFN.out]; exact HT8'.out, fun _ => by rw [HFN.out]; exact HB8.out, fun h => by cases h⟩
          · have HF : Hid (goK xs n g f rt (limit - mi) expo s1 (k + 1) = sk) := by
              rcases hcs with ⟨_, h⟩ | ⟨c1, _, _⟩ | ⟨c1, _, _, _⟩ | ⟨c1, _, _, _⟩
              · rw [Hid, HST.out, h]; rfl
              all_goals (rw [hhl] at c1; cases c1)
            clear hcs hhl
            rw [hfj]
            clear hfj
            have hsub := fun (g : Sub w5) b o (h : b < w5.heap.size) => g.cell b o h
            cases hka : ((k : Int) == (a : Int))
            all_goals
              go_wp2_with fail
              refine wp_region_sub (by kernel_rfl) (by kernel_rfl) ?_
              repeat (go_big_quiet_step (fail))
              refine wpQuiet_nil ?_
              intro wg hg
              have HT6 := Lib.hid (HT5.out.grow hg)
              clear y0 y1 y2 y3 y4 y5 y6 y7 y8 dd lb hsub hg hka
              go_wp2
              go_roundg (n - (k + 1))
              case measure => have := Hgk.out; omega
              case rel => exact ⟨k + 1, _, _, by omega, rfl, by go_num, by rw [HF.out]; exact HBK.out, by rw [HF.out]; exact HT6.out⟩
        · have hkk : k = n := by omega
          subst hkk
          go_wp2
          go_ret
          exact ⟨false, rt, _, _, rfl, by rw [HG.out, HSK.out]; exact HT.out, (fun h => by cases h), fun _ => ⟨by rw [HG.out, HSK.out]; exact HBK.out, rfl⟩⟩

end Go.Proofs.Ytoociholchamhaa
