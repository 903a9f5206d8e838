/- The program's search for the fairest turns: visit. -/
import Derived.Test.YtbblgididefgdaaFairP
import Derived.Test.YtbblgididefgdaaTurnQ
import Derived.Test.YtbblgididefgdaaSeek
import Derived.Test.YtbblgididefgdaaCopyN
import Derived.Test.YtbblgididefgdaaFairS
namespace Go.Proofs.Ytbblgididefgdaa
open Go.RowKit

/-- Whoever is given a turn is one of the people. -/
def PersonsIn (n : Nat) (rt : List Int) : Prop := ∀ y ∈ rt, ∃ q : Nat, q < n ∧ y = q
theorem PersonsIn.add {n k : Nat} {rt : List Int} (h : PersonsIn n rt) (hk : k < n) : PersonsIn n (rt ++ [(k : Int)]) := fun y hy => by
  rcases List.mem_append.1 hy with h1 | h1
  · exact h y h1
  · simp at h1; exact ⟨k, hk, h1⟩
theorem mostN_past {given : List Int} {n : Nat} (h : PersonsIn n given) : ∀ d, mostN given (n + d) = mostN given n
  | 0 => rfl
  | d + 1 => by
    show max (mostN given (n + d)) (given.count ((n + d : Nat) : Int)) = _
    rw [mostN_past h d, List.count_eq_zero.2 (fun hm => by obtain ⟨q, hq, e⟩ := h _ hm; omega)]
    omega
theorem mostN_all {given : List Int} {n : Nat} (h : PersonsIn n given) (hn : n ≤ 8) : mostN given 8 = mostN given n := by
  have := mostN_past h (8 - n)
  rwa [show n + (8 - n) = 8 by omega] at this
set_option maxHeartbeats 1000000 in
theorem slicesMax_any (nb : Nat) (rt : List Int) (w : World) (hc : ∀ i, i < 8 → w.cell? ⟨nb, i, none⟩ = some (.int .i64 ((rt.count (i : Int) : Nat) : Int))) :
    Calls Try.prog 28 #[.slice (some ⟨nb, 0, none⟩) 8 8] w (RetS (.int .i64 (mostN rt 8 : Int)) w) := by
  have HC := Lib.hid hc
  obtain ⟨C0, hC0⟩ : ∃ C, rt.count ((0 : Nat) : Int) = C := ⟨_, rfl⟩
  have c0 := hc 0 (by omega)
  rw [hC0] at c0
  have H1 : Hid (mostN rt 1 = C0) := by
    show max 0 (rt.count ((0 : Nat) : Int)) = C0
    rw [hC0]; omega
  clear hc hC0
  go_enter Try.func28, Try.ntmps28
  go_wp2
  go_loopg [3, 4] 7 (fun gk s3 s4 wr => ∃ k M : Nat, 1 ≤ k ∧ k ≤ 8 ∧ gk = 8 - k ∧ mostN rt k = M ∧ s3 = .int .i64 M ∧ s4 = .int .i64 k ∧ w = wr)
  case atStart => exact ⟨1, C0, Nat.le_refl _, by omega, by omega, H1.out, rfl, rfl, rfl⟩
  case round =>
    obtain ⟨k, M, hk1, hk, hgk, hM, rfl, rfl, rfl⟩ := hrel
    have Hgk := Lib.hid hgk
    have HM := Lib.hid hM
    clear hgk hM
    by_cases hlt : k < 8
    · obtain ⟨C, hC⟩ : ∃ C, rt.count (k : Int) = C := ⟨_, rfl⟩
      have x0 := HC.out k hlt
      rw [hC] at x0
      have HN : Hid (mostN rt (k + 1) = max M C) := by
        show max (mostN rt k) (rt.count (k : Int)) = _
        rw [HM.out, hC]
      clear hC
      rcases Nat.lt_trichotomy M C with h | h | h
      · have h1 : (M : Int) < (C : Int) := by omega
        have HX : Hid (max M C = C) := by rw [Hid]; omega
        go_wp2
        go_roundg (8 - (k + 1))
        case measure => have := Hgk.out; omega
        case rel => exact ⟨k + 1, C, by omega, by omega, rfl, by rw [HN.out, HX.out], by go_num, by go_num, rfl⟩
      · subst h
        have HX : Hid (max M M = M) := by rw [Hid]; omega
        go_wp2
        go_roundg (8 - (k + 1))
        case measure => have := Hgk.out; omega
        case rel => exact ⟨k + 1, M, by omega, by omega, rfl, by rw [HN.out, HX.out], by go_num, by go_num, rfl⟩
      · have h1 : (C : Int) < (M : Int) := by omega
        have HX : Hid (max M C = M) := by rw [Hid]; omega
        go_wp2
        go_roundg (8 - (k + 1))
        case measure => have := Hgk.out; omega
        case rel => exact ⟨k + 1, M, by omega, by omega, rfl, by rw [HN.out, HX.out], by go_num, by go_num, rfl⟩
    · have hk8 : k = 8 := by omega
      subst hk8
      go_wp2
      go_ret
      exact RetS.i (by rw [HM.out])
def fairVC (n m g : Nat) (A : Option Addr) (na ca : Nat) (mv vr vb : Value) (st : FSt) : Array Value := #[.int .i64 n, .int .i64 m, .int .i64 g, .slice A na ca, mv, .int .i64 st.bud, vr, vb, .int .i64 st.least]
theorem fairV_cells {n m g : Nat} {A : Option Addr} {na ca : Nat} {mv : Value} {T : TypeId} {w0 w : World} {bs : Nat} {rt : List Int} {st : FSt} {vr vb : Value} (h : SeekAt (fairVC n m g A na ca mv) FSt.best T w0 bs rt st vr vb w) :
    w.cell? ⟨bs, 0, none⟩ = some (.int .i64 n) ∧ w.cell? ⟨bs, 1, none⟩ = some (.int .i64 m) ∧ w.cell? ⟨bs, 2, none⟩ = some (.int .i64 g) ∧ w.cell? ⟨bs, 3, none⟩ = some (.slice A na ca) ∧ w.cell? ⟨bs, 4, none⟩ = some mv ∧ w.cell? ⟨bs, 5, none⟩ = some (.int .i64 st.bud) ∧ w.cell? ⟨bs, 6, none⟩ = some vr ∧ w.cell? ⟨bs, 7, none⟩ = some vb ∧ w.cell? ⟨bs, 8, none⟩ = some (.int .i64 st.least) ∧ (∀ i, w.frozen? ⟨bs, i, none⟩ = false) ∧ bs < w.heap.size :=
  ⟨h.box.cell 0, h.box.cell 1, h.box.cell 2, h.box.cell 3, h.box.cell 4, h.box.cell 5, h.box.cell 6, h.box.cell 7, h.box.cell 8, h.box.frozen, h.box.lt⟩
/-- The counts of the turns ahead of place k. -/
def CountsAt (cs : Array Value) (rt : List Int) (k : Nat) : Prop := cs.size = 8 ∧ ∀ i, i < 8 → cs[i]? = some (.int .i64 (((rt.take k).count (i : Int) : Nat) : Int))
theorem CountsAt.step {cs : Array Value} {rt : List Int} {k q : Nat} (h : CountsAt cs rt k) (hy : rt[k]? = some (q : Int)) : CountsAt (cs.setIfInBounds q (.int .i64 ((((rt.take k).count (q : Int) : Nat) : Int) + 1))) rt (k + 1) := by
  refine ⟨by rw [Array.size_setIfInBounds]; exact h.1, fun i hi => ?_⟩
  rw [Array.getElem?_setIfInBounds, takeI_snoc hy, List.count_append]
  by_cases e : q = i
  · subst e
    rw [if_pos rfl, if_pos (by rw [h.1]; exact hi)]
    simp
  · rw [if_neg e, h.2 i hi]
    have : ¬ ((q : Int) = (i : Int)) := by omega
    simp [this]
set_option maxRecDepth 100000 in
set_option maxHeartbeats 2000000 in
theorem fairVisit_any (n m g : Nat) (budget : Int) (A : Option Addr) (na ca : Nat) (mv : Value) (ab : List Row) (w0 : World) (bs : Nat) (hx : Row.Sl w0 A na ab) (hok : TurnsOk n m g ab) (hna : na = n) (hU0 : 1 ≤ budget) (hU1 : budget ≤ 20000) :
    ∀ (f : Nat) (rt : List Int) (st : FSt) (vr vb : Value) (w : World), SeekAt (fairVC n m g A na ca mv) FSt.best 45 w0 bs rt st vr vb w → rt.length + f = m → PersonsIn n rt → FIn budget 12 st → 0 ≤ st.bud →
    Calls Try.prog 20 #[.pointer (some ⟨bs, 0, none⟩)] w (FairOut (fairVC n m g A na ca mv) 45 w0 bs rt (goF n g ab f rt st)) := by
  have HX := Lib.hid hx
  obtain ⟨hn1, hn8, hm12, hg1, hg12, hlen, hrow⟩ := hok
  subst hna
  clear hx hlen hrow
  intro f
  induction f with
  | zero =>
    intro rt st vr vb w hT hrm hper hin h0
    obtain ⟨B, c, rfl, hc1, hc2, hB⟩ := hT.route.look
    have hrm' : rt.length = m := by omega
    have HRM := Lib.hid hrm'
    have HPER := Lib.hid hper
    have HM8 := Lib.hid (mostN_all hper hn8)
    rw [hrm'] at hT hc1
    have HT := Lib.hid hT
    obtain ⟨y0, y1, y2, y3, y4, y5, y6, y7, y8, dd, lb⟩ := fairV_cells hT
    have hq : ((m : Int) == (m : Int)) = true := by simp
    clear hrm hrm' hT hper
    go_enter Try.func20, Try.ntmps20
    have hsub := fun (g : Sub w) b o (h : b < w.heap.size) => g.cell b o h
    go_wp2_with fail
    refine wp_region_sub (by kernel_rfl) (by kernel_rfl) ?_
    repeat (go_big_quiet_step (fail))
    refine wpQuiet_nil ?_
    intro wg hg
    have HT1 := Lib.hid (HT.out.grow hg)
    clear y0 y1 y2 y3 y4 y5 y6 y7 y8 dd lb hsub hg HT
    obtain ⟨nb, hnb⟩ : ∃ nb, wg.heap.size = nb := ⟨_, rfl⟩
    have HNB := Lib.hid hnb
    obtain ⟨w2, hw2⟩ : ∃ w2, wg.alloc (.cells #[.int .i64 0, .int .i64 0, .int .i64 0, .int .i64 0, .int .i64 0, .int .i64 0, .int .i64 0, .int .i64 0] 51) = w2 := ⟨_, rfl⟩
    have hB2 : Below wg.heap.size wg w2 := by rw [← hw2]; exact (Below.refl _ _).alloc (Nat.le_refl _) _
    have hO2 : Own w2 nb 51 #[.int .i64 0, .int .i64 0, .int .i64 0, .int .i64 0, .int .i64 0, .int .i64 0, .int .i64 0, .int .i64 0] := by rw [← hw2, ← hnb]; exact Own.new wg 51 #[.int .i64 0, .int .i64 0, .int .i64 0, .int .i64 0, .int .i64 0, .int .i64 0, .int .i64 0, .int .i64 0]
    have HB2 := Lib.hid hB2
    have HO2 := Lib.hid hO2
    obtain ⟨y0, y1, y2, y3, y4, y5, y6, y7, y8, dd, lb⟩ := fairV_cells (HT1.out.grow hB2)
    clear hB2 hO2 hB hc1
    go_wp2
    clear y0 y1 y2 y3 y4 y5 y6 y7 y8 dd lb hw2 hnb hq
    go_loopg [23] m (fun gk s23 wr => ∃ (k : Nat) (cs : Array Value), k ≤ m ∧ gk = m - k ∧ s23 = .int .i64 k ∧ Own wr nb 51 cs ∧ CountsAt cs rt k ∧ Below wg.heap.size wg wr)
    case atStart => exact ⟨0, _, Nat.zero_le _, rfl, rfl, HO2.out, ⟨rfl, fun i hi => by
      match i, hi with
      | 0, _ => rfl
      | 1, _ => rfl
      | 2, _ => rfl
      | 3, _ => rfl
      | 4, _ => rfl
      | 5, _ => rfl
      | 6, _ => rfl
      | 7, _ => rfl⟩, HB2.out⟩
    case round =>
      obtain ⟨k, cs, hk, hgk, rfl, hO, hcs, hB⟩ := hrel
      have Hgk := Lib.hid hgk
      have HO := Lib.hid hO
      have HCS := Lib.hid hcs
      have HB := Lib.hid hB
      have HT2 := Lib.hid (HT1.out.grow hB)
      clear hgk hO hcs hB
      by_cases hlt : k < m
      · have HS2 : Hid (SliceOf wr 1 i64cells B m rt) := by have := HT2.out.route.sl i64cells_len; exact this
        obtain ⟨b1, o1, y, rfl, hb1, hy, x0⟩ := ints_at HS2.out hlt
        obtain ⟨q, hq, rfl⟩ := HPER.out y (List.mem_of_getElem? hy)
        have HY := Lib.hid hy
        obtain ⟨C, hC⟩ : ∃ C, (rt.take k).count (q : Int) = C := ⟨_, rfl⟩
        have hC12 : C ≤ 12 := by
          rw [← hC]
          have h1 := List.count_le_length (a := (q : Int)) (l := rt.take k)
          have h2 := List.length_take_le k rt
          omega
        have hq8 : q < 8 := by omega
        have z0 : wr.cell? ⟨nb, q, none⟩ = some (.int .i64 (C : Int)) := by rw [← hC]; exact (HO.out.cell q).trans (HCS.out.2 q hq8)
        have HST := Lib.hid (HCS.out.step HY.out)
        rw [hC] at HST
        have dz := HO.out.frozen
        have lz := HO.out.lt
        clear hy hC
        go_wp2
        go_roundg (m - (k + 1))
        case measure => have := Hgk.out; omega
        case rel => exact ⟨k + 1, _, by omega, rfl, by go_num, HO.out.put q _, HST.out, HB.out.setCell (by show wg.heap.size ≤ nb; have := HNB.out; omega) _⟩
      · have hkm : k = m := by omega
        subst hkm
        have HTK : Hid (rt.take k = rt) := List.take_of_length_le (by rw [HRM.out]; exact Nat.le_refl _)
        have dz := HO.out.frozen
        have lz := HO.out.lt
        go_wp2_with fail
        refine (slicesMax_any nb rt _ (fun i hi => by have h := HCS.out.2 i hi; rw [HTK.out] at h; exact (HO.out.cell i).trans h)).mono ?_
        rintro e w' ⟨rfl, rfl⟩
        rw [HM8.out]
        have hmp : mostN rt na ≤ 12 := by have := mostN_le rt na; have := HRM.out; omega
        obtain ⟨M, hM⟩ : ∃ M, mostN rt na = M := ⟨_, rfl⟩
        rw [hM] at hmp ⊢
        have HM := Lib.hid hM
        clear hM dz lz
        obtain ⟨y0, y1, y2, y3, y4, y5, y6, y7, y8, dd, lb⟩ := fairV_cells HT2.out
        have hl0 := hin.least.1
        have hl1 := hin.least.2
        by_cases hl : st.least < 0 ∨ (M : Int) < st.least
        · have HG : Hid (goF na g ab 0 rt st = ⟨st.bud, rt, M⟩) := leafS_yes HM.out hl
          have hl2 : decide (st.least < 0) = true ∨ decide (st.least < 0) = false ∧ decide ((M : Int) < st.least) = true := by
            by_cases h : st.least < 0
            · exact .inl (decide_eq_true h)
            · exact .inr ⟨decide_eq_false h, decide_eq_true (by omega)⟩
          clear hl
          rcases hl2 with c1 | ⟨c1, c2⟩
          all_goals
            go_wp2_with fail
            (with_reducible refine (cloneI_look (v := .slice B k c) HT2.out.route (by rw [HRM.out]; omega)).mono ?_)
            rintro e w3 ⟨v3, rfl, ho3, hb3⟩
            obtain ⟨B3, c3, rfl, _, _, _⟩ := ho3.look
            have hbn := HT2.out.best_new hb3 ho3 (Nat.le_refl _)
            have HT3 := Lib.hid (HT2.out.grow hb3)
            have HBN := Lib.hid hbn.2
            clear y0 y1 y2 y3 y4 y5 y6 y7 y8 dd lb hb3 ho3 hbn c1
            try clear c2
            obtain ⟨y0, y1, y2, y3, y4, y5, y6, y7, y8, dd, lb⟩ := fairV_cells HT3.out
            go_wp2
            refine bodyPost_ret (results_none rfl _ _ _) rfl ⟨.slice B k c, .slice B3 rt.length c3, rfl, ?_⟩
            rw [HG.out]
            exact SeekAt.num (st := ⟨st.bud, rt, st.least⟩) (SeekAt.put HT3.out 7 _ rfl HBN.out.1 HBN.out.2.1 HT3.out.rb HBN.out.2.2.1 HBN.out.2.2.2) 8 _ rfl rfl
        · have HG : Hid (goF na g ab 0 rt st = st) := leafS_no HM.out hl
          have c1 : decide (st.least < 0) = false := decide_eq_false (fun h => hl (.inl h))
          have c2 : decide ((M : Int) < st.least) = false := decide_eq_false (fun h => hl (.inr h))
          clear hl
          go_wp2
          exact bodyPost_ret (results_none rfl _ _ _) rfl ⟨_, _, rfl, by rw [HG.out]; exact HT2.out⟩
  | succ f ih =>
    intro rt st vr vb w hT hrm hper hin h0
    have HIH := Lib.hid ih
    have HPER := Lib.hid hper
    obtain ⟨B, c, rfl, hc1, hc2, hB⟩ := hT.route.look
    obtain ⟨rl, hrl⟩ : ∃ rl, rt.length = rl := ⟨_, rfl⟩
    rw [hrl] at hT hc1 hrm
    have HRL := Lib.hid hrl
    have HT := Lib.hid hT
    have HIN := Lib.hid hin
    obtain ⟨y0, y1, y2, y3, y4, y5, y6, y7, y8, dd, lb⟩ := fairV_cells hT
    have hq : ((rl : Int) == (m : Int)) = false := by simp; omega
    clear hT hrl ih hper hin hB
    go_enter Try.func20, Try.ntmps20
    have hsub := fun (g : Sub w) b o (h : b < w.heap.size) => g.cell b o h
    go_wp2_with fail
    refine wp_region_sub (by kernel_rfl) (by kernel_rfl) ?_
    repeat (go_big_quiet_step (fail))
    refine wpQuiet_nil ?_
    intro wg hg
    have HT1 := Lib.hid (HT.out.grow hg)
    clear y0 y1 y2 y3 y4 y5 y6 y7 y8 dd lb hsub hg HT hq
    have HG0 := Lib.hid (goF_succ na g ab f rt st)
    have HKI := Lib.hid (goK_in (n := na) (g := g) (ab := ab) (f := f) (given := rt) (st := st) HIN.out (by rw [HRL.out]; omega))
    obtain ⟨y0, y1, y2, y3, y4, y5, y6, y7, y8, dd, lb⟩ := fairV_cells HT1.out
    go_wp2
    clear y0 y1 y2 y3 y4 y5 y6 y7 y8 dd lb
    go_loopg [65] na (fun gk s65 wr => ∃ (k : Nat) (vr vb : Value), k ≤ na ∧ gk = na - k ∧ s65 = .int .i64 k ∧ 0 ≤ (goK na g ab f rt st k).bud ∧ SeekAt (fairVC na m g A na ca mv) FSt.best 45 w0 bs rt (goK na g ab f rt st k) vr vb wr)
    case atStart => exact ⟨0, _, _, Nat.zero_le _, rfl, rfl, by rw [goK_zero]; exact h0, by rw [goK_zero]; exact HT1.out⟩
    case round =>
      obtain ⟨k, vr, vb, hk, hgk, rfl, hb0, hT⟩ := hrel
      have Hgk := Lib.hid hgk
      obtain ⟨sk, hsk⟩ : ∃ sk, goK na g ab f rt st k = sk := ⟨_, rfl⟩
      have HKIN := Lib.hid (HKI.out k)
      rw [hsk] at hT hb0 HKIN
      have HSK := Lib.hid hsk
      clear hgk hsk
      by_cases hkn : k < na
      rotate_left
      · have hkk : k = na := by omega
        subst hkk
        have HT2 := Lib.hid hT
        clear hT
        go_wp2
        exact bodyPost_ret (results_none rfl _ _ _) rfl ⟨_, _, rfl, by rw [HG0.out, HSK.out]; exact HT2.out⟩
      obtain ⟨B, c, rfl, hc1, hc2, hB⟩ := hT.route.look
      rw [HRL.out] at hT hc1
      have HT2 := Lib.hid hT
      have hrl12 : rl + 1 ≤ m := by omega
      have hskb : sk.bud ≤ 20000 := by have := HKIN.out.hi; omega
      obtain ⟨y0, y1, y2, y3, y4, y5, y6, y7, y8, dd, lb⟩ := fairV_cells hT
      clear hT
      go_wp2_with fail
      have HNC : Hid (SliceOf wr 1 i64cells B rl rt) := HT2.out.route.sl i64cells_len
      have HXC := Lib.hid (HX.out.below HT2.out.below)
      have hsub := fun (g : Sub wr) b o (h : b < wr.heap.size) => g.cell b o h
      cases hmay : mayB g ab rt k
      · go_wp2_with fail
        refine wp_region_sub (by kernel_rfl) (by kernel_rfl) ?_
        repeat (go_big_quiet_step (exact Calls.sub_of_eq (turnMay_any na m g A na ca mv ab B rl c rt k _ (HXC.out.below (Sub.below _)) (HNC.out.below (Sub.below _)) hc1 hB hg1 hg12 (by omega) hkn) (congrArg Value.bool hmay)))
        refine wpQuiet_nil ?_
        intro wg hg
        have HT3 := Lib.hid (HT2.out.grow hg)
        have HF : Hid (goK na g ab f rt st (k + 1) = sk) := goK_no HSK.out hmay
        clear y0 y1 y2 y3 y4 y5 y6 y7 y8 dd lb hsub hg hmay
        go_wp2
        go_roundg (na - (k + 1))
        case measure => have := Hgk.out; omega
        case rel => exact ⟨k + 1, _, _, by omega, rfl, by go_num, by rw [HF.out]; exact hb0, by rw [HF.out]; exact HT3.out⟩
      go_wp2_with fail
      refine wp_region_sub (by kernel_rfl) (by kernel_rfl) ?_
      repeat (go_big_quiet_step (exact Calls.sub_of_eq (turnMay_any na m g A na ca mv ab B rl c rt k _ (HXC.out.below (Sub.below _)) (HNC.out.below (Sub.below _)) hc1 hB hg1 hg12 (by omega) hkn) (congrArg Value.bool hmay)))
      refine wpQuiet_nil ?_
      intro wg hg
      have HT3 := Lib.hid (HT2.out.grow hg)
      have HMAY := Lib.hid hmay
      clear y0 y1 y2 y3 y4 y5 y6 y7 y8 dd lb hsub hg hmay HT2 HNC HXC
      obtain ⟨y0, y1, y2, y3, y4, y5, y6, y7, y8, dd, lb⟩ := fairV_cells HT3.out
      obtain ⟨s1, hs1⟩ : ∃ s1 : FSt, { sk with bud := sk.bud - 1 } = s1 := ⟨_, rfl⟩
      have HT4 : Hid (SeekAt (fairVC na m g A na ca mv) FSt.best 45 w0 bs rt s1 (.slice B rl c) vb (wg.setCell ⟨bs, 5, none⟩ (.int .i64 (sk.bud - 1)))) := by
        rw [Hid, ← hs1]; exact HT3.out.num 5 _ rfl rfl
      by_cases hbz : sk.bud - 1 < 0
      · have HF : Hid (goF na g ab (f + 1) rt st = s1) := by
          have h1 := goK_out HSK.out hb0 HMAY.out hbz
          have h := goK_stop (n := na) (g := g) (ab := ab) (f := f) (given := rt) (st := st) (k := k + 1) (by rw [h1]; exact hbz) (na - (k + 1))
          rw [show k + 1 + (na - (k + 1)) = na by omega, h1] at h
          rw [Hid, HG0.out, h, hs1]
        have hd : decide (sk.bud - 1 < 0) = true := decide_eq_true hbz
        clear hs1 hbz
        go_wp2
        exact bodyPost_ret (results_none rfl _ _ _) rfl ⟨_, _, rfl, by rw [HF.out]; exact HT4.out⟩
      have HF := Lib.hid (goK_on HSK.out hb0 HMAY.out hbz)
      rw [hs1] at HF
      have hs0 : 0 ≤ s1.bud := by rw [← hs1]; simp only; omega
      have HIN1 : Hid (FIn budget 12 s1) := by
        have h := HKIN.out
        rw [Hid, ← hs1]
        exact ⟨by simp only; omega, by have := h.hi; simp only; omega, h.len, h.least⟩
      have hd : decide (sk.bud - 1 < 0) = false := decide_eq_false hbz
      clear hs1 hbz
      go_wp2_with (at_builtin; refine wpList_push2 (by rfl) (.tmp 95) (.tmp 97) 24 (by rfl) w0.heap.size 2 1 Try.underlying24 infoI64 (by rfl) (by decide) i64cells i64cells_len i64cells_one _ (.slice B rl c) rt (k : Int) (by rfl) (by rfl) HT4.out.route (by first | rfl | simp [go_sem]) (by rw [HRL.out]; omega) (by decide) HT4.out.below.size ?_)
      intro v' w' hown' hb' hkp hob
      have hrk : (rt ++ [(k : Int)]).length = rl + 1 := by rw [List.length_append, HRL.out]; rfl
      have HRK := Lib.hid hrk
      obtain ⟨G7, cap7, rfl, _, _⟩ := hown'.block (by simp)
      rw [hrk] at hown' hob ⊢
      have hap := SeekAt.append (i := 6) HT4.out hown' hb' (fun b hb hne => hkp b (by simpa using hb) hne) (by simpa using hob) rfl
      have HBX7 := Lib.hid hap.1
      have HT7 := Lib.hid hap.2
      clear y0 y1 y2 y3 y4 y5 y6 y7 y8 dd lb hown' hb' hkp hob hap hrk HT4 hd
      have z6 := HBX7.out.cell 6
      have dz := HBX7.out.frozen
      have lz := HBX7.out.lt
      simp [fairVC] at z6
      go_wp2_with fail
      obtain ⟨w7, hw7⟩ : ∃ w7, w'.setCell ⟨bs, 6, none⟩ (.slice (some ⟨G7, 0, none⟩) (rl + 1) cap7) = w7 := ⟨_, rfl⟩
      rw [hw7] at HT7 ⊢
      clear hw7 z6 dz lz
      (with_reducible refine (HIH.out (rt ++ [(k : Int)]) s1 _ vb _ HT7.out (by rw [HRK.out]; omega) (HPER.out.add hkn) HIN1.out hs0).mono ?_)
      rintro e w8 ⟨vr8, vb8, rfl, hT8⟩
      rw [← HF.out] at hT8
      obtain ⟨G8, cap8, rfl, _, _⟩ := hT8.route.block (by simp)
      have hcap8 : rl + 1 ≤ cap8 := by
        obtain ⟨A', c', e, hc', _, _⟩ := hT8.route.slice i64cells_len
        injection e with _ _ e3
        rw [HRK.out] at hc'; omega
      rw [HRK.out] at hT8
      obtain ⟨s2, hs2⟩ : ∃ s2, goK na g ab f rt st (k + 1) = s2 := ⟨_, rfl⟩
      have HKIN2 := Lib.hid (HKI.out (k + 1))
      rw [hs2] at hT8 HKIN2
      have HS2 := Lib.hid hs2
      have HT9 := Lib.hid hT8
      have y6 : w8.cell? ⟨bs, 6, none⟩ = some (.slice (some ⟨G8, 0, none⟩) (rl + 1) cap8) := hT8.box.cell 6
      have dd := hT8.box.frozen
      have lb := hT8.box.lt
      have e1 : IntKind.i64.wrap ((rl : Int) + 1 - 1) = (rl : Int) := by rw [Int.add_sub_cancel]; exact IntWalk.i64_in _ (by omega)
      have e1b : IntKind.i64.wrap (rl : Int) = (rl : Int) := IntWalk.i64_in _ (by omega)
      have e2 : (0 : Int) ≤ (rl : Int) := by omega
      have e3 : (rl : Int) ≤ (cap8 : Int) := by omega
      clear hT8 hs2
      have hsub := fun (g : Sub w8) b o (h : b < w8.heap.size) => g.cell b o h
      go_wp2_with fail
      refine wp_region_sub_tail 14 (by kernel_rfl) (by kernel_rfl) ?_
      simp only [List.take_succ_cons, List.take_zero, List.drop_succ_cons, List.drop_zero]
      repeat (go_big_quiet_step (fail))
      refine wpQuiet_nil ?_
      intro wg hg
      have HTA := Lib.hid (HT9.out.grow hg)
      clear y6 dd lb e1 e1b e2 e3 hsub hg
      have HTZ : Hid (SeekAt (fairVC na m g A na ca mv) FSt.best 45 w0 bs rt s2 (.slice (some ⟨G8, 0, none⟩) rl cap8) vb8 (wg.setCell ⟨bs, 6, none⟩ (.slice (some ⟨G8, 0, none⟩) rl cap8))) :=
        HTA.out.put 6 _ rfl HTA.out.route.shrink HTA.out.best HTA.out.rb HTA.out.bb HTA.out.ne
      obtain ⟨y0, y1, y2, y3, y4, y5, y6, y7, y8, dd, lb⟩ := fairV_cells HTA.out
      have hb20 := HKIN2.out.lo
      have hb21 := HKIN2.out.hi
      by_cases hbz : s2.bud < 0
      · have HG2 : Hid (goF na g ab (f + 1) rt st = s2) := by
          have h := goK_stop (n := na) (g := g) (ab := ab) (f := f) (given := rt) (st := st) (k := k + 1) (by rw [HS2.out]; exact hbz) (na - (k + 1))
          rw [show k + 1 + (na - (k + 1)) = na by omega, HS2.out] at h
          rw [Hid, HG0.out, h]
        have hd : decide (s2.bud < 0) = true := decide_eq_true hbz
        clear hbz
        go_wp2
        exact bodyPost_ret (results_none rfl _ _ _) rfl ⟨_, _, rfl, by rw [HG2.out]; exact HTZ.out⟩
      · have hd : decide (s2.bud < 0) = false := decide_eq_false hbz
        have hnz : 0 ≤ s2.bud := by omega
        clear hbz
        go_wp2
        go_roundg (na - (k + 1))
        case measure => have := Hgk.out; omega
        case rel => exact ⟨k + 1, _, _, by omega, rfl, by go_num, by rw [HS2.out]; exact hnz, by rw [HS2.out]; exact HTZ.out⟩

end Go.Proofs.Ytbblgididefgdaa
