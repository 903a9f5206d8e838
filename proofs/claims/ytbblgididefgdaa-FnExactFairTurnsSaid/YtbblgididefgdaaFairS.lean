/- The reference's search for the fairest turns: run. -/
import Derived.Test.YtbblgididefgdaaFairP
import Derived.Test.YtbblgididefgdaaTurnQ
import Derived.Test.YtbblgididefgdaaSeek
import Derived.Test.YtbblgididefgdaaCopyN
namespace Go.Proofs.Ytbblgididefgdaa
open Go.RowKit

def fairSC (n m g : Nat) (budget : Int) (A : Option Addr) (na ca : Nat) (vr vb : Value) (st : FSt) : Array Value := #[.int .i64 n, .int .i64 m, .int .i64 g, .slice A na ca, vr, vb, .int .i64 st.least, .int .i64 (if st.bud < 0 then budget else budget - st.bud), .int .i64 budget, .bool (decide (st.bud < 0))]
theorem fairS_cells {n m g : Nat} {budget : Int} {A : Option Addr} {na ca : Nat} {T : TypeId} {w0 w : World} {bs : Nat} {rt : List Int} {st : FSt} {vr vb : Value} (h : SeekAt (fairSC n m g budget A na ca) FSt.best T w0 bs rt st vr vb w) (h0 : 0 ≤ st.bud) :
    w.cell? ⟨bs, 0, none⟩ = some (.int .i64 n) ∧ w.cell? ⟨bs, 1, none⟩ = some (.int .i64 m) ∧ w.cell? ⟨bs, 2, none⟩ = some (.int .i64 g) ∧ w.cell? ⟨bs, 3, none⟩ = some (.slice A na ca) ∧ w.cell? ⟨bs, 4, none⟩ = some vr ∧ w.cell? ⟨bs, 5, none⟩ = some vb ∧ w.cell? ⟨bs, 6, none⟩ = some (.int .i64 st.least) ∧ w.cell? ⟨bs, 7, none⟩ = some (.int .i64 (budget - st.bud)) ∧ w.cell? ⟨bs, 8, none⟩ = some (.int .i64 budget) ∧ w.cell? ⟨bs, 9, none⟩ = some (.bool false) ∧ (∀ i, w.frozen? ⟨bs, i, none⟩ = false) ∧ bs < w.heap.size :=
  ⟨h.box.cell 0, h.box.cell 1, h.box.cell 2, h.box.cell 3, h.box.cell 4, h.box.cell 5, h.box.cell 6, (h.box.cell 7).trans (by unfold fairSC; simp only [if_neg (Int.not_lt.2 h0)]; rfl), h.box.cell 8, (h.box.cell 9).trans (by unfold fairSC; rw [decide_eq_false (Int.not_lt.2 h0)]; rfl), h.box.frozen, h.box.lt⟩
def FairOut (C : Value → Value → FSt → Array Value) (T : TypeId) (w0 : World) (bs : Nat) (rt : List Int) (st : FSt) (e : Ending) (w' : World) : Prop := ∃ vr' vb', e = .returned (.tuple #[]) ∧ SeekAt C FSt.best T w0 bs rt st vr' vb' w'
set_option maxRecDepth 100000 in
set_option maxHeartbeats 2000000 in
theorem fairRun_any (n m g : Nat) (budget : Int) (A : Option Addr) (na ca : Nat) (ab : List Row) (w0 : World) (bs : Nat) (hx : Row.Sl w0 A na ab) (hok : TurnsOk n m g ab) (hna : na = n) (hU0 : 1 ≤ budget) (hU1 : budget ≤ 20000) :
    ∀ (f : Nat) (rt : List Int) (st : FSt) (vr vb : Value) (w : World), SeekAt (fairSC n m g budget A na ca) FSt.best 36 w0 bs rt st vr vb w → rt.length + f = m → FIn budget 12 st → 0 ≤ st.bud →
    Calls Try.prog 16 #[.pointer (some ⟨bs, 0, none⟩)] w (FairOut (fairSC n m g budget A na ca) 36 w0 bs rt (goF n g ab f rt st)) := by
  have HX := Lib.hid hx
  obtain ⟨hn1, hn8, hm12, hg1, hg12, hlen, hrow⟩ := hok
  subst hna
  clear hx hlen hrow
  intro f
  induction f with
  | zero =>
    intro rt st vr vb w hT hrm hin h0
    obtain ⟨B, c, rfl, hc1, hc2, hB⟩ := hT.route.look
    have hrm' : rt.length = m := by omega
    have HRM := Lib.hid hrm'
    rw [hrm'] at hT hc1
    have HT := Lib.hid hT
    obtain ⟨y0, y1, y2, y3, y4, y5, y6, y7, y8, y9, dd, lb⟩ := fairS_cells hT h0
    have hq : ((m : Int) == (m : Int)) = true := by simp
    clear hrm hrm' hT
    go_enter Try.func16, Try.ntmps16
    have hsub := fun (g : Sub w) b o (h : b < w.heap.size) => g.cell b o h
    go_wp2_with fail
    refine wp_region_sub (by kernel_rfl) (by kernel_rfl) ?_
    repeat (go_big_quiet_step (fail))
    refine wpQuiet_nil ?_
    intro wg hg
    have HT1 := Lib.hid (HT.out.grow hg)
    clear y0 y1 y2 y3 y4 y5 y6 y7 y8 y9 dd lb hsub hg HT
    obtain ⟨y0, y1, y2, y3, y4, y5, y6, y7, y8, y9, dd, lb⟩ := fairS_cells HT1.out h0
    have HS1 : Hid (SliceOf wg 1 i64cells B m rt) := by have := HT1.out.route.sl i64cells_len; exact this
    go_wp2
    go_loopg [2, 3] na (fun gk s2 s3 wr => ∃ p : Nat, p ≤ na ∧ gk = na - p ∧ s2 = .int .i64 (mostN rt p) ∧ s3 = .int .i64 p ∧ wg = wr)
    case atStart => exact ⟨0, Nat.zero_le _, rfl, rfl, rfl, rfl⟩
    case round =>
      obtain ⟨p, hp, hgp, rfl, rfl, rfl⟩ := hrel
      have Hgp := Lib.hid hgp
      have hmp : mostN rt p ≤ 12 := by have := mostN_le rt p; have := HRM.out; omega
      obtain ⟨M, hM⟩ : ∃ M, mostN rt p = M := ⟨_, rfl⟩
      rw [hM] at hmp ⊢
      have HM := Lib.hid hM
      clear hgp hM
      by_cases hlt : p < na
      · go_wp2
        go_loopg [4, 5] m (fun gk s4 s5 wr => ∃ i : Nat, i ≤ m ∧ gk = m - i ∧ s4 = .int .i64 (((rt.take i).count (p : Int) : Nat) : Int) ∧ s5 = .int .i64 i ∧ wg = wr)
        case atStart => exact ⟨0, Nat.zero_le _, rfl, rfl, rfl, rfl⟩
        case round =>
          obtain ⟨i, hi, hgi, rfl, rfl, rfl⟩ := hrel
          have Hgi := Lib.hid hgi
          obtain ⟨K, hK⟩ : ∃ K, (rt.take i).count (p : Int) = K := ⟨_, rfl⟩
          have hK12 : K ≤ 12 := by
            rw [← hK]
            have h1 := List.count_le_length (a := (p : Int)) (l := rt.take i)
            have h2 := List.length_take_le i rt
            omega
          have HK := Lib.hid hK
          rw [hK]
          clear hgi hK
          by_cases hil : i < m
          · obtain ⟨b1, o1, y, rfl, hb1, hy, x0⟩ := ints_at HS1.out hil
            have HY := Lib.hid hy
            clear hy
            by_cases hc : y = (p : Int)
            · have hd : (y == (p : Int)) = true := by simp [hc]
              have HN : Hid ((rt.take (i + 1)).count (p : Int) = K + 1) := by
                rw [Hid, takeI_snoc HY.out, List.count_append, HK.out, hc]; simp
              clear hc
              go_wp2
              go_roundg (m - (i + 1))
              case measure => have := Hgi.out; omega
              case rel => exact ⟨i + 1, by omega, rfl, by rw [HN.out]; go_num, by go_num, rfl⟩
            · have hd : (y == (p : Int)) = false := by simp [hc]
              have HN : Hid ((rt.take (i + 1)).count (p : Int) = K) := by
                rw [Hid, takeI_snoc HY.out, List.count_append, HK.out]
                simp [List.count_cons, hd]
              clear hc
              go_wp2
              go_roundg (m - (i + 1))
              case measure => have := Hgi.out; omega
              case rel => exact ⟨i + 1, by omega, rfl, by rw [HN.out], by go_num, rfl⟩
          · have him : i = m := by omega
            subst him
            have HN : Hid (mostN rt (p + 1) = max M K) := by
              rw [List.take_of_length_le (by rw [HRM.out]; exact Nat.le_refl _)] at HK
              rw [Hid]
              unfold mostN
              rw [HM.out, HK.out]
            go_wp2_with fail
            refine (l00Max_any _ _ _).mono ?_
            rintro e w' ⟨rfl, rfl⟩
            have hmx : max (M : Int) (K : Int) = ((max M K : Nat) : Int) := by omega
            rw [hmx]
            clear hmx
            go_wp2
            go_roundg (na - (p + 1))
            case measure => have := Hgp.out; omega
            case rel => exact ⟨p + 1, by omega, rfl, by rw [HN.out], by go_num, rfl⟩
      · have hpn : p = na := by omega
        subst hpn
        by_cases hl : st.least < 0 ∨ (M : Int) < st.least
        · have HG : Hid (goF p g ab 0 rt st = ⟨st.bud, rt, M⟩) := leafS_yes HM.out hl
          have hl2 : decide (st.least < 0) = true ∨ decide (st.least < 0) = false ∧ decide ((M : Int) < st.least) = true := by
            by_cases h : st.least < 0
            · exact .inl (decide_eq_true h)
            · exact .inr ⟨decide_eq_false h, decide_eq_true (by omega)⟩
          clear hl
          have HT2 : Hid (SeekAt (fairSC p m g budget A p ca) FSt.best 36 w0 bs rt ⟨st.bud, st.best, M⟩ (.slice B m c) vb (wg.setCell ⟨bs, 6, none⟩ (.int .i64 (M : Int)))) := HT1.out.num 6 _ rfl rfl
          rcases hl2 with c1 | ⟨c1, c2⟩
          all_goals
            go_wp2_with fail
            obtain ⟨w2, hw2⟩ : ∃ w2, wg.setCell ⟨bs, 6, none⟩ (.int .i64 (M : Int)) = w2 := ⟨_, rfl⟩
            rw [hw2] at HT2 ⊢
            (with_reducible refine (l00Own_look (v := .slice B m c) HT2.out.route (by rw [HRM.out]; omega)).mono ?_)
            rintro e w3 ⟨v3, rfl, ho3, hb3⟩
            obtain ⟨B3, c3, rfl, _, _, _⟩ := ho3.look
            have hbn := HT2.out.best_new hb3 ho3 (Nat.le_refl _)
            have HT3 := Lib.hid (HT2.out.grow hb3)
            have HBN := Lib.hid hbn.2
            clear y0 y1 y2 y3 y4 y5 y6 y7 y8 y9 dd lb hb3 ho3 hbn c1 hw2
            try clear c2
            obtain ⟨y0, y1, y2, y3, y4, y5, y6, y7, y8, y9, dd, lb⟩ := fairS_cells HT3.out h0
            go_wp2
            refine bodyPost_ret (v := .tuple #[]) (by simp [results, Try.results16, go_sem]) rfl ⟨.slice B m c, .slice B3 rt.length c3, rfl, ?_⟩
            rw [HG.out]
            exact SeekAt.put HT3.out 5 _ rfl HBN.out.1 HBN.out.2.1 HT3.out.rb HBN.out.2.2.1 HBN.out.2.2.2
        · have HG : Hid (goF p g ab 0 rt st = st) := leafS_no HM.out hl
          have c1 : decide (st.least < 0) = false := decide_eq_false (fun h => hl (.inl h))
          have c2 : decide ((M : Int) < st.least) = false := decide_eq_false (fun h => hl (.inr h))
          clear hl
          go_wp2
          exact bodyPost_ret (v := .tuple #[]) (by simp [results, Try.results16, go_sem]) rfl ⟨_, _, rfl, by rw [HG.out]; exact HT1.out⟩
  | succ f ih =>
    intro rt st vr vb w hT hrm hin h0
    have HIH := Lib.hid ih
    obtain ⟨B, c, rfl, hc1, hc2, hB⟩ := hT.route.look
    obtain ⟨rl, hrl⟩ : ∃ rl, rt.length = rl := ⟨_, rfl⟩
    rw [hrl] at hT hc1 hrm
    have HRL := Lib.hid hrl
    have HT := Lib.hid hT
    have HIN := Lib.hid hin
    obtain ⟨y0, y1, y2, y3, y4, y5, y6, y7, y8, y9, dd, lb⟩ := fairS_cells hT h0
    have hq : ((rl : Int) == (m : Int)) = false := by simp; omega
    clear hT hrl ih
    go_enter Try.func16, Try.ntmps16
    have hsub := fun (g : Sub w) b o (h : b < w.heap.size) => g.cell b o h
    go_wp2_with fail
    refine wp_region_sub (by kernel_rfl) (by kernel_rfl) ?_
    repeat (go_big_quiet_step (fail))
    refine wpQuiet_nil ?_
    intro wg hg
    have HT1 := Lib.hid (HT.out.grow hg)
    clear y0 y1 y2 y3 y4 y5 y6 y7 y8 y9 dd lb hsub hg HT hq
    have HG0 := Lib.hid (goF_succ na g ab f rt st)
    have HKI := Lib.hid (goK_in (n := na) (g := g) (ab := ab) (f := f) (given := rt) (st := st) HIN.out (by rw [HRL.out]; omega))
    go_wp2
    go_loopg [6] na (fun gk s6 wr => ∃ (k : Nat) (vr vb : Value), k ≤ na ∧ gk = na - k ∧ s6 = .int .i64 k ∧ SeekAt (fairSC na m g budget A na ca) FSt.best 36 w0 bs rt (goK na g ab f rt st k) vr vb wr)
    case atStart => exact ⟨0, _, _, Nat.zero_le _, rfl, rfl, by rw [goK_zero]; exact HT1.out⟩
    case round =>
      obtain ⟨k, vr, vb, hk, hgk, rfl, hT⟩ := hrel
      have Hgk := Lib.hid hgk
      obtain ⟨sk, hsk⟩ : ∃ sk, goK na g ab f rt st k = sk := ⟨_, rfl⟩
      have HKIN := Lib.hid (HKI.out k)
      rw [hsk] at hT HKIN
      have HSK := Lib.hid hsk
      clear hgk hsk
      by_cases hkn : k < na
      rotate_left
      · have hkk : k = na := by omega
        subst hkk
        have y0 := hT.box.cell 0
        have lb := hT.box.lt
        have HT2 := Lib.hid hT
        simp [fairSC] at y0
        clear hT
        go_wp2
        exact bodyPost_ret (v := .tuple #[]) (by simp [results, Try.results16, go_sem]) rfl ⟨_, _, rfl, by rw [HG0.out, HSK.out]; exact HT2.out⟩
      by_cases hb0 : 0 ≤ sk.bud
      rotate_left
      · have y0 := hT.box.cell 0
        have y9 : wr.cell? ⟨bs, 9, none⟩ = some (.bool true) := (hT.box.cell 9).trans (by unfold fairSC; rw [decide_eq_true (by omega : sk.bud < 0)]; rfl)
        have lb := hT.box.lt
        have HT2 := Lib.hid hT
        have HFN : Hid (goF na g ab (f + 1) rt st = sk) := by
          have h := goK_stop (n := na) (g := g) (ab := ab) (f := f) (given := rt) (st := st) (k := k) (by rw [HSK.out]; omega) (na - k)
          rw [show k + (na - k) = na by omega, HSK.out] at h
          rw [Hid, HG0.out, h]
        simp [fairSC] at y0
        clear hT hb0
        go_wp2
        exact bodyPost_ret (v := .tuple #[]) (by simp [results, Try.results16, go_sem]) rfl ⟨_, _, rfl, by rw [HFN.out]; exact HT2.out⟩
      obtain ⟨B, c, rfl, hc1, hc2, hB⟩ := hT.route.look
      rw [HRL.out] at hT hc1
      have HT2 := Lib.hid hT
      have hrl12 : rl + 1 ≤ m := by omega
      obtain ⟨N, hN⟩ : ∃ N, budget - sk.bud = N := ⟨_, rfl⟩
      have hN0 : 0 ≤ N := by have := HKIN.out.hi; omega
      have hN1 : N ≤ budget := by omega
      have HN := Lib.hid hN
      obtain ⟨y0, y1, y2, y3, y4, y5, y6, y7, y8, y9, dd, lb⟩ := fairS_cells hT hb0
      rw [hN] at y7
      clear hT hN
      go_wp2_with fail
      have HNC : Hid (SliceOf wr 1 i64cells B rl rt) := HT2.out.route.sl i64cells_len
      have HXC := Lib.hid (HX.out.below HT2.out.below)
      have hsub := fun (g : Sub wr) b o (h : b < wr.heap.size) => g.cell b o h
      cases hmay : mayB g ab rt k
      · go_wp2_with fail
        refine wp_region_sub (by kernel_rfl) (by kernel_rfl) ?_
        repeat (go_big_quiet_step (exact Calls.sub_of_same_eq (l26May_any g A na ca ab B rl c rt k _ (HXC.out.below (Sub.below _)) (HNC.out.below (Sub.below _)) hg1 hg12 (by omega) hkn) (congrArg Value.bool hmay)))
        refine wpQuiet_nil ?_
        intro wg hg
        have HT3 := Lib.hid (HT2.out.grow hg)
        have HF : Hid (goK na g ab f rt st (k + 1) = sk) := goK_no HSK.out hmay
        clear y0 y1 y2 y3 y4 y5 y6 y7 y8 y9 dd lb hsub hg hmay
        go_wp2
        go_roundg (na - (k + 1))
        case measure => have := Hgk.out; omega
        case rel => exact ⟨k + 1, _, _, by omega, rfl, by go_num, by rw [HF.out]; exact HT3.out⟩
      go_wp2_with fail
      refine wp_region_sub (by kernel_rfl) (by kernel_rfl) ?_
      repeat (go_big_quiet_step (exact Calls.sub_of_same_eq (l26May_any g A na ca ab B rl c rt k _ (HXC.out.below (Sub.below _)) (HNC.out.below (Sub.below _)) hg1 hg12 (by omega) hkn) (congrArg Value.bool hmay)))
      refine wpQuiet_nil ?_
      intro wg hg
      have HT3 := Lib.hid (HT2.out.grow hg)
      have HMAY := Lib.hid hmay
      clear y0 y1 y2 y3 y4 y5 y6 y7 y8 y9 dd lb hsub hg hmay HT2 HNC HXC
      go_wp2_with fail
      obtain ⟨w1, hw1⟩ : ∃ w1, wg = w1 := ⟨_, rfl⟩
      rw [hw1] at HT3 ⊢
      clear hw1
      obtain ⟨y0, y1, y2, y3, y4, y5, y6, y7, y8, y9, dd, lb⟩ := fairS_cells HT3.out hb0
      rw [HN.out] at y7
      have hsub := fun (g : Sub w1) b o (h : b < w1.heap.size) => g.cell b o h
      by_cases hbz : sk.bud - 1 < 0
      · have hbe : N = budget := by have := HN.out; omega
        have HF : Hid (goF na g ab (f + 1) rt st = { sk with bud := sk.bud - 1 }) := by
          have h1 := goK_out HSK.out hb0 HMAY.out hbz
          have h := goK_stop (n := na) (g := g) (ab := ab) (f := f) (given := rt) (st := st) (k := k + 1) (by rw [h1]; exact hbz) (na - (k + 1))
          rw [show k + 1 + (na - (k + 1)) = na by omega, h1] at h
          rw [Hid, HG0.out, h]
        have HBZ : Hid (sk.bud = 0) := by rw [Hid]; omega
        subst hbe
        have hq : (N == N) = true := by simp
        go_wp2_with fail
        refine wp_region_sub (by kernel_rfl) (by kernel_rfl) ?_
        repeat (go_big_quiet_step (fail))
        refine wpQuiet_nil ?_
        intro wg hg
        have HT4 := Lib.hid (HT3.out.grow hg)
        clear y0 y1 y2 y3 y4 y5 y6 y7 y8 y9 dd lb hsub hg hbz hq
        obtain ⟨y0, y1, y2, y3, y4, y5, y6, y7, y8, y9, dd, lb⟩ := fairS_cells HT4.out hb0
        go_wp2
        refine bodyPost_ret (v := .tuple #[]) (by simp [results, Try.results16, go_sem]) rfl ⟨.slice B rl c, vb, rfl, ?_⟩
        rw [HF.out]
        refine HT4.out.num (st' := { sk with bud := sk.bud - 1 }) 9 _ ?_ rfl
        unfold fairSC
        simp only [HBZ.out]
        simp
      have HF := Lib.hid (goK_on HSK.out hb0 HMAY.out hbz)
      obtain ⟨s1, hs1⟩ : ∃ s1 : FSt, { sk with bud := sk.bud - 1 } = s1 := ⟨_, rfl⟩
      have hs0 : 0 ≤ s1.bud := by rw [← hs1]; simp only; omega
      have HIN1 : Hid (FIn budget 12 s1) := by
        have h := HKIN.out
        rw [Hid, ← hs1]
        exact ⟨by simp only; omega, by have := h.hi; simp only; omega, h.len, h.least⟩
      have HC1 : Hid (∀ vr vb, fairSC na m g budget A na ca vr vb s1 = (fairSC na m g budget A na ca vr vb sk).setIfInBounds 7 (.int .i64 (N + 1))) := fun vr vb => by
        rw [← hs1]
        unfold fairSC
        simp only [if_neg hbz, decide_eq_false hbz, if_neg (Int.not_lt.2 hb0), decide_eq_false (Int.not_lt.2 hb0)]
        rw [← HN.out, show budget - (sk.bud - 1) = budget - sk.bud + 1 by omega]
        rfl
      have HBS : Hid (s1.best = sk.best) := by rw [Hid, ← hs1]
      rw [hs1] at HF
      have hq : (N == budget) = false := by simp; have := HN.out; omega
      clear hs1
      go_wp2_with fail
      refine wp_region_sub (by kernel_rfl) (by kernel_rfl) ?_
      repeat (go_big_quiet_step (fail))
      refine wpQuiet_nil ?_
      intro wg hg
      have HT4 := Lib.hid (HT3.out.grow hg)
      clear y0 y1 y2 y3 y4 y5 y6 y7 y8 y9 dd lb hsub hg hbz hq
      obtain ⟨y0, y1, y2, y3, y4, y5, y6, y7, y8, y9, dd, lb⟩ := fairS_cells HT4.out hb0
      rw [HN.out] at y7
      have HT5 : Hid (SeekAt (fairSC na m g budget A na ca) FSt.best 36 w0 bs rt s1 (.slice B rl c) vb (wg.setCell ⟨bs, 7, none⟩ (.int .i64 (N + 1)))) := HT4.out.num 7 _ (HC1.out _ _) HBS.out
      go_wp2_with (at_builtin; refine wpList_push2 (by rfl) (.tmp 126) (.tmp 128) 24 (by rfl) w0.heap.size 2 1 Try.underlying24 infoI64 (by rfl) (by decide) i64cells i64cells_len i64cells_one _ (.slice B rl c) rt (k : Int) (by rfl) (by rfl) HT5.out.route (by first | rfl | simp [go_sem]) (by rw [HRL.out]; omega) (by decide) HT5.out.below.size ?_)
      intro v' w' hown' hb' hkp hob
      have hrk : (rt ++ [(k : Int)]).length = rl + 1 := by rw [List.length_append, HRL.out]; rfl
      have HRK := Lib.hid hrk
      obtain ⟨G7, cap7, rfl, _, _⟩ := hown'.block (by simp)
      rw [hrk] at hown' hob ⊢
      have hap := SeekAt.append (i := 4) HT5.out hown' hb' (fun b hb hne => hkp b (by simpa using hb) hne) (by simpa using hob) rfl
      have HBX7 := Lib.hid hap.1
      have HT7 := Lib.hid hap.2
      clear y0 y1 y2 y3 y4 y5 y6 y7 y8 y9 dd lb hown' hb' hkp hob hap hrk HT5
      have z4 := HBX7.out.cell 4
      have dz := HBX7.out.frozen
      have lz := HBX7.out.lt
      simp [fairSC] at z4
      go_wp2_with fail
      obtain ⟨w7, hw7⟩ : ∃ w7, w'.setCell ⟨bs, 4, none⟩ (.slice (some ⟨G7, 0, none⟩) (rl + 1) cap7) = w7 := ⟨_, rfl⟩
      rw [hw7] at HT7 ⊢
      clear hw7 z4 dz lz
      (with_reducible refine (HIH.out (rt ++ [(k : Int)]) s1 _ vb _ HT7.out (by rw [HRK.out]; omega) HIN1.out hs0).mono ?_)
      rintro e w8 ⟨vr8, vb8, rfl, hT8⟩
      rw [← HF.out] at hT8
      obtain ⟨G8, cap8, rfl, _, _⟩ := hT8.route.block (by simp)
      have hcap8 : rl + 1 ≤ cap8 := by
        obtain ⟨A', c', e, hc', _, _⟩ := hT8.route.slice i64cells_len
        injection e with _ _ e3
        rw [HRK.out] at hc'; omega
      rw [HRK.out] at hT8
      have HT9 := Lib.hid hT8
      have y4 : w8.cell? ⟨bs, 4, none⟩ = some (.slice (some ⟨G8, 0, none⟩) (rl + 1) cap8) := hT8.box.cell 4
      have dd := hT8.box.frozen
      have lb := hT8.box.lt
      have e1 : IntKind.i64.wrap ((rl : Int) + 1 - 1) = (rl : Int) := by rw [Int.add_sub_cancel]; exact IntWalk.i64_in _ (by omega)
      have e1b : IntKind.i64.wrap (rl : Int) = (rl : Int) := IntWalk.i64_in _ (by omega)
      have e2 : (0 : Int) ≤ (rl : Int) := by omega
      have e3 : (rl : Int) ≤ (cap8 : Int) := by omega
      clear hT8
      have hsub := fun (g : Sub w8) b o (h : b < w8.heap.size) => g.cell b o h
      go_wp2_with fail
      refine wp_region_sub_tail 14 (by kernel_rfl) (by kernel_rfl) ?_
      simp only [List.take_succ_cons, List.take_zero, List.drop_succ_cons, List.drop_zero]
      repeat (go_big_quiet_step (fail))
      refine wpQuiet_nil ?_
      intro wg hg
      have HTA := Lib.hid (HT9.out.grow hg)
      clear y4 dd lb e1 e1b e2 e3 hsub hg
      have y4 : wg.cell? ⟨bs, 4, none⟩ = some (.slice (some ⟨G8, 0, none⟩) (rl + 1) cap8) := HTA.out.box.cell 4
      have dd := HTA.out.box.frozen
      have lb := HTA.out.box.lt
      have HTZ : Hid (SeekAt (fairSC na m g budget A na ca) FSt.best 36 w0 bs rt (goK na g ab f rt st (k + 1)) (.slice (some ⟨G8, 0, none⟩) rl cap8) vb8 (wg.setCell ⟨bs, 4, none⟩ (.slice (some ⟨G8, 0, none⟩) rl cap8))) :=
        HTA.out.put 4 _ rfl HTA.out.route.shrink HTA.out.best HTA.out.rb HTA.out.bb HTA.out.ne
      go_wp2
      go_roundg (na - (k + 1))
      case measure => have := Hgk.out; omega
      case rel => exact ⟨k + 1, _, _, by omega, rfl, by go_num, HTZ.out⟩

end Go.Proofs.Ytbblgididefgdaa
