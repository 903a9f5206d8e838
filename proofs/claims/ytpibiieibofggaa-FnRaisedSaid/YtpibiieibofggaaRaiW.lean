/- The program's search for the least raise of levels: visit, all of it. -/
import Derived.Test.YtpibiieibofggaaRaiV
namespace Go.Proofs.Ytpibiieibofggaa
open Go.RowKit

set_option maxRecDepth 100000 in
set_option maxHeartbeats 2000000 in
theorem visit_any (w0 : World) (bs bl : Nat) (LA : Option Addr) (n cap : Nat) (A : Option Addr) (c : Nat) (most budget : Int) (ps : List RegionR) (xs : List Region) (hxs : ps.map RegionR.val = xs) (hv : regionsB xs = true) (hn : xs.length = n)
    (hns : ∀ W, Span bl (bl + 1) w0 W → Region.Sl W A n xs ∧ ∀ p ∈ ps, p.In W) (hLA : 0 < n → LA = some ⟨bl, 0, none⟩) (hab : 0 < n → ∀ b o, A = some ⟨b, o, none⟩ → b ≠ bl) (hU1 : budget ≤ 20000) :
    ∀ (f : Nat) (rt : List Int) (sum : Int) (st : RSt) (lv : List Int) (vb : Value) (i : Int) (w : World), VisAt w0 bs bl LA n cap A c most ps lv st.bud st.least st.best vb w → lv.length = n → lv.take rt.length = rt → rt.length + f = n → i = (rt.length : Int) → RIn budget st → 0 ≤ st.bud → 0 ≤ sum → sum + 4 * (f : Int) ≤ 40 →
    Calls Try.prog 30 #[.pointer (some ⟨bs, 0, none⟩), .int .i64 i, .int .i64 sum] w (VisOut w0 bs bl LA n cap A c most ps rt f (goR xs most f rt sum st)) := by
  have h8 : n ≤ 8 := by rw [← hn]; exact regionsB_len hv
  have HNS := Lib.hid hns
  have HXS := Lib.hid hxs
  have HN := Lib.hid hn
  have HV := Lib.hid hv
  have HLV := Lib.hid (regionsB_levels hv)
  clear hns hxs hn hv
  intro f
  induction f with
  | zero =>
    intro rt sum st lv vb i w hT hlv htk hrf hi hin h0 hs0 hs1
    have hrt : rt.length = n := by omega
    have he : lv = rt := by rw [← htk, List.take_of_length_le (by omega)]
    subst he
    subst hi
    rw [hrt]
    exact visitLeaf_any w0 bs bl LA n cap A c most budget ps xs HXS.out HV.out HN.out HNS.out lv sum st vb w hT hrt hLA hin h0 hs0 (by omega)
  | succ f ih =>
    intro rt sum st lv vb i w hT hlv htk hrf hi hin h0 hs0 hs1
    have HIH := Lib.hid ih
    obtain ⟨rl, hrl⟩ : ∃ rl, rt.length = rl := ⟨_, rfl⟩
    rw [hrl] at htk hrf hi
    subst hi
    have HRL := Lib.hid hrl
    have HT := Lib.hid hT
    have HIN := Lib.hid hin
    have hrln : rl < n := by omega
    have hla0 := hLA (by omega)
    subst hla0
    have hq : ((rl : Int) == (n : Int)) = false := by simp; omega
    have HG0 : Hid (goR xs most (f + 1) rt sum st = goRK xs most f rt sum st (roundsAt xs rl)) := by rw [Hid, goR_succ, HRL.out]
    have HKI : Hid (∀ k, k ≤ roundsAt xs rl → RIn budget (goRK xs most f rt sum st k)) := by
      have h := goRK_in (most := most) (sum := sum) (f := f) (lv := rt) HLV.out (by rw [HN.out]; exact h8) HIN.out (by rw [HRL.out, HN.out]; omega) hs0 (by omega)
      rw [HRL.out] at h
      exact h
    have hla := HLV.out rl (by rw [HN.out]; exact hrln)
    obtain ⟨a, ha⟩ : ∃ a, levelAt xs rl = a := ⟨_, rfl⟩
    obtain ⟨R, hR⟩ : ∃ R, roundsAt xs rl = R := ⟨_, rfl⟩
    have haR : a + (R : Int) = 6 := by
      rw [← hR, ← ha]; unfold roundsAt; omega
    rw [hR] at HG0 HKI
    rw [ha] at hla
    obtain ⟨ha1, ha5⟩ := hla
    have HLA : Hid (levelAt xs rt.length = a) := by rw [Hid, HRL.out]; exact ha
    have HAA := Lib.hid ha
    obtain ⟨b1, o1, X1, rfl, hb1, hX1, hz1, hz2⟩ := level_cell (HNS.out w HT.out.below).1 hrln
    clear hz1 hz2
    have HLC : Hid (∀ W, Span bl (bl + 1) w0 W → W.cell? ⟨b1, o1 + rl * 3 + 1, none⟩ = some (.int .i64 a) ∧ b1 < W.heap.size) := fun W h => by
      obtain ⟨b2, o2, X2, hA, hb2, _, _, hc⟩ := level_cell (HNS.out W h).1 hrln
      injection hA with hA
      injection hA with e1 e2 _
      subst e1 e2
      rw [HAA.out] at hc
      exact ⟨hc, hb2⟩
    have hb1l : b1 ≠ bl := hab (by omega) b1 o1 rfl
    have hb1s : b1 ≠ bs := by have := (HLC.out w0 (Span.refl _ _ _)).2; have := HT.out.base; omega
    have hb1s' : bs ≠ b1 := fun e => hb1s e.symm
    have hbsl : bs ≠ bl := by have := HT.out.lt bl rfl; have := HT.out.base; omega
    have HHS : Hid (sum + 4 * ((f + 1 : Nat) : Int) ≤ 40) := hs1
    have hs40 : sum ≤ 40 := by omega
    have HLEN := Lib.hid hlv
    have HTK0 := Lib.hid htk
    obtain ⟨lvc, _⟩ := HLC.out w HT.out.below
    obtain ⟨BB, bc, rfl, hz1, hz2, hz3⟩ := HT.out.best.look
    clear hz1 hz2 hz3
    obtain ⟨BL, hBL⟩ : ∃ BL, st.best.length = BL := ⟨_, rfl⟩
    rw [hBL] at HT
    obtain ⟨y0, y1, y2, y3, y4, y5, dd, lb⟩ := HT.out.cells
    clear hT hrl ih hin hX1 hR ha hs1 hb1 hlv htk hBL
    go_enter Try.func30, Try.ntmps30
    go_wp2
    clear y0 y1 y2 y3 y4 y5 dd lb hq lvc
    go_loopg [8] R (fun gk s8 wr => ∃ (k : Nat) (lv : List Int) (vb : Value) (b : Int), k ≤ R ∧ gk = R - k ∧ s8 = .int .i64 (a + (k : Int)) ∧ lv.length = n ∧ lv.take rl = rt ∧ (0 ≤ (goRK xs most f rt sum st k).bud ∧ b = (goRK xs most f rt sum st k).bud ∨ (goRK xs most f rt sum st k).bud < 0 ∧ -(f : Int) ≤ b ∧ b < 0) ∧ VisAt w0 bs bl (some ⟨bl, 0, none⟩) n cap (some ⟨b1, o1, none⟩) c most ps lv b (goRK xs most f rt sum st k).least (goRK xs most f rt sum st k).best vb wr)
    case atStart => exact ⟨0, lv, _, _, Nat.zero_le _, rfl, by simp, HLEN.out, HTK0.out, .inl ⟨by rw [goRK_zero]; exact h0, by rw [goRK_zero]⟩, by rw [goRK_zero]; exact HT.out⟩
    case round =>
      obtain ⟨k, lv, vb, b, hk, hgk, rfl, hlen, htk, hbud, hT⟩ := hrel
      have Hgk := Lib.hid hgk
      obtain ⟨sk, hsk⟩ : ∃ sk, goRK xs most f rt sum st k = sk := ⟨_, rfl⟩
      have HKIN := Lib.hid (HKI.out k hk)
      rw [hsk] at hT HKIN hbud
      have HSK := Lib.hid hsk
      have HLEN := Lib.hid hlen
      have HTK := Lib.hid htk
      obtain ⟨lw, hlw⟩ : ∃ lw, a + (k : Int) = lw := ⟨_, rfl⟩
      have HLW := Lib.hid hlw
      have hlw1 : 1 ≤ lw := by omega
      have hlw6 : lw ≤ 6 := by omega
      rw [hlw]
      obtain ⟨BB, bc, rfl, hz1, hz2, hz3⟩ := hT.best.look
      clear hz1 hz2 hz3
      obtain ⟨BL, hBL⟩ : ∃ BL, sk.best.length = BL := ⟨_, rfl⟩
      rw [hBL] at hT
      have HT2 := Lib.hid hT
      clear hgk hsk hlen htk hBL
      by_cases hkn : k < R
      rotate_left
      · have hkk : k = R := by omega
        subst hkk
        have hd : decide (lw ≤ 5) = false := decide_eq_false (by omega)
        have HBD : Hid (0 ≤ sk.bud ∧ b = sk.bud ∨ sk.bud < 0 ∧ -((f + 1 : Nat) : Int) ≤ b ∧ b < 0) := by rcases hbud with h | ⟨h1, h2, h3⟩; exact .inl h; exact .inr ⟨h1, by omega, h3⟩
        clear hT hlw hbud
        go_wp2
        exact bodyPost_ret (results_none rfl _ _ _) rfl ⟨lv, b, _, rfl, HLEN.out, by rw [HRL.out]; exact HTK.out, by rw [HG0.out, HSK.out]; exact HBD.out, by rw [HG0.out, HSK.out]; exact HT2.out⟩
      have hlw5 : lw ≤ 5 := by omega
      have hd5 : decide (lw ≤ 5) = true := decide_eq_true hlw5
      clear hlw
      have hb20 : -10 ≤ b ∧ b ≤ 20000 := by
        have := HKIN.out.hi
        rcases hbud with ⟨h1, h2⟩ | ⟨h1, h2, h3⟩ <;> omega
      obtain ⟨hb10, hb20⟩ := hb20
      obtain ⟨y0, y1, y2, y3, y4, y5, dd, lb⟩ := hT.cells
      have HT3 := Lib.hid (hT.bud (b - 1))
      clear hT
      by_cases hbz : b - 1 < 0
      · have hd : decide (b - 1 < 0) = true := decide_eq_true hbz
        have HF : Hid (∃ s' : RSt, goR xs most (f + 1) rt sum st = s' ∧ s'.bud < 0 ∧ s'.least = sk.least ∧ s'.best = sk.best) := by
          rcases hbud with ⟨h1, h2⟩ | ⟨h1, h2, h3⟩
          · have e1 := goRK_out HSK.out h1 (by omega)
            have h := goRK_stop (xs := xs) (most := most) (sum := sum) (f := f) (lv := rt) (st := st) (k := k + 1) (by rw [e1]; simp only; omega) (R - (k + 1))
            rw [show k + 1 + (R - (k + 1)) = R by omega, e1] at h
            exact ⟨{ sk with bud := sk.bud - 1 }, by rw [HG0.out, h], by simp only; omega, rfl, rfl⟩
          · have h := goRK_stop (xs := xs) (most := most) (sum := sum) (f := f) (lv := rt) (st := st) (k := k) (by rw [HSK.out]; omega) (R - k)
            rw [show k + (R - k) = R by omega, HSK.out] at h
            exact ⟨sk, by rw [HG0.out, h], h1, rfl, rfl⟩
        have hbl : -((f + 1 : Nat) : Int) ≤ b - 1 := by rcases hbud with ⟨h1, h2⟩ | ⟨h1, h2, h3⟩ <;> omega
        have HBLZ := Lib.hid hbl
        have HBZ := Lib.hid hbz
        obtain ⟨s', hs', hs0', hs1', hs2'⟩ := HF.out
        have HE1 := Lib.hid hs'
        have HE2 := Lib.hid hs0'
        have HT5 : Hid (VisAt w0 bs bl (some ⟨bl, 0, none⟩) n cap (some ⟨b1, o1, none⟩) c most ps lv (b - 1) s'.least s'.best (.slice BB BL bc) (wr.setCell ⟨bs, 3, none⟩ (.int .i64 (b - 1)))) := by rw [Hid, hs1', hs2']; exact HT3.out
        clear hbud hs' hs0' hs1' hs2' hbl hbz
        go_wp2
        exact bodyPost_ret (results_none rfl _ _ _) rfl ⟨lv, b - 1, _, rfl, HLEN.out, by rw [HRL.out]; exact HTK.out, by rw [HE1.out]; exact .inr ⟨HE2.out, HBLZ.out, HBZ.out⟩, by rw [HE1.out]; exact HT5.out⟩
      have hbd : 0 ≤ sk.bud ∧ b = sk.bud := by rcases hbud with h | ⟨h1, h2, h3⟩; exact h; omega
      obtain ⟨hb0, rfl⟩ := hbd
      have hd : decide (sk.bud - 1 < 0) = false := decide_eq_false hbz
      have HF := Lib.hid (goRK_on HSK.out hb0 hbz)
      rw [HLA.out, HLW.out] at HF
      obtain ⟨s1, hs1⟩ : ∃ s1 : RSt, { sk with bud := sk.bud - 1 } = s1 := ⟨_, rfl⟩
      have hs10 : 0 ≤ s1.bud := by rw [← hs1]; simp only; omega
      have HIN1 : Hid (RIn budget s1) := by
        have h := HKIN.out
        rw [Hid, ← hs1]
        exact ⟨by simp only; omega, by have := h.hi; simp only; omega, h.len, h.least⟩
      rw [hs1] at HF
      have HT5 : Hid (VisAt w0 bs bl (some ⟨bl, 0, none⟩) n cap (some ⟨b1, o1, none⟩) c most ps (lv.set rl lw) s1.bud s1.least s1.best (.slice BB BL bc) ((wr.setCell ⟨bs, 3, none⟩ (.int .i64 (sk.bud - 1))).setCell ⟨bl, rl * 3 + 1, none⟩ (.int .i64 lw))) := by
        rw [Hid, ← hs1]; exact HT3.out.level rfl rl lw
      obtain ⟨lvc, lb1⟩ := HLC.out wr HT2.out.below
      have hsl := HT2.out.sl (HNS.out _ HT2.out.below).2
      obtain ⟨b2, o2, r2, hA2, hb2, _, _, _, x1, _⟩ := hsl.at_ hrln
      injection hA2 with hA2
      injection hA2 with he1 he2 _
      subst he1 he2
      simp only [Nat.zero_add] at x1
      obtain ⟨u, hu⟩ : ∃ u, wr.cell? ⟨bl, rl * 3 + 1, none⟩ = some u := ⟨_, x1⟩
      have fl := HT2.out.list.frozen
      have hes : sum + lw - a = sum + (k : Int) := by have := HLW.out; omega
      have hk4 : (k : Int) ≤ 4 := by have := HLW.out; omega
      have HES := Lib.hid hes
      have HLN2 : Hid ((lv.set rl lw).length = n) := by rw [Hid, List.length_set]; exact HLEN.out
      have HTK2 : Hid ((lv.set rl lw).take (rt ++ [lw]).length = rt ++ [lw]) := by
        rw [Hid, List.length_append, HRL.out, List.length_singleton, takeR_snoc (x := lw) (by rw [List.getElem?_set_self (by rw [HLEN.out]; exact hrln)]), List.take_set_of_le (Nat.le_refl _), HTK.out]
      clear hes hsl x1 hs1 hbud
      go_wp2_with fail
      obtain ⟨w7, hw7⟩ : ∃ w7, (wr.setCell ⟨bs, 3, none⟩ (.int .i64 (sk.bud - 1))).setCell ⟨bl, rl * 3 + 1, none⟩ (.int .i64 lw) = w7 := ⟨_, rfl⟩
      rw [hw7] at HT5 ⊢
      clear hw7 y0 y1 y2 y3 y4 y5 dd lb lvc lb1 hu fl hd hd5
      rw [HES.out]
      have hrk : (rt ++ [lw]).length = rl + 1 := by rw [List.length_append, HRL.out]; rfl
      (with_reducible refine (HIH.out (rt ++ [lw]) (sum + (k : Int)) s1 (lv.set rl lw) _ ((rl : Int) + 1) w7 HT5.out HLN2.out HTK2.out (by rw [hrk]; omega) (by rw [hrk]; omega) HIN1.out hs10 (by omega) (by have := HHS.out; omega)).mono ?_)
      rintro e w8 ⟨lv8, b8, vb8, rfl, hlen8, htk8, hbud8, hT8⟩
      rw [← HF.out] at hbud8 hT8
      rw [hrk] at htk8
      have HLN8 := Lib.hid hlen8
      have HTK8 : Hid (lv8.take rl = rt) := by
        have h := congrArg (List.take rl) htk8
        rw [List.take_take, Nat.min_eq_left (by omega), List.take_append_of_le_length (by rw [HRL.out]; exact Nat.le_refl _)] at h
        exact h.trans (List.take_of_length_le (by rw [HRL.out]; exact Nat.le_refl _))
      have HBD8 := Lib.hid hbud8
      have HT8 := Lib.hid hT8
      clear hlen8 htk8 hbud8 hT8 hrk
      go_wp2
      go_roundg (R - (k + 1))
      case measure => have := Hgk.out; omega
      case rel => exact ⟨k + 1, lv8, vb8, b8, by omega, rfl, by rw [← HLW.out]; go_num, HLN8.out, HTK8.out, HBD8.out, HT8.out⟩

end Go.Proofs.Ytpibiieibofggaa
