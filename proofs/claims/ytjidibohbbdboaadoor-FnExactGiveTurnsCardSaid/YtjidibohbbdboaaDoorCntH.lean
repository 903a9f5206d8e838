/- The search for the next person, and GiveTurns of the program. -/
import Derived.Test.YtjidibohbbdboaaDoorCntG
namespace Go.Proofs.YtjidibohbbdboaaDoor
open Go.RowKit

theorem okG_yes {n g : Nat} {ab : List Row} {f : Nat} {given : List Int} {p : Nat} (h : okG n g ab f given p = true) : mayB g ab given p = true ∧ 0 < waysN n g ab f (given ++ [(p : Int)]) := by
  unfold okG at h
  rw [Bool.and_eq_true, decide_eq_true_eq] at h
  exact h
theorem next_of {n g : Nat} {ab : List Row} {f : Nat} {given : List Int} (hw : 0 < waysN n g ab (f + 1) given) : ∃ p, p < n ∧ okG n g ab f given p = true ∧ (∀ q, q < p → okG n g ab f given q = false) ∧ 0 < waysN n g ab f (given ++ [(p : Int)]) ∧ firstW n g ab (f + 1) given = firstW n g ab f (given ++ [(p : Int)]) := by
  have hex : ∃ p, p < n ∧ okG n g ab f given p = true := by
    obtain ⟨p, h1, h2, h3⟩ := ways_next hw
    exact ⟨p, h1, by unfold okG; rw [h2, Bool.true_and, decide_eq_true_eq]; exact h3⟩
  have hmin : ∀ k, (∃ p, p < k ∧ p < n ∧ okG n g ab f given p = true) → ∃ p, p < n ∧ okG n g ab f given p = true ∧ ∀ q, q < p → okG n g ab f given q = false := by
    intro k
    induction k with
    | zero => rintro ⟨p, h, _⟩; omega
    | succ k ih =>
      rintro ⟨p, h1, h2, h3⟩
      by_cases hc : ∃ p, p < k ∧ p < n ∧ okG n g ab f given p = true
      · exact ih hc
      · refine ⟨p, h2, h3, fun q hq => ?_⟩
        cases hqv : okG n g ab f given q
        · rfl
        · exact absurd ⟨q, by omega, by omega, hqv⟩ hc
  obtain ⟨p, h1, h2, h3⟩ := hmin n (by obtain ⟨p, h1, h2⟩ := hex; exact ⟨p, h1, h1, h2⟩)
  obtain ⟨h4, h5⟩ := okG_yes h2
  refine ⟨p, h1, h2, h3, h5, first_next h1 h4 h5 fun q hq hm => ?_⟩
  have h6 := h3 q hq
  unfold okG at h6
  rw [hm, Bool.true_and, decide_eq_false_iff_not] at h6
  omega
def LeaD (n m g : Nat) (ab : List Row) (b N p : Nat) (w : World) (e : Ending) (w' : World) : Prop := e = .returned (.tuple #[.int .i64 (p : Int), .bool true]) ∧ MapAt n m g ab b N w' ∧ Span b (b + 1) w w'
set_option maxRecDepth 100000 in
set_option maxHeartbeats 1000000 in
theorem leastG_any (na m g : Nat) (A : Option Addr) (ca : Nat) (ab : List Row) (b bt bg : Nat) (w0 : World) (hx : Row.Sl w0 A na ab) (hok : TurnsOk na m g ab) (ht : TabAt w0.heap.size w0) (f : Nat) (given : List Int) (v : Value) (p N : Nat) (w : World) (hG : GiveAt na m g A ca b bt bg w0 v given w) (hM : MapAt na m g ab b N w) (hl : given.length + (f + 1) = m) (hpp : Ppl given) (hp : p < na) (hyes : okG na g ab f given p = true) (hno : ∀ q, q < p → okG na g ab f given q = false) (hcap : N + na * capI f ≤ 1000000000000000) :
    Calls Tryd.prog 22 #[.int .i64 0, .int .i64 ((na : Int) - 1), .func (.func 23) #[] #[.pointer (some ⟨bt, 0, none⟩), .pointer (some ⟨bg, 0, none⟩)]] w (LeaD na m g ab b (N + na * capI f) p w) := by
  have HX := Lib.hid hx
  have HT := Lib.hid ht
  have HOK := Lib.hid hok
  have HG := Lib.hid hG
  have HM := Lib.hid hM
  have HL := Lib.hid hl
  have HPP := Lib.hid hpp
  have HY := Lib.hid hyes
  have HNO := Lib.hid hno
  have HCAP := Lib.hid hcap
  have hn8 := hok.n8
  clear hx hok ht hG hM hl hpp hyes hno hcap
  go_enter Tryd.func22, Tryd.ntmps22
  go_wp2
  go_loopg [8] na (fun gk q wr => ∃ j : Nat, j ≤ p ∧ gk = na - j ∧ q = .int .i64 (j : Int) ∧ MapAt na m g ab b (N + j * capI f) wr ∧ Span b (b + 1) w wr)
  case atStart => exact ⟨0, Nat.zero_le _, rfl, rfl, by rw [Nat.zero_mul]; exact HM.out, Span.refl _ _ _⟩
  case round =>
    obtain ⟨j, hj, hgk, rfl, hm, hs⟩ := hrel
    have HGK := Lib.hid hgk
    have HS := Lib.hid hs
    have HMR := Lib.hid hm
    have HGR := Lib.hid (HG.out.span hs)
    have HC2 : Hid ((N + j * capI f) + capI f ≤ N + na * capI f) := by
      have h1 : (j + 1) * capI f ≤ na * capI f := Nat.mul_le_mul_right _ (by omega)
      rw [Nat.succ_mul] at h1
      rw [Hid]; omega
    have HCC : Hid ((N + j * capI f) + capI f ≤ 1000000000000000) := Nat.le_trans HC2.out HCAP.out
    clear hm hs hgk
    have HCL : Hid (Calls Tryd.prog 23 #[.int .i64 (j : Int), .pointer (some ⟨bt, 0, none⟩), .pointer (some ⟨bg, 0, none⟩)] wr (CloD na m g ab b (N + j * capI f + capI f) (okG na g ab f given j) wr)) := giveClo_any na m g A ca ab b bt bg w0 HX.out HOK.out HT.out f given v j (N + j * capI f) _ HGR.out HMR.out HL.out HPP.out (by omega) HCC.out
    by_cases he : j = p
    · subst he
      rw [HY.out] at HCL
      go_wp2_with (go_at_call 23; (with_reducible refine HCL.out.mono ?_); rintro e w3 ⟨rfl, hm3, hs3⟩; have HM3 := Lib.hid (hm3.mono HC2.out); have HS3 := Lib.hid (HS.out.trans hs3); clear hm3 hs3)
      go_ret2
      exact ⟨rfl, HM3.out, HS3.out⟩
    · rw [HNO.out j (by omega)] at HCL
      go_wp2_with (go_at_call 23; (with_reducible refine HCL.out.mono ?_); rintro e w3 ⟨rfl, hm3, hs3⟩; have HM3 : Hid (MapAt na m g ab b (N + (j + 1) * capI f) w3) := (by rw [Hid, Nat.succ_mul, ← Nat.add_assoc]; exact hm3); have HS3 := Lib.hid (HS.out.trans hs3); clear hm3 hs3)
      go_roundg (na - (j + 1))
      case measure => have := HGK.out; omega
      case rel => exact ⟨j + 1, by omega, rfl, by go_num, HM3.out, HS3.out⟩
set_option maxRecDepth 100000 in
set_option maxHeartbeats 2000000 in
theorem implGiveTurns_any (people turns gap : Int) (A : Option Addr) (n c : Nat) (ab : List Row) (w : World) (hx : Row.Sl w A n ab) (ht : TabAt w.heap.size w) :
    Calls Tryd.prog 11 #[.int .i64 people, .int .i64 turns, .int .i64 gap, .slice A n c] w (RetLT 2 1 i64cells (giveR people turns gap ab) [.int .i64 (giveC people turns gap ab)] w) := by
  have HX := Lib.hid hx
  have HT := Lib.hid ht
  clear hx ht
  by_cases hC : turnsC people turns gap ab = 0
  rotate_left
  · have HM := Lib.hid (giveC_no hC)
    have HC0 := Lib.hid hC
    have hq : (turnsC people turns gap ab != 0) = true := by simp [hC]
    obtain ⟨C, hCC⟩ : ∃ C, turnsC people turns gap ab = C := ⟨_, rfl⟩
    have HCC := Lib.hid hCC
    rw [hCC] at hq
    clear hC hCC
    go_enter Tryd.func11, Tryd.ntmps11
    go_wp2_with fail
    refine (newTurns_any people turns gap A n c ab _ HX.out).mono ?_
    rintro e w1 ⟨⟨_, rfl⟩ | ⟨h0, _⟩, hb1⟩
    rotate_left
    · exact absurd h0 HC0.out
    have HB1 := Lib.hid (hb1.alloc hb1.size (.cells #[.int .i64 0, .int .i64 0, .int .i64 0, .slice none 0 0, .map none] 41))
    clear hb1
    rw [HCC.out]
    go_wp2
    go_ret2
    exact RetLT.no2 (by rw [HM.out.1, HCC.out]) HM.out.2 HB1.out
  have HC := Lib.hid hC
  obtain ⟨p, m, g, rfl, rfl, rfl, hok⟩ := turnsC_zero hC
  have HOK := Lib.hid hok
  obtain rfl : n = p := by rw [← HX.out.len]; exact hok.len
  have hn1 := hok.n1
  have hn8 := hok.n8
  have hm12 := hok.m12
  clear hC hok
  go_enter Tryd.func11, Tryd.ntmps11
  go_wp2_with fail
  refine (newTurns_any _ _ _ A n c ab _ HX.out).mono ?_
  rintro e w1 ⟨⟨h0, _⟩ | ⟨_, bm, rfl, hbm, hmk⟩, hb1⟩
  · exact absurd HC.out h0
  have HB1 := Lib.hid hb1
  obtain ⟨bt, hbt⟩ : ∃ bt, w1.heap.size = bt := ⟨_, rfl⟩
  have HB2 := Lib.hid (hb1.alloc hb1.size (.cells #[.int .i64 (n : Int), .int .i64 (m : Int), .int .i64 (g : Int), .slice A n c, .map (some bm)] 41))
  have HM : Hid (MapAt n m g ab bm 0 (w1.alloc (.cells #[.int .i64 (n : Int), .int .i64 (m : Int), .int .i64 (g : Int), .slice A n c, .map (some bm)] 41))) := (MapAt.of_empty hmk).below ((Below.refl _ _).alloc (Nat.le_refl _) _)
  have HBX : Hid (Own (w1.alloc (.cells #[.int .i64 (n : Int), .int .i64 (m : Int), .int .i64 (g : Int), .slice A n c, .map (some bm)] 41)) bt 41 #[.int .i64 (n : Int), .int .i64 (m : Int), .int .i64 (g : Int), .slice A n c, .map (some bm)]) := hbt ▸ Own.new w1 41 #[.int .i64 (n : Int), .int .i64 (m : Int), .int .i64 (g : Int), .slice A n c, .map (some bm)]
  have HBML : Hid (bm < bt) := by rw [← hbt]; exact (MapAt.of_empty (n := n) (m := m) (g := g) (ab := ab) hmk).lt
  have HBTW : Hid (w.heap.size ≤ bt) := by rw [← hbt]; exact hb1.size
  have HBM := Lib.hid hbm
  clear hb1 hmk hbm
  go_wp2_with fail
  (with_reducible refine (count_any n m g A c ab bm w HX.out HOK.out HBM.out HT.out m [] (.slice none 0 0) 0 _ (OwnsL.nil_ _ _ _ _ _) (fun k hk => by simp [Value.ownBlock] at hk) (by simp) ppl_nil HB2.out HM.out (by have := capI_le hm12; omega)).mono ?_)
  rintro e w3 ⟨rfl, hm3, hs3⟩
  have HM3 : Hid (MapAt n m g ab bm (capI m) w3) := by rw [Nat.zero_add] at hm3; exact hm3
  have HB3 : Hid (Below w.heap.size w w3) := Below.span HB2.out hs3 HB2.out.size HBM.out
  have HBX3 : Hid (Own w3 bt 41 #[.int .i64 (n : Int), .int .i64 (m : Int), .int .i64 (g : Int), .slice A n c, .map (some bm)]) := (hs3.block bt HBX.out.lt (by have := HBML.out; omega)).trans HBX.out
  have hle := waysN_le12 (g := g) (ab := ab) hn8 hm12 []
  clear hm3 hs3 HM HBX HB2
  by_cases hz : waysN n g ab m [] = 0
  · have HV := Lib.hid (giveC_none HC.out hz)
    rw [hz]
    clear hz hle
    go_wp2
    go_ret2
    exact RetLT.no2 HV.out.1.symm HV.out.2 HB3.out
  have HV := Lib.hid (giveC_yes HC.out hz)
  obtain ⟨V, hV⟩ : ∃ V, waysN n g ab m [] = V := ⟨_, rfl⟩
  have HVV := Lib.hid hV
  rw [hV] at hle hz ⊢
  have hz2 : ((V : Int) == 0) = false := by simp; omega
  have HZ := Lib.hid hz
  clear hV hz
  obtain ⟨bg, hbg⟩ : ∃ bg, w3.heap.size = bg := ⟨_, rfl⟩
  have HBGT : Hid (bt < bg) := by rw [← hbg]; exact HBX3.out.lt
  have HG0 : Hid (GiveAt n m g A c bm bt bg w (.slice none 0 0) [] (w3.alloc (.cells #[.slice none 0 0] 29))) := by
    have h1 := HBML.out
    have h2 := HBGT.out
    exact ⟨HBX3.out.alloc _, hbg ▸ Own.new w3 29 _, OwnsL.nil_ _ _ _ _ _, HB3.out.alloc HB3.out.size _, HBM.out, HBTW.out, by have := HBTW.out; omega, by omega, by omega, by omega, fun k hk => by simp [Value.ownBlock] at hk⟩
  have HM4 : Hid (MapAt n m g ab bm (capI m) (w3.alloc (.cells #[.slice none 0 0] 29))) := HM3.out.below ((Below.refl _ _).alloc (Nat.le_refl _) _)
  have HCI := Lib.hid (capI_le hm12)
  go_wp2
  go_loopg [32] m (fun gk q wr => ∃ (k : Nat) (given : List Int) (v : Value), k ≤ m ∧ gk = m - k ∧ q = .int .i64 (k : Int) ∧ given.length = k ∧ Ppl given ∧ GiveAt n m g A c bm bt bg w v given wr ∧ MapAt n m g ab bm (capI m + k * (8 * capI m)) wr ∧ 0 < waysN n g ab (m - k) given ∧ firstW n g ab m [] = firstW n g ab (m - k) given)
  case atStart => exact ⟨0, [], _, Nat.zero_le _, rfl, rfl, rfl, ppl_nil, HG0.out, by rw [Nat.zero_mul]; exact HM4.out, by have := HVV.out; have := HZ.out; rw [Nat.sub_zero]; omega, rfl⟩
  case round =>
    obtain ⟨k, given, v, hk, hgk, rfl, hgl, hpp, hG, hM, hW, hF⟩ := hrel
    obtain ⟨B, cc, rfl, hc1, hc2, hB⟩ := hG.route.look
    rw [hgl] at hG hc1
    have HGK := Lib.hid hgk
    have HGL := Lib.hid hgl
    have HPP := Lib.hid hpp
    have HG := Lib.hid hG
    have HM := Lib.hid hM
    have HW := Lib.hid hW
    have HF := Lib.hid hF
    obtain ⟨y0, y1, y2, y3, y4, y5⟩ := hG.cells
    clear hgk hgl hpp hG hM hW hF hB
    by_cases hlt : k < m
    · obtain ⟨f, hf⟩ : ∃ f, m - k = f + 1 := ⟨m - k - 1, by omega⟩
      have HFK := Lib.hid hf
      rw [hf] at HW HF
      clear hf
      obtain ⟨p, hp, hy, hno, hw, hfw⟩ := next_of HW.out
      have HY := Lib.hid hy
      have HNO := Lib.hid hno
      have HWN := Lib.hid hw
      have HFN := Lib.hid (HF.out.trans hfw)
      clear hy hno hw hfw y0 y1 y2 y3 y4 y5
      have HC8 : Hid (n * capI f ≤ 8 * capI m) := by
        have h1 := capI_mono f (m - f)
        have h2 := HFK.out
        rw [show f + (m - f) = m by omega] at h1
        exact Nat.mul_le_mul hn8 h1
      have HCAP : Hid ((capI m + k * (8 * capI m)) + n * capI f ≤ capI m + (k + 1) * (8 * capI m)) := by
        have h1 := HC8.out
        rw [Hid, Nat.succ_mul k (8 * capI m)]
        generalize k * (8 * capI m) = X
        generalize n * capI f = Y at h1 ⊢
        generalize 8 * capI m = Z at h1 ⊢
        omega
      have HCA2 : Hid (capI m + (k + 1) * (8 * capI m) ≤ 1000000000000000) := by
        have h1 : (k + 1) * (8 * capI m) ≤ 12 * (8 * capI m) := Nat.mul_le_mul_right _ (by omega)
        have h2 := HCI.out
        rw [Hid]; omega
      go_wp2_with fail
      (with_reducible refine (leastG_any n m g A c ab bm bt bg w HX.out HOK.out HT.out f given (.slice B k cc) p (capI m + k * (8 * capI m)) _ HG.out HM.out (by have := HGL.out; have := HFK.out; omega) HPP.out hp HY.out HNO.out (Nat.le_trans HCAP.out HCA2.out)).mono ?_)
      rintro e w4 ⟨rfl, hm4, hs4⟩
      have HM5 := Lib.hid (hm4.mono HCAP.out)
      have HG5 := Lib.hid (HG.out.span hs4)
      clear hm4 hs4
      obtain ⟨y0, y1, y2, y3, y4, y5⟩ := HG5.out.cells
      go_wp2_with (at_builtin; refine wpList_push2 (by rfl) (.tmp 41) (.tmp 43) 29 (by rfl) w.heap.size 2 1 Tryd.underlying29 infoI64 (by rfl) (by decide) i64cells i64cells_len i64cells_one _ (.slice B k cc) given (p : Int) (by rfl) (by rfl) HG5.out.route (by first | rfl | simp [go_sem]) (by rw [HGL.out]; omega) (by decide) HG5.out.below.size ?_)
      intro v' w' hown' hb' hkp hob
      have hrk : (given ++ [(p : Int)]).length = k + 1 := by rw [List.length_append, HGL.out]; rfl
      have HRK := Lib.hid hrk
      obtain ⟨G7, cap7, rfl, _, _⟩ := hown'.block (by simp)
      rw [hrk] at hown' hob ⊢
      have hap := GiveAt.append HG5.out HM5.out hown' hb' hkp hob
      have HBX := Lib.hid hap.1
      have HG7 := Lib.hid hap.2.1
      have HM7 := Lib.hid hap.2.2
      clear y0 y1 y2 y3 y4 y5 hown' hb' hkp hob hap hrk
      have z0 := HBX.out.cell 0
      have dz := HBX.out.frozen
      have lz := HBX.out.lt
      simp at z0
      have HKK : Hid (m - (k + 1) = f) := by have := HFK.out; rw [Hid]; omega
      go_wp2
      go_roundg (m - (k + 1))
      case measure => have := HGK.out; omega
      case rel => exact ⟨k + 1, given ++ [(p : Int)], _, by omega, rfl, by go_num, HRK.out, HPP.out.snoc (by rw [HGL.out]; omega) (by omega), HG7.out, HM7.out, by rw [HKK.out]; exact HWN.out, by rw [HKK.out]; exact HFN.out⟩
    · have hkm : k = m := by omega
      subst hkm
      have HLL : Hid (giveR n k g ab = given) := by
        rw [Hid, HV.out.2, HF.out, Nat.sub_self]; rfl
      go_wp2
      go_ret2
      exact RetLT.yes2 HV.out.1.symm (by rw [HLL.out]; exact HG.out.route) (Nat.le_refl _) HG.out.below

end Go.Proofs.YtjidibohbbdboaaDoor
