/- RaiseRegions of the program. -/
import Derived.Test.YtpibiieibofggaaRaiW
import Derived.Test.YtpibiieibofggaaRaiX
import Derived.Test.YtpibiieibofggaaCloneQ
namespace Go.Proofs.Ytpibiieibofggaa
open Go.RowKit

theorem own_form {w : World} {base n cap : Nat} {LA : Option Addr} {qs : List RegionR} (h : OwnsL w base 34 3 RegionR.cells (.slice LA n cap) qs) : (LA = none ∧ n = 0) ∨ ∃ g, LA = some ⟨g, 0, none⟩ ∧ base ≤ g ∧ g < w.heap.size := by
  have hlt := h.lt
  rcases h.2 with ⟨h2, h3⟩ | ⟨g, cap', cur, hv, hg, hh, _⟩
  · injection h2 with e1 e2 e3
    exact .inl ⟨e1, e2⟩
  · injection hv with e1 e2 e3
    subst e1
    exact .inr ⟨g, rfl, hg, (hlt g rfl).2⟩
theorem psL_self : ∀ (qs : List RegionR), psL qs ((qs.map RegionR.val).map Region.level) = qs
  | [] => rfl
  | q :: qs => by
    have ih := psL_self qs
    unfold psL at ih ⊢
    simp only [List.map_cons, List.zipWith_cons_cons]
    rw [ih]
    rfl
set_option maxHeartbeats 400000 in
theorem budgetR_any (b : Int) (w : World) : Calls Try.prog 28 #[.int .i64 b] w (RetS (.bool (inB b 1 20000)) w) := by
  go_enter Try.func28, Try.ntmps28
  go_wp2_with (go_at_call 27; refine (within_any _ _ _ _).mono ?_; rintro e w' ⟨rfl, rfl⟩)
  go_ret
  exact RetS.b rfl
set_option maxRecDepth 100000 in
set_option maxHeartbeats 2000000 in
theorem implRaiseRegions_any (most budget : Int) (A : Option Addr) (n c : Nat) (xs : List Region) (w : World) (hx : Region.Sl w A n xs) (hg : ∀ x ∈ xs, x.Good) :
    Calls Try.prog 7 #[.slice A n c, .int .i64 most, .int .i64 budget] w (RetLT 2 1 i64cells (raiR xs most budget) [.int .i64 (raiL xs most budget), .int .i64 (raiC xs most budget)] w) := by
  have HX := Lib.hid hx
  have HL := Lib.hid hx.len
  have HG := Lib.hid hg
  clear hx hg
  cases hv : regionsB xs
  · have HN : Hid (raiC xs most budget = 1) := raiC_bad hv
    have HM := Lib.hid (rai_no (show raiC xs most budget ≠ 0 by rw [HN.out]; decide))
    go_enter Try.func7, Try.ntmps7
    go_wp2_with fail
    refine (implValidRegions_any A n c xs _ HX.out HG.out).mono ?_
    rintro e w1 ⟨rfl, hb1⟩
    rw [hv]
    clear hv
    go_wp2
    go_ret3
    exact RetLT.no3R HN.out.symm HM.out.1.symm HM.out.2 hb1
  cases hmo : inB most 0 8
  · have HN : Hid (raiC xs most budget = 2) := raiC_range hv (.inl hmo)
    have HM := Lib.hid (rai_no (show raiC xs most budget ≠ 0 by rw [HN.out]; decide))
    go_enter Try.func7, Try.ntmps7
    go_wp2_with fail
    refine (implValidRegions_any A n c xs _ HX.out HG.out).mono ?_
    rintro e w1 ⟨rfl, hb1⟩
    rw [hv]
    clear hv
    go_wp2_with (go_at_call 27; refine (within_any _ _ _ _).mono ?_; rintro e w' ⟨rfl, rfl⟩)
    go_ret3
    exact RetLT.no3R HN.out.symm HM.out.1.symm HM.out.2 hb1
  cases hbu : inB budget 1 20000
  · have HN : Hid (raiC xs most budget = 2) := raiC_range hv (.inr hbu)
    have HM := Lib.hid (rai_no (show raiC xs most budget ≠ 0 by rw [HN.out]; decide))
    go_enter Try.func7, Try.ntmps7
    go_wp2_with fail
    refine (implValidRegions_any A n c xs _ HX.out HG.out).mono ?_
    rintro e w1 ⟨rfl, hb1⟩
    rw [hv]
    clear hv
    go_wp2_with (first | (go_at_call 27; refine (within_any _ _ _ _).mono ?_; rintro e w' ⟨rfl, rfl⟩) | (go_at_call 28; refine (budgetR_any _ _).mono ?_; rintro e w' ⟨rfl, rfl⟩))
    go_ret3
    exact RetLT.no3R HN.out.symm HM.out.1.symm HM.out.2 hb1
  have HN0 := Lib.hid (raiC_on hv hmo hbu)
  have HV := Lib.hid hv
  have ⟨hU0, hU1⟩ := inB_iff.1 hbu
  have h8 : n ≤ 8 := by rw [← HL.out]; exact regionsB_len hv
  go_enter Try.func7, Try.ntmps7
  go_wp2_with fail
  refine (implValidRegions_any A n c xs _ HX.out HG.out).mono ?_
  rintro e w1 ⟨rfl, hb1⟩
  rw [hv]
  have HB1 := Lib.hid hb1
  have HX1 := Lib.hid (HX.out.below hb1)
  clear hb1 hv
  go_wp2_with (first | (go_at_call 27; refine (within_any _ _ _ _).mono ?_; rintro e w' ⟨rfl, rfl⟩) | (go_at_call 28; refine (budgetR_any _ _).mono ?_; rintro e w' ⟨rfl, rfl⟩))
  (with_reducible refine (cloneRegions_any A n c xs w1 HX1.out (by omega) (fun x hx => by have := near_len HV.out hx; omega)).mono ?_)
  rintro e w2 ⟨v2, rfl, ho2, hb2⟩
  obtain ⟨LA, cap, rfl, _, _, _⟩ := ho2.slice
  rw [HL.out] at ho2 ⊢
  obtain ⟨qs, hq1, hq2, hq3, hq4⟩ := ho2
  have HB2 := Lib.hid (HB1.out.trans (hb2.mono HB1.out.size))
  have HX2 := Lib.hid (HX1.out.below hb2)
  have hform := own_form hq1
  have HLT : Hid (∀ b o, A = some ⟨b, o, none⟩ → 0 < n → b < w1.heap.size) := fun b o hA hn => by
    obtain ⟨b', o', r, hA', hb', _⟩ := HX1.out.at_ hn
    rw [hA] at hA'
    injection hA' with hA'
    injection hA' with e1 _ _
    subst e1
    exact hb'
  obtain ⟨bl, hbl1, hbl2, hbl3, hbl4⟩ : ∃ bl, (∀ k, (Value.slice LA n cap).ownBlock = some k → bl = k) ∧ (∀ k, (Value.slice LA n cap).ownBlock = some k → k < w2.heap.size) ∧ (0 < n → LA = some ⟨bl, 0, none⟩) ∧ w1.heap.size ≤ bl := by
    rcases hform with ⟨rfl, rfl⟩ | ⟨g, rfl, h1, h2⟩
    · exact ⟨w2.heap.size, fun k hk => by simp [Value.ownBlock] at hk, fun k hk => by simp [Value.ownBlock] at hk, fun h => absurd h (by omega), hb2.size⟩
    · exact ⟨g, fun k hk => by simpa [Value.ownBlock] using hk, fun k hk => (show k < w2.heap.size by have h3 : g = k := (by simpa [Value.ownBlock] using hk); omega), fun _ => rfl, h1⟩
  have HAB : Hid (0 < n → ∀ b o, A = some ⟨b, o, none⟩ → b ≠ bl) := fun hn b o hA => by have := HLT.out b o hA hn; omega
  have HNS : Hid (∀ W, Span bl (bl + 1) w2 W → Region.Sl W A n xs ∧ ∀ p ∈ qs, p.In W) := fun W hW => by
    refine ⟨HX1.out.below (hb2.trans (Below.span (Below.refl _ _) hW hb2.size hbl4)), fun p hp => ?_⟩
    refine RegionR.in_of (w := W) ((hq2 p hp).span hW (fun k hk => ?_))
    have h1 := hq3.1 p hp k hk
    have hl : n = qs.length := by rw [← HL.out, hq4, List.length_map]
    have hn0 : 0 < n := by rw [hl]; exact List.length_pos_of_mem hp
    have h2 := hbl3 hn0
    by_cases e : k = bl
    · subst e
      exact absurd (by rw [h2]; rfl) h1
    · omega
  have HBL3 := Lib.hid hbl3
  have HBL4 := Lib.hid hbl4
  have HQ4 : Hid (qs.map RegionR.val = xs) := hq4.symm
  have HVA : Hid (VisAt w2 w2.heap.size bl LA n cap A c most qs (xs.map Region.level) budget (-1) [] (.slice none 0 0) (w2.alloc (.cells #[.slice LA n cap, .slice A n c, .int .i64 most, .int .i64 budget, .slice none 0 0, .int .i64 (-1)] 61))) := by
    refine ⟨Own.new w2 61 _, ?_, OwnsL.nil_ _ _ _ _ _, fun k hk => by simp [Value.ownBlock] at hk, Span.of_below ((Below.refl _ _).alloc (Nat.le_refl _) _) (Nat.le_refl _), Nat.le_refl _, hbl2, hbl1⟩
    rw [hq4, psL_self]
    exact (hq1.rebase (Nat.zero_le _)).alloc _
  clear hform hq1 hq2 hq3 hq4 hbl1 hbl2 hbl3 hbl4 hb2
  go_wp2_with fail
  obtain ⟨wa, hwa⟩ : ∃ wa, w2.alloc (.cells #[.slice LA n cap, .slice A n c, .int .i64 most, .int .i64 budget, .slice none 0 0, .int .i64 (-1)] 61) = wa := ⟨_, rfl⟩
  rw [hwa] at HVA ⊢
  clear hwa
  (with_reducible refine (visit_any w2 w2.heap.size bl LA n cap A c most budget qs xs HQ4.out HV.out HL.out HNS.out HBL3.out HAB.out hU1 n [] 0 ⟨budget, [], -1⟩ (xs.map Region.level) _ 0 wa HVA.out ?_ rfl ?_ rfl (rIn_start hU0) ?_ (Int.le_refl _) ?_).mono ?_)
  · rw [List.length_map, HL.out]
  · simp
  · show (0 : Int) ≤ budget; omega
  · omega
  rintro e w8 ⟨lv8, b8, vb8, rfl, _, _, hbud8, hT8⟩
  obtain ⟨s8, hs8⟩ : ∃ z, raise0 xs most budget = z := ⟨_, rfl⟩
  have hs8' : goR xs most n [] 0 ⟨budget, [], -1⟩ = s8 := by rw [← hs8, raise0, HL.out]
  rw [hs8'] at hT8 hbud8
  have HS8 := Lib.hid hs8
  have HT8 := Lib.hid hT8
  have HBW : Hid (Below w.heap.size w w8) := Below.span HB2.out HT8.out.below HB2.out.size (Nat.le_trans HB1.out.size HBL4.out)
  clear hs8 hs8' hT8
  obtain ⟨AB, cB, rfl, hz1, hz2, hz3⟩ := HT8.out.best.look
  clear hz1 hz2 hz3
  obtain ⟨y0, y1, y2, y3, y4, y5, dd, lb⟩ := HT8.out.cells
  by_cases hb8 : s8.bud < 0
  · have HN : Hid (raiC xs most budget = 5) := by rw [Hid, HN0.out, HS8.out, if_pos hb8]
    have HM := Lib.hid (rai_no (show raiC xs most budget ≠ 0 by rw [HN.out]; decide))
    have hd : decide (b8 < 0) = true := decide_eq_true (by rcases hbud8 with h | h <;> omega)
    clear hb8 hbud8
    go_wp2
    go_ret3
    exact RetLT.no3R HN.out.symm HM.out.1.symm HM.out.2 HBW.out
  have hd0 : decide (b8 < 0) = false := decide_eq_false (by rcases hbud8 with h | h <;> omega)
  clear hbud8
  by_cases hl : s8.least < 0
  · have HN : Hid (raiC xs most budget = 3) := by rw [Hid, HN0.out, HS8.out, if_neg hb8, if_pos hl]
    have HM := Lib.hid (rai_no (show raiC xs most budget ≠ 0 by rw [HN.out]; decide))
    go_wp2
    go_ret3
    exact RetLT.no3R HN.out.symm HM.out.1.symm HM.out.2 HBW.out
  · have HN : Hid (raiC xs most budget = 0) := by rw [Hid, HN0.out, HS8.out, if_neg hb8, if_neg hl]
    have HM := Lib.hid (rai_yes HN.out)
    rw [HS8.out] at HM
    have hd : decide (s8.least < 0) = false := decide_eq_false hl
    have hsub := fun (g : Sub w8) b o (h : b < w8.heap.size) => g.cell b o h
    go_wp2_with fail
    clear hd hd0
    go_wp2_with fail
    refine wp_region_sub (by kernel_rfl) (by kernel_rfl) ?_
    repeat (go_big_quiet_step (fail))
    refine wpQuiet_nil ?_
    intro wg hg
    have HTG := Lib.hid (HT8.out.grow hg)
    have HBG := Lib.hid (HBW.out.trans (hg.mono HBW.out.size))
    clear y0 y1 y2 y3 y4 y5 dd lb hsub hg hl hb8
    go_wp2
    go_ret3
    exact RetLT.yes3R HN.out.symm HM.out.1.symm (HM.out.2 ▸ HTG.out.best) HB2.out.size HBG.out

end Go.Proofs.Ytpibiieibofggaa
