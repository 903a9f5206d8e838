/- The program's legs of a route. -/
import Derived.Test.YtamgodeiakflbaaDoorTours
import Derived.Test.YtamgodeiakflbaaDoorMem
import Derived.Deep.RegionHeld3
import Derived.Deep.CutRange
namespace Go.Proofs.YtamgodeiakflbaaDoor
open Go.RowKit

def LegsRet (C : Int) (L : List Leg) (w : World) (e : Ending) (w' : World) : Prop := ∃ v, e = .returned (.tuple #[v, .int .i64 C]) ∧ (C = 0 → ∃ A c, v = .slice A L.length c ∧ SliceOf w' 4 Leg.cells A L.length L) ∧ Below w.heap.size w w'
theorem LegsRet.no {C : Int} {L : List Leg} {w w' : World} {c : Int} (h : c = C) (h0 : C ≠ 0) (v : Value) (hb : Below w.heap.size w w') : LegsRet C L w (.returned (.tuple #[v, .int .i64 c])) w' := ⟨v, by rw [h], fun h => absurd h h0, hb⟩
theorem LegsRet.yes {C : Int} {L : List Leg} {w w' : World} {c : Int} (h : c = C) {v : Value} {base : Nat} {T : TypeId} (ho : OwnsL w' base T 4 Leg.cells v L) (hb : Below w.heap.size w w') : LegsRet C L w (.returned (.tuple #[v, .int .i64 c])) w' := by
  obtain ⟨A', c', h1, _, _, h2⟩ := ho.slice Leg.cells_len
  exact ⟨v, by rw [h], fun _ => ⟨A', c', h1, h2⟩, hb⟩
theorem infoLegE : (Tryd.prog.info? 32).map (fun i => (i.zero, i.size, i.bytes)) = some (some (.agg #[.int .i64 0, .int .i64 0, .int .i64 0, .int .i64 0]), 4, 32) := by kernel_rfl

theorem held2 {wr w' : World} {b1 o1 o2 : Nat} {v1 v2 : Value} (hlt : b1 < wr.heap.size) (x0 : wr.cell? ⟨b1, o1, none⟩ = some v1) (y0 : wr.cell? ⟨b1, o2, none⟩ = some v2) (hb : Below wr.heap.size wr w') : w'.cell? ⟨b1, o1, none⟩ = some v1 ∧ w'.cell? ⟨b1, o2, none⟩ = some v2 ∧ Below wr.heap.size wr w' :=
  ⟨(hb.cell (p := ⟨b1, o1, none⟩) hlt).trans x0, (hb.cell (p := ⟨b1, o2, none⟩) hlt).trans y0, hb⟩
set_option maxRecDepth 100000 in
set_option maxHeartbeats 2000000 in
theorem routeLegs_any (pts : Int) (A : Option Addr) (n c : Nat) (xs : List Leg) (B : Option Addr) (m d : Nat) (rt : List Int) (w : World) (hx : SliceOf w 4 Leg.cells A n xs) (hr : SliceOf w 1 i64cells B m rt) :
    Calls Tryd.prog 33 #[.int .i64 pts, .slice A n c, .slice B m d] w (LegsRet (routeC pts xs rt) ((pairs rt).map (legD xs)) w) := by
  have hn := hx.le
  have hm := hr.le
  have HL := Lib.hid hx.len
  have HM := Lib.hid hr.len
  cases hv : legsOk pts xs
  · have HV := Lib.hid hv
    have HN : Hid (routeC pts xs rt = 1) := by unfold Hid routeC; rw [if_pos hv]
    go_enter Tryd.func33, Tryd.ntmps33
    go_wp2_with fail
    refine (implValidLegs_any _ _ _ _ xs _ hx).mono ?_
    rintro e w1 ⟨rfl, hb1⟩
    go_wp2
    go_ret2
    exact LegsRet.no HN.out.symm (by rw [HN.out]; decide) _ hb1
  have HV := Lib.hid hv
  have ⟨_, _⟩ := legsOk_pts hv
  by_cases hlen : 1 ≤ m ∧ m ≤ 64
  rotate_left
  · have HN : Hid (routeC pts xs rt = 7) := by
      unfold Hid routeC
      rw [if_neg (by rw [HV.out]; simp), if_pos]
      unfold onB
      rw [HM.out]
      simp only [Bool.and_eq_false_iff, decide_eq_false_iff_not]
      left
      omega
    have hlen' : m < 1 ∨ 64 < m := by omega
    clear hlen
    rcases hlen' with h | h
    all_goals
      go_enter Tryd.func33, Tryd.ntmps33
      go_wp2_with fail
      refine (implValidLegs_any _ _ _ _ xs _ hx).mono ?_
      rintro e w1 ⟨rfl, hb1⟩
      go_wp2
      go_ret2
      exact LegsRet.no HN.out.symm (by rw [HN.out]; decide) _ hb1
  obtain ⟨hm1, hm2⟩ := hlen
  cases hon : rt.all (fun r => inB r 0 (pts - 1))
  · have HN : Hid (routeC pts xs rt = 7) := by
      unfold Hid routeC
      rw [if_neg (by rw [HV.out]; simp), if_pos]
      unfold onB
      rw [hon, Bool.and_false]
    go_enter Tryd.func33, Tryd.ntmps33
    go_wp2_with fail
    refine (implValidLegs_any _ _ _ _ xs _ hx).mono ?_
    rintro e w1 ⟨rfl, hb1⟩
    go_wp2_with fail
    refine (allWithin_any _ _ _ _ _ rt _ (hr.below hb1)).mono ?_
    rintro e w2 ⟨rfl, hb2⟩
    go_wp2
    go_ret2
    exact LegsRet.no HN.out.symm (by rw [HN.out]; decide) _ (hb1.trans (hb2.mono hb1.size))
  have HO : Hid (onB pts rt = true) := by
    unfold Hid onB
    rw [hon, HM.out]
    simp; omega
  go_enter Tryd.func33, Tryd.ntmps33
  go_wp2_with fail
  refine (implValidLegs_any _ _ _ _ xs _ hx).mono ?_
  rintro e w1 ⟨rfl, hb1⟩
  go_wp2_with fail
  refine (allWithin_any _ _ _ _ _ rt _ (hr.below hb1)).mono ?_
  rintro e w2 ⟨rfl, hb2⟩
  have hb12 := hb1.trans (hb2.mono hb1.size)
  have hx1 := (hx.below hb1).below hb2
  have hr1 := (hr.below hb1).below hb2
  clear hx hr
  go_wp2
  clear hv hon
  go_loopg [8, 9] m (fun gk s i wr => ∃ (k : Nat) (v : Value), k + 1 ≤ m ∧ gk = m - k ∧ i = .int .i64 (k + 1 : Nat) ∧ v = s ∧ Below w2.heap.size w2 wr ∧ OwnsL wr w2.heap.size 32 4 Leg.cells v (((pairs rt).take k).map (legD xs)) ∧ AllTo (hasLeg xs) (pairs rt) k)
  case atStart => exact ⟨0, _, by omega, rfl, rfl, rfl, Below.refl _ _, OwnsL.nil_ _ _ _ _ _, AllTo.zero⟩
  case round =>
    obtain ⟨k, v, hk, hgk, rfl, rfl, hb, hown, hall⟩ := hrel
    have Hall := Lib.hid hall
    have Hgk := Lib.hid hgk
    have Hown := Lib.hid hown
    clear hall hgk hown
    by_cases hlt : k + 1 < m
    · obtain ⟨b1, o1, x, rfl, hbb1, hxk, x0⟩ := ints_at (hr1.below hb) (show k < m by omega)
      obtain ⟨b2, o2, y, he, hbb2, hyk, y0⟩ := ints_at (hr1.below hb) hlt
      injection he with he
      injection he with he1 he2 _
      subst he1 he2
      have HP := Lib.hid (pairs_at hxk hyk)
      clear hxk hyk
      have hx2 := hx1.below hb
      obtain ⟨l, hl⟩ : ∃ l, legD xs (x, y) = l := ⟨_, rfl⟩
      have HLg := Lib.hid hl
      have e1 : IntKind.i64.wrap ((k : Int) + 1 - 1) = (k : Int) := by rw [Int.add_sub_cancel]; exact IntWalk.i64_in _ (by omega)
      have e1b : IntKind.i64.wrap (k : Int) = (k : Int) := IntWalk.i64_in _ (by omega)
      have e2 : (0 : Int) ≤ (k : Int) := by omega
      have e3 : (k : Int) < (m : Int) := by omega
      have e4 : (0 : Int) ≤ (k : Int) + 1 := by omega
      have e5 : (k : Int) + 1 < (m : Int) := by omega
      have e6 : ((k : Int) + 1).toNat = k + 1 := by omega
      go_upto_region 9 with fail
      go_cut [10, 11] from 33 to 58 (fun s10 s11 wx => ∃ g : Nat, s10 = .pointer (some ⟨g, 0, none⟩) ∧ s11 = .bool (hasLeg xs (x, y)) ∧ Own wx g 32 #[.int .i64 l.from_, .int .i64 l.to_, .int .i64 l.minutes, .int .i64 l.exposure] ∧ Below wr.heap.size wr wx)
      case first =>
        go_region_held3 (fun w' => w'.cell? ⟨b1, o1 + k, none⟩ = some (.int .i64 x) ∧ w'.cell? ⟨b1, o1 + (k + 1), none⟩ = some (.int .i64 y) ∧ Below wr.heap.size wr w')
          (first
            | exact held2 hbb1 x0 y0 (Below.refl _ _)
            | exact held2 hbb1 x0 y0 (Below.drew (Below.refl _ _))
            | exact held2 hbb1 x0 y0 ((Below.refl _ _).drew.alloc (Nat.le_refl _) _)
            | exact held2 hbb1 x0 y0 ((Below.refl _ _).alloc (Nat.le_refl _) _).drew
            | exact held2 hbb1 x0 y0 hBw
            | exact held2 hbb1 x0 y0 (hBw.alloc hBz _)
            | exact held2 hbb1 x0 y0 ((((hBw.setCell (by simp) _).setCell (by simp) _).setCell (by simp) _).setCell (by simp) _))
          (first | (go_at_call 23; refine (legBetween_any _ _ _ _ _ xs _ (hx2.below (‹_ ∧ _ ∧ Below wr.heap.size wr _›).2.2)).mono ?_; rintro e w' ⟨rfl, hb'⟩; have hBw := (‹_ ∧ _ ∧ Below wr.heap.size wr _›).2.2.trans (hb'.mono (‹_ ∧ _ ∧ Below wr.heap.size wr _›).2.2.size); have hBz := hBw.size; (try (have hO := (Own.drew (Own.new wr 32 #[.int .i64 0, .int .i64 0, .int .i64 0, .int .i64 0])).below' hb'; have d0 := hO.cell 0; have d1 := hO.cell 1; have d2 := hO.cell 2; have d3 := hO.cell 3; have df := hO.frozen; simp at d0 d1 d2 d3)); rw [HLg.out]; unfold Leg.agg))
        all_goals (go_wp2_with fail; go_meet)
        · exact ⟨w'.heap.size, rfl, rfl, Own.new _ _ _, hBw.alloc hBz _⟩
        · exact ⟨wr.heap.size, rfl, rfl, by have := (((hO.put 0 (.int .i64 l.from_)).put 1 (.int .i64 l.to_)).put 2 (.int .i64 l.minutes)).put 3 (.int .i64 l.exposure); simpa using this, (((hBw.setCell (by simp) _).setCell (by simp) _).setCell (by simp) _).setCell (by simp) _⟩
      case rest =>
        obtain ⟨g, rfl, rfl, hO, hB⟩ := hcut
        have hbb := hb.trans (hB.mono hb.size)
        clear x0 y0 e1 e1b e2 e3 e4 e5 e6 hx2
        cases hh : hasLeg xs (x, y)
        · have HN : Hid (routeC pts xs rt = 6) := by
            unfold Hid routeC
            rw [if_neg (by rw [HV.out]; simp), if_neg (by rw [HO.out]; simp), if_pos (all_no HP.out hh)]
          clear hh
          go_wp2
          go_ret2
          exact LegsRet.no HN.out.symm (by rw [HN.out]; decide) _ (hb12.trans (hbb.mono hb12.size))
        · have HH := Lib.hid hh
          have hown2 := Hown.out.below' hB
          have c0 : wc.cell? ⟨g, 0, none⟩ = some (.int .i64 l.from_) := hO.cell 0
          have c1 : wc.cell? ⟨g, 1, none⟩ = some (.int .i64 l.to_) := hO.cell 1
          have c2 : wc.cell? ⟨g, 2, none⟩ = some (.int .i64 l.minutes) := hO.cell 2
          have c3 : wc.cell? ⟨g, 3, none⟩ = some (.int .i64 l.exposure) := hO.cell 3
          have Hw2 := Lib.hid hown2
          have Hbb := Lib.hid hbb
          clear hh hown2 hl
          go_wp2_with (at_builtin; refine wpList_push (by rfl) (.tmp 55) (.tmp 57) 24 (by rfl) w2.heap.size 32 4 Tryd.underlying24 infoLegE (by rfl) (by decide) Leg.cells Leg.cells_len Leg.cells_one _ v _ l (by rfl) (by rfl) Hw2.out (by rfl) (by simp; omega) (by decide) Hbb.out.size ?_)
          intro v' w' hown' hb' _
          have hbw := Hbb.out.trans hb'
          have HW : Hid (OwnsL w' w2.heap.size 32 4 Leg.cells v' (((pairs rt).take (k + 1)).map (legD xs))) := by
            unfold Hid
            rw [List.take_succ_eq_append_getElem (List.getElem?_eq_some_iff.1 HP.out).1, (List.getElem?_eq_some_iff.1 HP.out).2, List.map_append]
            simpa [HLg.out] using hown'
          clear hown' c0 c1 c2 c3
          go_wp2
          go_roundg (m - (k + 1))
          case measure => have := Hgk.out; omega
          case rel => exact ⟨k + 1, v', by omega, rfl, by go_num, rfl, hbw, HW.out, Hall.out.step HP.out HH.out⟩
    · have HN : Hid (routeC pts xs rt = 0) := by
        unfold Hid routeC
        rw [if_neg (by rw [HV.out]; simp), if_neg (by rw [HO.out]; simp), if_neg]
        rw [AllTo.all (n := k) (by rw [pairs_len, HM.out]; omega) Hall.out]; simp
      have HW : Hid (OwnsL wr w2.heap.size 32 4 Leg.cells v ((pairs rt).map (legD xs))) := by
        have := Hown.out
        rwa [List.take_of_length_le (by rw [pairs_len, HM.out]; omega)] at this
      go_wp2
      go_ret2
      exact LegsRet.yes HN.out.symm HW.out (hb12.trans (hb.mono hb12.size))

end Go.Proofs.YtamgodeiakflbaaDoor
