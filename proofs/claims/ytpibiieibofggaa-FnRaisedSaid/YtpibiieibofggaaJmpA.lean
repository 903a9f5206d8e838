/- Levels of regions, counts of bulletins on both sides, and the law's own helpers. -/
import Derived.Test.YtpibiieibofggaaCompS
import Derived.Test.YtpibiieibofggaaRegW
import Derived.Test.YtpibiieibofggaaRaiQ
namespace Go.Proofs.Ytpibiieibofggaa
open Go.RowKit

theorem cellJ_new (w : World) (x : Value) (t : TypeId) : (w.alloc (.cells #[x] t)).cell? ⟨w.heap.size, 0, none⟩ = some x := by rw [World.cell?_alloc_new]; rfl
set_option maxHeartbeats 1000000 in
theorem l18Levels_any (A : Option Addr) (n c : Nat) (xs : List Region) (w : World) (hx : Region.Sl w A n xs) (h8 : n ≤ 8) :
    Calls Try.prog 36 #[.slice A n c] w (RetP (fun v w' => OwnsL w' w.heap.size 2 1 i64cells v (xs.map Region.level)) w) := by
  have HX := Lib.hid hx
  have HL := Lib.hid hx.len
  clear hx
  go_enter Try.func36, Try.ntmps36
  go_wp2
  go_loopg [3, 4] n (fun gk s i wr => ∃ (k : Nat) (v : Value) (o : List Int), k ≤ n ∧ gk = n - k ∧ i = .int .i64 k ∧ v = s ∧ (xs.map Region.level).take k = o ∧ o.length = k ∧ Below w.heap.size w wr ∧ OwnsL wr w.heap.size 2 1 i64cells v o)
  case atStart => exact ⟨0, _, [], Nat.zero_le _, rfl, rfl, rfl, rfl, rfl, (Below.refl _ _).alloc (Nat.le_refl _) _, OwnsL.made _ _ _ _ _ (Nat.le_refl _)⟩
  case round =>
    obtain ⟨k, v, o, hk, hgk, rfl, rfl, ho, hol, hb, hown⟩ := hrel
    have Hgk := Lib.hid hgk
    have HO := Lib.hid ho
    have HOL := Lib.hid hol
    have Hown := Lib.hid hown
    clear hgk hown ho hol
    by_cases hlt : k < n
    rotate_left
    · have hkn : k = n := by omega
      subst hkn
      have HE : Hid (xs.map Region.level = o) := by rw [Hid, ← HO.out, List.take_of_length_le (by rw [List.length_map, HL.out]; exact Nat.le_refl _)]
      go_wp2
      go_ret
      exact RetP.mk (HE.out ▸ Hown.out) hb
    obtain ⟨b1, o1, ⟨xi, xl, NA, NN, NC, nr⟩, rfl, hb1, hxk, hix, y0, y1, y2⟩ := (HX.out.below hb).at_ hlt
    have HN : Hid ((xs.map Region.level).take (k + 1) = o ++ [xl]) := by
      rw [Hid, takeR_snoc (x := xl) (by rw [List.getElem?_map, hxk]; rfl), HO.out]
    clear hxk hix y0 y2
    go_wp2_with (at_builtin; refine wpList_push (by rfl) (.tmp 12) (.tmp 18) 27 (by rfl) w.heap.size 2 1 Try.underlying27 infoI64 (by rfl) (by decide) i64cells i64cells_len i64cells_one _ v o xl (by rfl) (by rfl) Hown.out (by rfl) (by rw [HOL.out]; omega) (by decide) hb.size ?_)
    intro v' w' hown' hb' _
    have hbw := hb.trans hb'
    have HW := Lib.hid hown'
    clear hown'
    go_wp2
    go_roundg (n - (k + 1))
    case measure => have := Hgk.out; omega
    case rel => exact ⟨k + 1, v', _, by omega, rfl, by go_num, rfl, HN.out, by simp [HOL.out], hbw, HW.out⟩
noncomputable def cntR (xs : List Region) : Int := if regionsB xs = true then (compsR xs : Int) else 0
def cntC (xs : List Region) : Int := if regionsB xs = true then 0 else 1
theorem compsR_le8 {xs : List Region} (h : regionsB xs = true) : compsR xs ≤ 8 := by
  have h1 := compsK_le xs xs.length
  have h2 := regionsB_len h
  unfold compsR
  omega
set_option maxHeartbeats 1000000 in
theorem specCountBulletins_any (A : Option Addr) (n c : Nat) (xs : List Region) (w : World) (hx : Region.Sl w A n xs) (hg : ∀ x ∈ xs, x.Good) :
    Calls Try.prog 9 #[.slice A n c] w (Ret (.tuple #[.int .i64 (cntR xs), .int .i64 (cntC xs)]) w) := by
  have HX := Lib.hid hx
  have HL := Lib.hid hx.len
  have HG := Lib.hid hg
  clear hx hg
  cases hv : regionsB xs
  · have HN : Hid (cntR xs = 0 ∧ cntC xs = 1) := by rw [Hid, cntR, cntC, if_neg (by rw [hv]; decide), if_neg (by rw [hv]; decide)]; exact ⟨rfl, rfl⟩
    go_enter Try.func9, Try.ntmps9
    go_wp2_with fail
    refine (l18Ok_any A n c xs _ HX.out HG.out).mono ?_
    rintro e w1 ⟨rfl, hb1⟩
    rw [hv]
    clear hv
    go_wp2
    go_ret2
    exact Ret.ii HN.out.1.symm HN.out.2.symm hb1
  have HN : Hid (cntR xs = (compsR xs : Int) ∧ cntC xs = 0) := by rw [Hid, cntR, cntC, if_pos hv, if_pos hv]; exact ⟨rfl, rfl⟩
  have h8 : n ≤ 8 := by rw [← HL.out]; exact regionsB_len hv
  have hc8 := compsR_le8 hv
  have HW : Hid (withLv xs (xs.map Region.level) = xs) := withLv_self xs _ (by simp) (fun i hi => by simp [lvAt, levelAt, List.getElem?_map])
  go_enter Try.func9, Try.ntmps9
  go_wp2_with fail
  refine (l18Ok_any A n c xs _ HX.out HG.out).mono ?_
  rintro e w1 ⟨rfl, hb1⟩
  rw [hv]
  have HB1 := Lib.hid hb1
  have HX1 := Lib.hid (HX.out.below hb1)
  clear hb1 hv
  go_wp2_with fail
  refine (l18Levels_any A n c xs _ HX1.out h8).mono ?_
  rintro e w2 ⟨v2, rfl, ho2, hb2⟩
  obtain ⟨DA, DC, rfl, hd1, hd2, hd3⟩ := ho2.look
  have HB2 := Lib.hid (HB1.out.trans (hb2.mono HB1.out.size))
  have HX2 := Lib.hid (HX1.out.below hb2)
  have HD : Hid (SliceOf w2 1 i64cells DA n (xs.map Region.level)) := by
    have h := ho2.sl i64cells_len
    rw [List.length_map, HL.out] at h
    exact h
  rw [List.length_map, HL.out]
  clear ho2 hb2 hd1 hd2 hd3
  go_wp2_with fail
  refine (l18Groups_any A n c xs DA DC (xs.map Region.level) _ HX2.out HD.out h8).mono ?_
  rintro e w3 ⟨v3, rfl, ⟨B, cc, rfl⟩, hb3⟩
  rw [HW.out]
  have HB3 := Lib.hid (HB2.out.trans (hb3.mono HB2.out.size))
  clear hb3
  go_wp2
  go_ret2
  exact Ret.ii HN.out.1.symm HN.out.2.symm HB3.out
set_option maxHeartbeats 1000000 in
theorem implCountBulletins_any (A : Option Addr) (n c : Nat) (xs : List Region) (w : World) (hx : Region.Sl w A n xs) (hg : ∀ x ∈ xs, x.Good) :
    Calls Try.prog 10 #[.slice A n c] w (Ret (.tuple #[.int .i64 (cntR xs), .int .i64 (cntC xs)]) w) := by
  have HX := Lib.hid hx
  have HL := Lib.hid hx.len
  have HG := Lib.hid hg
  clear hx hg
  cases hv : regionsB xs
  · have HN : Hid (cntR xs = 0 ∧ cntC xs = 1) := by rw [Hid, cntR, cntC, if_neg (by rw [hv]; decide), if_neg (by rw [hv]; decide)]; exact ⟨rfl, rfl⟩
    go_enter Try.func10, Try.ntmps10
    go_wp2_with fail
    refine (implValidRegions_any A n c xs _ HX.out HG.out).mono ?_
    rintro e w1 ⟨rfl, hb1⟩
    rw [hv]
    clear hv
    go_wp2
    go_ret2
    exact Ret.ii HN.out.1.symm HN.out.2.symm hb1
  have HN : Hid (cntR xs = (compsR xs : Int) ∧ cntC xs = 0) := by rw [Hid, cntR, cntC, if_pos hv, if_pos hv]; exact ⟨rfl, rfl⟩
  have h8 : n ≤ 8 := by rw [← HL.out]; exact regionsB_len hv
  have hc8 := compsR_le8 hv
  have HM := Lib.hid (regionsB_map hv)
  go_enter Try.func10, Try.ntmps10
  go_wp2_with fail
  refine (implValidRegions_any A n c xs _ HX.out HG.out).mono ?_
  rintro e w1 ⟨rfl, hb1⟩
  rw [hv]
  have HB1 := Lib.hid hb1
  have HX1 := Lib.hid (HX.out.below hb1)
  clear hb1 hv
  go_wp2_with fail
  refine (joined_any A n c xs _ HX1.out HM.out h8).mono ?_
  rintro e w3 ⟨v3, rfl, ⟨B, cc, rfl⟩, hb3⟩
  have HB3 := Lib.hid (HB1.out.trans (hb3.mono HB1.out.size))
  clear hb3
  go_wp2
  go_ret2
  exact Ret.ii HN.out.1.symm HN.out.2.symm HB3.out
def absB (n : Int) : Int := if n < 0 then -n else n
set_option maxHeartbeats 400000 in
theorem b10Abs_any (m : Int) (w : World) (h : -100 ≤ m ∧ m ≤ 100) : Calls Try.prog 14 #[.int .i64 m] w (RetS (.int .i64 (absB m)) w) := by
  by_cases hm : m < 0
  · have HA : Hid (absB m = -m) := if_pos hm
    go_enter Try.func14, Try.ntmps14
    go_wp2
    go_ret
    exact RetS.i HA.out.symm
  · have HA : Hid (absB m = m) := if_neg hm
    go_enter Try.func14, Try.ntmps14
    go_wp2
    go_ret
    exact RetS.i HA.out.symm
set_option maxHeartbeats 400000 in
theorem implAbs_any (m : Int) (w : World) (h : -100 ≤ m ∧ m ≤ 100) : Calls Try.prog 39 #[.int .i64 m] w (RetS (.int .i64 (absB m)) w) := by
  by_cases hm : m < 0
  · have HA : Hid (absB m = -m) := if_pos hm
    have h1 : decide (m < -m) = true := decide_eq_true (by omega)
    go_enter Try.func39, Try.ntmps39
    go_wp2
    go_ret
    exact RetS.i (by have := HA.out; omega)
  · have HA : Hid (absB m = m) := if_neg hm
    by_cases h0 : m = 0
    · subst h0
      go_enter Try.func39, Try.ntmps39
      go_wp2
      go_ret
      exact RetS.i (by have := HA.out; omega)
    go_enter Try.func39, Try.ntmps39
    go_wp2
    go_ret
    exact RetS.i (by have := HA.out; omega)
set_option maxHeartbeats 1000000 in
theorem b10Inside_any (v : ByteArray) (A : Option Addr) (n c : Nat) (xs : List ByteArray) (w : World) (hx : SliceOf w 1 strcells A n xs) :
    Calls Try.prog 13 #[.slice A n c, .string v] w (RetS (.bool (hasS xs v)) w) := by
  have hn := hx.le
  have HL := Lib.hid hx.len
  go_enter Try.func13, Try.ntmps13
  go_wp2
  go_loopg [5] n (fun gk i wr => ∃ k : Nat, k ≤ n ∧ gk = n - k ∧ i = .int .i64 k ∧ w = wr ∧ NoneTo (fun y => decide (y = v)) xs k)
  case atStart => exact ⟨0, Nat.zero_le _, rfl, rfl, rfl, NoneTo.zero⟩
  case round =>
    obtain ⟨k, hk, hgk, rfl, rfl, hall⟩ := hrel
    have Hall := Lib.hid hall
    have Hgk := Lib.hid hgk
    clear hall hgk
    by_cases hlt : k < n
    · obtain ⟨b1, o1, x, rfl, hb1, hxk, x0⟩ := strs_at hx hlt
      have Hx := Lib.hid hxk
      clear hxk
      by_cases he : x = v
      · have HE : Hid (hasS xs v = true) := by rw [Hid, hasS_iff]; exact he ▸ List.mem_of_getElem? Hx.out
        have hd := str_eq he
        clear he
        go_wp2
        go_ret
        exact RetS.b HE.out.symm
      · have HE := Lib.hid (Hall.out.step Hx.out (by simp [he]))
        have hd := str_ne he
        clear he
        go_wp2
        go_roundg (n - (k + 1))
        case measure => have := Hgk.out; omega
        case rel => exact ⟨k + 1, by omega, rfl, by go_num, rfl, HE.out⟩
    · have HE : Hid (hasS xs v = false) := by rw [Hid, ← hasS_find, findI_none (n := k) (by rw [HL.out]; omega) Hall.out]; simp
      go_wp2
      go_ret
      exact RetS.b HE.out.symm

end Go.Proofs.Ytpibiieibofggaa
