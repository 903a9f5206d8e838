/- The weakest layer, the slab above it, the steepest slope and the least further load: the program's functions at valid arguments. -/
import Derived.Test.YtmfghgoboibjdaaStabF
namespace Go.Proofs.Ytmfghgoboibjdaa
open Go.RowKit

--def $BOX(m) #[.slice A n c, .int .i64 r, .int .i64 u, .int .i64 d, .int .i64 m]
/-- The box of a slab, behind the slice's own memory. -/
structure SlabAt (A : Option Addr) (n c : Nat) (r u d mo : Int) (xs : List Layer) (X : Nat) (w0 w : World) : Prop where
  own : Own w X 49 #[.slice A n c, .int .i64 r, .int .i64 u, .int .i64 d, .int .i64 mo]
  sl : SliceOf w 7 Layer.cells A n xs
  below : Below w0.heap.size w0 w
  base : w0.heap.size ≤ X
theorem SlabAt.grow {A : Option Addr} {n c : Nat} {r u d mo : Int} {xs : List Layer} {X : Nat} {w0 w w' : World} (h : SlabAt A n c r u d mo xs X w0 w) (hb : Below w.heap.size w w') : SlabAt A n c r u d mo xs X w0 w' :=
  ⟨h.own.below' hb, h.sl.below hb, h.below.trans (hb.mono h.below.size), h.base⟩
theorem SlabAt.make {A : Option Addr} {n c : Nat} {r u d mo : Int} {xs : List Layer} {w0 w : World} (hx : SliceOf w 7 Layer.cells A n xs) (hb : Below w0.heap.size w0 w) : SlabAt A n c r u d mo xs w.heap.size w0 (w.alloc (.cells #[.slice A n c, .int .i64 r, .int .i64 u, .int .i64 d, .int .i64 mo] 49)) :=
  ⟨Own.new _ _ _, hx.below ((Below.refl _ _).alloc (Nat.le_refl _) _), hb.alloc hb.size _, hb.size⟩
theorem SlabAt.put {A : Option Addr} {n c : Nat} {r u d mo : Int} {xs : List Layer} {X : Nat} {w0 w : World} (h : SlabAt A n c r u d mo xs X w0 w) (h0 : SliceOf w0 7 Layer.cells A n xs) (i : Nat) (v : Value) {r' mo' : Int}
    (he : (#[.slice A n c, .int .i64 r, .int .i64 u, .int .i64 d, .int .i64 mo] : Array Value).setIfInBounds i v = #[.slice A n c, .int .i64 r', .int .i64 u, .int .i64 d, .int .i64 mo']) : SlabAt A n c r' u d mo' xs X w0 (w.setCell ⟨X, i, none⟩ v) := by
  have hb : Below w0.heap.size w0 (w.setCell ⟨X, i, none⟩ v) := h.below.setCell (p := ⟨X, i, none⟩) h.base v
  exact ⟨by have := h.own.put i v; rwa [he] at this, h0.sub (Nat.le_refl _) hb, hb, h.base⟩
set_option maxHeartbeats 1000000 in
theorem weakestLayer_ok (A : Option Addr) (n c : Nat) (r u d : Int) (xs : List Layer) (w : World) (hx : SliceOf w 7 Layer.cells A n xs) (hv : profB xs = true) (hc : n ≤ c) (hc2 : c ≤ 9223372036854775807) (hr : 0 ≤ r ∧ r ≤ 1000) (hu : 1 ≤ u ∧ u ≤ 1000) (hd : 0 ≤ d ∧ d ≤ 1000) :
    Calls Try.prog 10 #[.slice A n c, .int .i64 r, .int .i64 u, .int .i64 d] w (fun e w' => ∃ q l cd : Int, e = .returned (.tuple #[.int .i64 q, .int .i64 l, .int .i64 cd]) ∧ ((n = 0 ∧ cd = 3) ∨ (0 < n ∧ cd = 0 ∧ (q, l) = weakN (lowAt xs 0 r u d) 1000000 n)) ∧ Below w.heap.size w w') := by
  obtain ⟨w1, hw1⟩ : ∃ w1, w.alloc (.cells #[.slice A n c, .int .i64 r, .int .i64 u, .int .i64 d, .int .i64 0] 49) = w1 := ⟨_, rfl⟩
  obtain ⟨X, hX⟩ : ∃ X, w.heap.size = X := ⟨_, rfl⟩
  have H1 : Hid (SlabAt A n c r u d 0 xs X w w1) := by rw [Hid, ← hw1, ← hX]; exact SlabAt.make hx (Below.refl _ _)
  have HV := Lib.hid hv
  have HW1 := Lib.hid hw1
  have HXX := Lib.hid hX
  clear hx hv hw1 hX
  go_enter Try.func10, Try.ntmps10
  go_wp2_with fail
  rw [HW1.out, HXX.out]
  refine (slabCode_ok A n c r u d 0 0 xs _ H1.out.sl HV.out hr hu hd (by omega)).mono ?_
  rintro e w2 ⟨rfl, hb2⟩
  have H2 := Lib.hid (H1.out.grow hb2)
  clear hb2
  have y0 := H2.out.own.cell 0
  have y1 := H2.out.own.cell 1
  have y2 := H2.out.own.cell 2
  have y3 := H2.out.own.cell 3
  have y4 := H2.out.own.cell 4
  have ly := H2.out.own.lt
  simp at y0 y1 y2 y3 y4
  go_wp2_with fail
  refine (weakest_ok A n c r u d 0 xs _ H2.out.sl HV.out hc hc2 hr hu hd (by omega)).mono ?_
  rintro e w3 ⟨rfl, hb3⟩
  have HB3 := Lib.hid (H2.out.grow hb3).below
  clear hb3 y0 y1 y2 y3 y4 ly
  have HN : Hid (0 < n → 0 ≤ (weakN (lowAt xs 0 r u d) 1000000 n).1) := fun h => weakN_neg _ _ _ h
  by_cases hn : 0 < n
  · obtain ⟨P, hP⟩ : ∃ P, weakN (lowAt xs 0 r u d) 1000000 n = P := ⟨_, rfl⟩
    have h0 := HN.out hn
    rw [hP] at h0 ⊢
    obtain ⟨p, q⟩ := P
    have h1 : 0 ≤ p := h0
    have HPW := Lib.hid hP
    clear HN h0 hP
    go_wp2
    go_ret3
    exact ⟨p, q, 0, rfl, .inr ⟨hn, rfl, HPW.out.symm⟩, HB3.out⟩
  · have hn0 : n = 0 := by omega
    subst hn0
    have h1 : weakN (lowAt xs 0 r u d) 1000000 0 = (-1, 1000000) := rfl
    rw [h1]
    clear h1 HN hn
    go_wp2
    go_ret3
    exact ⟨_, _, 3, rfl, by simp, HB3.out⟩
set_option maxHeartbeats 1000000 in
theorem slabOf_ok (A : Option Addr) (n c : Nat) (r u d : Int) (xs : List Layer) (w : World) (hx : SliceOf w 7 Layer.cells A n xs) (hv : profB xs = true) (hc : n ≤ c) (hc2 : c ≤ 9223372036854775807) (hr : 0 ≤ r ∧ r ≤ 1000) (hu : 1 ≤ u ∧ u ≤ 1000) (hd : 0 ≤ d ∧ d ≤ 1000) :
    Calls Try.prog 11 #[.slice A n c, .int .i64 r, .int .i64 u, .int .i64 d] w (fun e w' => ∃ h cd : Int, e = .returned (.tuple #[.int .i64 h, .int .i64 cd]) ∧ ((n = 0 ∧ cd = 3) ∨ (0 < n ∧ cd = 0 ∧ 0 ≤ h)) ∧ Below w.heap.size w w') := by
  have HX := Lib.hid hx
  have HV := Lib.hid hv
  have hp := profB_iff.1 hv
  have h16 : n ≤ 16 := by rw [← hx.len]; exact hp.1
  have HP := Lib.hid hp.2
  clear hp
  go_enter Try.func11, Try.ntmps11
  go_wp2_with fail
  refine (weakestLayer_ok A n c r u d xs _ HX.out HV.out hc hc2 hr hu hd).mono ?_
  rintro e w2 ⟨q, l, cd, rfl, hq, hb2⟩
  have HB2 := Lib.hid hb2
  have HX2 := Lib.hid (HX.out.below hb2)
  clear hb2 hx hv
  rcases hq with ⟨hn0, rfl⟩ | ⟨hn0, rfl, hq⟩
  · go_wp2
    go_ret2
    exact ⟨_, 3, rfl, .inl ⟨hn0, rfl⟩, HB2.out⟩
  · obtain ⟨k, hk, he, _⟩ := weakN_spec (lowAt xs 0 r u d) 1000000 n hn0
    rw [he] at hq
    injection hq with e1 e2
    subst e1 e2
    obtain ⟨b, o, _, rfl, hbl, _⟩ := Layer.at_ HX2.out hk
    obtain ⟨ys, hys⟩ : ∃ ys, xs.drop (k + 1) = ys := ⟨_, rfl⟩
    have hd2 := HX2.out.drop (k := k + 1) (by omega)
    rw [hys] at hd2
    have HVY : Hid (∀ x ∈ ys, x.oneB = true) := fun x h => HP.out x (List.mem_of_mem_drop (hys ▸ h))
    obtain ⟨m, hm⟩ : ∃ m, n - (k + 1) = m := ⟨_, rfl⟩
    obtain ⟨o2, ho2⟩ : ∃ o2, o + (k + 1) * 7 = o2 := ⟨_, rfl⟩
    rw [hm, ho2] at hd2
    have hm16 : m ≤ 16 := by omega
    have hcs : (c = k + 1 ∧ SliceOf w2 7 Layer.cells (some ⟨b, o, none⟩) m ys) ∨ (¬ c = k + 1 ∧ SliceOf w2 7 Layer.cells (some ⟨b, o2, none⟩) m ys) := by
      by_cases e : c = k + 1
      · exact .inl ⟨e, hd2.len, hd2.le, fun h => absurd h (by omega)⟩
      · exact .inr ⟨e, hd2⟩
    clear he hd2 hys
    rcases hcs with ⟨hcc, hX⟩ | ⟨hcc, hX⟩
    all_goals
      have HX3 := Lib.hid hX
      clear hX
      go_wp2_with fail
      refine (heightOf_ok _ m _ ys _ HX3.out HVY.out hm16).mono ?_
      rintro e w3 ⟨h, rfl, h0, h1, hb3⟩
      have HB3 := Lib.hid (HB2.out.trans (hb3.mono HB2.out.size))
      clear hb3 hcc
      go_wp2
      go_ret2
      exact ⟨h, 0, rfl, .inr ⟨hn0, rfl, h0⟩, HB3.out⟩
set_option maxHeartbeats 1000000 in
theorem isStable_ok (A : Option Addr) (n c : Nat) (r u d limit : Int) (xs : List Layer) (w : World) (hx : SliceOf w 7 Layer.cells A n xs) (hv : profB xs = true) (hc : n ≤ c) (hc2 : c ≤ 9223372036854775807) (hr : 0 ≤ r ∧ r ≤ 1000) (hu : 1 ≤ u ∧ u ≤ 1000) (hd : 0 ≤ d ∧ d ≤ 1000) (hl : 0 ≤ limit ∧ limit ≤ 1000000) :
    Calls Try.prog 12 #[.slice A n c, .int .i64 r, .int .i64 u, .int .i64 d, .int .i64 limit] w (Ret (.bool (stabB xs 0 r u d limit)) w) := by
  obtain ⟨w1, hw1⟩ : ∃ w1, w.alloc (.cells #[.slice A n c, .int .i64 r, .int .i64 u, .int .i64 d, .int .i64 0] 49) = w1 := ⟨_, rfl⟩
  obtain ⟨X, hX⟩ : ∃ X, w.heap.size = X := ⟨_, rfl⟩
  have H1 : Hid (SlabAt A n c r u d 0 xs X w w1) := by rw [Hid, ← hw1, ← hX]; exact SlabAt.make hx (Below.refl _ _)
  have HV := Lib.hid hv
  have HW1 := Lib.hid hw1
  have HXX := Lib.hid hX
  clear hx hv hw1 hX
  go_enter Try.func12, Try.ntmps12
  go_wp2_with fail
  rw [HW1.out, HXX.out]
  refine (slabCode_ok A n c r u d 0 limit xs _ H1.out.sl HV.out hr hu hd hl).mono ?_
  rintro e w2 ⟨rfl, hb2⟩
  have H2 := Lib.hid (H1.out.grow hb2)
  clear hb2
  have y0 := H2.out.own.cell 0
  have y1 := H2.out.own.cell 1
  have y2 := H2.out.own.cell 2
  have y3 := H2.out.own.cell 3
  have y4 := H2.out.own.cell 4
  have ly := H2.out.own.lt
  simp at y0 y1 y2 y3 y4
  go_wp2_with fail
  refine (stable_ok A n c r u d 0 limit xs _ H2.out.sl HV.out hc hc2 hr hu hd (by omega) hl.2).mono ?_
  rintro e w3 ⟨rfl, hb3⟩
  have HB3 := Lib.hid (H2.out.grow hb3).below
  clear hb3 y0 y1 y2 y3 y4 ly
  go_wp2
  go_ret
  exact Ret.b rfl HB3.out
theorem orNotFound_yes (n : Int) (w : World) : Calls Try.prog 37 #[.int .i64 n, .bool true] w (RetS (.tuple #[.int .i64 n, .int .i64 0]) w) := by
  go_enter Try.func37, Try.ntmps37
  go_wp2
  go_ret2
  exact RetS.ii rfl rfl
theorem orNotFound_no (n : Int) (w : World) : Calls Try.prog 37 #[.int .i64 n, .bool false] w (RetS (.tuple #[.int .i64 0, .int .i64 3]) w) := by
  go_enter Try.func37, Try.ntmps37
  go_wp2
  go_ret2
  exact RetS.ii rfl rfl
set_option maxHeartbeats 1000000 in
theorem steepestFor_ok (A : Option Addr) (n c u : Nat) (d limit : Int) (xs : List Layer) (w : World) (hx : SliceOf w 7 Layer.cells A n xs) (hv : profB xs = true) (hc : n ≤ c) (hc2 : c ≤ 9223372036854775807) (hu : 1 ≤ u ∧ u ≤ 1000) (hd : 0 ≤ d ∧ d ≤ 1000) (hl : 0 ≤ limit ∧ limit ≤ 1000000) :
    Calls Try.prog 17 #[.slice A n c, .int .i64 u, .int .i64 d, .int .i64 limit] w (fun e w' => ∃ st cd : Int, e = .returned (.tuple #[.int .i64 st, .int .i64 cd]) ∧ ((cd = 0 ∧ 0 ≤ st ∧ st ≤ u ∧ stabB xs 0 st u d limit = true ∧ (st = u ∨ stabB xs 0 (st + 1) u d limit = false)) ∨ (cd = 3 ∧ stabB xs 0 0 u d limit = false)) ∧ Below w.heap.size w w') := by
  obtain ⟨w1, hw1⟩ : ∃ w1, w.alloc (.cells #[.slice A n c, .int .i64 u, .int .i64 u, .int .i64 d, .int .i64 0] 49) = w1 := ⟨_, rfl⟩
  obtain ⟨X, hX⟩ : ∃ X, w.heap.size = X := ⟨_, rfl⟩
  have H1 : Hid (SlabAt A n c u u d 0 xs X w w1) := by rw [Hid, ← hw1, ← hX]; exact SlabAt.make hx (Below.refl _ _)
  have H0 := Lib.hid hx
  have HV := Lib.hid hv
  have HW1 := Lib.hid hw1
  have HXX := Lib.hid hX
  clear hx hv hw1 hX
  go_enter Try.func17, Try.ntmps17
  go_wp2_with fail
  rw [HW1.out, HXX.out]
  refine (slabCode_ok A n c u u d 0 limit xs _ H1.out.sl HV.out (by omega) (by omega) hd hl).mono ?_
  rintro e w2 ⟨rfl, hb2⟩
  have H2 := Lib.hid (H1.out.grow hb2)
  clear hb2
  go_wp2
  go_loopg [] u (fun gk wr => ∃ r : Nat, r ≤ u ∧ gk = r ∧ SlabAt A n c r u d 0 xs X w wr ∧ (r = u ∨ stabB xs 0 ((r : Int) + 1) u d limit = false))
  case atStart => exact ⟨u, Nat.le_refl _, rfl, H2.out, .inl rfl⟩
  case round =>
    obtain ⟨r, hru, hgk, hat, hst⟩ := hrel
    subst hgk
    have HA := Lib.hid hat
    have HST := Lib.hid hst
    have y0 := hat.own.cell 0
    have y1 := hat.own.cell 1
    have y2 := hat.own.cell 2
    have y3 := hat.own.cell 3
    have y4 := hat.own.cell 4
    have ly := hat.own.lt
    have fy := hat.own.frozen
    simp at y0 y1 y2 y3 y4
    have hsub := fun (g : Sub wr) b o (h : b < wr.heap.size) => g.cell b o h
    clear hat hst
    by_cases h0 : 0 < gk
    · go_wp2_with fail
      refine (stable_ok A n c gk u d 0 limit xs _ HA.out.sl HV.out hc hc2 (by omega) (by omega) hd (by omega) hl.2).mono ?_
      rintro e w3 ⟨rfl, hb3⟩
      have HA3 := Lib.hid (HA.out.grow hb3)
      clear hb3 y0 y1 y2 y3 y4 ly fy hsub
      have y0 := HA3.out.own.cell 0
      have y1 := HA3.out.own.cell 1
      have y2 := HA3.out.own.cell 2
      have y3 := HA3.out.own.cell 3
      have y4 := HA3.out.own.cell 4
      have ly := HA3.out.own.lt
      have fy := HA3.out.own.frozen
      simp at y0 y1 y2 y3 y4
      have hsub := fun (g : Sub w3) b o (h : b < w3.heap.size) => g.cell b o h
      cases hsb : stabB xs 0 gk u d limit
      · have HSB := Lib.hid hsb
        obtain ⟨q, hq⟩ : ∃ q : Nat, gk = q + 1 := ⟨gk - 1, by omega⟩
        subst hq
        have HP : Hid (SlabAt A n c q u d 0 xs X w (w3.setCell ⟨X, 1, none⟩ (.int .i64 q))) := by
          exact HA3.out.put H0.out 1 (.int .i64 q) (by simp)
        clear hsub
        go_wp2
        go_roundg q
        case measure => omega
        case rel => exact ⟨q, by omega, rfl, by first | exact HP.out | (have := HP.out; simpa using this), .inr (by have := HSB.out; simpa using this)⟩
      · have HSB := Lib.hid hsb
        clear hsb
        have hst2 : Hid (∀ (g : Sub w3), Calls Try.prog 32 #[.agg #[.slice A n c, .int .i64 gk, .int .i64 u, .int .i64 d, .int .i64 0], .int .i64 limit] g.val (Ret (.bool true) g.val)) := fun g => by
          have := stable_ok A n c gk u d 0 limit xs g.val (HA3.out.sl.below g.below) HV.out hc hc2 (by omega) (by omega) hd (by omega) hl.2
          rwa [HSB.out] at this
        go_wp2_with fail
        refine wp_region_sub (by kernel_rfl) (by kernel_rfl) ?_
        repeat (go_big_quiet_step (first | exact Calls.sub_of (hst2.out _) | exact Calls.sub_of_same (orNotFound_yes _ _)))
        refine wpQuiet_nil ?_
        intro wg hg
        have HB4 := Lib.hid (HA3.out.below.trans (hg.mono HA3.out.below.size))
        clear hg hsub y0 y1 y2 y3 y4 ly fy
        go_wp2
        go_ret2
        exact ⟨gk, 0, rfl, .inl ⟨rfl, by omega, by omega, HSB.out, HST.out.elim (fun h => .inl (by omega)) (fun h => .inr h)⟩, HB4.out⟩
    · have hz : gk = 0 := by omega
      subst hz
      cases hsb : stabB xs 0 0 u d limit
      · have HSB := Lib.hid hsb
        clear hsb
        have hst2 : Hid (∀ (g : Sub wr), Calls Try.prog 32 #[.agg #[.slice A n c, .int .i64 0, .int .i64 u, .int .i64 d, .int .i64 0], .int .i64 limit] g.val (Ret (.bool false) g.val)) := fun g => by
          have := stable_ok A n c 0 u d 0 limit xs g.val (HA.out.sl.below g.below) HV.out hc hc2 (by omega) (by omega) hd (by omega) hl.2
          rwa [HSB.out] at this
        go_wp2_with fail
        refine wp_region_sub (by kernel_rfl) (by kernel_rfl) ?_
        repeat (go_big_quiet_step (first | exact Calls.sub_of (hst2.out _) | exact Calls.sub_of_same (orNotFound_no _ _)))
        refine wpQuiet_nil ?_
        intro wg hg
        have HB4 := Lib.hid (HA.out.below.trans (hg.mono HA.out.below.size))
        clear hg hsub y0 y1 y2 y3 y4 ly fy
        go_wp2
        go_ret2
        exact ⟨0, 3, rfl, .inr ⟨rfl, HSB.out⟩, HB4.out⟩
      · have HSB := Lib.hid hsb
        clear hsb
        have hst2 : Hid (∀ (g : Sub wr), Calls Try.prog 32 #[.agg #[.slice A n c, .int .i64 0, .int .i64 u, .int .i64 d, .int .i64 0], .int .i64 limit] g.val (Ret (.bool true) g.val)) := fun g => by
          have := stable_ok A n c 0 u d 0 limit xs g.val (HA.out.sl.below g.below) HV.out hc hc2 (by omega) (by omega) hd (by omega) hl.2
          rwa [HSB.out] at this
        go_wp2_with fail
        refine wp_region_sub (by kernel_rfl) (by kernel_rfl) ?_
        repeat (go_big_quiet_step (first | exact Calls.sub_of (hst2.out _) | exact Calls.sub_of_same (orNotFound_yes _ _)))
        refine wpQuiet_nil ?_
        intro wg hg
        have HB4 := Lib.hid (HA.out.below.trans (hg.mono HA.out.below.size))
        clear hg hsub y0 y1 y2 y3 y4 ly fy
        go_wp2
        go_ret2
        exact ⟨0, 0, rfl, .inl ⟨rfl, by omega, by omega, HSB.out, HST.out.elim (fun h => .inl (by omega)) (fun h => .inr (by simpa using h))⟩, HB4.out⟩

end Go.Proofs.Ytmfghgoboibjdaa
