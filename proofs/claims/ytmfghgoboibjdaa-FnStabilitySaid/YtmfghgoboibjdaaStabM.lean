/- MoreLoad, through the library's binary search with two function values: what it hands back is a load that makes the profile unstable. -/
import Derived.Test.YtmfghgoboibjdaaStabG
import Derived.Test.YtmfghgoboibjdaaSrcK
namespace Go.Proofs.Ytmfghgoboibjdaa
open Go.RowKit

/-- The captured limit and the captured slab, whatever load was written into it last. -/
structure MoreAt (A : Option Addr) (n c : Nat) (r u d limit : Int) (xs : List Layer) (L X : Nat) (w0 w : World) : Prop where
  slab : ∃ mo, 0 ≤ mo ∧ mo ≤ 1000000 ∧ SlabAt A n c r u d mo xs X w0 w
  lim : Own w L 2 #[.int .i64 limit]
  lt : L < X
theorem MoreAt.grow {A : Option Addr} {n c : Nat} {r u d limit : Int} {xs : List Layer} {L X : Nat} {w0 w w' : World} (h : MoreAt A n c r u d limit xs L X w0 w) (hb : Below w.heap.size w w') : MoreAt A n c r u d limit xs L X w0 w' := by
  obtain ⟨mo, h0, h1, hs⟩ := h.slab
  exact ⟨⟨mo, h0, h1, hs.grow hb⟩, h.lim.below' hb, h.lt⟩
set_option maxHeartbeats 1000000 in
theorem more1_ok (A : Option Addr) (n c : Nat) (r u d limit m : Int) (xs : List Layer) (L X : Nat) (w0 w : World) (h : MoreAt A n c r u d limit xs L X w0 w) (hx0 : SliceOf w0 7 Layer.cells A n xs) (hv : profB xs = true) (hc : n ≤ c) (hc2 : c ≤ 9223372036854775807) (hr : 0 ≤ r ∧ r ≤ 1000) (hu : 1 ≤ u ∧ u ≤ 1000) (hd : 0 ≤ d ∧ d ≤ 1000) (hl : limit ≤ 1000000) (hm : 0 ≤ m ∧ m ≤ 1000000) :
    Calls Try.prog 39 #[.int .i64 m, .pointer (some ⟨X, 0, none⟩), .pointer (some ⟨L, 0, none⟩)] w (fun e w' => e = .returned (.bool (!stabB xs m r u d limit)) ∧ MoreAt A n c r u d limit xs L X w0 w' ∧ Span X (X + 1) w w') := by
  obtain ⟨mo, h0, h1, hs⟩ := h.slab
  obtain ⟨w1, hw1⟩ : ∃ w1, w.setCell ⟨X, 4, none⟩ (.int .i64 m) = w1 := ⟨_, rfl⟩
  have H1 : Hid (SlabAt A n c r u d m xs X w0 w1) := by rw [Hid, ← hw1]; exact hs.put hx0 4 (.int .i64 m) (by simp)
  have HL1 : Hid (Own w1 L 2 #[.int .i64 limit]) := by rw [Hid, ← hw1]; exact h.lim.far (p := ⟨X, 4, none⟩) (by have := h.lt; simp only; omega) _
  have HSP : Hid (Span X (X + 1) w w1) := by rw [Hid, ← hw1]; exact (Span.refl _ _ _).setCell (p := ⟨X, 4, none⟩) (Nat.le_refl _) (Nat.lt_succ_self _) _
  have HLT := Lib.hid h.lt
  have HV := Lib.hid hv
  have HW1 := Lib.hid hw1
  have y0 := hs.own.cell 0
  have y1 := hs.own.cell 1
  have y2 := hs.own.cell 2
  have y3 := hs.own.cell 3
  have y4 := hs.own.cell 4
  have fy := hs.own.frozen
  have ly := hs.own.lt
  have z0 := h.lim.cell 0
  have hne : L ≠ X := by have := h.lt; omega
  simp at y0 y1 y2 y3 y4 z0
  clear h hx0 hv hs hw1
  go_enter Try.func39, Try.ntmps39
  go_wp2_with fail
  rw [HW1.out]
  clear y0 y1 y2 y3 y4 fy ly z0 hne
  refine (stable_ok A n c r u d m limit xs _ H1.out.sl HV.out hc hc2 hr hu hd hm hl).mono ?_
  rintro e w2 ⟨rfl, hb2⟩
  have HM2 : Hid (MoreAt A n c r u d limit xs L X w0 w2) := ⟨⟨m, hm.1, hm.2, H1.out.grow hb2⟩, HL1.out.below' hb2, HLT.out⟩
  have HS2 := Lib.hid (HSP.out.trans (Span.of_below (lo := X) (hi := X + 1) hb2 (Nat.le_refl _)))
  clear hb2
  go_wp2
  go_ret
  exact ⟨rfl, HM2.out, HS2.out⟩
/-- The two function values' own boxes beside them. -/
structure FindAt (A : Option Addr) (n c : Nat) (r u d limit : Int) (xs : List Layer) (L X O F : Nat) (w0 w : World) : Prop where
  more : MoreAt A n c r u d limit xs L X w0 w
  one : Own w O 2 #[.int .i64 1]
  fn : Own w F 43 #[.func (.func 39) #[] #[.pointer (some ⟨X, 0, none⟩), .pointer (some ⟨L, 0, none⟩)]]
  lo : X + 1 ≤ O
  lf : X + 1 ≤ F
theorem FindAt.grow {A : Option Addr} {n c : Nat} {r u d limit : Int} {xs : List Layer} {L X O F : Nat} {w0 w w' : World} (h : FindAt A n c r u d limit xs L X O F w0 w) (hb : Below w.heap.size w w') : FindAt A n c r u d limit xs L X O F w0 w' :=
  ⟨h.more.grow hb, h.one.below' hb, h.fn.below' hb, h.lo, h.lf⟩
set_option maxHeartbeats 1000000 in
theorem find1_ok (A : Option Addr) (n c i : Nat) (r u d limit : Int) (xs : List Layer) (L X O F : Nat) (w0 w : World) (h : FindAt A n c r u d limit xs L X O F w0 w) (hx0 : SliceOf w0 7 Layer.cells A n xs) (hv : profB xs = true) (hc : n ≤ c) (hc2 : c ≤ 9223372036854775807) (hr : 0 ≤ r ∧ r ≤ 1000) (hu : 1 ≤ u ∧ u ≤ 1000) (hd : 0 ≤ d ∧ d ≤ 1000) (hl : limit ≤ 1000000) (hi : i < 1000000) :
    Calls Try.prog 59 #[.int .i64 i, .pointer (some ⟨F, 0, none⟩), .pointer (some ⟨O, 0, none⟩)] w (fun e w' => e = .returned (.bool (!stabB xs (1 + (i : Int)) r u d limit)) ∧ FindAt A n c r u d limit xs L X O F w0 w') := by
  have H := Lib.hid h
  have H0 := Lib.hid hx0
  have HV := Lib.hid hv
  have y0 := h.one.cell 0
  have z0 := h.fn.cell 0
  simp at y0 z0
  clear h hx0 hv
  go_enter Try.func59, Try.ntmps59
  go_wp2_with fail
  refine (more1_ok A n c r u d limit (1 + (i : Int)) xs L X w0 w H.out.more H0.out HV.out hc hc2 hr hu hd hl (by omega)).mono ?_
  rintro e w2 ⟨rfl, hm, hsp⟩
  have HF2 : Hid (FindAt A n c r u d limit xs L X O F w0 w2) := ⟨hm, Own.span H.out.one hsp (.inr H.out.lo), Own.span H.out.fn hsp (.inr H.out.lf), H.out.lo, H.out.lf⟩
  clear hm hsp y0 z0
  go_wp2
  go_ret
  exact ⟨rfl, HF2.out⟩
set_option maxHeartbeats 1000000 in
theorem search_ok (A : Option Addr) (n c : Nat) (r u d limit : Int) (xs : List Layer) (L X O F : Nat) (w0 w : World) (h : FindAt A n c r u d limit xs L X O F w0 w) (hx0 : SliceOf w0 7 Layer.cells A n xs) (hv : profB xs = true) (hc : n ≤ c) (hc2 : c ≤ 9223372036854775807) (hr : 0 ≤ r ∧ r ≤ 1000) (hu : 1 ≤ u ∧ u ≤ 1000) (hd : 0 ≤ d ∧ d ≤ 1000) (hl : limit ≤ 1000000) :
    Calls Try.prog 58 #[.int .i64 1000000, .func (.func 59) #[] #[.pointer (some ⟨F, 0, none⟩), .pointer (some ⟨O, 0, none⟩)]] w (fun e w' => ∃ k : Nat, e = .returned (.int .i64 k) ∧ k ≤ 1000000 ∧ (k < 1000000 → stabB xs (1 + (k : Int)) r u d limit = false) ∧ FindAt A n c r u d limit xs L X O F w0 w') := by
  have H := Lib.hid h
  have H0 := Lib.hid hx0
  have HV := Lib.hid hv
  clear h hx0 hv
  go_enter Try.func58, Try.ntmps58
  go_wp2
  go_loopg [5, 6] 1000000 (fun gk s5 s6 wr => ∃ i j : Nat, i ≤ j ∧ j ≤ 1000000 ∧ gk = j - i ∧ s5 = .int .i64 i ∧ s6 = .int .i64 j ∧ (j < 1000000 → stabB xs (1 + (j : Int)) r u d limit = false) ∧ FindAt A n c r u d limit xs L X O F w0 wr)
  case atStart => exact ⟨0, 1000000, by omega, Nat.le_refl _, rfl, rfl, rfl, fun h => absurd h (by omega), H.out⟩
  case round =>
    obtain ⟨i, j, hij, hj, hgk, rfl, rfl, hst, hf⟩ := hrel
    have HG := Lib.hid hgk
    have HST := Lib.hid hst
    have HF := Lib.hid hf
    clear hgk hst hf
    by_cases hlt : i < j
    · obtain ⟨m, hm⟩ : ∃ m, (i + j) / 2 = m := ⟨_, rfl⟩
      have hm1 : i ≤ m := by omega
      have hm2 : m < j := by omega
      have HM := Lib.hid hm
      have hme : ((i : Int) + (j : Int)) / 2 = (m : Int) := by omega
      clear hm
      go_wp2_with fail
      try rw [hme]
      refine (find1_ok A n c m r u d limit xs L X O F w0 wr HF.out H0.out HV.out hc hc2 hr hu hd hl (by omega)).mono ?_
      rintro e w2 ⟨rfl, hf2⟩
      have HF2 := Lib.hid hf2
      clear hf2
      cases hsb : stabB xs (1 + (m : Int)) r u d limit
      · have HSB := Lib.hid hsb
        clear hsb hme
        go_wp2
        go_roundg (m - i)
        case measure => have := HG.out; omega
        case rel => exact ⟨i, m, by omega, by omega, rfl, rfl, by first | rfl | go_num, fun _ => HSB.out, HF2.out⟩
      · clear hsb hme
        go_wp2
        go_roundg (j - (m + 1))
        case measure => have := HG.out; omega
        case rel => exact ⟨m + 1, j, by omega, hj, rfl, by first | rfl | go_num, rfl, HST.out, HF2.out⟩
    · have e : i = j := by omega
      subst e
      go_wp2
      go_ret
      exact ⟨i, rfl, hj, HST.out, HF.out⟩
set_option maxHeartbeats 1000000 in
theorem firstIn_ok (A : Option Addr) (n c : Nat) (r u d limit : Int) (xs : List Layer) (L X : Nat) (w0 w : World) (h : MoreAt A n c r u d limit xs L X w0 w) (hx0 : SliceOf w0 7 Layer.cells A n xs) (hv : profB xs = true) (hc : n ≤ c) (hc2 : c ≤ 9223372036854775807) (hr : 0 ≤ r ∧ r ≤ 1000) (hu : 1 ≤ u ∧ u ≤ 1000) (hd : 0 ≤ d ∧ d ≤ 1000) (hl : limit ≤ 1000000) :
    Calls Try.prog 38 #[.int .i64 1, .int .i64 1000000, .func (.func 39) #[] #[.pointer (some ⟨X, 0, none⟩), .pointer (some ⟨L, 0, none⟩)]] w (fun e w' => ∃ (k : Int) (b : Bool), e = .returned (.tuple #[.int .i64 k, .bool b]) ∧ 1 ≤ k ∧ (b = true → k ≤ 1000000 ∧ stabB xs k r u d limit = false) ∧ MoreAt A n c r u d limit xs L X w0 w') := by
  have H0 := Lib.hid hx0
  have HV := Lib.hid hv
  have hlt := (h.slab.choose_spec.2.2).own.lt
  have HF : Hid (FindAt A n c r u d limit xs L X w.heap.size (w.heap.size + 1) w0 ((w.alloc (.cells #[.int .i64 1] 2)).alloc (.cells #[.func (.func 39) #[] #[.pointer (some ⟨X, 0, none⟩), .pointer (some ⟨L, 0, none⟩)]] 43))) :=
    ⟨(h.grow ((Below.refl _ _).alloc (Nat.le_refl _) _)).grow ((Below.refl _ _).alloc (Nat.le_refl _) _), (Own.new w 2 #[.int .i64 1]).alloc _, by
      have := Own.new (w.alloc (.cells #[.int .i64 1] 2)) 43 #[.func (.func 39) #[] #[.pointer (some ⟨X, 0, none⟩), .pointer (some ⟨L, 0, none⟩)]]
      simpa using this, by omega, by omega⟩
  clear h hx0 hv
  go_enter Try.func38, Try.ntmps38
  go_wp2_with fail
  refine (search_ok A n c r u d limit xs L X _ _ w0 _ HF.out H0.out HV.out hc hc2 hr hu hd hl).mono ?_
  rintro e w2 ⟨k, rfl, hk, hst, hf2⟩
  have HF2 := Lib.hid hf2
  have HST := Lib.hid hst
  have y0 := hf2.one.cell 0
  simp at y0
  clear hf2 hst hlt
  go_wp2
  go_ret2
  have hfin : k < 1000000 → 1 + (k : Int) ≤ 1000000 ∧ stabB xs (1 + (k : Int)) r u d limit = false := fun hb => ⟨by omega, HST.out hb⟩
  exact ⟨1 + (k : Int), _, rfl, by omega, by intro hb; have h9 := of_decide_eq_true hb; exact hfin (by omega), HF2.out.more⟩
set_option maxHeartbeats 1000000 in
theorem moreLoad_ok (A : Option Addr) (n c : Nat) (r u d limit : Int) (xs : List Layer) (w : World) (hx : SliceOf w 7 Layer.cells A n xs) (hv : profB xs = true) (hc : n ≤ c) (hc2 : c ≤ 9223372036854775807) (hr : 0 ≤ r ∧ r ≤ 1000) (hu : 1 ≤ u ∧ u ≤ 1000) (hd : 0 ≤ d ∧ d ≤ 1000) (hl : 0 ≤ limit ∧ limit ≤ 1000000) :
    Calls Try.prog 14 #[.slice A n c, .int .i64 r, .int .i64 u, .int .i64 d, .int .i64 limit] w (fun e w' => ∃ ld cd : Int, e = .returned (.tuple #[.int .i64 ld, .int .i64 cd]) ∧ ((stabB xs 0 r u d limit = false ∧ cd = 6) ∨ (stabB xs 0 r u d limit = true ∧ (cd = 3 ∨ cd = 0 ∧ 1 ≤ ld ∧ ld ≤ 1000000 ∧ stabB xs ld r u d limit = false))) ∧ Below w.heap.size w w') := by
  obtain ⟨w1, hw1⟩ : ∃ w1, (w.alloc (.cells #[.int .i64 limit] 2)).alloc (.cells #[.slice A n c, .int .i64 r, .int .i64 u, .int .i64 d, .int .i64 0] 49) = w1 := ⟨_, rfl⟩
  obtain ⟨L, hL⟩ : ∃ L, w.heap.size = L := ⟨_, rfl⟩
  have h1 : SlabAt A n c r u d 0 xs (L + 1) w w1 ∧ Own w1 L 2 #[.int .i64 limit] := by
    rw [← hw1, ← hL]
    have hb : Below w.heap.size w (w.alloc (.cells #[.int .i64 limit] 2)) := (Below.refl _ _).alloc (Nat.le_refl _) _
    have := SlabAt.make (c := c) (r := r) (u := u) (d := d) (mo := 0) (hx.below hb) hb
    exact ⟨by simpa using this, (Own.new _ _ _).alloc _⟩
  have H1 := Lib.hid h1.1
  have HL1 := Lib.hid h1.2
  have H0 := Lib.hid hx
  have HV := Lib.hid hv
  have HW1 := Lib.hid hw1
  have HLL := Lib.hid hL
  clear hx hv hw1 hL h1
  go_enter Try.func14, Try.ntmps14
  go_wp2_with fail
  rw [HW1.out, HLL.out]
  refine (slabCode_ok A n c r u d 0 limit xs _ H1.out.sl HV.out hr hu hd hl).mono ?_
  rintro e w2 ⟨rfl, hb2⟩
  have H2 := Lib.hid (H1.out.grow hb2)
  have HL2 := Lib.hid (HL1.out.below' hb2)
  clear hb2
  have y0 := H2.out.own.cell 0
  have y1 := H2.out.own.cell 1
  have y2 := H2.out.own.cell 2
  have y3 := H2.out.own.cell 3
  have y4 := H2.out.own.cell 4
  have ly := H2.out.own.lt
  have z0 := HL2.out.cell 0
  simp at y0 y1 y2 y3 y4 z0
  go_wp2_with fail
  refine (stable_ok A n c r u d 0 limit xs _ H2.out.sl HV.out hc hc2 hr hu hd (by omega) hl.2).mono ?_
  rintro e w3 ⟨rfl, hb3⟩
  have H3 := Lib.hid (H2.out.grow hb3)
  have HL3 := Lib.hid (HL2.out.below' hb3)
  clear hb3 y0 y1 y2 y3 y4 ly z0
  cases hsb : stabB xs 0 r u d limit
  · have HSB := Lib.hid hsb
    clear hsb
    go_wp2
    go_ret2
    exact ⟨0, 6, rfl, .inl ⟨HSB.out, rfl⟩, H3.out.below⟩
  · have HSB := Lib.hid hsb
    clear hsb
    have HM3 : Hid (MoreAt A n c r u d limit xs L (L + 1) w w3) := ⟨⟨0, by omega, by omega, H3.out⟩, HL3.out, Nat.lt_succ_self _⟩
    go_wp2_with fail
    refine (firstIn_ok A n c r u d limit xs L (L + 1) w w3 HM3.out H0.out HV.out hc hc2 hr hu hd hl.2).mono ?_
    rintro e w4 ⟨k, b, rfl, hk, hkb, hm4⟩
    have HB4 : Hid (Below w.heap.size w w4) := by
      obtain ⟨mo, _, _, hs⟩ := hm4.slab
      exact hs.below
    have HKB := Lib.hid hkb
    clear hm4 hkb
    cases b
    · go_wp2_with (go_at_call 37; refine (orNotFound_no _ _).mono ?_; rintro e w' ⟨rfl, rfl⟩)
      go_ret2
      exact ⟨0, 3, rfl, .inr ⟨HSB.out, .inl rfl⟩, HB4.out⟩
    · go_wp2_with (go_at_call 37; refine (orNotFound_yes _ _).mono ?_; rintro e w' ⟨rfl, rfl⟩)
      go_ret2
      exact ⟨k, 0, rfl, .inr ⟨HSB.out, .inr ⟨rfl, hk, (HKB.out (by first | rfl | trivial)).1, (HKB.out (by first | rfl | trivial)).2⟩⟩, HB4.out⟩

end Go.Proofs.Ytmfghgoboibjdaa
