/- A valid profile: the program's and the reference's questions about it answer yes. -/
import Derived.Test.YtmfghgoboibjdaaStabP
namespace Go.Proofs.Ytmfghgoboibjdaa
open Go.RowKit

theorem Layer.one_all {x : Layer} (h : x.oneB = true) : inB x.form 1 6 = true ∧ inB x.ice 1 1000000 = true ∧ inB x.water 0 1000000 = true ∧ inB x.density 30 900 = true ∧ inB x.degrees (-4000) 0 = true ∧ inB x.hardness 1 6 = true ∧ inB x.age 0 10000 = true := by
  unfold Layer.oneB at h
  simp only [Bool.and_eq_true] at h
  obtain ⟨⟨⟨⟨⟨⟨h0, h1⟩, h2⟩, h3⟩, h4⟩, h5⟩, h6⟩ := h
  exact ⟨h0, h1, h2, h3, h4, h5, h6⟩
set_option maxHeartbeats 1000000 in
theorem implLayer_ok (x : Layer) (w : World) (h : x.oneB = true) : Calls Try.prog 20 #[.agg #[.int .i64 x.form, .int .i64 x.ice, .int .i64 x.water, .int .i64 x.density, .int .i64 x.degrees, .int .i64 x.hardness, .int .i64 x.age]] w (Ret (.bool true) w) := by
  obtain ⟨h0, h1, h2, h3, h4, h5, h6⟩ := Layer.one_all h
  clear h
  go_enter Try.func20, Try.ntmps20
  go_wp2_with (go_at_call 47; refine (within_any _ _ _ _).mono ?_; rintro e w' ⟨rfl, rfl⟩)
  go_ret
  exact Ret.b (by simp [*]) ((Below.refl _ _).alloc (Nat.le_refl _) _)
set_option maxHeartbeats 1000000 in
theorem specLayer_ok (x : Layer) (b off : Nat) (w : World) (x0 : w.cell? ⟨b, off, none⟩ = some (.int .i64 x.form)) (x1 : w.cell? ⟨b, off + 1, none⟩ = some (.int .i64 x.ice)) (x2 : w.cell? ⟨b, off + 2, none⟩ = some (.int .i64 x.water)) (x3 : w.cell? ⟨b, off + 3, none⟩ = some (.int .i64 x.density)) (x4 : w.cell? ⟨b, off + 4, none⟩ = some (.int .i64 x.degrees)) (x5 : w.cell? ⟨b, off + 5, none⟩ = some (.int .i64 x.hardness)) (x6 : w.cell? ⟨b, off + 6, none⟩ = some (.int .i64 x.age)) (h : x.oneB = true) : Calls Try.prog 41 #[.pointer (some ⟨b, off, none⟩)] w (RetS (.bool true) w) := by
  obtain ⟨h0, h1, h2, h3, h4, h5, h6⟩ := Layer.one_all h
  clear h
  go_enter Try.func41, Try.ntmps41
  go_wp2_with (go_at_call 53; refine (l00In_any _ _ _ _).mono ?_; rintro e w' ⟨rfl, rfl⟩)
  go_ret
  exact RetS.b (by simp [*])
set_option maxHeartbeats 1000000 in
theorem notLayer_ok (x : Layer) (w : World) (h : x.oneB = true) : Calls Try.prog 51 #[.agg #[.int .i64 x.form, .int .i64 x.ice, .int .i64 x.water, .int .i64 x.density, .int .i64 x.degrees, .int .i64 x.hardness, .int .i64 x.age]] w (Ret (.bool false) w) := by
  go_enter Try.func51, Try.ntmps51
  go_wp2_with fail
  refine (implLayer_ok x _ h).mono ?_
  rintro e w1 ⟨rfl, hb⟩
  have HB := Lib.hid (((Below.refl _ w).alloc (Nat.le_refl _) _).trans (hb.mono (by simp)))
  clear hb
  go_wp2
  go_ret
  exact Ret.b rfl HB.out
set_option maxHeartbeats 1000000 in
theorem layersIndex_ok (A : Option Addr) (n c : Nat) (xs : List Layer) (w : World) (hx : SliceOf w 7 Layer.cells A n xs) (hv : ∀ x ∈ xs, x.oneB = true) :
    Calls Try.prog 64 #[.slice A n c, .func (.func 51) #[] #[]] w (Ret (.int .i64 (-1)) w) := by
  have hn := hx.le
  have HX := Lib.hid hx
  have HV := Lib.hid hv
  clear hx hv
  go_enter Try.func64, Try.ntmps64
  go_wp2
  go_loopg [8] n (fun gk i wr => ∃ k : Nat, k ≤ n ∧ gk = n - k ∧ i = .int .i64 k ∧ Below w.heap.size w wr)
  case atStart => exact ⟨0, Nat.zero_le _, rfl, rfl, Below.refl _ _⟩
  case round =>
    obtain ⟨k, hk, hgk, rfl, hb⟩ := hrel
    have HB := Lib.hid hb
    have Hgk := Lib.hid hgk
    clear hb hgk
    by_cases hlt : k < n
    · obtain ⟨b1, o1, x, rfl, hb1, hxk, x0, x1, x2, x3, x4, x5, x6⟩ := Layer.at_ (HX.out.below HB.out) hlt
      have HOK := Lib.hid (HV.out x (List.mem_of_getElem? hxk))
      clear hxk
      go_wp2_with fail
      refine (notLayer_ok x _ HOK.out).mono ?_
      rintro e w1 ⟨rfl, hb2⟩
      have HB2 := Lib.hid (HB.out.trans (hb2.mono HB.out.size))
      clear hb2 x0 x1 x2 x3 x4 x5 x6
      go_wp2
      go_roundg (n - (k + 1))
      case measure => have := Hgk.out; omega
      case rel => exact ⟨k + 1, by omega, rfl, by go_num, HB2.out⟩
    · go_wp2
      go_ret
      exact Ret.i rfl HB.out
set_option maxHeartbeats 1000000 in
theorem layersHas_ok (A : Option Addr) (n c : Nat) (xs : List Layer) (w : World) (hx : SliceOf w 7 Layer.cells A n xs) (hv : ∀ x ∈ xs, x.oneB = true) :
    Calls Try.prog 50 #[.slice A n c, .func (.func 51) #[] #[]] w (Ret (.bool false) w) := by
  go_enter Try.func50, Try.ntmps50
  go_wp2_with fail
  refine (layersIndex_ok A n c xs w hx hv).mono ?_
  rintro e w1 ⟨rfl, hb⟩
  have HB := Lib.hid hb
  clear hb
  go_wp2
  go_ret
  exact Ret.b rfl HB.out
set_option maxHeartbeats 1000000 in
theorem implProfile_ok (A : Option Addr) (n c : Nat) (xs : List Layer) (w : World) (hx : SliceOf w 7 Layer.cells A n xs) (hv : profB xs = true) :
    Calls Try.prog 23 #[.slice A n c] w (Ret (.bool true) w) := by
  have hp := profB_iff.1 hv
  have h16 : n ≤ 16 := by rw [← hx.len]; exact hp.1
  have HV := Lib.hid hp.2
  have HX := Lib.hid hx
  clear hp hv hx
  go_enter Try.func23, Try.ntmps23
  go_wp2_with fail
  refine (layersHas_ok A n c xs w HX.out HV.out).mono ?_
  rintro e w1 ⟨rfl, hb⟩
  have HB := Lib.hid hb
  clear hb
  go_wp2
  go_ret
  exact Ret.b rfl HB.out
set_option maxHeartbeats 1000000 in
theorem specProfile_ok (A : Option Addr) (n c : Nat) (xs : List Layer) (w : World) (hx : SliceOf w 7 Layer.cells A n xs) (hv : profB xs = true) :
    Calls Try.prog 40 #[.slice A n c] w (RetS (.bool true) w) := by
  have hp := profB_iff.1 hv
  have h16 : n ≤ 16 := by rw [← hx.len]; exact hp.1
  have HV := Lib.hid hp.2
  have HX := Lib.hid hx
  clear hp hv hx
  go_enter Try.func40, Try.ntmps40
  go_wp2
  go_loopg [3] n (fun gk i wr => ∃ k : Nat, k ≤ n ∧ gk = n - k ∧ i = .int .i64 k ∧ w = wr)
  case atStart => exact ⟨0, Nat.zero_le _, rfl, rfl, rfl⟩
  case round =>
    obtain ⟨k, hk, hgk, rfl, rfl⟩ := hrel
    have Hgk := Lib.hid hgk
    clear hgk
    by_cases hlt : k < n
    · obtain ⟨b1, o1, x, rfl, hb1, hxk, x0, x1, x2, x3, x4, x5, x6⟩ := Layer.at_ HX.out hlt
      have HOK := Lib.hid (HV.out x (List.mem_of_getElem? hxk))
      clear hxk
      go_wp2_with (go_at_call 41; refine (specLayer_ok x _ _ _ x0 x1 x2 x3 x4 x5 x6 HOK.out).mono ?_; rintro e w' ⟨rfl, rfl⟩)
      clear x0 x1 x2 x3 x4 x5 x6
      go_roundg (n - (k + 1))
      case measure => have := Hgk.out; omega
      case rel => exact ⟨k + 1, by omega, rfl, by go_num, rfl⟩
    · go_wp2
      go_ret
      exact RetS.b (by simp; omega)
theorem doubtValid_any (d : Int) (w : World) : Calls Try.prog 21 #[.int .i64 d] w (RetS (.bool (inB d 0 1000)) w) := by
  go_enter Try.func21, Try.ntmps21
  go_wp2_with (go_at_call 47; refine (within_any _ _ _ _).mono ?_; rintro e w' ⟨rfl, rfl⟩)
  go_ret
  exact RetS.b rfl
theorem l07Doubt_any (d : Int) (w : World) : Calls Try.prog 35 #[.int .i64 d] w (RetS (.bool (inB d 0 1000)) w) := by
  go_enter Try.func35, Try.ntmps35
  go_wp2_with (go_at_call 53; refine (l00In_any _ _ _ _).mono ?_; rintro e w' ⟨rfl, rfl⟩)
  go_ret
  exact RetS.b rfl
theorem l07Limit_any (d : Int) (w : World) : Calls Try.prog 43 #[.int .i64 d] w (RetS (.bool (inB d 0 1000000)) w) := by
  go_enter Try.func43, Try.ntmps43
  go_wp2_with (go_at_call 53; refine (l00In_any _ _ _ _).mono ?_; rintro e w' ⟨rfl, rfl⟩)
  go_ret
  exact RetS.b rfl
theorem slopeOk_ok (r u : Int) (w : World) (h0 : inB r 0 1000 = true) (h1 : inB u 1 1000 = true) : Calls Try.prog 25 #[.int .i64 r, .int .i64 u] w (RetS (.bool true) w) := by
  go_enter Try.func25, Try.ntmps25
  go_wp2_with (go_at_call 47; refine (within_any _ _ _ _).mono ?_; rintro e w' ⟨rfl, rfl⟩)
  go_ret
  exact RetS.b (by simp [*])
theorem l07Slope_ok (r u : Int) (w : World) (h0 : inB r 0 1000 = true) (h1 : inB u 1 1000 = true) : Calls Try.prog 34 #[.int .i64 r, .int .i64 u] w (RetS (.bool true) w) := by
  go_enter Try.func34, Try.ntmps34
  go_wp2_with (go_at_call 53; refine (l00In_any _ _ _ _).mono ?_; rintro e w' ⟨rfl, rfl⟩)
  go_ret
  exact RetS.b (by simp [*])
theorem indexValid_ok (A : Option Addr) (n c k : Nat) (w : World) (hk : k < n) (hn : n ≤ 1048576) : Calls Try.prog 24 #[.slice A n c, .int .i64 k] w (RetS (.bool true) w) := by
  have h : inB (k : Int) 0 ((n : Int) - 1) = true := inB_iff.2 (by omega)
  go_enter Try.func24, Try.ntmps24
  go_wp2_with (go_at_call 47; refine (within_any _ _ _ _).mono ?_; rintro e w' ⟨rfl, rfl⟩)
  go_ret
  exact RetS.b (by simp [*])
set_option maxHeartbeats 1000000 in
theorem l03Ask_ok (A : Option Addr) (n c k : Nat) (xs : List Layer) (w : World) (hx : SliceOf w 7 Layer.cells A n xs) (hv : profB xs = true) (hk : k < n) :
    Calls Try.prog 33 #[.slice A n c, .int .i64 k] w (RetS (.int .i64 0) w) := by
  have hp := profB_iff.1 hv
  have h16 : n ≤ 16 := by rw [← hx.len]; exact hp.1
  have h : inB (k : Int) 0 ((n : Int) - 1) = true := inB_iff.2 (by omega)
  have HX := Lib.hid hx
  have HV := Lib.hid hv
  clear hp hx hv
  go_enter Try.func33, Try.ntmps33
  go_wp2_with (first | (go_at_call 40; refine (specProfile_ok A n c xs _ HX.out HV.out).mono ?_; rintro e w' ⟨rfl, rfl⟩) | (go_at_call 53; refine (l00In_any _ _ _ _).mono ?_; rintro e w' ⟨rfl, rfl⟩))
  go_ret
  exact RetS.i rfl
set_option maxHeartbeats 1000000 in
theorem l07Ask_ok (A : Option Addr) (n c : Nat) (r u d : Int) (xs : List Layer) (w : World) (hx : SliceOf w 7 Layer.cells A n xs) (hv : profB xs = true) (h0 : inB r 0 1000 = true) (h1 : inB u 1 1000 = true) (h2 : inB d 0 1000 = true) :
    Calls Try.prog 42 #[.slice A n c, .int .i64 r, .int .i64 u, .int .i64 d] w (RetS (.int .i64 0) w) := by
  have HX := Lib.hid hx
  have HV := Lib.hid hv
  clear hx hv
  go_enter Try.func42, Try.ntmps42
  go_wp2_with (first | (go_at_call 40; refine (specProfile_ok A n c xs _ HX.out HV.out).mono ?_; rintro e w' ⟨rfl, rfl⟩) | (go_at_call 34; refine (l07Slope_ok _ _ _ h0 h1).mono ?_; rintro e w' ⟨rfl, rfl⟩) | (go_at_call 35; refine (l07Doubt_any _ _).mono ?_; rintro e w' ⟨rfl, rfl⟩))
  go_ret
  exact RetS.i rfl

end Go.Proofs.Ytmfghgoboibjdaa
