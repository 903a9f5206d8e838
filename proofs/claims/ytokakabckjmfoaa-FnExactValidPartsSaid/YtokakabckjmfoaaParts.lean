/- ValidParts of the program and of the reference return one Boolean: at most 24 parts, each valid. -/
import Derived.Test.YtokakabckjmfoaaVPart
namespace Go.Proofs.Ytokakabckjmfoaa
open Go.RowKit

def Part.validB (xs : List Part) : Bool := validL 24 Part.oneB (fun _ _ => true) xs

set_option maxHeartbeats 1000000 in
theorem l12Ok_any (A : Option Addr) (n c : Nat) (xs : List Part) (w : World) (hx : SliceOf w 4 Part.cells A n xs) :
    Calls Try.prog 85 #[.slice A n c] w (Ret (.bool (Part.validB xs)) w) := by
  have hn := hx.le
  have Hl := Lib.hid hx.len
  go_enter Try.func85, Try.ntmps85
  go_wp2
  go_loopg [3] n (fun gk i wr => ∃ k : Nat, k ≤ n ∧ gk = n - k ∧ i = .int .i64 k ∧ Below w.heap.size w wr ∧ GoodTo Part.oneB (fun _ _ => true) xs k)
  case atStart => exact ⟨0, Nat.zero_le _, rfl, rfl, Below.refl _ _, GoodTo.zero⟩
  case round =>
    obtain ⟨k, hk, hgk, rfl, hb, hall⟩ := hrel
    have Hall := Lib.hid hall
    have Hgk := Lib.hid hgk
    clear hall hgk
    by_cases hlt : k < n
    · obtain ⟨b1, o1, x, rfl, hb1, hxk, x0, x1, x2, x3⟩ := Part.at_ (hx.below hb) hlt
      have Hx := Lib.hid hxk
      clear hxk
      go_wp2_with fail
      refine (specPartOne_any x _ _ _ hb1 x0 x1 x2 x3).mono ?_
      rintro e w1 ⟨rfl, hb'⟩
      have hbb := hb.trans (hb'.mono hb.size)
      clear x0 x1 x2 x3
      cases h1 : x.oneB
      · have H1 := Lib.hid h1
        go_wp2
        go_ret
        exact Ret.b (validL_one Hx.out H1.out).symm hbb
      · have H1 := Lib.hid h1
        go_wp2
        go_roundg (n - (k + 1))
        case measure => have := Hgk.out; omega
        case rel => exact ⟨k + 1, by omega, rfl, by go_num, hbb, Hall.out.step Hx.out H1.out (fun _ _ _ => rfl)⟩
    · have hkn : k = n := by omega
      subst hkn
      go_wp2
      go_ret
      exact Ret.b ((validL_all (by rw [Hl.out]; exact Nat.le_refl _) Hall.out).trans (by rw [Hl.out]; simp <;> omega)).symm hb

set_option maxHeartbeats 400000 in
theorem specValidParts_any (A : Option Addr) (n c : Nat) (xs : List Part) (w : World) (hx : SliceOf w 4 Part.cells A n xs) :
    Calls Try.prog 39 #[.slice A n c] w (Ret (.bool (Part.validB xs)) w) := by
  go_enter Try.func39, Try.ntmps39
  go_wp2_with fail
  refine (l12Ok_any _ _ _ xs _ hx).mono ?_
  rintro e w1 ⟨rfl, hb⟩
  go_wp2
  go_ret
  exact Ret.b rfl hb

def notPart (x : Part) : Bool := !x.oneB

set_option maxHeartbeats 400000 in
theorem validParts1_any (x : Part) (w : World) :
    Calls Try.prog 88 #[.agg #[.int .i64 x.length, .int .i64 x.width, .int .i64 x.depth, .int .i64 x.density]] w (Ret (.bool (notPart x)) w) := by
  go_enter Try.func88, Try.ntmps88
  go_wp2_with fail
  refine (implPartvalid_any x _).mono ?_
  rintro e w1 ⟨rfl, hb⟩
  go_wp2
  go_ret
  exact Ret.b rfl (((Below.refl _ _).alloc (Nat.le_refl _) _).trans (hb.mono (by simp)))

set_option maxHeartbeats 1000000 in
theorem indexPart_any (A : Option Addr) (n c : Nat) (xs : List Part) (w : World) (hx : SliceOf w 4 Part.cells A n xs) :
    Calls Try.prog 117 #[.slice A n c, .func (.func 88) #[] #[]] w (Ret (.int .i64 (findI notPart xs)) w) := by
  have hn := hx.le
  have Hl := Lib.hid hx.len
  go_enter Try.func117, Try.ntmps117
  go_wp2
  go_loopg [8] n (fun gk i wr => ∃ k : Nat, k ≤ n ∧ gk = n - k ∧ i = .int .i64 k ∧ Below w.heap.size w wr ∧ NoneTo notPart xs k)
  case atStart => exact ⟨0, Nat.zero_le _, rfl, rfl, Below.refl _ _, NoneTo.zero⟩
  case round =>
    obtain ⟨k, hk, hgk, rfl, hb, hall⟩ := hrel
    have Hall := Lib.hid hall
    have Hgk := Lib.hid hgk
    clear hall hgk
    by_cases hlt : k < n
    · obtain ⟨b1, o1, x, rfl, hb1, hxk, x0, x1, x2, x3⟩ := Part.at_ (hx.below hb) hlt
      have Hx := Lib.hid hxk
      clear hxk
      go_wp2_with fail
      refine (validParts1_any x _).mono ?_
      rintro e w1 ⟨rfl, hb'⟩
      have hbb := hb.trans (hb'.mono hb.size)
      clear x0 x1 x2 x3
      cases h1 : notPart x
      · have H1 := Lib.hid h1
        go_wp2
        go_roundg (n - (k + 1))
        case measure => have := Hgk.out; omega
        case rel => exact ⟨k + 1, by omega, rfl, by go_num, hbb, Hall.out.step Hx.out H1.out⟩
      · have H1 := Lib.hid h1
        go_wp2
        go_ret
        exact Ret.i (findI_hit Hall.out Hx.out H1.out).symm hbb
    · have hkn : k = n := by omega
      subst hkn
      go_wp2
      go_ret
      exact Ret.i (findI_none (by rw [Hl.out]; exact Nat.le_refl _) Hall.out).symm hb

set_option maxHeartbeats 400000 in
theorem containsPart_any (A : Option Addr) (n c : Nat) (xs : List Part) (w : World) (hx : SliceOf w 4 Part.cells A n xs) :
    Calls Try.prog 87 #[.slice A n c, .func (.func 88) #[] #[]] w (Ret (.bool (decide (0 ≤ findI notPart xs))) w) := by
  go_enter Try.func87, Try.ntmps87
  go_wp2_with fail
  refine (indexPart_any _ _ _ xs _ hx).mono ?_
  rintro e w1 ⟨rfl, hb⟩
  go_wp2
  go_ret
  exact Ret.b rfl hb

theorem Part.valid_eq (xs : List Part) : (decide (xs.length ≤ 24) && !decide (0 ≤ findI notPart xs)) = Part.validB xs := by
  unfold Part.validB validL
  congr 1
  cases h : goodFrom Part.oneB (fun _ _ => true) none xs with
  | true =>
    have h1 := (goodFrom_iff xs).1 h
    have : findI notPart xs < 0 := findI_neg.2 fun k x hx => by simp [notPart, (h1 (k + 1) k x (by omega) hx).1]
    simp; omega
  | false =>
    have : ¬ findI notPart xs < 0 := fun h2 => by
      have h3 := findI_neg.1 h2
      rw [(goodFrom_iff xs).2 (fun n k x _ hx => ⟨by have := h3 k x hx; simpa [notPart] using this, fun _ _ _ => rfl⟩)] at h
      cases h
    simp; omega

set_option maxHeartbeats 400000 in
theorem implValidParts_any (A : Option Addr) (n c : Nat) (xs : List Part) (w : World) (hx : SliceOf w 4 Part.cells A n xs) :
    Calls Try.prog 41 #[.slice A n c] w (Ret (.bool (Part.validB xs)) w) := by
  have hn := hx.le
  have hl := hx.len
  have hv := Part.valid_eq xs
  rw [hl] at hv
  have Hv := Lib.hid hv
  clear hv hl
  by_cases h : n ≤ 24
  · go_enter Try.func41, Try.ntmps41
    go_wp2_with fail
    refine (containsPart_any _ _ _ xs _ hx).mono ?_
    rintro e w1 ⟨rfl, hb⟩
    go_wp2
    go_ret
    exact Ret.b (by rw [← Hv.out]; simp [h]) hb
  · go_enter Try.func41, Try.ntmps41
    go_wp2
    go_ret
    exact Ret.b (by rw [← Hv.out]; simp; omega) (Below.refl _ _)

end Go.Proofs.Ytokakabckjmfoaa
