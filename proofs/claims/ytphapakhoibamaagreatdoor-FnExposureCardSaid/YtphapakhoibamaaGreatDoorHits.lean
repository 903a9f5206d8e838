/- Whether a list of cells hits an asset: both sides. -/
import Derived.Test.YtphapakhoibamaaGreatDoorBase
import Derived.Test.YtphapakhoibamaaGreatDoorMem
import Derived.Test.YtphapakhoibamaaGreatDoorTInt64
import Derived.Test.YtphapakhoibamaaGreatDoorWithin
import Derived.Test.YtphapakhoibamaaGreatDoorTGrid
import Derived.Test.YtphapakhoibamaaGreatDoorTAsset
import Derived.Test.YtphapakhoibamaaGreatDoorGrids
import Derived.Test.YtphapakhoibamaaGreatDoorAssets
namespace Go.Proofs.YtphapakhoibamaaGreatDoor
open Go.RowKit

def hasB (re : List Int) (y : Int) : Bool := re.any fun z => decide (y = z)
def hitB (re : List Int) (x : Asset) : Bool := x.spots.any (hasB re)
theorem findI_any {α : Type} (p : α → Bool) (xs : List α) : decide (0 ≤ findI p xs) = xs.any p := by
  rw [Bool.eq_iff_iff, decide_eq_true_eq, List.any_eq_true]
  constructor
  · intro h
    rcases findI_cases (p := p) (xs := xs) with ⟨k, x, hx, hp, _, he⟩ | ⟨h', he⟩
    · exact ⟨x, List.mem_of_getElem? hx, hp⟩
    · omega
  · rintro ⟨x, hx, hp⟩
    rcases findI_cases (p := p) (xs := xs) with ⟨k, _, _, _, _, he⟩ | ⟨h', he⟩
    · omega
    · obtain ⟨k, hk⟩ := List.mem_iff_getElem?.1 hx
      rw [h' (k + 1) k x (by omega) hk] at hp; cases hp
theorem any_hit {α : Type} {p : α → Bool} {xs : List α} {k : Nat} {y : α} (hk : xs[k]? = some y) (h : p y = true) : xs.any p = true := List.any_eq_true.2 ⟨y, List.mem_of_getElem? hk, h⟩
theorem any_none {α : Type} {p : α → Bool} {xs : List α} {n : Nat} (hn : xs.length ≤ n) (h : NoneTo p xs n) : xs.any p = false := by
  rw [List.any_eq_false]
  intro y hy
  obtain ⟨k, hk⟩ := List.mem_iff_getElem?.1 hy
  rw [h k y (Nat.lt_of_lt_of_le (List.getElem?_eq_some_iff.1 hk).1 hn) hk]; simp

set_option maxHeartbeats 1000000 in
theorem indexI_any (v : Int) (A : Option Addr) (n c : Nat) (xs : List Int) (w : World) (hx : SliceOf w 1 i64cells A n xs) :
    Calls Tryz.prog 60 #[.slice A n c, .int .i64 v] w (RetS (.int .i64 (findI (fun z => decide (v = z)) xs)) w) := by
  have hn := hx.le
  have HL := Lib.hid hx.len
  go_enter Tryz.func60, Tryz.ntmps60
  go_wp2
  go_loopg [8] n (fun gk i wr => ∃ k : Nat, k ≤ n ∧ gk = n - k ∧ i = .int .i64 k ∧ w = wr ∧ NoneTo (fun z => decide (v = z)) xs k)
  case atStart => exact ⟨0, Nat.zero_le _, rfl, rfl, rfl, NoneTo.zero⟩
  case round =>
    obtain ⟨k, hk, hgk, rfl, rfl, hall⟩ := hrel
    have Hall := Lib.hid hall
    have Hgk := Lib.hid hgk
    clear hall hgk
    by_cases hlt : k < n
    · obtain ⟨b1', o1, x, rfl, hb1, hxk, x0⟩ := ints_at hx hlt
      have Hx := Lib.hid hxk
      clear hxk
      by_cases hc : v = x
      · have HC := Lib.hid hc
        have hd : decide (v = x) = true := decide_eq_true hc
        have hd2 : (v == x) = true := by simp [hc]
        clear hc
        go_wp2
        go_ret
        exact RetS.i (findI_hit Hall.out Hx.out (by simp [HC.out])).symm
      · have HC := Lib.hid hc
        have hd : decide (v = x) = false := decide_eq_false hc
        have hd2 : (v == x) = false := by simp [hc]
        clear hc
        go_wp2
        go_roundg (n - (k + 1))
        case measure => have := Hgk.out; omega
        case rel => exact ⟨k + 1, by omega, rfl, by go_num, rfl, Hall.out.step Hx.out (by simp [HC.out])⟩
    · go_wp2
      go_ret
      exact RetS.i (findI_none (n := k) (by rw [HL.out]; omega) Hall.out).symm
set_option maxHeartbeats 1000000 in
theorem containsI_any (v : Int) (A : Option Addr) (n c : Nat) (xs : List Int) (w : World) (hx : SliceOf w 1 i64cells A n xs) :
    Calls Tryz.prog 35 #[.slice A n c, .int .i64 v] w (RetS (.bool (hasB xs v)) w) := by
  have HF := Lib.hid (findI_any (fun z => decide (v = z)) xs)
  go_enter Tryz.func35, Tryz.ntmps35
  go_wp2_with fail
  refine (indexI_any v _ _ _ xs _ hx).mono ?_
  rintro e w' ⟨rfl, rfl⟩
  go_wp2
  go_ret
  exact RetS.b HF.out
theorem exposed1_any (y : Int) (b0 : Nat) (B : Option Addr) (m d : Nat) (re : List Int) (w : World) (h0 : w.cell? ⟨b0, 0, none⟩ = some (.slice B m d)) (hr : SliceOf w 1 i64cells B m re) :
    Calls Tryz.prog 59 #[.int .i64 y, .pointer (some ⟨b0, 0, none⟩)] w (RetS (.bool (hasB re y)) w) := by
  go_enter Tryz.func59, Tryz.ntmps59
  go_wp2_with fail
  refine (containsI_any y _ _ _ re _ hr).mono ?_
  rintro e w' ⟨rfl, rfl⟩
  go_wp2
  go_ret
  exact RetS.b rfl
set_option maxHeartbeats 1000000 in
theorem indexFuncE_any (b0 : Nat) (B : Option Addr) (m d : Nat) (re : List Int) (A : Option Addr) (n c : Nat) (xs : List Int) (w : World) (hx : SliceOf w 1 i64cells A n xs) (h0 : w.cell? ⟨b0, 0, none⟩ = some (.slice B m d)) (hr : SliceOf w 1 i64cells B m re) :
    Calls Tryz.prog 77 #[.slice A n c, .func (.func 59) #[] #[.pointer (some ⟨b0, 0, none⟩)]] w (RetS (.int .i64 (findI (hasB re) xs)) w) := by
  have hn := hx.le
  have HL := Lib.hid hx.len
  have H0 := Lib.hid h0
  have HR := Lib.hid hr
  clear h0 hr
  go_enter Tryz.func77, Tryz.ntmps77
  go_wp2
  go_loopg [8] n (fun gk i wr => ∃ k : Nat, k ≤ n ∧ gk = n - k ∧ i = .int .i64 k ∧ w = wr ∧ NoneTo (hasB re) xs k)
  case atStart => exact ⟨0, Nat.zero_le _, rfl, rfl, rfl, NoneTo.zero⟩
  case round =>
    obtain ⟨k, hk, hgk, rfl, rfl, hall⟩ := hrel
    have Hall := Lib.hid hall
    have Hgk := Lib.hid hgk
    clear hall hgk
    by_cases hlt : k < n
    · obtain ⟨b1', o1, x, rfl, hb1, hxk, x0⟩ := ints_at hx hlt
      have Hx := Lib.hid hxk
      clear hxk
      cases hc : hasB re x
      · have HC := Lib.hid hc
        go_wp2_with (go_at_call 59; refine (exposed1_any _ _ _ _ _ re _ H0.out HR.out).mono ?_; rintro e w' ⟨rfl, rfl⟩)
        go_roundg (n - (k + 1))
        case measure => have := Hgk.out; omega
        case rel => exact ⟨k + 1, by omega, rfl, by go_num, rfl, Hall.out.step Hx.out HC.out⟩
      · have HC := Lib.hid hc
        go_wp2_with (go_at_call 59; refine (exposed1_any _ _ _ _ _ re _ H0.out HR.out).mono ?_; rintro e w' ⟨rfl, rfl⟩)
        go_ret
        exact RetS.i (findI_hit Hall.out Hx.out HC.out).symm
    · go_wp2
      go_ret
      exact RetS.i (findI_none (n := k) (by rw [HL.out]; omega) Hall.out).symm
set_option maxHeartbeats 1000000 in
theorem containsFuncE_any (b0 : Nat) (B : Option Addr) (m d : Nat) (re : List Int) (A : Option Addr) (n c : Nat) (xs : List Int) (w : World) (hx : SliceOf w 1 i64cells A n xs) (h0 : w.cell? ⟨b0, 0, none⟩ = some (.slice B m d)) (hr : SliceOf w 1 i64cells B m re) :
    Calls Tryz.prog 58 #[.slice A n c, .func (.func 59) #[] #[.pointer (some ⟨b0, 0, none⟩)]] w (RetS (.bool (xs.any (hasB re))) w) := by
  have HF := Lib.hid (findI_any (hasB re) xs)
  go_enter Tryz.func58, Tryz.ntmps58
  go_wp2_with fail
  refine (indexFuncE_any _ _ _ _ re _ _ _ xs _ hx h0 hr).mono ?_
  rintro e w' ⟨rfl, rfl⟩
  go_wp2
  go_ret
  exact RetS.b HF.out
set_option maxHeartbeats 1000000 in
theorem exposed_any (x : AssetR) (B : Option Addr) (m d : Nat) (re : List Int) (w : World) (hin : x.In w) (hr : SliceOf w 1 i64cells B m re) :
    Calls Tryz.prog 30 #[.agg #[.string x.id, .slice x.spotsA x.spotsN x.spotsC, .int .i64 x.worth], .slice B m d] w (Ret (.bool (hitB re x.val)) w) := by
  have hB : Below w.heap.size w ((w.alloc (.cells #[.string x.id, .slice x.spotsA x.spotsN x.spotsC, .int .i64 x.worth] 45)).alloc (.cells #[.slice B m d] 24)) := ((Below.refl _ _).alloc (Nat.le_refl _) _).alloc (by simp) _
  have h1 : Own ((w.alloc (.cells #[.string x.id, .slice x.spotsA x.spotsN x.spotsC, .int .i64 x.worth] 45)).alloc (.cells #[.slice B m d] 24)) (w.heap.size + 1) 24 #[.slice B m d] := by
    have := Own.new (w.alloc (.cells #[.string x.id, .slice x.spotsA x.spotsN x.spotsC, .int .i64 x.worth] 45)) 24 #[.slice B m d]
    simpa using this
  go_enter Tryz.func30, Tryz.ntmps30
  go_wp2_with fail
  refine (containsFuncE_any _ _ _ _ re _ _ _ x.spots _ (hin.1.below hB) (h1.cell 0) (hr.below hB)).mono ?_
  rintro e w' ⟨rfl, rfl⟩
  go_wp2
  go_ret
  exact Ret.b rfl hB

end Go.Proofs.YtphapakhoibamaaGreatDoor
