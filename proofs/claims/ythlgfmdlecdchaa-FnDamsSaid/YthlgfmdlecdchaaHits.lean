/- Whether a list of cells hits an asset: both sides. -/
import Derived.Test.YthlgfmdlecdchaaBase
import Derived.Test.YthlgfmdlecdchaaMem
import Derived.Test.YthlgfmdlecdchaaTInt64
import Derived.Test.YthlgfmdlecdchaaWithin
import Derived.Test.YthlgfmdlecdchaaTGrid
import Derived.Test.YthlgfmdlecdchaaTAsset
import Derived.Test.YthlgfmdlecdchaaGrids
import Derived.Test.YthlgfmdlecdchaaAssets
namespace Go.Proofs.Ythlgfmdlecdchaa
open Go.RowKit

def hasB (re : List Int) (y : Int) : Bool := re.any fun z => decide (y = z)
def hitB (re : List Int) (x : Asset) : Bool := x.spots.any (hasB re)
theorem findI_any {α : Type} (p : α → Bool) (xs : List α) : decide (0 ≤ findI p xs) = xs.any p := by
  rw [Bool.eq_iff_iff, decide_eq_true_eq, List.any_eq_true]
  constructor
  · intro h
    rcases findI_cases (p := p) (xs := xs) with ⟨k, x, hx, hp, _, he⟩ | ⟨h', he⟩
    · exact ⟨x, List.mem_of_getElem? hx, hp⟩
    · omega
  · rintro ⟨x, hx, hp⟩
    rcases findI_cases (p := p) (xs := xs) with ⟨k, _, _, _, _, he⟩ | ⟨h', he⟩
    · omega
    · obtain ⟨k, hk⟩ := List.mem_iff_getElem?.1 hx
      rw [h' (k + 1) k x (by omega) hk] at hp; cases hp
theorem any_hit {α : Type} {p : α → Bool} {xs : List α} {k : Nat} {y : α} (hk : xs[k]? = some y) (h : p y = true) : xs.any p = true := List.any_eq_true.2 ⟨y, List.mem_of_getElem? hk, h⟩
theorem any_none {α : Type} {p : α → Bool} {xs : List α} {n : Nat} (hn : xs.length ≤ n) (h : NoneTo p xs n) : xs.any p = false := by
  rw [List.any_eq_false]
  intro y hy
  obtain ⟨k, hk⟩ := List.mem_iff_getElem?.1 hy
  rw [h k y (Nat.lt_of_lt_of_le (List.getElem?_eq_some_iff.1 hk).1 hn) hk]; simp

set_option maxHeartbeats 1000000 in
theorem indexI_any (v : Int) (A : Option Addr) (n c : Nat) (xs : List Int) (w : World) (hx : SliceOf w 1 i64cells A n xs) :
    Calls Try.prog 121 #[.slice A n c, .int .i64 v] w (RetS (.int .i64 (findI (fun z => decide (v = z)) xs)) w) := by
  have hn := hx.le
  have HL := Lib.hid hx.len
  go_enter Try.func121, Try.ntmps121
  go_wp2
  go_loopg [8] n (fun gk i wr => ∃ k : Nat, k ≤ n ∧ gk = n - k ∧ i = .int .i64 k ∧ w = wr ∧ NoneTo (fun z => decide (v = z)) xs k)
  case atStart => exact ⟨0, Nat.zero_le _, rfl, rfl, rfl, NoneTo.zero⟩
  case round =>
    obtain ⟨k, hk, hgk, rfl, rfl, hall⟩ := hrel
    have Hall := Lib.hid hall
    have Hgk := Lib.hid hgk
    clear hall hgk
    by_cases hlt : k < n
    · obtain ⟨b1', o1, x, rfl, hb1, hxk, x0⟩ := ints_at hx hlt
      have Hx := Lib.hid hxk
      clear hxk
      by_cases hc : v = x
      · have HC := Lib.hid hc
        have hd : decide (v = x) = true := decide_eq_true hc
        have hd2 : (v == x) = true := by simp [hc]
        clear hc
        go_wp2
        go_ret
        exact RetS.i (findI_hit Hall.out Hx.out (by simp [HC.out])).symm
      · have HC := Lib.hid hc
        have hd : decide (v = x) = false := decide_eq_false hc
        have hd2 : (v == x) = false := by simp [hc]
        clear hc
        go_wp2
        go_roundg (n - (k + 1))
        case measure => have := Hgk.out; omega
        case rel => exact ⟨k + 1, by omega, rfl, by go_num, rfl, Hall.out.step Hx.out (by simp [HC.out])⟩
    · go_wp2
      go_ret
      exact RetS.i (findI_none (n := k) (by rw [HL.out]; omega) Hall.out).symm
set_option maxHeartbeats 1000000 in
theorem containsI_any (v : Int) (A : Option Addr) (n c : Nat) (xs : List Int) (w : World) (hx : SliceOf w 1 i64cells A n xs) :
    Calls Try.prog 106 #[.slice A n c, .int .i64 v] w (RetS (.bool (hasB xs v)) w) := by
  have HF := Lib.hid (findI_any (fun z => decide (v = z)) xs)
  go_enter Try.func106, Try.ntmps106
  go_wp2_with fail
  refine (indexI_any v _ _ _ xs _ hx).mono ?_
  rintro e w' ⟨rfl, rfl⟩
  go_wp2
  go_ret
  exact RetS.b HF.out
theorem exposed1_any (y : Int) (b0 : Nat) (B : Option Addr) (m d : Nat) (re : List Int) (w : World) (h0 : w.cell? ⟨b0, 0, none⟩ = some (.slice B m d)) (hr : SliceOf w 1 i64cells B m re) :
    Calls Try.prog 105 #[.int .i64 y, .pointer (some ⟨b0, 0, none⟩)] w (RetS (.bool (hasB re y)) w) := by
  go_enter Try.func105, Try.ntmps105
  go_wp2_with fail
  refine (containsI_any y _ _ _ re _ hr).mono ?_
  rintro e w' ⟨rfl, rfl⟩
  go_wp2
  go_ret
  exact RetS.b rfl
set_option maxHeartbeats 1000000 in
theorem indexFuncE_any (b0 : Nat) (B : Option Addr) (m d : Nat) (re : List Int) (A : Option Addr) (n c : Nat) (xs : List Int) (w : World) (hx : SliceOf w 1 i64cells A n xs) (h0 : w.cell? ⟨b0, 0, none⟩ = some (.slice B m d)) (hr : SliceOf w 1 i64cells B m re) :
    Calls Try.prog 120 #[.slice A n c, .func (.func 105) #[] #[.pointer (some ⟨b0, 0, none⟩)]] w (RetS (.int .i64 (findI (hasB re) xs)) w) := by
  have hn := hx.le
  have HL := Lib.hid hx.len
  have H0 := Lib.hid h0
  have HR := Lib.hid hr
  clear h0 hr
  go_enter Try.func120, Try.ntmps120
  go_wp2
  go_loopg [8] n (fun gk i wr => ∃ k : Nat, k ≤ n ∧ gk = n - k ∧ i = .int .i64 k ∧ w = wr ∧ NoneTo (hasB re) xs k)
  case atStart => exact ⟨0, Nat.zero_le _, rfl, rfl, rfl, NoneTo.zero⟩
  case round =>
    obtain ⟨k, hk, hgk, rfl, rfl, hall⟩ := hrel
    have Hall := Lib.hid hall
    have Hgk := Lib.hid hgk
    clear hall hgk
    by_cases hlt : k < n
    · obtain ⟨b1', o1, x, rfl, hb1, hxk, x0⟩ := ints_at hx hlt
      have Hx := Lib.hid hxk
      clear hxk
      cases hc : hasB re x
      · have HC := Lib.hid hc
        go_wp2_with (go_at_call 105; refine (exposed1_any _ _ _ _ _ re _ H0.out HR.out).mono ?_; rintro e w' ⟨rfl, rfl⟩)
        go_roundg (n - (k + 1))
        case measure => have := Hgk.out; omega
        case rel => exact ⟨k + 1, by omega, rfl, by go_num, rfl, Hall.out.step Hx.out HC.out⟩
      · have HC := Lib.hid hc
        go_wp2_with (go_at_call 105; refine (exposed1_any _ _ _ _ _ re _ H0.out HR.out).mono ?_; rintro e w' ⟨rfl, rfl⟩)
        go_ret
        exact RetS.i (findI_hit Hall.out Hx.out HC.out).symm
    · go_wp2
      go_ret
      exact RetS.i (findI_none (n := k) (by rw [HL.out]; omega) Hall.out).symm
set_option maxHeartbeats 1000000 in
theorem containsFuncE_any (b0 : Nat) (B : Option Addr) (m d : Nat) (re : List Int) (A : Option Addr) (n c : Nat) (xs : List Int) (w : World) (hx : SliceOf w 1 i64cells A n xs) (h0 : w.cell? ⟨b0, 0, none⟩ = some (.slice B m d)) (hr : SliceOf w 1 i64cells B m re) :
    Calls Try.prog 104 #[.slice A n c, .func (.func 105) #[] #[.pointer (some ⟨b0, 0, none⟩)]] w (RetS (.bool (xs.any (hasB re))) w) := by
  have HF := Lib.hid (findI_any (hasB re) xs)
  go_enter Try.func104, Try.ntmps104
  go_wp2_with fail
  refine (indexFuncE_any _ _ _ _ re _ _ _ xs _ hx h0 hr).mono ?_
  rintro e w' ⟨rfl, rfl⟩
  go_wp2
  go_ret
  exact RetS.b HF.out
set_option maxHeartbeats 1000000 in
theorem exposed_any (x : AssetR) (B : Option Addr) (m d : Nat) (re : List Int) (w : World) (hin : x.In w) (hr : SliceOf w 1 i64cells B m re) :
    Calls Try.prog 77 #[.agg #[.string x.id, .slice x.spotsA x.spotsN x.spotsC, .int .i64 x.worth], .slice B m d] w (Ret (.bool (hitB re x.val)) w) := by
  have hB : Below w.heap.size w ((w.alloc (.cells #[.string x.id, .slice x.spotsA x.spotsN x.spotsC, .int .i64 x.worth] 82)).alloc (.cells #[.slice B m d] 24)) := ((Below.refl _ _).alloc (Nat.le_refl _) _).alloc (by simp) _
  have h1 : Own ((w.alloc (.cells #[.string x.id, .slice x.spotsA x.spotsN x.spotsC, .int .i64 x.worth] 82)).alloc (.cells #[.slice B m d] 24)) (w.heap.size + 1) 24 #[.slice B m d] := by
    have := Own.new (w.alloc (.cells #[.string x.id, .slice x.spotsA x.spotsN x.spotsC, .int .i64 x.worth] 82)) 24 #[.slice B m d]
    simpa using this
  go_enter Try.func77, Try.ntmps77
  go_wp2_with fail
  refine (containsFuncE_any _ _ _ _ re _ _ _ x.spots _ (hin.1.below hB) (h1.cell 0) (hr.below hB)).mono ?_
  rintro e w' ⟨rfl, rfl⟩
  go_wp2
  go_ret
  exact Ret.b rfl hB
set_option maxHeartbeats 1000000 in
theorem l00Has_any (v : Int) (A : Option Addr) (n c : Nat) (xs : List Int) (w : World) (hx : SliceOf w 1 i64cells A n xs) :
    Calls Try.prog 118 #[.slice A n c, .int .i64 v] w (RetS (.bool (hasB xs v)) w) := by
  have hn := hx.le
  have HL := Lib.hid hx.len
  go_enter Try.func118, Try.ntmps118
  go_wp2
  go_loopg [5] n (fun gk i wr => ∃ k : Nat, k ≤ n ∧ gk = n - k ∧ i = .int .i64 k ∧ w = wr ∧ NoneTo (fun z => decide (v = z)) xs k)
  case atStart => exact ⟨0, Nat.zero_le _, rfl, rfl, rfl, NoneTo.zero⟩
  case round =>
    obtain ⟨k, hk, hgk, rfl, rfl, hall⟩ := hrel
    have Hall := Lib.hid hall
    have Hgk := Lib.hid hgk
    clear hall hgk
    by_cases hlt : k < n
    · obtain ⟨b1', o1, x, rfl, hb1, hxk, x0⟩ := ints_at hx hlt
      have Hx := Lib.hid hxk
      clear hxk
      by_cases hc : x = v
      · have HC := Lib.hid hc
        have hd : decide (x = v) = true := decide_eq_true hc
        have hd2 : (x == v) = true := by simp [hc]
        clear hc
        go_wp2
        go_ret
        exact RetS.b (any_hit Hx.out (by simp [HC.out])).symm
      · have HC := Lib.hid hc
        have hd : decide (x = v) = false := decide_eq_false hc
        have hd2 : (x == v) = false := by simp [hc]
        clear hc
        go_wp2
        go_roundg (n - (k + 1))
        case measure => have := Hgk.out; omega
        case rel => exact ⟨k + 1, by omega, rfl, by go_num, rfl, Hall.out.step Hx.out (decide_eq_false fun h => HC.out h.symm)⟩
    · go_wp2
      go_ret
      exact RetS.b (any_none (n := k) (by rw [HL.out]; omega) Hall.out).symm
set_option maxHeartbeats 1000000 in
theorem l15Hit_any (x : AssetR) (b off : Nat) (B : Option Addr) (m d : Nat) (re : List Int) (w : World) (hin : x.In w) (hr : SliceOf w 1 i64cells B m re) (x1 : w.cell? ⟨b, off + 1, none⟩ = some (.slice x.spotsA x.spotsN x.spotsC)) :
    Calls Try.prog 101 #[.pointer (some ⟨b, off, none⟩), .slice B m d] w (RetS (.bool (hitB re x.val)) w) := by
  have hs := hin.1
  obtain ⟨A, hA⟩ : ∃ A, x.spotsA = A := ⟨_, rfl⟩
  obtain ⟨n, hn'⟩ : ∃ n, x.spotsN = n := ⟨_, rfl⟩
  rw [hA, hn'] at hs x1
  clear hA hn' hin
  have hn := hs.le
  have HL := Lib.hid hs.len
  go_enter Try.func101, Try.ntmps101
  go_wp2
  go_loopg [5] n (fun gk i wr => ∃ k : Nat, k ≤ n ∧ gk = n - k ∧ i = .int .i64 k ∧ w = wr ∧ NoneTo (hasB re) x.spots k)
  case atStart => exact ⟨0, Nat.zero_le _, rfl, rfl, rfl, NoneTo.zero⟩
  case round =>
    obtain ⟨k, hk, hgk, rfl, rfl, hall⟩ := hrel
    have Hall := Lib.hid hall
    have Hgk := Lib.hid hgk
    clear hall hgk
    by_cases hlt : k < n
    · obtain ⟨b1', o1, y, rfl, hb1, hxk, y0⟩ := ints_at hs hlt
      have Hx := Lib.hid hxk
      clear hxk
      cases hc : hasB re y
      · have HC := Lib.hid hc
        go_wp2_with (go_at_call 118; refine (l00Has_any _ _ _ _ re _ hr).mono ?_; rintro e w' ⟨rfl, rfl⟩)
        go_roundg (n - (k + 1))
        case measure => have := Hgk.out; omega
        case rel => exact ⟨k + 1, by omega, rfl, by go_num, rfl, Hall.out.step Hx.out HC.out⟩
      · have HC := Lib.hid hc
        go_wp2_with (go_at_call 118; refine (l00Has_any _ _ _ _ re _ hr).mono ?_; rintro e w' ⟨rfl, rfl⟩)
        go_ret
        exact RetS.b (any_hit (p := hasB re) (xs := x.spots) Hx.out HC.out).symm
    · go_wp2
      go_ret
      exact RetS.b (any_none (p := hasB re) (xs := x.spots) (n := k) (by rw [HL.out]; omega) Hall.out).symm

end Go.Proofs.Ythlgfmdlecdchaa
