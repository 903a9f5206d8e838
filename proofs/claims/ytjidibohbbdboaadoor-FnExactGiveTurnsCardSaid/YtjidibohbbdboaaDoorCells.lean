/- Lists of cells: rising lists within bounds, on both sides (the part of Grids that knows no grid). -/
import Derived.Test.YtjidibohbbdboaaDoorBase
import Derived.Test.YtjidibohbbdboaaDoorMem
import Derived.Test.YtjidibohbbdboaaDoorTInt64
import Derived.Test.YtjidibohbbdboaaDoorWithin
namespace Go.Proofs.YtjidibohbbdboaaDoor
open Go.RowKit

theorem all_none {α : Type} {p : α → Bool} {xs : List α} {n : Nat} (hn : xs.length ≤ n) (h : NoneTo (fun y => !p y) xs n) : xs.all p = true := by
  rw [List.all_eq_true]
  intro y hy
  obtain ⟨k, hk⟩ := List.mem_iff_getElem?.1 hy
  have := h k y (Nat.lt_of_lt_of_le (List.getElem?_eq_some_iff.1 hk).1 hn) hk
  simpa using this
theorem all_hit {α : Type} {p : α → Bool} {xs : List α} {k : Nat} {y : α} (hk : xs[k]? = some y) (h : p y = false) : xs.all p = false := by
  rw [List.all_eq_false]; exact ⟨y, List.mem_of_getElem? hk, by simp [h]⟩
theorem goodFrom_one {α : Type} {one : α → Bool} {rel : α → α → Bool} {xs : List α} {k : Nat} {x : α} (hx : xs[k]? = some x) (h : one x = false) : goodFrom one rel none xs = false := by
  have := validL_one (M := xs.length) (rel := rel) hx h; simpa [validL] using this
theorem goodFrom_rel {α : Type} {one : α → Bool} {rel : α → α → Bool} {xs : List α} {k : Nat} {p x : α} (hk : 0 < k) (hp : xs[k - 1]? = some p) (hx : xs[k]? = some x) (h : rel p x = false) : goodFrom one rel none xs = false := by
  have := validL_rel (M := xs.length) (one := one) hk hp hx h; simpa [validL] using this
theorem goodFrom_all {α : Type} {one : α → Bool} {rel : α → α → Bool} {xs : List α} {n : Nat} (hn : xs.length ≤ n) (h : GoodTo one rel xs n) : goodFrom one rel none xs = true := by
  have := validL_all (M := xs.length) hn h; simpa [validL] using this
def risesRel (p x : Int) : Bool := decide (p < x)
/-- Strictly rising. -/
def risesB (xs : List Int) : Bool := goodFrom (fun _ => true) risesRel none xs
/-- Strictly rising, and all within two bounds. -/
def cellsB (lo hi : Int) (xs : List Int) : Bool := goodFrom (fun y => inB y lo hi) risesRel none xs
theorem cellsB_eq (lo hi : Int) (xs : List Int) : cellsB lo hi xs = (risesB xs && xs.all fun y => inB y lo hi) := by
  rw [Bool.eq_iff_iff, Bool.and_eq_true, List.all_eq_true]
  unfold cellsB risesB
  rw [goodFrom_iff, goodFrom_iff]
  constructor
  · intro h
    refine ⟨fun n k x hk hx => ⟨rfl, (h n k x hk hx).2⟩, fun y hy => ?_⟩
    obtain ⟨k, hk⟩ := List.mem_iff_getElem?.1 hy
    exact (h (k + 1) k y (by omega) hk).1
  · rintro ⟨h1, h2⟩ n k x hk hx
    exact ⟨h2 x (List.mem_of_getElem? hx), (h1 n k x hk hx).2⟩

set_option maxHeartbeats 1000000 in
theorem increasing_any (A : Option Addr) (n c : Nat) (xs : List Int) (w : World) (hx : SliceOf w 1 i64cells A n xs) :
    Calls Tryd.prog 34 #[.slice A n c] w (Ret (.bool (risesB xs)) w) := by
  have hn := hx.le
  have HL := Lib.hid hx.len
  go_enter Tryd.func34, Tryd.ntmps34
  go_wp2
  go_loopg [3] n (fun gk i wr => ∃ k : Nat, 1 ≤ k ∧ (k ≤ n ∨ k = 1) ∧ gk = n + 1 - k ∧ i = .int .i64 k ∧ Below w.heap.size w wr ∧ GoodTo (fun _ => true) risesRel xs k)
  case atStart => exact ⟨1, by omega, .inr rfl, by omega, rfl, Below.refl _ _, fun j x hj _ => ⟨rfl, fun p h => absurd h (by omega)⟩⟩
  case round =>
    obtain ⟨k, hk1, hk, hgk, rfl, hb, hall⟩ := hrel
    have Hall := Lib.hid hall
    have Hgk := Lib.hid hgk
    clear hall hgk
    by_cases hlt : k < n
    · obtain ⟨b1, o1, x, rfl, hb1, hxk, x0⟩ := ints_at (hx.below hb) hlt
      have hlt' : k - 1 < n := by omega
      obtain ⟨b2, o2, p, he, hb2, hpk, p0⟩ := ints_at (hx.below hb) hlt'
      injection he with he
      injection he with he1 he2 _
      subst he1 he2
      have Hx := Lib.hid hxk
      have Hp := Lib.hid hpk
      clear hxk hpk hx
      have hsub := fun (g : Sub wr) b o (h : b < wr.heap.size) => g.cell b o h
      by_cases hr : x ≤ p
      · go_wp2_with fail
        refine wp_region_sub (by kernel_rfl) (by kernel_rfl) ?_
        repeat (go_big_quiet_step (fail))
        refine wpQuiet_nil ?_
        intro wg hg
        have hbg := hb.trans (hg.mono hb.size)
        clear hsub x0 p0
        go_wp2
        go_ret
        exact Ret.b (goodFrom_rel (by omega) Hp.out Hx.out (by simp [risesRel]; omega)).symm hbg
      · go_wp2_with fail
        refine wp_region_sub (by kernel_rfl) (by kernel_rfl) ?_
        repeat (go_big_quiet_step (fail))
        refine wpQuiet_nil ?_
        intro wg hg
        have hbg := hb.trans (hg.mono hb.size)
        clear hsub x0 p0
        go_wp2
        go_roundg (n + 1 - (k + 1))
        case measure => have := Hgk.out; omega
        case rel => exact ⟨k + 1, by omega, .inl (by omega), rfl, by go_num, hbg, Hall.out.step Hx.out rfl (fun q _ hq => by rw [Hp.out] at hq; cases hq; simp [risesRel]; omega)⟩
    · go_wp2
      go_ret
      exact Ret.b (goodFrom_all (by rw [HL.out]; omega) Hall.out).symm hb
set_option maxHeartbeats 1000000 in
theorem l00Rises_any (lo hi : Int) (A : Option Addr) (n c : Nat) (xs : List Int) (w : World) (hx : SliceOf w 1 i64cells A n xs) :
    Calls Tryd.prog 27 #[.slice A n c, .int .i64 lo, .int .i64 hi] w (Ret (.bool (cellsB lo hi xs)) w) := by
  have hn := hx.le
  have HL := Lib.hid hx.len
  go_enter Tryd.func27, Tryd.ntmps27
  go_wp2
  go_loopg [7] n (fun gk i wr => ∃ k : Nat, k ≤ n ∧ gk = n - k ∧ i = .int .i64 k ∧ Below w.heap.size w wr ∧ GoodTo (fun y => inB y lo hi) risesRel xs k)
  case atStart => exact ⟨0, Nat.zero_le _, rfl, rfl, Below.refl _ _, GoodTo.zero⟩
  case round =>
    obtain ⟨k, hk, hgk, rfl, hb, hall⟩ := hrel
    have Hall := Lib.hid hall
    have Hgk := Lib.hid hgk
    clear hall hgk
    by_cases hlt : k < n
    · obtain ⟨b1, o1, x, rfl, hb1, hxk, x0⟩ := ints_at (hx.below hb) hlt
      have Hx := Lib.hid hxk
      clear hxk
      have hsub := fun (g : Sub wr) b o (h : b < wr.heap.size) => g.cell b o h
      cases h1 : inB x lo hi
      · go_wp2_with fail
        refine wp_region_sub (by kernel_rfl) (by kernel_rfl) ?_
        repeat (go_big_quiet_step (exact Calls.sub_of_same_eq (l00In_any _ _ _ _) (congrArg Value.bool h1)))
        refine wpQuiet_nil ?_
        intro wg hg
        have hbg := hb.trans (hg.mono hb.size)
        clear hsub x0
        go_wp2
        go_ret
        exact Ret.b (goodFrom_one Hx.out h1).symm hbg
      · by_cases hk0 : k = 0
        · have hd : decide (0 < k) = false := decide_eq_false (by omega)
          have Hk0 := Lib.hid hk0
          clear hk0
          go_wp2_with fail
          refine wp_region_sub (by kernel_rfl) (by kernel_rfl) ?_
          repeat (go_big_quiet_step (exact Calls.sub_of_same_eq (l00In_any _ _ _ _) (congrArg Value.bool h1)))
          refine wpQuiet_nil ?_
          intro wg hg
          have hbg := hb.trans (hg.mono hb.size)
          clear hsub x0
          go_wp2
          go_roundg (n - (k + 1))
          case measure => have := Hgk.out; omega
          case rel => exact ⟨k + 1, by omega, rfl, by go_num, hbg, Hall.out.step Hx.out h1 (fun p h => absurd h (by have := Hk0.out; omega))⟩
        · have hd : decide (0 < k) = true := decide_eq_true (by omega)
          have hlt' : k - 1 < n := by omega
          obtain ⟨b2, o2, p, he, hb2, hpk, p0⟩ := ints_at (hx.below hb) hlt'
          injection he with he
          injection he with he1 he2 _
          subst he1 he2
          have Hp := Lib.hid hpk
          clear hpk hx
          by_cases hr : x ≤ p
          · go_wp2_with fail
            refine wp_region_sub (by kernel_rfl) (by kernel_rfl) ?_
            repeat (go_big_quiet_step (exact Calls.sub_of_same_eq (l00In_any _ _ _ _) (congrArg Value.bool h1)))
            refine wpQuiet_nil ?_
            intro wg hg
            have hbg := hb.trans (hg.mono hb.size)
            clear hsub x0 p0
            go_wp2
            go_ret
            exact Ret.b (goodFrom_rel (by omega) Hp.out Hx.out (by simp [risesRel]; omega)).symm hbg
          · go_wp2_with fail
            refine wp_region_sub (by kernel_rfl) (by kernel_rfl) ?_
            repeat (go_big_quiet_step (exact Calls.sub_of_same_eq (l00In_any _ _ _ _) (congrArg Value.bool h1)))
            refine wpQuiet_nil ?_
            intro wg hg
            have hbg := hb.trans (hg.mono hb.size)
            clear hsub x0 p0
            go_wp2
            go_roundg (n - (k + 1))
            case measure => have := Hgk.out; omega
            case rel => exact ⟨k + 1, by omega, rfl, by go_num, hbg, Hall.out.step Hx.out h1 (fun q _ hq => by rw [Hp.out] at hq; cases hq; simp [risesRel]; omega)⟩
    · go_wp2
      go_ret
      exact Ret.b (goodFrom_all (by rw [HL.out]; omega) Hall.out).symm hb

end Go.Proofs.YtjidibohbbdboaaDoor
