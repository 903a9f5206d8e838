/- When a terrain is valid, and when a list of cells rises: both sides. -/
import Derived.Test.YtphapakhoibamaaGreatDoorBase
import Derived.Test.YtphapakhoibamaaGreatDoorMem
import Derived.Test.YtphapakhoibamaaGreatDoorTInt64
import Derived.Test.YtphapakhoibamaaGreatDoorWithin
import Derived.Test.YtphapakhoibamaaGreatDoorTGrid
namespace Go.Proofs.YtphapakhoibamaaGreatDoor
open Go.RowKit

def gridB (g : Grid) : Bool := inB g.rows 1 8 && inB g.columns 1 8 && inB g.size 1 100 && decide ((g.heights.length : Int) = g.rows * g.columns) && g.heights.all (fun y => inB y 0 5000)
theorem gridB_iff (g : Grid) : gridB g = true ↔ inB g.rows 1 8 = true ∧ inB g.columns 1 8 = true ∧ inB g.size 1 100 = true ∧ decide ((g.heights.length : Int) = g.rows * g.columns) = true ∧ g.heights.all (fun y => inB y 0 5000) = true := by simp [gridB, and_assoc]
theorem mul_i64 {a b : Int} (ha : 1 ≤ a ∧ a ≤ 8) (hb : 1 ≤ b ∧ b ≤ 8) : IntKind.i64.wrap (a * b) = a * b ∧ 1 ≤ a * b ∧ a * b ≤ 64 := by
  have h1 : 1 ≤ a * b := by have := Int.mul_le_mul ha.1 hb.1 (by omega) (by omega); omega
  have h2 : a * b ≤ 64 := by have := Int.mul_le_mul ha.2 hb.2 (by omega) (by omega); omega
  exact ⟨IntWalk.i64_in _ (by omega), h1, h2⟩
theorem all_none {α : Type} {p : α → Bool} {xs : List α} {n : Nat} (hn : xs.length ≤ n) (h : NoneTo (fun y => !p y) xs n) : xs.all p = true := by
  rw [List.all_eq_true]
  intro y hy
  obtain ⟨k, hk⟩ := List.mem_iff_getElem?.1 hy
  have := h k y (Nat.lt_of_lt_of_le (List.getElem?_eq_some_iff.1 hk).1 hn) hk
  simpa using this
theorem all_hit {α : Type} {p : α → Bool} {xs : List α} {k : Nat} {y : α} (hk : xs[k]? = some y) (h : p y = false) : xs.all p = false := by
  rw [List.all_eq_false]; exact ⟨y, List.mem_of_getElem? hk, by simp [h]⟩
theorem goodFrom_one {α : Type} {one : α → Bool} {rel : α → α → Bool} {xs : List α} {k : Nat} {x : α} (hx : xs[k]? = some x) (h : one x = false) : goodFrom one rel none xs = false := by
  have := validL_one (M := xs.length) (rel := rel) hx h; simpa [validL] using this
theorem goodFrom_rel {α : Type} {one : α → Bool} {rel : α → α → Bool} {xs : List α} {k : Nat} {p x : α} (hk : 0 < k) (hp : xs[k - 1]? = some p) (hx : xs[k]? = some x) (h : rel p x = false) : goodFrom one rel none xs = false := by
  have := validL_rel (M := xs.length) (one := one) hk hp hx h; simpa [validL] using this
theorem goodFrom_all {α : Type} {one : α → Bool} {rel : α → α → Bool} {xs : List α} {n : Nat} (hn : xs.length ≤ n) (h : GoodTo one rel xs n) : goodFrom one rel none xs = true := by
  have := validL_all (M := xs.length) hn h; simpa [validL] using this
def risesRel (p x : Int) : Bool := decide (p < x)
/-- Strictly rising. -/
def risesB (xs : List Int) : Bool := goodFrom (fun _ => true) risesRel none xs
/-- Strictly rising, and all within two bounds. -/
def cellsB (lo hi : Int) (xs : List Int) : Bool := goodFrom (fun y => inB y lo hi) risesRel none xs
theorem cellsB_eq (lo hi : Int) (xs : List Int) : cellsB lo hi xs = (risesB xs && xs.all fun y => inB y lo hi) := by
  rw [Bool.eq_iff_iff, Bool.and_eq_true, List.all_eq_true]
  unfold cellsB risesB
  rw [goodFrom_iff, goodFrom_iff]
  constructor
  · intro h
    refine ⟨fun n k x hk hx => ⟨rfl, (h n k x hk hx).2⟩, fun y hy => ?_⟩
    obtain ⟨k, hk⟩ := List.mem_iff_getElem?.1 hy
    exact (h (k + 1) k y (by omega) hk).1
  · rintro ⟨h1, h2⟩ n k x hk hx
    exact ⟨h2 x (List.mem_of_getElem? hx), (h1 n k x hk hx).2⟩

set_option maxHeartbeats 1000000 in
theorem validGrid_any (x : GridR) (w : World) (hin : x.In w) : Calls Tryz.prog 39 #[.agg #[.int .i64 x.rows, .int .i64 x.columns, .int .i64 x.size, .slice x.heightsA x.heightsN x.heightsC]] w (Ret (.bool (gridB x.val)) w) := by
  have hlen := hin.1.len
  have HI := Lib.hid hin
  have hB : Below w.heap.size w (w.alloc (.cells #[.int .i64 x.rows, .int .i64 x.columns, .int .i64 x.size, .slice x.heightsA x.heightsN x.heightsC] 26)) := (Below.refl _ _).alloc (Nat.le_refl _) _
  have HL := Lib.hid hlen
  clear hlen hin
  rcases cases5 (inB x.rows 1 8) (inB x.columns 1 8) (inB x.size 1 100) (decide ((x.heightsN : Int) = x.rows * x.columns)) (x.heights.all (fun y => inB y 0 5000)) with h0 | ⟨h0, h1⟩ | ⟨h0, h1, h2⟩ | ⟨h0, h1, h2, h3⟩ | ⟨h0, h1, h2, h3, h4⟩ | ⟨h0, h1, h2, h3, h4⟩
  · skip
    go_enter Tryz.func39, Tryz.ntmps39
    go_wp2_with (first | (go_at_call 65; refine (within_any _ _ _ _).mono ?_; rintro e w' ⟨rfl, rfl⟩) | (go_at_call 61; refine (allWithin_any 0 5000 _ _ _ x.heights _ (HI.out.1.below hB)).mono ?_; rintro e w' ⟨rfl, hb⟩))
    all_goals (go_ret; exact Ret.b (by simp [gridB, GridR.val, HL.out, *]) (by first | exact hB | exact hB.trans ((by assumption : Below _ (w.alloc _) _).mono hB.size)))
  · skip
    go_enter Tryz.func39, Tryz.ntmps39
    go_wp2_with (first | (go_at_call 65; refine (within_any _ _ _ _).mono ?_; rintro e w' ⟨rfl, rfl⟩) | (go_at_call 61; refine (allWithin_any 0 5000 _ _ _ x.heights _ (HI.out.1.below hB)).mono ?_; rintro e w' ⟨rfl, hb⟩))
    all_goals (go_ret; exact Ret.b (by simp [gridB, GridR.val, HL.out, *]) (by first | exact hB | exact hB.trans ((by assumption : Below _ (w.alloc _) _).mono hB.size)))
  · skip
    go_enter Tryz.func39, Tryz.ntmps39
    go_wp2_with (first | (go_at_call 65; refine (within_any _ _ _ _).mono ?_; rintro e w' ⟨rfl, rfl⟩) | (go_at_call 61; refine (allWithin_any 0 5000 _ _ _ x.heights _ (HI.out.1.below hB)).mono ?_; rintro e w' ⟨rfl, hb⟩))
    all_goals (go_ret; exact Ret.b (by simp [gridB, GridR.val, HL.out, *]) (by first | exact hB | exact hB.trans ((by assumption : Below _ (w.alloc _) _).mono hB.size)))
  · skip
    obtain ⟨hm, _, _⟩ := mul_i64 (inB_iff.1 h0) (inB_iff.1 h1)
    go_enter Tryz.func39, Tryz.ntmps39
    go_wp2_with (first | (go_at_call 65; refine (within_any _ _ _ _).mono ?_; rintro e w' ⟨rfl, rfl⟩) | (go_at_call 61; refine (allWithin_any 0 5000 _ _ _ x.heights _ (HI.out.1.below hB)).mono ?_; rintro e w' ⟨rfl, hb⟩))
    all_goals (go_ret; exact Ret.b (by simp [gridB, GridR.val, HL.out, *]) (by first | exact hB | exact hB.trans ((by assumption : Below _ (w.alloc _) _).mono hB.size)))
  · skip
    obtain ⟨hm, _, _⟩ := mul_i64 (inB_iff.1 h0) (inB_iff.1 h1)
    go_enter Tryz.func39, Tryz.ntmps39
    go_wp2_with (first | (go_at_call 65; refine (within_any _ _ _ _).mono ?_; rintro e w' ⟨rfl, rfl⟩) | (go_at_call 61; refine (allWithin_any 0 5000 _ _ _ x.heights _ (HI.out.1.below hB)).mono ?_; rintro e w' ⟨rfl, hb⟩))
    all_goals (go_ret; exact Ret.b (by simp [gridB, GridR.val, HL.out, *]) (by first | exact hB | exact hB.trans ((by assumption : Below _ (w.alloc _) _).mono hB.size)))
  · skip
    obtain ⟨hm, _, _⟩ := mul_i64 (inB_iff.1 h0) (inB_iff.1 h1)
    go_enter Tryz.func39, Tryz.ntmps39
    go_wp2_with (first | (go_at_call 65; refine (within_any _ _ _ _).mono ?_; rintro e w' ⟨rfl, rfl⟩) | (go_at_call 61; refine (allWithin_any 0 5000 _ _ _ x.heights _ (HI.out.1.below hB)).mono ?_; rintro e w' ⟨rfl, hb⟩))
    all_goals (go_ret; exact Ret.b (by simp [gridB, GridR.val, HL.out, *]) (by first | exact hB | exact hB.trans ((by assumption : Below _ (w.alloc _) _).mono hB.size)))
set_option maxHeartbeats 1000000 in
theorem l09Ok_any (x : GridR) (b off : Nat) (w : World) (hin : x.In w) (hb1 : b < w.heap.size) (x0 : w.cell? ⟨b, off, none⟩ = some (.int .i64 x.rows)) (x1 : w.cell? ⟨b, off + 1, none⟩ = some (.int .i64 x.columns)) (x2 : w.cell? ⟨b, off + 2, none⟩ = some (.int .i64 x.size)) (x3 : w.cell? ⟨b, off + 3, none⟩ = some (.slice x.heightsA x.heightsN x.heightsC)) :
    Calls Tryz.prog 41 #[.pointer (some ⟨b, off, none⟩)] w (Ret (.bool (gridB x.val)) w) := by
  have hlen := hin.1.len
  have hn := hin.1.le
  have HI := Lib.hid hin
  have HL := Lib.hid hlen
  clear hlen hin
  have hsub := fun (g : Sub w) b o (h : b < w.heap.size) => g.cell b o h
  rcases cases4 (inB x.rows 1 8) (inB x.columns 1 8) (inB x.size 1 100) (decide ((x.heightsN : Int) = x.rows * x.columns)) with h0 | ⟨h0, h1⟩ | ⟨h0, h1, h2⟩ | ⟨h0, h1, h2, h3⟩ | ⟨h0, h1, h2, h3⟩
  · skip
    go_enter Tryz.func41, Tryz.ntmps41
    go_wp2_with fail
    refine wp_region_sub (by kernel_rfl) (by kernel_rfl) ?_
    repeat (go_big_quiet_step (first | with_reducible exact Calls.sub_of_same_eq (l00In_any x.rows 1 8 _) (congrArg Value.bool h0)))
    refine wpQuiet_nil ?_
    intro wg hg
    clear hsub x0 x1 x2 x3
    go_wp2
    go_ret
    exact Ret.b (by simp [gridB, GridR.val, HL.out, h0]) hg
  · skip
    go_enter Tryz.func41, Tryz.ntmps41
    go_wp2_with fail
    refine wp_region_sub (by kernel_rfl) (by kernel_rfl) ?_
    repeat (go_big_quiet_step (first | with_reducible exact Calls.sub_of_same_eq (l00In_any x.rows 1 8 _) (congrArg Value.bool h0) | with_reducible exact Calls.sub_of_same_eq (l00In_any x.columns 1 8 _) (congrArg Value.bool h1)))
    refine wpQuiet_nil ?_
    intro wg hg
    clear hsub x0 x1 x2 x3
    go_wp2
    go_ret
    exact Ret.b (by simp [gridB, GridR.val, HL.out, h0, h1]) hg
  · skip
    go_enter Tryz.func41, Tryz.ntmps41
    go_wp2_with fail
    refine wp_region_sub (by kernel_rfl) (by kernel_rfl) ?_
    repeat (go_big_quiet_step (first | with_reducible exact Calls.sub_of_same_eq (l00In_any x.rows 1 8 _) (congrArg Value.bool h0) | with_reducible exact Calls.sub_of_same_eq (l00In_any x.columns 1 8 _) (congrArg Value.bool h1) | with_reducible exact Calls.sub_of_same_eq (l00In_any x.size 1 100 _) (congrArg Value.bool h2)))
    refine wpQuiet_nil ?_
    intro wg hg
    clear hsub x0 x1 x2 x3
    go_wp2
    go_ret
    exact Ret.b (by simp [gridB, GridR.val, HL.out, h0, h1, h2]) hg
  · skip
    obtain ⟨hm, _, _⟩ := mul_i64 (inB_iff.1 h0) (inB_iff.1 h1)
    have hne : ((x.heightsN : Int) != x.rows * x.columns) = true := by simpa using h3
    go_enter Tryz.func41, Tryz.ntmps41
    go_wp2_with fail
    refine wp_region_sub (by kernel_rfl) (by kernel_rfl) ?_
    repeat (go_big_quiet_step (first | with_reducible exact Calls.sub_of_same_eq (l00In_any x.rows 1 8 _) (congrArg Value.bool h0) | with_reducible exact Calls.sub_of_same_eq (l00In_any x.columns 1 8 _) (congrArg Value.bool h1) | with_reducible exact Calls.sub_of_same_eq (l00In_any x.size 1 100 _) (congrArg Value.bool h2)))
    refine wpQuiet_nil ?_
    intro wg hg
    clear hsub x0 x1 x2 x3
    go_wp2
    go_ret
    exact Ret.b (by simp [gridB, GridR.val, HL.out, h0, h1, h2, h3]) hg
  · skip
    obtain ⟨hm, _, _⟩ := mul_i64 (inB_iff.1 h0) (inB_iff.1 h1)
    have hne : ((x.heightsN : Int) != x.rows * x.columns) = false := by simpa using h3
    go_enter Tryz.func41, Tryz.ntmps41
    go_wp2_with fail
    refine wp_region_sub (by kernel_rfl) (by kernel_rfl) ?_
    repeat (go_big_quiet_step (first | with_reducible exact Calls.sub_of_same_eq (l00In_any x.rows 1 8 _) (congrArg Value.bool h0) | with_reducible exact Calls.sub_of_same_eq (l00In_any x.columns 1 8 _) (congrArg Value.bool h1) | with_reducible exact Calls.sub_of_same_eq (l00In_any x.size 1 100 _) (congrArg Value.bool h2)))
    refine wpQuiet_nil ?_
    intro wg hg
    have X3 := Lib.hid x3
    have H0 := Lib.hid h0
    have H1 := Lib.hid h1
    have H2 := Lib.hid h2
    have H3 := Lib.hid h3
    have y0 : wg.cell? ⟨b, off + 3, none⟩ = _ := (hg.cell hb1).trans x3
    clear hsub x0 x1 x2 x3 h0 h1 h2 h3
    go_wp2
    go_loopg [3] x.heightsN (fun gk i wr => ∃ k : Nat, k ≤ x.heightsN ∧ gk = x.heightsN - k ∧ i = .int .i64 k ∧ Below w.heap.size w wr ∧ NoneTo (fun y => !inB y 0 5000) x.heights k)
    case atStart => exact ⟨0, Nat.zero_le _, rfl, rfl, hg, NoneTo.zero⟩
    case round =>
      obtain ⟨k, hk, hgk, rfl, hb, hall⟩ := hrel
      have Hall := Lib.hid hall
      have Hgk := Lib.hid hgk
      clear hall hgk y0
      have x3 : wr.cell? ⟨b, off + 3, none⟩ = _ := (hb.cell hb1).trans X3.out
      by_cases hlt : k < x.heightsN
      · obtain ⟨b2, o2, y, hA2, hb2, hxk, z0⟩ := ints_at (HI.out.1.below hb) hlt
        rw [hA2] at x3
        clear hA2
        have Hx := Lib.hid hxk
        clear hxk
        cases hc : inB y 0 5000
        · have HC := Lib.hid hc
          go_wp2_with (go_at_call 52; refine (l00In_any _ _ _ _).mono ?_; rintro e w' ⟨rfl, rfl⟩)
          go_ret
          exact Ret.b (by simp [gridB, GridR.val, all_hit (p := fun y => inB y 0 5000) Hx.out HC.out]) hb
        · have HC := Lib.hid hc
          go_wp2_with (go_at_call 52; refine (l00In_any _ _ _ _).mono ?_; rintro e w' ⟨rfl, rfl⟩)
          go_roundg (x.heightsN - (k + 1))
          case measure => have := Hgk.out; omega
          case rel => exact ⟨k + 1, by omega, rfl, by go_num, hb, Hall.out.step Hx.out (by simp [HC.out])⟩
      · have HA := Lib.hid (all_none (p := fun y => inB y 0 5000) (by rw [HL.out]; omega) Hall.out)
        go_wp2
        go_ret
        exact Ret.b (by simp [gridB, GridR.val, HL.out, HA.out, H0.out, H1.out, H2.out, H3.out]) hb
set_option maxHeartbeats 1000000 in
theorem increasing_any (A : Option Addr) (n c : Nat) (xs : List Int) (w : World) (hx : SliceOf w 1 i64cells A n xs) :
    Calls Tryz.prog 67 #[.slice A n c] w (Ret (.bool (risesB xs)) w) := by
  have hn := hx.le
  have HL := Lib.hid hx.len
  go_enter Tryz.func67, Tryz.ntmps67
  go_wp2
  go_loopg [3] n (fun gk i wr => ∃ k : Nat, 1 ≤ k ∧ (k ≤ n ∨ k = 1) ∧ gk = n + 1 - k ∧ i = .int .i64 k ∧ Below w.heap.size w wr ∧ GoodTo (fun _ => true) risesRel xs k)
  case atStart => exact ⟨1, by omega, .inr rfl, by omega, rfl, Below.refl _ _, fun j x hj _ => ⟨rfl, fun p h => absurd h (by omega)⟩⟩
  case round =>
    obtain ⟨k, hk1, hk, hgk, rfl, hb, hall⟩ := hrel
    have Hall := Lib.hid hall
    have Hgk := Lib.hid hgk
    clear hall hgk
    by_cases hlt : k < n
    · obtain ⟨b1, o1, x, rfl, hb1, hxk, x0⟩ := ints_at (hx.below hb) hlt
      have hlt' : k - 1 < n := by omega
      obtain ⟨b2, o2, p, he, hb2, hpk, p0⟩ := ints_at (hx.below hb) hlt'
      injection he with he
      injection he with he1 he2 _
      subst he1 he2
      have Hx := Lib.hid hxk
      have Hp := Lib.hid hpk
      clear hxk hpk hx
      have hsub := fun (g : Sub wr) b o (h : b < wr.heap.size) => g.cell b o h
      by_cases hr : x ≤ p
      · go_wp2_with fail
        refine wp_region_sub (by kernel_rfl) (by kernel_rfl) ?_
        repeat (go_big_quiet_step (fail))
        refine wpQuiet_nil ?_
        intro wg hg
        have hbg := hb.trans (hg.mono hb.size)
        clear hsub x0 p0
        go_wp2
        go_ret
        exact Ret.b (goodFrom_rel (by omega) Hp.out Hx.out (by simp [risesRel]; omega)).symm hbg
      · go_wp2_with fail
        refine wp_region_sub (by kernel_rfl) (by kernel_rfl) ?_
        repeat (go_big_quiet_step (fail))
        refine wpQuiet_nil ?_
        intro wg hg
        have hbg := hb.trans (hg.mono hb.size)
        clear hsub x0 p0
        go_wp2
        go_roundg (n + 1 - (k + 1))
        case measure => have := Hgk.out; omega
        case rel => exact ⟨k + 1, by omega, .inl (by omega), rfl, by go_num, hbg, Hall.out.step Hx.out rfl (fun q _ hq => by rw [Hp.out] at hq; cases hq; simp [risesRel]; omega)⟩
    · go_wp2
      go_ret
      exact Ret.b (goodFrom_all (by rw [HL.out]; omega) Hall.out).symm hb

end Go.Proofs.YtphapakhoibamaaGreatDoor
