/- When a terrain is valid, and when a list of cells rises: both sides. -/
import Derived.Test.YtmldijckjenbcaaGreatDoorBase
import Derived.Test.YtmldijckjenbcaaGreatDoorMem
import Derived.Test.YtmldijckjenbcaaGreatDoorTInt64
import Derived.Test.YtmldijckjenbcaaGreatDoorWithin
import Derived.Test.YtmldijckjenbcaaGreatDoorTGrid
namespace Go.Proofs.YtmldijckjenbcaaGreatDoor
open Go.RowKit

def gridB (g : Grid) : Bool := inB g.rows 1 8 && inB g.columns 1 8 && inB g.size 1 100 && decide ((g.heights.length : Int) = g.rows * g.columns) && g.heights.all (fun y => inB y 0 5000)
theorem gridB_iff (g : Grid) : gridB g = true ↔ inB g.rows 1 8 = true ∧ inB g.columns 1 8 = true ∧ inB g.size 1 100 = true ∧ decide ((g.heights.length : Int) = g.rows * g.columns) = true ∧ g.heights.all (fun y => inB y 0 5000) = true := by simp [gridB, and_assoc]
theorem mul_i64 {a b : Int} (ha : 1 ≤ a ∧ a ≤ 8) (hb : 1 ≤ b ∧ b ≤ 8) : IntKind.i64.wrap (a * b) = a * b ∧ 1 ≤ a * b ∧ a * b ≤ 64 := by
  have h1 : 1 ≤ a * b := by have := Int.mul_le_mul ha.1 hb.1 (by omega) (by omega); omega
  have h2 : a * b ≤ 64 := by have := Int.mul_le_mul ha.2 hb.2 (by omega) (by omega); omega
  exact ⟨IntWalk.i64_in _ (by omega), h1, h2⟩
theorem all_none {α : Type} {p : α → Bool} {xs : List α} {n : Nat} (hn : xs.length ≤ n) (h : NoneTo (fun y => !p y) xs n) : xs.all p = true := by
  rw [List.all_eq_true]
  intro y hy
  obtain ⟨k, hk⟩ := List.mem_iff_getElem?.1 hy
  have := h k y (Nat.lt_of_lt_of_le (List.getElem?_eq_some_iff.1 hk).1 hn) hk
  simpa using this
theorem all_hit {α : Type} {p : α → Bool} {xs : List α} {k : Nat} {y : α} (hk : xs[k]? = some y) (h : p y = false) : xs.all p = false := by
  rw [List.all_eq_false]; exact ⟨y, List.mem_of_getElem? hk, by simp [h]⟩
theorem goodFrom_one {α : Type} {one : α → Bool} {rel : α → α → Bool} {xs : List α} {k : Nat} {x : α} (hx : xs[k]? = some x) (h : one x = false) : goodFrom one rel none xs = false := by
  have := validL_one (M := xs.length) (rel := rel) hx h; simpa [validL] using this
theorem goodFrom_rel {α : Type} {one : α → Bool} {rel : α → α → Bool} {xs : List α} {k : Nat} {p x : α} (hk : 0 < k) (hp : xs[k - 1]? = some p) (hx : xs[k]? = some x) (h : rel p x = false) : goodFrom one rel none xs = false := by
  have := validL_rel (M := xs.length) (one := one) hk hp hx h; simpa [validL] using this
theorem goodFrom_all {α : Type} {one : α → Bool} {rel : α → α → Bool} {xs : List α} {n : Nat} (hn : xs.length ≤ n) (h : GoodTo one rel xs n) : goodFrom one rel none xs = true := by
  have := validL_all (M := xs.length) hn h; simpa [validL] using this
def risesRel (p x : Int) : Bool := decide (p < x)
/-- Strictly rising. -/
def risesB (xs : List Int) : Bool := goodFrom (fun _ => true) risesRel none xs
/-- Strictly rising, and all within two bounds. -/
def cellsB (lo hi : Int) (xs : List Int) : Bool := goodFrom (fun y => inB y lo hi) risesRel none xs
theorem cellsB_eq (lo hi : Int) (xs : List Int) : cellsB lo hi xs = (risesB xs && xs.all fun y => inB y lo hi) := by
  rw [Bool.eq_iff_iff, Bool.and_eq_true, List.all_eq_true]
  unfold cellsB risesB
  rw [goodFrom_iff, goodFrom_iff]
  constructor
  · intro h
    refine ⟨fun n k x hk hx => ⟨rfl, (h n k x hk hx).2⟩, fun y hy => ?_⟩
    obtain ⟨k, hk⟩ := List.mem_iff_getElem?.1 hy
    exact (h (k + 1) k y (by omega) hk).1
  · rintro ⟨h1, h2⟩ n k x hk hx
    exact ⟨h2 x (List.mem_of_getElem? hx), (h1 n k x hk hx).2⟩

set_option maxHeartbeats 1000000 in
theorem validGrid_any (x : GridR) (w : World) (hin : x.In w) : Calls Tryz.prog 25 #[.agg #[.int .i64 x.rows, .int .i64 x.columns, .int .i64 x.size, .slice x.heightsA x.heightsN x.heightsC]] w (Ret (.bool (gridB x.val)) w) := by
  have hlen := hin.1.len
  have HI := Lib.hid hin
  have hB : Below w.heap.size w (w.alloc (.cells #[.int .i64 x.rows, .int .i64 x.columns, .int .i64 x.size, .slice x.heightsA x.heightsN x.heightsC] 26)) := (Below.refl _ _).alloc (Nat.le_refl _) _
  have HL := Lib.hid hlen
  clear hlen hin
  rcases cases5 (inB x.rows 1 8) (inB x.columns 1 8) (inB x.size 1 100) (decide ((x.heightsN : Int) = x.rows * x.columns)) (x.heights.all (fun y => inB y 0 5000)) with h0 | ⟨h0, h1⟩ | ⟨h0, h1, h2⟩ | ⟨h0, h1, h2, h3⟩ | ⟨h0, h1, h2, h3, h4⟩ | ⟨h0, h1, h2, h3, h4⟩
  · skip
    go_enter Tryz.func25, Tryz.ntmps25
    go_wp2_with (first | (go_at_call 39; refine (within_any _ _ _ _).mono ?_; rintro e w' ⟨rfl, rfl⟩) | (go_at_call 44; refine (allWithin_any 0 5000 _ _ _ x.heights _ (HI.out.1.below hB)).mono ?_; rintro e w' ⟨rfl, hb⟩))
    all_goals (go_ret; exact Ret.b (by simp [gridB, GridR.val, HL.out, *]) (by first | exact hB | exact hB.trans ((by assumption : Below _ (w.alloc _) _).mono hB.size)))
  · skip
    go_enter Tryz.func25, Tryz.ntmps25
    go_wp2_with (first | (go_at_call 39; refine (within_any _ _ _ _).mono ?_; rintro e w' ⟨rfl, rfl⟩) | (go_at_call 44; refine (allWithin_any 0 5000 _ _ _ x.heights _ (HI.out.1.below hB)).mono ?_; rintro e w' ⟨rfl, hb⟩))
    all_goals (go_ret; exact Ret.b (by simp [gridB, GridR.val, HL.out, *]) (by first | exact hB | exact hB.trans ((by assumption : Below _ (w.alloc _) _).mono hB.size)))
  · skip
    go_enter Tryz.func25, Tryz.ntmps25
    go_wp2_with (first | (go_at_call 39; refine (within_any _ _ _ _).mono ?_; rintro e w' ⟨rfl, rfl⟩) | (go_at_call 44; refine (allWithin_any 0 5000 _ _ _ x.heights _ (HI.out.1.below hB)).mono ?_; rintro e w' ⟨rfl, hb⟩))
    all_goals (go_ret; exact Ret.b (by simp [gridB, GridR.val, HL.out, *]) (by first | exact hB | exact hB.trans ((by assumption : Below _ (w.alloc _) _).mono hB.size)))
  · skip
    obtain ⟨hm, _, _⟩ := mul_i64 (inB_iff.1 h0) (inB_iff.1 h1)
    go_enter Tryz.func25, Tryz.ntmps25
    go_wp2_with (first | (go_at_call 39; refine (within_any _ _ _ _).mono ?_; rintro e w' ⟨rfl, rfl⟩) | (go_at_call 44; refine (allWithin_any 0 5000 _ _ _ x.heights _ (HI.out.1.below hB)).mono ?_; rintro e w' ⟨rfl, hb⟩))
    all_goals (go_ret; exact Ret.b (by simp [gridB, GridR.val, HL.out, *]) (by first | exact hB | exact hB.trans ((by assumption : Below _ (w.alloc _) _).mono hB.size)))
  · skip
    obtain ⟨hm, _, _⟩ := mul_i64 (inB_iff.1 h0) (inB_iff.1 h1)
    go_enter Tryz.func25, Tryz.ntmps25
    go_wp2_with (first | (go_at_call 39; refine (within_any _ _ _ _).mono ?_; rintro e w' ⟨rfl, rfl⟩) | (go_at_call 44; refine (allWithin_any 0 5000 _ _ _ x.heights _ (HI.out.1.below hB)).mono ?_; rintro e w' ⟨rfl, hb⟩))
    all_goals (go_ret; exact Ret.b (by simp [gridB, GridR.val, HL.out, *]) (by first | exact hB | exact hB.trans ((by assumption : Below _ (w.alloc _) _).mono hB.size)))
  · skip
    obtain ⟨hm, _, _⟩ := mul_i64 (inB_iff.1 h0) (inB_iff.1 h1)
    go_enter Tryz.func25, Tryz.ntmps25
    go_wp2_with (first | (go_at_call 39; refine (within_any _ _ _ _).mono ?_; rintro e w' ⟨rfl, rfl⟩) | (go_at_call 44; refine (allWithin_any 0 5000 _ _ _ x.heights _ (HI.out.1.below hB)).mono ?_; rintro e w' ⟨rfl, hb⟩))
    all_goals (go_ret; exact Ret.b (by simp [gridB, GridR.val, HL.out, *]) (by first | exact hB | exact hB.trans ((by assumption : Below _ (w.alloc _) _).mono hB.size)))

end Go.Proofs.YtmldijckjenbcaaGreatDoor
