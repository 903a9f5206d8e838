/- The library's cmp.Compare and cmp.Or at numbers: what they return. -/
import Derived.Test.YtamgodeiakflbaaDoorBase
namespace Go.Proofs.YtamgodeiakflbaaDoor
open Go.RowKit

def cmpI (a b : Int) : Int := if a < b then -1 else if b < a then 1 else 0
def orF : List Int → Int
  | [] => 0
  | x :: xs => if x = 0 then orF xs else x
theorem orF_hit : ∀ (xs : List Int) (k : Nat) (x : Int), (∀ (j : Nat) (y : Int), j < k → xs[j]? = some y → y = 0) → xs[k]? = some x → x ≠ 0 → orF xs = x
  | [], k, x, _, h, _ => by simp at h
  | y :: xs, 0, x, _, h, hx => by
    simp only [List.getElem?_cons_zero, Option.some.injEq] at h
    subst h; rw [orF, if_neg hx]
  | y :: xs, k + 1, x, hall, h, hx => by
    rw [orF, if_pos (hall 0 y (by omega) rfl)]
    exact orF_hit xs k x (fun j z hj hz => hall (j + 1) z (by omega) (by simpa using hz)) (by simpa using h) hx
theorem orF_none : ∀ (xs : List Int), (∀ (j : Nat) (y : Int), j < xs.length → xs[j]? = some y → y = 0) → orF xs = 0
  | [], _ => rfl
  | y :: xs, hall => by
    rw [orF, if_pos (hall 0 y (by simp) rfl)]
    exact orF_none xs (fun j z hj hz => hall (j + 1) z (by simp; omega) (by simpa using hz))

set_option maxHeartbeats 400000 in
theorem isNaN64_any (a : Int) (w : World) : Calls Tryd.prog 53 #[.int .i64 a] w (RetS (.bool false) w) := by
  go_enter Tryd.func53, Tryd.ntmps53
  go_wp2
  go_ret
  exact RetS.b (by simp)
set_option maxHeartbeats 1000000 in
theorem compare64_any (a b : Int) (w : World) : Calls Tryd.prog 40 #[.int .i64 a, .int .i64 b] w (RetS (.int .i64 (cmpI a b)) w) := by
  go_enter Tryd.func40, Tryd.ntmps40
  go_wp2_with (go_at_call 53; refine (isNaN64_any _ _).mono ?_; rintro e w' ⟨rfl, rfl⟩)
  all_goals (go_ret; refine RetS.i ?_)
  all_goals (unfold cmpI; (repeat' split) <;> omega)
set_option maxHeartbeats 1000000 in
theorem or_any (A : Option Addr) (n c : Nat) (xs : List Int) (w : World) (hx : SliceOf w 1 i64cells A n xs) : Calls Tryd.prog 39 #[.slice A n c] w (RetS (.int .i64 (orF xs)) w) := by
  have hn := hx.le
  have Hl := Lib.hid hx.len
  go_enter Tryd.func39, Tryd.ntmps39
  go_wp2
  go_loopg [8] n (fun gk i wr => ∃ k : Nat, k ≤ n ∧ gk = n - k ∧ i = .int .i64 k ∧ w = wr ∧ ∀ (j : Nat) (y : Int), j < k → xs[j]? = some y → y = 0)
  case atStart => exact ⟨0, Nat.zero_le _, rfl, rfl, rfl, fun j _ h => absurd h (by omega)⟩
  case round =>
    obtain ⟨k, hk, hgk, rfl, rfl, hall⟩ := hrel
    have Hall := Lib.hid hall
    have Hgk := Lib.hid hgk
    clear hall hgk
    by_cases hlt : k < n
    · obtain ⟨b1, o1, x, rfl, hb1, hxk, x0⟩ := ints_at hx hlt
      have Hx := Lib.hid hxk
      clear hxk
      by_cases h0 : x = 0
      · have h0' : (x != 0) = false := by simp [h0]
        have H0 := Lib.hid h0
        clear h0
        go_wp2
        go_roundg (n - (k + 1))
        case measure => have := Hgk.out; omega
        case rel => exact ⟨k + 1, by omega, rfl, by go_num, rfl, fun j y hj hy => by
          by_cases e : j = k
          · subst e; rw [Hx.out] at hy; cases hy; exact H0.out
          · exact Hall.out j y (by omega) hy⟩
      · have h0' : (x != 0) = true := by simp [h0]
        have H0 := Lib.hid h0
        clear h0
        go_wp2
        go_ret
        exact RetS.i (orF_hit xs k x Hall.out Hx.out H0.out).symm
    · have hkn : k = n := by omega
      subst hkn
      go_wp2
      go_ret
      exact RetS.i (orF_none xs (fun j y hj hy => Hall.out j y (by have := Hl.out; omega) hy)).symm

end Go.Proofs.YtamgodeiakflbaaDoor
