/- A number put into a list of one's own: how long the result can be. -/
import Derived.Test.YtpibiieibofggaaBase
import Derived.Test.YtpibiieibofggaaMem
import Derived.Test.YtpibiieibofggaaTInt64
namespace Go.Proofs.Ytpibiieibofggaa
open Go.RowKit

set_option maxHeartbeats 2000000 in
theorem l00Put_any (A : Option Addr) (n c : Nat) (xs : List Int) (x : Int) (w : World) (hx : SliceOf w 1 i64cells A n xs) (hn : n ≤ 1000) :
    Calls Try.prog 58 #[.slice A n c, .int .i64 x] w (fun e w' => ∃ (v : Value) (o : List Int), e = .returned v ∧ OwnsL w' w.heap.size 2 1 i64cells v o ∧ o.length ≤ n + 1 ∧ Below w.heap.size w w') := by
  have HX := Lib.hid hx
  have HL := Lib.hid hx.len
  clear hx
  go_enter Try.func58, Try.ntmps58
  go_wp2
  go_loopg [5, 6, 7] n (fun gk s d i wr => ∃ (k : Nat) (v : Value) (o : List Int) (dd : Bool), k ≤ n ∧ gk = n - k ∧ i = .int .i64 k ∧ v = s ∧ d = .bool dd ∧ o.length ≤ k + (if dd = true then 1 else 0) ∧ Below w.heap.size w wr ∧ OwnsL wr w.heap.size 2 1 i64cells v o)
  case atStart => exact ⟨0, _, [], false, Nat.zero_le _, rfl, rfl, rfl, rfl, by simp, (Below.refl _ _).alloc (Nat.le_refl _) _, OwnsL.made _ _ _ _ _ (Nat.le_refl _)⟩
  case round =>
    obtain ⟨k, v, o, dd, hk, hgk, rfl, rfl, rfl, hinv, hb, hown⟩ := hrel
    have Hgk := Lib.hid hgk
    have Hown := Lib.hid hown
    have HI := Lib.hid hinv
    have hol : o.length ≤ k + 1 := by cases dd <;> simp at hinv <;> omega
    clear hgk hown hinv
    by_cases hlt : k < n
    rotate_left
    · have hkn : k = n := by omega
      subst hkn
      cases dd
      · go_wp2_with (at_builtin; refine wpList_push (by rfl) (.tmp 44) (.tmp 46) 27 (by rfl) w.heap.size 2 1 Try.underlying27 infoI64 (by rfl) (by decide) i64cells i64cells_len i64cells_one _ v o x (by rfl) (by rfl) Hown.out (by rfl) (by omega) (by decide) hb.size ?_)
        intro v' w' hown' hb' _
        have hbw := hb.trans hb'
        have HW := Lib.hid hown'
        clear hown'
        go_wp2
        go_ret
        exact ⟨v', _, rfl, HW.out, by have := HI.out; simp at this ⊢; omega, hbw⟩
      · go_wp2
        go_ret
        exact ⟨v, rfl, o, Hown.out, hol, hb⟩
    obtain ⟨b1, o1, y, rfl, hb1, hy, ycell⟩ := ints_at (HX.out.below hb) hlt
    have HY := Lib.hid hy
    clear hy
    cases dd
    · rcases Int.lt_trichotomy y x with hyx | hyx | hyx
      · have hge : decide (x ≤ y) = false := decide_eq_false (by omega)
        go_wp2_with (at_builtin; refine wpList_push (by rfl) (.tmp 35) (.tmp 40) 27 (by rfl) w.heap.size 2 1 Try.underlying27 infoI64 (by rfl) (by decide) i64cells i64cells_len i64cells_one _ v o y (by rfl) (by rfl) Hown.out (by rfl) (by omega) (by decide) hb.size ?_)
        intro v' w' hown' hb' _
        have hbw := hb.trans hb'
        have HW := Lib.hid hown'
        clear hown'
        go_wp2
        go_roundg (n - (k + 1))
        case measure => have := Hgk.out; omega
        case rel => exact ⟨k + 1, v', _, false, by omega, rfl, by go_num, rfl, rfl, by have := HI.out; simp at this ⊢; omega, hbw, HW.out⟩
      · subst hyx
        go_wp2_with (at_builtin; refine wpList_push (by rfl) (.tmp 35) (.tmp 40) 27 (by rfl) w.heap.size 2 1 Try.underlying27 infoI64 (by rfl) (by decide) i64cells i64cells_len i64cells_one _ v o y (by rfl) (by rfl) Hown.out (by rfl) (by omega) (by decide) hb.size ?_)
        intro v' w' hown' hb' _
        have hbw := hb.trans hb'
        have HW := Lib.hid hown'
        clear hown'
        go_wp2
        go_roundg (n - (k + 1))
        case measure => have := Hgk.out; omega
        case rel => exact ⟨k + 1, v', _, true, by omega, rfl, by go_num, rfl, rfl, by have := HI.out; simp at this ⊢; omega, hbw, HW.out⟩
      · have hge : decide (x ≤ y) = true := decide_eq_true (by omega)
        have hgt : decide (x < y) = true := decide_eq_true hyx
        go_wp2_with (at_builtin; refine wpList_push (by rfl) (.tmp 31) (.tmp 33) 27 (by rfl) w.heap.size 2 1 Try.underlying27 infoI64 (by rfl) (by decide) i64cells i64cells_len i64cells_one _ v o x (by rfl) (by rfl) Hown.out (by rfl) (by omega) (by decide) hb.size ?_)
        intro v1 w1 hown1 hbq _
        have hb2 := hb.trans hbq
        have HW1 := Lib.hid hown1
        obtain ⟨b2, o2, y2, hA2, hblt2, hy2, ycell2⟩ := ints_at (HX.out.below hb2) hlt
        injection hA2 with hA2
        injection hA2 with e1 e2 _
        subst e1 e2
        rw [HY.out] at hy2
        injection hy2 with hy2
        subst hy2
        clear hown1 ycell
        go_wp2_with (at_builtin; refine wpList_push (by rfl) (.tmp 35) (.tmp 40) 27 (by rfl) w.heap.size 2 1 Try.underlying27 infoI64 (by rfl) (by decide) i64cells i64cells_len i64cells_one _ v1 (o ++ [x]) y (by rfl) (by rfl) HW1.out (by rfl) (by simp; omega) (by decide) hb2.size ?_)
        intro v' w' hown' hb' _
        have hbw := hb2.trans hb'
        have HW := Lib.hid hown'
        clear hown'
        go_wp2
        go_roundg (n - (k + 1))
        case measure => have := Hgk.out; omega
        case rel => exact ⟨k + 1, v', o ++ [x, y], true, by omega, rfl, by go_num, rfl, rfl, by have := HI.out; simp at this ⊢; omega, hbw, HW.out⟩
    · go_wp2_with (at_builtin; refine wpList_push (by rfl) (.tmp 35) (.tmp 40) 27 (by rfl) w.heap.size 2 1 Try.underlying27 infoI64 (by rfl) (by decide) i64cells i64cells_len i64cells_one _ v o y (by rfl) (by rfl) Hown.out (by rfl) (by omega) (by decide) hb.size ?_)
      intro v' w' hown' hb' _
      have hbw := hb.trans hb'
      have HW := Lib.hid hown'
      clear hown'
      go_wp2
      go_roundg (n - (k + 1))
      case measure => have := Hgk.out; omega
      case rel => exact ⟨k + 1, v', _, true, by omega, rfl, by go_num, rfl, rfl, by have := HI.out; simp at this ⊢; omega, hbw, HW.out⟩

end Go.Proofs.Ytpibiieibofggaa
