/- SameHistory of the program and of the reference. -/
import Derived.Test.YtoociholchamhaaSame
import Derived.Test.YtoociholchamhaaTVersion
namespace Go.Proofs.Ytoociholchamhaa
open Go.RowKit

theorem ver_no {x y : VersionR} (h : (x.number == y.number) = false ∨ (x.parent == y.parent) = false ∨ (x.memo.toList == y.memo.toList) = false ∨ Setting.eqSB x.state y.state = false) : Version.eqB x.val y.val = false := by
  unfold Version.eqB VersionR.val
  simp only [Bool.and_eq_false_iff, decide_eq_false_iff_not]
  rcases h with h | h | h | h
  · left; left; left; simpa using h
  · left; left; right; simpa using h
  · left; right; simpa using h
  · right; exact h
theorem ver_yes {x y : VersionR} (h1 : (x.number == y.number) = true) (h2 : (x.parent == y.parent) = true) (h3 : (x.memo.toList == y.memo.toList) = true) (h4 : Setting.eqSB x.state y.state = true) : Version.eqB x.val y.val = true := by
  unfold Version.eqB VersionR.val
  simp only [Bool.and_eq_true, decide_eq_true_eq]
  exact ⟨⟨⟨by simpa using h1, by simpa using h2⟩, by simpa using h3⟩, h4⟩

set_option maxHeartbeats 1000000 in
theorem same1_any (x y : VersionR) (w : World) (hx : x.In w) (hy : y.In w) : Calls Try.prog 70 #[.agg #[.int .i64 x.number, .int .i64 x.parent, .string x.memo, .slice x.stateA x.stateN x.stateC], .agg #[.int .i64 y.number, .int .i64 y.parent, .string y.memo, .slice y.stateA y.stateN y.stateC]] w (Ret (.bool (Version.eqB x.val y.val)) w) := by
  have HX := Lib.hid hx
  have HY := Lib.hid hy
  clear hx hy
  have hB : Below w.heap.size w ((w.alloc (.cells #[.int .i64 x.number, .int .i64 x.parent, .string x.memo, .slice x.stateA x.stateN x.stateC] 94)).alloc (.cells #[.int .i64 y.number, .int .i64 y.parent, .string y.memo, .slice y.stateA y.stateN y.stateC] 94)) := ((Below.refl _ _).alloc (Nat.le_refl _) _).alloc (by simp) _
  rcases cases4 (x.number == y.number) (x.parent == y.parent) (x.memo.toList == y.memo.toList) (Setting.eqSB x.state y.state) with h1 | ⟨h1, h2⟩ | ⟨h1, h2, h3⟩ | ⟨h1, h2, h3, h4⟩ | ⟨h1, h2, h3, h4⟩
  · have HN := Lib.hid (ver_no (x := x) (y := y) (.inl h1))
    go_enter Try.func70, Try.ntmps70
    go_wp2
    go_ret
    exact Ret.b HN.out.symm hB
  · have HN := Lib.hid (ver_no (x := x) (y := y) (.inr (.inl h2)))
    go_enter Try.func70, Try.ntmps70
    go_wp2
    go_ret
    exact Ret.b HN.out.symm hB
  · have HN := Lib.hid (ver_no (x := x) (y := y) (.inr (.inr (.inl h3))))
    go_enter Try.func70, Try.ntmps70
    go_wp2
    go_ret
    exact Ret.b HN.out.symm hB
  · have HN := Lib.hid (ver_no (x := x) (y := y) (.inr (.inr (.inr h4))))
    go_enter Try.func70, Try.ntmps70
    go_wp2_with fail
    refine (equalSetting_any _ _ _ _ _ _ x.state y.state _ (HX.out.1.below hB) (HY.out.1.below hB)).mono ?_
    rintro e w1 ⟨rfl, hb1⟩
    go_wp2
    go_ret
    exact Ret.b HN.out.symm (hB.trans (hb1.mono hB.size))
  · have HN := Lib.hid (ver_yes h1 h2 h3 h4)
    go_enter Try.func70, Try.ntmps70
    go_wp2_with fail
    refine (equalSetting_any _ _ _ _ _ _ x.state y.state _ (HX.out.1.below hB) (HY.out.1.below hB)).mono ?_
    rintro e w1 ⟨rfl, hb1⟩
    go_wp2
    go_ret
    exact Ret.b HN.out.symm (hB.trans (hb1.mono hB.size))

set_option maxHeartbeats 1000000 in
theorem equalFunc_any (A B : Option Addr) (n m c1 c2 : Nat) (xs ys : List Version) (w : World) (hx : Version.Sl w A n xs) (hy : Version.Sl w B m ys) :
    Calls Try.prog 69 #[.slice A n c1, .slice B m c2, .func (.func 70) #[] #[]] w (Ret (.bool (Version.eqSB xs ys)) w) := by
  have hn := hx.le
  have hm := hy.le
  by_cases hnm : n = m
  · subst hnm
    go_enter Try.func69, Try.ntmps69
    go_wp2
    go_loopg [17] n (fun gk i wr => ∃ k : Nat, k ≤ n ∧ gk = n - k ∧ i = .int .i64 k ∧ Below w.heap.size w wr ∧ ∀ (j : Nat) (x y : Version), j < k → xs[j]? = some x → ys[j]? = some y → x.eqB y = true)
    case atStart => exact ⟨0, Nat.zero_le _, rfl, rfl, Below.refl _ _, fun j x y h => absurd h (by omega)⟩
    case round =>
      obtain ⟨k, hk, hgk, rfl, hb, hall⟩ := hrel
      have Hall := Lib.hid hall
      have Hgk := Lib.hid hgk
      clear hall hgk
      by_cases hlt : k < n
      · obtain ⟨b1, o1, x, rfl, hb1, hxk, hix, x0, x1, x2, x3⟩ := (hx.below hb).at_ hlt
        obtain ⟨b2, o2, y, rfl, hb2, hyk, hiy, y0, y1, y2, y3⟩ := (hy.below hb).at_ hlt
        have Hx := Lib.hid hxk
        have Hy := Lib.hid hyk
        have Hix := Lib.hid hix
        have Hiy := Lib.hid hiy
        clear hxk hyk hix hiy
        have hB : Below wr.heap.size wr ((wr.alloc (.cells #[.int .i64 x.number, .int .i64 x.parent, .string x.memo, .slice x.stateA x.stateN x.stateC] 94)).alloc (.cells #[.int .i64 y.number, .int .i64 y.parent, .string y.memo, .slice y.stateA y.stateN y.stateC] 94)) := ((Below.refl _ _).alloc (Nat.le_refl _) _).alloc (by simp) _
        go_wp2_with fail
        refine (same1_any x y _ (Hix.out.below hB) (Hiy.out.below hB)).mono ?_
        rintro e w1 ⟨rfl, hb1'⟩
        have hbb := hb.trans ((hB.trans (hb1'.mono hB.size)).mono hb.size)
        clear x0 x1 x2 x3 y0 y1 y2 y3
        cases he : Version.eqB x.val y.val
        · go_wp2
          go_ret
          exact Ret.b (Version.eqSB_no Hx.out Hy.out he).symm hbb
        · go_wp2
          go_roundg (n - (k + 1))
          case measure => have := Hgk.out; omega
          case rel => exact ⟨k + 1, by omega, rfl, by go_num, hbb, Version.eqSB_step Hall.out Hx.out Hy.out he⟩
      · go_wp2
        go_ret
        exact Ret.b (Version.eqSB_yes (by rw [hx.len, hy.len]) (fun j x y h1 h2 => Hall.out j x y (by have := (List.getElem?_eq_some_iff.1 h1).1; have := hx.len; omega) h1 h2)).symm hb
  · go_enter Try.func69, Try.ntmps69
    go_wp2
    go_ret
    exact Ret.b (Version.eqSB_len (by rw [hx.len, hy.len]; exact hnm)).symm (Below.refl _ _)

theorem implSameHistory_any (A B : Option Addr) (n m c1 c2 : Nat) (xs ys : List Version) (w : World) (hx : Version.Sl w A n xs) (hy : Version.Sl w B m ys) :
    Calls Try.prog 40 #[.slice A n c1, .slice B m c2] w (Ret (.bool (Version.eqSB xs ys)) w) := by
  go_enter Try.func40, Try.ntmps40
  go_wp2_with fail
  refine (equalFunc_any _ _ _ _ _ _ xs ys _ hx hy).mono ?_
  rintro e w1 ⟨rfl, hb⟩
  go_wp2
  go_ret
  exact Ret.b rfl hb

set_option maxHeartbeats 2000000 in
theorem specSameHistory_any (A B : Option Addr) (n m c1 c2 : Nat) (xs ys : List Version) (w : World) (hx : Version.Sl w A n xs) (hy : Version.Sl w B m ys) :
    Calls Try.prog 38 #[.slice A n c1, .slice B m c2] w (Ret (.bool (Version.eqSB xs ys)) w) := by
  have hn := hx.le
  have hm := hy.le
  by_cases hnm : n = m
  · subst hnm
    go_enter Try.func38, Try.ntmps38
    go_wp2
    go_loopg [5] n (fun gk i wr => ∃ k : Nat, k ≤ n ∧ gk = n - k ∧ i = .int .i64 k ∧ Below w.heap.size w wr ∧ ∀ (j : Nat) (x y : Version), j < k → xs[j]? = some x → ys[j]? = some y → x.eqB y = true)
    case atStart => exact ⟨0, Nat.zero_le _, rfl, rfl, Below.refl _ _, fun j x y h => absurd h (by omega)⟩
    case round =>
      obtain ⟨k, hk, hgk, rfl, hb, hall⟩ := hrel
      have Hall := Lib.hid hall
      have Hgk := Lib.hid hgk
      clear hall hgk
      by_cases hlt : k < n
      · obtain ⟨b1, o1, x, rfl, hb1, hxk, hix, x0, x1, x2, x3⟩ := (hx.below hb).at_ hlt
        obtain ⟨b2, o2, y, rfl, hb2, hyk, hiy, y0, y1, y2, y3⟩ := (hy.below hb).at_ hlt
        have Hx := Lib.hid hxk
        have Hy := Lib.hid hyk
        have Hix := Lib.hid hix
        have Hiy := Lib.hid hiy
        clear hxk hyk hix hiy
        have hsub := fun (g : Sub wr) b o (h : b < wr.heap.size) => g.cell b o h
        rcases cases4 (x.number == y.number) (x.parent == y.parent) (x.memo.toList == y.memo.toList) (Setting.eqSB x.state y.state) with h1 | ⟨h1, h2⟩ | ⟨h1, h2, h3⟩ | ⟨h1, h2, h3, h4⟩ | ⟨h1, h2, h3, h4⟩
        · have HN := Lib.hid (ver_no (x := x) (y := y) (.inl h1))
          have n1 : (x.number != y.number) = true := by simp [bne, h1]
          go_wp2_with fail
          refine wp_region_sub (by kernel_rfl) (by kernel_rfl) ?_
          repeat (go_big_quiet_step (fail))
          refine wpQuiet_nil ?_
          intro wg hg
          have hbg := hb.trans (hg.mono hb.size)
          clear hsub x0 x1 x2 x3 y0 y1 y2 y3
          go_wp2
          go_ret
          exact Ret.b (Version.eqSB_no Hx.out Hy.out HN.out).symm hbg
        · have HN := Lib.hid (ver_no (x := x) (y := y) (.inr (.inl h2)))
          have n1 : (x.number != y.number) = false := by simp [bne, h1]
          have n2 : (x.parent != y.parent) = true := by simp [bne, h2]
          go_wp2_with fail
          refine wp_region_sub (by kernel_rfl) (by kernel_rfl) ?_
          repeat (go_big_quiet_step (fail))
          refine wpQuiet_nil ?_
          intro wg hg
          have hbg := hb.trans (hg.mono hb.size)
          clear hsub x0 x1 x2 x3 y0 y1 y2 y3
          go_wp2
          go_ret
          exact Ret.b (Version.eqSB_no Hx.out Hy.out HN.out).symm hbg
        · have HN := Lib.hid (ver_no (x := x) (y := y) (.inr (.inr (.inl h3))))
          have n1 : (x.number != y.number) = false := by simp [bne, h1]
          have n2 : (x.parent != y.parent) = false := by simp [bne, h2]
          have n3 : (x.memo.toList != y.memo.toList) = true := by simp [bne, h3]
          go_wp2_with fail
          refine wp_region_sub (by kernel_rfl) (by kernel_rfl) ?_
          repeat (go_big_quiet_step (fail))
          refine wpQuiet_nil ?_
          intro wg hg
          have hbg := hb.trans (hg.mono hb.size)
          clear hsub x0 x1 x2 x3 y0 y1 y2 y3
          go_wp2
          go_ret
          exact Ret.b (Version.eqSB_no Hx.out Hy.out HN.out).symm hbg
        · have HN := Lib.hid (ver_no (x := x) (y := y) (.inr (.inr (.inr h4))))
          have n1 : (x.number != y.number) = false := by simp [bne, h1]
          have n2 : (x.parent != y.parent) = false := by simp [bne, h2]
          have n3 : (x.memo.toList != y.memo.toList) = false := by simp [bne, h3]
          go_wp2_with fail
          refine wp_region_sub (by kernel_rfl) (by kernel_rfl) ?_
          repeat (go_big_quiet_step (exact Calls.sub_of_eq (l27Same_any _ _ _ _ _ _ x.state y.state _ (Hix.out.1.below (Sub.below _)) (Hiy.out.1.below (Sub.below _))) (congrArg Value.bool h4)))
          refine wpQuiet_nil ?_
          intro wg hg
          have hbg := hb.trans (hg.mono hb.size)
          clear hsub x0 x1 x2 x3 y0 y1 y2 y3
          go_wp2
          go_ret
          exact Ret.b (Version.eqSB_no Hx.out Hy.out HN.out).symm hbg
        · have HN := Lib.hid (ver_yes h1 h2 h3 h4)
          have n1 : (x.number != y.number) = false := by simp [bne, h1]
          have n2 : (x.parent != y.parent) = false := by simp [bne, h2]
          have n3 : (x.memo.toList != y.memo.toList) = false := by simp [bne, h3]
          go_wp2_with fail
          refine wp_region_sub (by kernel_rfl) (by kernel_rfl) ?_
          repeat (go_big_quiet_step (exact Calls.sub_of_eq (l27Same_any _ _ _ _ _ _ x.state y.state _ (Hix.out.1.below (Sub.below _)) (Hiy.out.1.below (Sub.below _))) (congrArg Value.bool h4)))
          refine wpQuiet_nil ?_
          intro wg hg
          have hbg := hb.trans (hg.mono hb.size)
          clear hsub x0 x1 x2 x3 y0 y1 y2 y3
          go_wp2
          go_roundg (n - (k + 1))
          case measure => have := Hgk.out; omega
          case rel => exact ⟨k + 1, by omega, rfl, by go_num, hbg, Version.eqSB_step Hall.out Hx.out Hy.out HN.out⟩
      · go_wp2
        go_ret
        exact Ret.b (Version.eqSB_yes (by rw [hx.len, hy.len]) (fun j x y h1 h2 => Hall.out j x y (by have := (List.getElem?_eq_some_iff.1 h1).1; have := hx.len; omega) h1 h2)).symm hb
  · go_enter Try.func38, Try.ntmps38
    go_wp2
    go_ret
    exact Ret.b (Version.eqSB_len (by rw [hx.len, hy.len]; exact hnm)).symm (Below.refl _ _)

end Go.Proofs.Ytoociholchamhaa
