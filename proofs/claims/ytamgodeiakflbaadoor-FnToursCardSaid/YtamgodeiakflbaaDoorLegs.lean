/- When legs are valid for a number of points: the program's and the reference's functions return one Boolean. -/
import Derived.Test.YtamgodeiakflbaaDoorBase
import Derived.Test.YtamgodeiakflbaaDoorCmp
import Derived.Test.YtamgodeiakflbaaDoorTLeg
namespace Go.Proofs.YtamgodeiakflbaaDoor
open Go.RowKit

def Leg.oneB (p : Int) (x : Leg) : Bool := inB x.to_ 0 (p - 1) && inB x.from_ 0 (x.to_ - 1) && inB x.minutes 1 600 && inB x.exposure 0 1000
def Leg.oneW (p : Int) (x : Leg) : Bool := inB x.from_ 0 (wrap64 (p - 1)) && inB x.to_ (wrap64 (x.from_ + 1)) (wrap64 (p - 1)) && inB x.minutes 1 600 && inB x.exposure 0 1000
def Leg.rel (p x : Leg) : Bool := decide (p.from_ < x.from_) || (p.from_ == x.from_) && decide (p.to_ < x.to_)
def legsOk (p : Int) (xs : List Leg) : Bool := inB p 1 12 && validL 24 (Leg.oneB p) Leg.rel xs

theorem Leg.oneW_eq {p : Int} (hp : inB p 1 12 = true) : Leg.oneW p = Leg.oneB p := by
  funext x
  have ⟨h1, h2⟩ := inB_iff.1 hp
  have e1 : wrap64 (p - 1) = p - 1 := IntWalk.wrap64_in _ ⟨by omega, by omega⟩
  unfold Leg.oneW Leg.oneB
  rw [e1]
  by_cases hf : 0 ≤ x.from_ ∧ x.from_ ≤ p - 1
  · have e2 : wrap64 (x.from_ + 1) = x.from_ + 1 := IntWalk.wrap64_in _ ⟨by omega, by omega⟩
    rw [e2]
    congr 2
    rw [Bool.eq_iff_iff]
    simp only [inB, Bool.and_eq_true, decide_eq_true_eq]
    omega
  · have e3 : inB x.from_ 0 (p - 1) = false := by rw [inB_no]; exact hf
    have e4 : (inB x.to_ 0 (p - 1) && inB x.from_ 0 (x.to_ - 1)) = false := by
      rw [← Bool.not_eq_true]
      simp only [inB, Bool.and_eq_true, decide_eq_true_eq]
      omega
    rw [e3, e4, Bool.false_and]
theorem legsOk_eq (p : Int) (xs : List Leg) : (inB p 1 12 && validL 24 (Leg.oneW p) Leg.rel xs) = legsOk p xs := by
  unfold legsOk
  cases h : inB p 1 12 with
  | false => rw [Bool.false_and, Bool.false_and]
  | true => rw [Leg.oneW_eq h]

set_option maxHeartbeats 2000000 in
theorem l23One_any (x : Leg) (b off : Nat) (p : Int) (w : World) (hb : b < w.heap.size) (x0 : w.cell? ⟨b, off, none⟩ = some (.int .i64 x.from_)) (x1 : w.cell? ⟨b, off + 1, none⟩ = some (.int .i64 x.to_)) (x2 : w.cell? ⟨b, off + 2, none⟩ = some (.int .i64 x.minutes)) (x3 : w.cell? ⟨b, off + 3, none⟩ = some (.int .i64 x.exposure)) :
    Calls Tryd.prog 60 #[.pointer (some ⟨b, off, none⟩), .int .i64 p] w (Ret (.bool (x.oneW p)) w) := by
  have hsub := fun (g : Sub w) b o (h : b < w.heap.size) => g.cell b o h
  have HW : Hid (x.oneW p = (inB x.from_ 0 (wrap64 (p - 1)) && inB x.to_ (wrap64 (x.from_ + 1)) (wrap64 (p - 1)) && inB x.minutes 1 600 && inB x.exposure 0 1000)) := rfl
  rcases cases4 (inB x.from_ 0 (wrap64 (p - 1))) (inB x.to_ (wrap64 (x.from_ + 1)) (wrap64 (p - 1))) (inB x.minutes 1 600) (inB x.exposure 0 1000) with h0 | ⟨h0, h1⟩ | ⟨h0, h1, h2⟩ | ⟨h0, h1, h2, h3⟩ | ⟨h0, h1, h2, h3⟩
  all_goals
    go_enter Tryd.func60, Tryd.ntmps60
    go_wp2_with fail
    refine wp_region_sub (by kernel_rfl) (by kernel_rfl) ?_
    repeat (go_big_quiet_step (first | exact Calls.sub_of_same_eq (l00In_any _ _ _ _) (congrArg Value.bool h0) | exact Calls.sub_of_same_eq (l00In_any _ _ _ _) (congrArg Value.bool h1) | exact Calls.sub_of_same_eq (l00In_any _ _ _ _) (congrArg Value.bool h2) | exact Calls.sub_of_same_eq (l00In_any _ _ _ _) (congrArg Value.bool h3)))
    refine wpQuiet_nil ?_
    intro wg hg
    go_wp2
    go_ret
    exact Ret.b (by rw [HW.out]; simp [*]) hg

theorem Leg.rel_cases (p x : Leg) : (p.rel x = false ∧ decide (x.from_ < p.from_) = true ∧ (p.from_ == x.from_) = false) ∨ (p.rel x = true ∧ decide (x.from_ < p.from_) = false ∧ (p.from_ == x.from_) = false) ∨ (p.rel x = false ∧ decide (x.from_ < p.from_) = false ∧ (p.from_ == x.from_) = true ∧ decide (x.to_ ≤ p.to_) = true) ∨ (p.rel x = true ∧ decide (x.from_ < p.from_) = false ∧ (p.from_ == x.from_) = true ∧ decide (x.to_ ≤ p.to_) = false) := by
  simp only [Leg.rel, Bool.or_eq_false_iff, Bool.or_eq_true, Bool.and_eq_false_iff, Bool.and_eq_true, decide_eq_false_iff_not, decide_eq_true_eq, beq_eq_false_iff_ne, beq_iff_eq, ne_eq]
  omega

set_option maxHeartbeats 4000000 in
theorem l23Ok_any (pts : Int) (A : Option Addr) (n c : Nat) (xs : List Leg) (w : World) (hx : SliceOf w 4 Leg.cells A n xs) :
    Calls Tryd.prog 47 #[.int .i64 pts, .slice A n c] w (Ret (.bool (legsOk pts xs)) w) := by
  have hn := hx.le
  have Hl := Lib.hid hx.len
  have HQ := Lib.hid (legsOk_eq pts xs)
  go_enter Tryd.func47, Tryd.ntmps47
  go_wp2
  go_loopg [5] n (fun gk i wr => ∃ k : Nat, k ≤ n ∧ gk = n - k ∧ i = .int .i64 k ∧ Below w.heap.size w wr ∧ GoodTo (Leg.oneW pts) Leg.rel xs k)
  case atStart => exact ⟨0, Nat.zero_le _, rfl, rfl, Below.refl _ _, GoodTo.zero⟩
  case round =>
    obtain ⟨k, hk, hgk, rfl, hb, hall⟩ := hrel
    have Hall := Lib.hid hall
    have Hgk := Lib.hid hgk
    clear hall hgk
    by_cases hlt : k < n
    · have hx' := hx.below hb
      obtain ⟨b1, o1, x, rfl, hb1, hxk, x0, x1, x2, x3⟩ := Leg.at_ hx' hlt
      have Hx := Lib.hid hxk
      clear hxk
      go_wp2_with fail
      refine (l23One_any x _ _ _ _ hb1 x0 x1 x2 x3).mono ?_
      rintro e w1 ⟨rfl, hb'⟩
      have hbb := hb.trans (hb'.mono hb.size)
      cases h1 : x.oneW pts
      · have H1 := Lib.hid h1
        go_wp2
        go_ret
        exact Ret.b (by rw [← HQ.out, validL_one Hx.out H1.out, Bool.and_false]) hbb
      · have H1 := Lib.hid h1
        have hx1 := hx'.below hb'
        clear x0 x1 x2 x3 hx' hb hb'
        have hsub := fun (g : Sub w1) b o (h : b < w1.heap.size) => g.cell b o h
        by_cases hk0 : k = 0
        · have hd : decide (0 < k) = false := decide_eq_false (by omega)
          have Hk0 := Lib.hid hk0
          clear hk0 hx hx1
          go_wp2_with fail
          refine wp_region_sub (by kernel_rfl) (by kernel_rfl) ?_
          repeat (go_big_quiet_step (fail))
          refine wpQuiet_nil ?_
          intro wg hg
          have hbg := hbb.trans (hg.mono hbb.size)
          go_wp2
          go_roundg (n - (k + 1))
          case measure => have := Hgk.out; omega
          case rel => exact ⟨k + 1, by omega, rfl, by go_num, hbg, Hall.out.step Hx.out H1.out (fun p h => absurd h (by have := Hk0.out; omega))⟩
        · have hd : decide (0 < k) = true := decide_eq_true (by omega)
          have hlt' : k - 1 < n := by omega
          obtain ⟨b3, o3, x', he3, hb3, hxk3, x0, x1, x2, x3⟩ := Leg.at_ hx1 hlt
          rw [Hx.out] at hxk3
          injection hxk3 with hxk3
          subst hxk3
          injection he3 with he3
          injection he3 with he1 he2 _
          subst he1 he2
          obtain ⟨b2, o2, p, he, hb2, hpk, p0, p1, p2, p3⟩ := Leg.at_ hx1 hlt'
          injection he with he
          injection he with he1 he2 _
          subst he1 he2
          have Hp := Lib.hid hpk
          clear hpk hx hx1
          rcases Leg.rel_cases p x with ⟨hr, r1, r2⟩ | ⟨hr, r1, r2⟩ | ⟨hr, r1, r2, r3⟩ | ⟨hr, r1, r2, r3⟩
          all_goals
            have Hr := Lib.hid hr
            clear hr
          · go_wp2_with fail
            refine wp_region_sub (by kernel_rfl) (by kernel_rfl) ?_
            repeat (go_big_quiet_step (fail))
            refine wpQuiet_nil ?_
            intro wg hg
            have hbg := hbb.trans (hg.mono hbb.size)
            go_wp2
            go_ret
            exact Ret.b (by rw [← HQ.out, validL_rel (by omega) Hp.out Hx.out Hr.out, Bool.and_false]) hbg
          · go_wp2_with fail
            refine wp_region_sub (by kernel_rfl) (by kernel_rfl) ?_
            repeat (go_big_quiet_step (fail))
            refine wpQuiet_nil ?_
            intro wg hg
            have hbg := hbb.trans (hg.mono hbb.size)
            go_wp2
            go_roundg (n - (k + 1))
            case measure => have := Hgk.out; omega
            case rel => exact ⟨k + 1, by omega, rfl, by go_num, hbg, Hall.out.step Hx.out H1.out (fun q _ hq => by rw [Hp.out] at hq; cases hq; exact Hr.out)⟩
          · go_wp2_with fail
            refine wp_region_sub (by kernel_rfl) (by kernel_rfl) ?_
            repeat (go_big_quiet_step (fail))
            refine wpQuiet_nil ?_
            intro wg hg
            have hbg := hbb.trans (hg.mono hbb.size)
            go_wp2
            go_ret
            exact Ret.b (by rw [← HQ.out, validL_rel (by omega) Hp.out Hx.out Hr.out, Bool.and_false]) hbg
          · go_wp2_with fail
            refine wp_region_sub (by kernel_rfl) (by kernel_rfl) ?_
            repeat (go_big_quiet_step (fail))
            refine wpQuiet_nil ?_
            intro wg hg
            have hbg := hbb.trans (hg.mono hbb.size)
            go_wp2
            go_roundg (n - (k + 1))
            case measure => have := Hgk.out; omega
            case rel => exact ⟨k + 1, by omega, rfl, by go_num, hbg, Hall.out.step Hx.out H1.out (fun q _ hq => by rw [Hp.out] at hq; cases hq; exact Hr.out)⟩
    · have hkn : k = n := by omega
      subst hkn
      cases hp : inB pts 1 12
      all_goals
        go_wp2_with (go_at_call 48; refine (l00In_any _ _ _ _).mono ?_; rintro e w' ⟨rfl, rfl⟩)
        go_ret
        exact Ret.b (by rw [← HQ.out, validL_all (by rw [Hl.out]; exact Nat.le_refl _) Hall.out, Hl.out, hp]; simp <;> omega) hb

set_option maxHeartbeats 1000000 in
theorem fits_any (x : Leg) (p : Int) (w : World) (hp1 : 1 ≤ p) (hp2 : p ≤ 12) :
    Calls Tryd.prog 26 #[.agg #[.int .i64 x.from_, .int .i64 x.to_, .int .i64 x.minutes, .int .i64 x.exposure], .int .i64 p] w (Ret (.bool (x.oneB p)) w) := by
  rcases cases4 (inB x.to_ 0 (p - 1)) (inB x.from_ 0 (x.to_ - 1)) (inB x.minutes 1 600) (inB x.exposure 0 1000) with h0 | ⟨h0, h1⟩ | ⟨h0, h1, h2⟩ | ⟨h0, h1, h2, h3⟩ | ⟨h0, h1, h2, h3⟩
  · go_enter Tryd.func26, Tryd.ntmps26
    go_wp2_with (go_at_call 19; refine (within_any _ _ _ _).mono ?_; rintro e w' ⟨rfl, rfl⟩)
    go_ret
    exact Ret.b (by simp [Leg.oneB, *]) ((Below.refl _ _).alloc (Nat.le_refl _) _)
  all_goals
    have ⟨_, _⟩ := inB_iff.1 h0
    go_enter Tryd.func26, Tryd.ntmps26
    go_wp2_with (go_at_call 19; refine (within_any _ _ _ _).mono ?_; rintro e w' ⟨rfl, rfl⟩)
    go_ret
    exact Ret.b (by simp [Leg.oneB, *]) ((Below.refl _ _).alloc (Nat.le_refl _) _)

theorem legs_cmp (p x : Leg) : (0 ≤ orF [cmpI p.from_ x.from_, cmpI p.to_ x.to_]) ↔ p.rel x = false := by
  simp only [Leg.rel, Bool.or_eq_false_iff, Bool.and_eq_false_iff, decide_eq_false_iff_not, beq_eq_false_iff_ne, ne_eq, orF, cmpI]
  (repeat' split) <;> omega

set_option maxHeartbeats 4000000 in
theorem implValidLegs_any (pts : Int) (A : Option Addr) (n c : Nat) (xs : List Leg) (w : World) (hx : SliceOf w 4 Leg.cells A n xs) :
    Calls Tryd.prog 18 #[.int .i64 pts, .slice A n c] w (Ret (.bool (legsOk pts xs)) w) := by
  have hn := hx.le
  have Hl := Lib.hid hx.len
  cases hp : inB pts 1 12
  · go_enter Tryd.func18, Tryd.ntmps18
    go_wp2_with (go_at_call 19; refine (within_any _ _ _ _).mono ?_; rintro e w' ⟨rfl, rfl⟩)
    go_ret
    exact Ret.b (by unfold legsOk; rw [hp, Bool.false_and]) (Below.refl _ _)
  have ⟨hp1, hp2⟩ := inB_iff.1 hp
  have HQ : Hid (legsOk pts xs = validL 24 (Leg.oneB pts) Leg.rel xs) := by unfold Hid legsOk; rw [hp, Bool.true_and]
  by_cases hM : 24 < n
  · go_enter Tryd.func18, Tryd.ntmps18
    go_wp2_with (go_at_call 19; refine (within_any _ _ _ _).mono ?_; rintro e w' ⟨rfl, rfl⟩)
    go_ret
    exact Ret.b (by rw [HQ.out, validL_len (by rw [Hl.out]; exact hM)]) (Below.refl _ _)
  go_enter Tryd.func18, Tryd.ntmps18
  go_wp2_with (go_at_call 19; refine (within_any _ _ _ _).mono ?_; rintro e w' ⟨rfl, rfl⟩)
  go_loopg [17] n (fun gk i wr => ∃ k : Nat, k ≤ n ∧ gk = n - k ∧ i = .int .i64 k ∧ Below w.heap.size w wr ∧ GoodTo (Leg.oneB pts) Leg.rel xs k)
  case atStart => exact ⟨0, Nat.zero_le _, rfl, rfl, Below.refl _ _, GoodTo.zero⟩
  case round =>
    obtain ⟨k, hk, hgk, rfl, hb, hall⟩ := hrel
    have Hall := Lib.hid hall
    have Hgk := Lib.hid hgk
    clear hall hgk
    by_cases hlt : k < n
    · have hx' := hx.below hb
      obtain ⟨b1, o1, x, rfl, hb1, hxk, x0, x1, x2, x3⟩ := Leg.at_ hx' hlt
      have Hx := Lib.hid hxk
      clear hxk
      have hsub := fun (o : Obj) (g : Sub (wr.alloc o)) b o' (h : b < (wr.alloc o).heap.size) => g.cell b o' h
      have hlt1 : b1 < wr.heap.size + 1 := by omega
      cases h1 : x.oneB pts
      · have H1 := Lib.hid h1
        go_wp2_with fail
        refine wp_region_sub_tail 26 (by kernel_rfl) (by kernel_rfl) ?_
        simp only [List.take_succ_cons, List.take_zero, List.drop_succ_cons, List.drop_zero]
        repeat (go_big_quiet_step (exact Calls.sub_of_eq (fits_any x _ _ hp1 hp2) (congrArg Value.bool h1)))
        refine wpQuiet_nil ?_
        intro wg hg
        have hbg := (hb.alloc hb.size _).trans (hg.mono (Nat.le_trans hb.size (by simp)))
        go_wp2
        go_ret
        exact Ret.b (by rw [HQ.out, validL_one Hx.out H1.out]) hbg
      · have H1 := Lib.hid h1
        by_cases hk0 : k = 0
        · have hd : decide (0 < k) = false := decide_eq_false (by omega)
          have Hk0 := Lib.hid hk0
          clear hk0 hx hx'
          go_wp2_with fail
          refine wp_region_sub_tail 26 (by kernel_rfl) (by kernel_rfl) ?_
          simp only [List.take_succ_cons, List.take_zero, List.drop_succ_cons, List.drop_zero]
          repeat (go_big_quiet_step (exact Calls.sub_of_eq (fits_any x _ _ hp1 hp2) (congrArg Value.bool h1)))
          refine wpQuiet_nil ?_
          intro wg hg
          have hbg := (hb.alloc hb.size _).trans (hg.mono (Nat.le_trans hb.size (by simp)))
          go_wp2
          go_roundg (n - (k + 1))
          case measure => have := Hgk.out; omega
          case rel => exact ⟨k + 1, by omega, rfl, by go_num, hbg, Hall.out.step Hx.out H1.out (fun p h => absurd h (by have := Hk0.out; omega))⟩
        · have hd : decide (0 < k) = true := decide_eq_true (by omega)
          have hlt' : k - 1 < n := by omega
          obtain ⟨b2, o2, p, he, hb2, hpk, p0, p1, p2, p3⟩ := Leg.at_ hx' hlt'
          injection he with he
          injection he with he1 he2 _
          subst he1 he2
          have Hp := Lib.hid hpk
          clear hpk hx hx'
          have hc := legs_cmp p x
          go_wp2_with fail
          refine wp_region_sub_tail 26 (by kernel_rfl) (by kernel_rfl) ?_
          simp only [List.take_succ_cons, List.take_zero, List.drop_succ_cons, List.drop_zero]
          cases hr : p.rel x
          all_goals have Hr := Lib.hid hr
          · have hc0 := hc.2 hr
            clear hc hr
            repeat (go_big_quiet_step (first | exact Calls.sub_of_eq (fits_any x _ _ hp1 hp2) (congrArg Value.bool h1) | exact Calls.sub_of_same (compare64_any _ _ _)))
            refine wpQuiet_nil ?_
            intro wg hg
            have hbg := (hb.alloc hb.size _).trans (hg.mono (Nat.le_trans hb.size (by simp)))
            go_wp2_with (go_at_call 39; refine (or_any _ _ _ [cmpI p.from_ x.from_, cmpI p.to_ x.to_] _ (sliceOf_new _ _ [cmpI p.from_ x.from_, cmpI p.to_ x.to_] (by simp))).mono ?_; rintro e w' ⟨rfl, rfl⟩)
            go_ret
            exact Ret.b (by rw [HQ.out, validL_rel (by omega) Hp.out Hx.out Hr.out]) (hbg.alloc hbg.size _)
          · have hc0 : ¬ (0 ≤ orF [cmpI p.from_ x.from_, cmpI p.to_ x.to_]) := fun h => by rw [hc.1 h] at hr; cases hr
            clear hc hr
            repeat (go_big_quiet_step (first | exact Calls.sub_of_eq (fits_any x _ _ hp1 hp2) (congrArg Value.bool h1) | exact Calls.sub_of_same (compare64_any _ _ _)))
            refine wpQuiet_nil ?_
            intro wg hg
            have hbg := (hb.alloc hb.size _).trans (hg.mono (Nat.le_trans hb.size (by simp)))
            go_wp2_with (go_at_call 39; refine (or_any _ _ _ [cmpI p.from_ x.from_, cmpI p.to_ x.to_] _ (sliceOf_new _ _ [cmpI p.from_ x.from_, cmpI p.to_ x.to_] (by simp))).mono ?_; rintro e w' ⟨rfl, rfl⟩)
            go_roundg (n - (k + 1))
            case measure => have := Hgk.out; omega
            case rel => exact ⟨k + 1, by omega, rfl, by go_num, hbg.alloc hbg.size _, Hall.out.step Hx.out H1.out (fun q _ hq => by rw [Hp.out] at hq; cases hq; exact Hr.out)⟩
    · have hkn : k = n := by omega
      subst hkn
      go_wp2
      go_ret
      exact Ret.b (by rw [HQ.out, validL_all (by rw [Hl.out]; exact Nat.le_refl _) Hall.out, Hl.out]; simp <;> omega) hb

end Go.Proofs.YtamgodeiakflbaaDoor
