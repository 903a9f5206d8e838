/- The leg between two points, in the program and in the reference; whether a route lies on legs. -/
import Derived.Test.YtamgodeiakflbaaDoorTourP
import Derived.Test.YtamgodeiakflbaaDoorWithin
namespace Go.Proofs.YtamgodeiakflbaaDoor
open Go.RowKit

def Leg.agg (x : Leg) : Value := .agg #[.int .i64 x.from_, .int .i64 x.to_, .int .i64 x.minutes, .int .i64 x.exposure]

set_option maxHeartbeats 1000000 in
theorem l23Leg_any (a b : Int) (A : Option Addr) (n c : Nat) (xs : List Leg) (w : World) (hx : SliceOf w 4 Leg.cells A n xs) :
    Calls Tryd.prog 36 #[.slice A n c, .int .i64 a, .int .i64 b] w (Ret (.int .i64 (findI (legP a b) xs)) w) := by
  have hn := hx.le
  have HL := Lib.hid hx.len
  go_enter Tryd.func36, Tryd.ntmps36
  go_wp2
  go_loopg [7] n (fun gk i wr => ∃ k : Nat, k ≤ n ∧ gk = n - k ∧ i = .int .i64 k ∧ Below w.heap.size w wr ∧ NoneTo (legP a b) xs k)
  case atStart => exact ⟨0, Nat.zero_le _, rfl, rfl, Below.refl _ _, NoneTo.zero⟩
  case round =>
    obtain ⟨k, hk, hgk, rfl, hb, hall⟩ := hrel
    have Hall := Lib.hid hall
    have Hgk := Lib.hid hgk
    clear hall hgk
    by_cases hlt : k < n
    · obtain ⟨b1, o1, x, rfl, hb1, hxk, x0, x1, x2, x3⟩ := Leg.at_ (hx.below hb) hlt
      have Hx := Lib.hid hxk
      have HP : Hid (legP a b x = ((x.from_ == min a b) && (x.to_ == max a b))) := by unfold Hid legP; rw [Bool.eq_iff_iff]; simp
      clear hxk
      have hsub := fun (g : Sub wr) b o (h : b < wr.heap.size) => g.cell b o h
      cases c1 : (x.from_ == min a b)
      · have HN : Hid (legP a b x = false) := by unfold Hid; rw [HP.out, c1]; rfl
        go_wp2_with fail
        refine wp_region_sub (by kernel_rfl) (by kernel_rfl) ?_
        repeat (go_big_quiet_step (first | exact Calls.sub_of_same (l00Min_any _ _ _) | exact Calls.sub_of_same (l00Max_any _ _ _)))
        refine wpQuiet_nil ?_
        intro wg hg
        have hbg := hb.trans (hg.mono hb.size)
        clear hsub x0 x1 x2 x3
        go_wp2
        go_roundg (n - (k + 1))
        case measure => have := Hgk.out; omega
        case rel => exact ⟨k + 1, by omega, rfl, by go_num, hbg, Hall.out.step Hx.out HN.out⟩
      · cases c2 : (x.to_ == max a b)
        · have HN : Hid (legP a b x = false) := by unfold Hid; rw [HP.out, c1, c2]; rfl
          go_wp2_with fail
          refine wp_region_sub (by kernel_rfl) (by kernel_rfl) ?_
          repeat (go_big_quiet_step (first | exact Calls.sub_of_same (l00Min_any _ _ _) | exact Calls.sub_of_same (l00Max_any _ _ _)))
          refine wpQuiet_nil ?_
          intro wg hg
          have hbg := hb.trans (hg.mono hb.size)
          clear hsub x0 x1 x2 x3
          go_wp2
          go_roundg (n - (k + 1))
          case measure => have := Hgk.out; omega
          case rel => exact ⟨k + 1, by omega, rfl, by go_num, hbg, Hall.out.step Hx.out HN.out⟩
        · have HN : Hid (legP a b x = true) := by unfold Hid; rw [HP.out, c1, c2]; rfl
          go_wp2_with fail
          refine wp_region_sub (by kernel_rfl) (by kernel_rfl) ?_
          repeat (go_big_quiet_step (first | exact Calls.sub_of_same (l00Min_any _ _ _) | exact Calls.sub_of_same (l00Max_any _ _ _)))
          refine wpQuiet_nil ?_
          intro wg hg
          have hbg := hb.trans (hg.mono hb.size)
          clear hsub x0 x1 x2 x3
          go_wp2
          go_ret
          exact Ret.i (findI_hit Hall.out Hx.out HN.out).symm hbg
    · go_wp2
      go_ret
      exact Ret.i (findI_none (n := k) (by rw [HL.out]; omega) Hall.out).symm hb

theorem legAgg_ret {xs : List Leg} {p : Int × Int} {v : Value} {b : Bool} (h1 : v = (legD xs p).agg) (h2 : hasLeg xs p = b) {w w' : World} (hb : Below w.heap.size w w') : Ret (.tuple #[(legD xs p).agg, .bool (hasLeg xs p)]) w (.returned (.tuple #[v, .bool b])) w' := ⟨by rw [h1, h2], hb⟩

set_option maxHeartbeats 1000000 in
theorem legBetween_lt (a b : Int) (A : Option Addr) (n c : Nat) (xs : List Leg) (w : World) (hx : SliceOf w 4 Leg.cells A n xs) (hab : a < b) :
    Calls Tryd.prog 23 #[.slice A n c, .int .i64 a, .int .i64 b] w (Ret (.tuple #[(legD xs (a, b)).agg, .bool (hasLeg xs (a, b))]) w) := by
  have hn := hx.le
  have HL := Lib.hid hx.len
  have hown := Own.new w 32 #[.int .i64 0, .int .i64 0, .int .i64 0, .int .i64 0]
  go_enter Tryd.func23, Tryd.ntmps23
  go_wp2
  go_loopg [12] n (fun gk i wr => ∃ k : Nat, k ≤ n ∧ gk = n - k ∧ i = .int .i64 k ∧ Below w.heap.size w wr ∧ Own wr w.heap.size 32 #[.int .i64 0, .int .i64 0, .int .i64 0, .int .i64 0] ∧ NoneTo (legP a b) xs k)
  case atStart => exact ⟨0, Nat.zero_le _, rfl, rfl, (Below.refl _ _).alloc (Nat.le_refl _) _, hown, NoneTo.zero⟩
  case round =>
    obtain ⟨k, hk, hgk, rfl, hb, ho, hall⟩ := hrel
    have Hall := Lib.hid hall
    have Hgk := Lib.hid hgk
    clear hall hgk
    by_cases hlt : k < n
    · obtain ⟨b1, o1, x, rfl, hb1, hxk, x0, x1, x2, x3⟩ := Leg.at_ (hx.below hb) hlt
      have Hx := Lib.hid hxk
      have HP : Hid (legP a b x = ((x.from_ == a) && (x.to_ == b))) := by unfold Hid legP; rw [show min a b = a by omega, show max a b = b by omega, Bool.eq_iff_iff]; simp
      clear hxk
      have hoa := ho.alloc (.cells #[.int .i64 x.from_, .int .i64 x.to_, .int .i64 x.minutes, .int .i64 x.exposure] 32)
      have Hoa := Lib.hid hoa
      clear hoa
      cases c1 : (x.from_ == a)
      · have HN : Hid (legP a b x = false) := by unfold Hid; rw [HP.out, c1]; rfl
        go_wp2
        go_roundg (n - (k + 1))
        case measure => have := Hgk.out; omega
        case rel => exact ⟨k + 1, by omega, rfl, by go_num, hb.alloc hb.size _, Hoa.out, Hall.out.step Hx.out HN.out⟩
      · cases c2 : (x.to_ == b)
        · have HN : Hid (legP a b x = false) := by unfold Hid; rw [HP.out, c1, c2]; rfl
          go_wp2
          go_roundg (n - (k + 1))
          case measure => have := Hgk.out; omega
          case rel => exact ⟨k + 1, by omega, rfl, by go_num, hb.alloc hb.size _, Hoa.out, Hall.out.step Hx.out HN.out⟩
        · have HN : Hid (legP a b x = true) := by unfold Hid; rw [HP.out, c1, c2]; rfl
          have HR := Lib.hid (leg_hit (p := (a, b)) Hall.out Hx.out HN.out)
          have d0 : wr.cell? ⟨w.heap.size, 0, none⟩ = some (.int .i64 0) := ho.cell 0
          have d1 : wr.cell? ⟨w.heap.size, 1, none⟩ = some (.int .i64 0) := ho.cell 1
          have d2 : wr.cell? ⟨w.heap.size, 2, none⟩ = some (.int .i64 0) := ho.cell 2
          have d3 : wr.cell? ⟨w.heap.size, 3, none⟩ = some (.int .i64 0) := ho.cell 3
          have fr : ∀ o, wr.frozen? ⟨w.heap.size, o, none⟩ = false := ho.frozen
          have hlw : w.heap.size < wr.heap.size := ho.lt
          go_wp2
          refine bodyPost_ret (v := .tuple #[.agg #[.int .i64 x.from_, .int .i64 x.to_, .int .i64 x.minutes, .int .i64 x.exposure], .bool true]) (by simp [results, Tryd.results23, go_sem, d0, d1, d2, d3, hlw]) rfl (legAgg_ret (by rw [HR.out.2.2]; rfl) HR.out.2.1 ?_)
          repeat (first | (with_reducible exact hb) | (with_reducible refine Below.setCell ?_ (by simp) _) | (with_reducible refine Below.alloc ?_ (by simp; exact hb.size) _))
    · have HR := Lib.hid (leg_none (p := (a, b)) (n := k) (by rw [HL.out]; omega) Hall.out)
      have d0 : wr.cell? ⟨w.heap.size, 0, none⟩ = some (.int .i64 0) := ho.cell 0
      have d1 : wr.cell? ⟨w.heap.size, 1, none⟩ = some (.int .i64 0) := ho.cell 1
      have d2 : wr.cell? ⟨w.heap.size, 2, none⟩ = some (.int .i64 0) := ho.cell 2
      have d3 : wr.cell? ⟨w.heap.size, 3, none⟩ = some (.int .i64 0) := ho.cell 3
      have fr : ∀ o, wr.frozen? ⟨w.heap.size, o, none⟩ = false := ho.frozen
      go_wp2
      refine bodyPost_ret (v := .tuple #[.agg #[.int .i64 0, .int .i64 0, .int .i64 0, .int .i64 0], .bool false]) (by simp [results, Tryd.results23, go_sem, d0, d1, d2, d3]) rfl (legAgg_ret (by rw [HR.out.2.2]; rfl) HR.out.2.1 ?_)
      repeat (first | (with_reducible exact hb) | (with_reducible refine Below.setCell ?_ (by simp) _))

set_option maxHeartbeats 1000000 in
theorem legBetween_eq (a : Int) (A : Option Addr) (n c : Nat) (xs : List Leg) (w : World) (hx : SliceOf w 4 Leg.cells A n xs) :
    Calls Tryd.prog 23 #[.slice A n c, .int .i64 a, .int .i64 a] w (Ret (.tuple #[(legD xs (a, a)).agg, .bool (hasLeg xs (a, a))]) w) := by
  have hn := hx.le
  have HL := Lib.hid hx.len
  have hown := Own.new w 32 #[.int .i64 0, .int .i64 0, .int .i64 0, .int .i64 0]
  go_enter Tryd.func23, Tryd.ntmps23
  go_wp2
  go_loopg [12] n (fun gk i wr => ∃ k : Nat, k ≤ n ∧ gk = n - k ∧ i = .int .i64 k ∧ Below w.heap.size w wr ∧ Own wr w.heap.size 32 #[.int .i64 0, .int .i64 0, .int .i64 0, .int .i64 0] ∧ NoneTo (legP a a) xs k)
  case atStart => exact ⟨0, Nat.zero_le _, rfl, rfl, (Below.refl _ _).alloc (Nat.le_refl _) _, hown, NoneTo.zero⟩
  case round =>
    obtain ⟨k, hk, hgk, rfl, hb, ho, hall⟩ := hrel
    have Hall := Lib.hid hall
    have Hgk := Lib.hid hgk
    clear hall hgk
    by_cases hlt : k < n
    · obtain ⟨b1, o1, x, rfl, hb1, hxk, x0, x1, x2, x3⟩ := Leg.at_ (hx.below hb) hlt
      have Hx := Lib.hid hxk
      have HP : Hid (legP a a x = ((x.from_ == a) && (x.to_ == a))) := by unfold Hid legP; rw [show min a a = a by omega, show max a a = a by omega, Bool.eq_iff_iff]; simp
      clear hxk
      have hoa := ho.alloc (.cells #[.int .i64 x.from_, .int .i64 x.to_, .int .i64 x.minutes, .int .i64 x.exposure] 32)
      have Hoa := Lib.hid hoa
      clear hoa
      cases c1 : (x.from_ == a)
      · have HN : Hid (legP a a x = false) := by unfold Hid; rw [HP.out, c1]; rfl
        go_wp2
        go_roundg (n - (k + 1))
        case measure => have := Hgk.out; omega
        case rel => exact ⟨k + 1, by omega, rfl, by go_num, hb.alloc hb.size _, Hoa.out, Hall.out.step Hx.out HN.out⟩
      · cases c2 : (x.to_ == a)
        · have HN : Hid (legP a a x = false) := by unfold Hid; rw [HP.out, c1, c2]; rfl
          go_wp2
          go_roundg (n - (k + 1))
          case measure => have := Hgk.out; omega
          case rel => exact ⟨k + 1, by omega, rfl, by go_num, hb.alloc hb.size _, Hoa.out, Hall.out.step Hx.out HN.out⟩
        · have HN : Hid (legP a a x = true) := by unfold Hid; rw [HP.out, c1, c2]; rfl
          have HR := Lib.hid (leg_hit (p := (a, a)) Hall.out Hx.out HN.out)
          have d0 : wr.cell? ⟨w.heap.size, 0, none⟩ = some (.int .i64 0) := ho.cell 0
          have d1 : wr.cell? ⟨w.heap.size, 1, none⟩ = some (.int .i64 0) := ho.cell 1
          have d2 : wr.cell? ⟨w.heap.size, 2, none⟩ = some (.int .i64 0) := ho.cell 2
          have d3 : wr.cell? ⟨w.heap.size, 3, none⟩ = some (.int .i64 0) := ho.cell 3
          have fr : ∀ o, wr.frozen? ⟨w.heap.size, o, none⟩ = false := ho.frozen
          have hlw : w.heap.size < wr.heap.size := ho.lt
          go_wp2
          refine bodyPost_ret (v := .tuple #[.agg #[.int .i64 x.from_, .int .i64 x.to_, .int .i64 x.minutes, .int .i64 x.exposure], .bool true]) (by simp [results, Tryd.results23, go_sem, d0, d1, d2, d3, hlw]) rfl (legAgg_ret (by rw [HR.out.2.2]; rfl) HR.out.2.1 ?_)
          repeat (first | (with_reducible exact hb) | (with_reducible refine Below.setCell ?_ (by simp) _) | (with_reducible refine Below.alloc ?_ (by simp; exact hb.size) _))
    · have HR := Lib.hid (leg_none (p := (a, a)) (n := k) (by rw [HL.out]; omega) Hall.out)
      have d0 : wr.cell? ⟨w.heap.size, 0, none⟩ = some (.int .i64 0) := ho.cell 0
      have d1 : wr.cell? ⟨w.heap.size, 1, none⟩ = some (.int .i64 0) := ho.cell 1
      have d2 : wr.cell? ⟨w.heap.size, 2, none⟩ = some (.int .i64 0) := ho.cell 2
      have d3 : wr.cell? ⟨w.heap.size, 3, none⟩ = some (.int .i64 0) := ho.cell 3
      have fr : ∀ o, wr.frozen? ⟨w.heap.size, o, none⟩ = false := ho.frozen
      go_wp2
      refine bodyPost_ret (v := .tuple #[.agg #[.int .i64 0, .int .i64 0, .int .i64 0, .int .i64 0], .bool false]) (by simp [results, Tryd.results23, go_sem, d0, d1, d2, d3]) rfl (legAgg_ret (by rw [HR.out.2.2]; rfl) HR.out.2.1 ?_)
      repeat (first | (with_reducible exact hb) | (with_reducible refine Below.setCell ?_ (by simp) _))

set_option maxHeartbeats 1000000 in
theorem legBetween_ge (a b : Int) (A : Option Addr) (n c : Nat) (xs : List Leg) (w : World) (hx : SliceOf w 4 Leg.cells A n xs) (hab : b < a) :
    Calls Tryd.prog 23 #[.slice A n c, .int .i64 a, .int .i64 b] w (Ret (.tuple #[(legD xs (a, b)).agg, .bool (hasLeg xs (a, b))]) w) := by
  have hn := hx.le
  have HL := Lib.hid hx.len
  have hown := Own.new w 32 #[.int .i64 0, .int .i64 0, .int .i64 0, .int .i64 0]
  go_enter Tryd.func23, Tryd.ntmps23
  go_wp2
  go_loopg [12] n (fun gk i wr => ∃ k : Nat, k ≤ n ∧ gk = n - k ∧ i = .int .i64 k ∧ Below w.heap.size w wr ∧ Own wr w.heap.size 32 #[.int .i64 0, .int .i64 0, .int .i64 0, .int .i64 0] ∧ NoneTo (legP a b) xs k)
  case atStart => exact ⟨0, Nat.zero_le _, rfl, rfl, (Below.refl _ _).alloc (Nat.le_refl _) _, hown, NoneTo.zero⟩
  case round =>
    obtain ⟨k, hk, hgk, rfl, hb, ho, hall⟩ := hrel
    have Hall := Lib.hid hall
    have Hgk := Lib.hid hgk
    clear hall hgk
    by_cases hlt : k < n
    · obtain ⟨b1, o1, x, rfl, hb1, hxk, x0, x1, x2, x3⟩ := Leg.at_ (hx.below hb) hlt
      have Hx := Lib.hid hxk
      have HP : Hid (legP a b x = ((x.from_ == b) && (x.to_ == a))) := by unfold Hid legP; rw [show min a b = b by omega, show max a b = a by omega, Bool.eq_iff_iff]; simp
      clear hxk
      have hoa := ho.alloc (.cells #[.int .i64 x.from_, .int .i64 x.to_, .int .i64 x.minutes, .int .i64 x.exposure] 32)
      have Hoa := Lib.hid hoa
      clear hoa
      cases c1 : (x.from_ == b)
      · have HN : Hid (legP a b x = false) := by unfold Hid; rw [HP.out, c1]; rfl
        go_wp2
        go_roundg (n - (k + 1))
        case measure => have := Hgk.out; omega
        case rel => exact ⟨k + 1, by omega, rfl, by go_num, hb.alloc hb.size _, Hoa.out, Hall.out.step Hx.out HN.out⟩
      · cases c2 : (x.to_ == a)
        · have HN : Hid (legP a b x = false) := by unfold Hid; rw [HP.out, c1, c2]; rfl
          go_wp2
          go_roundg (n - (k + 1))
          case measure => have := Hgk.out; omega
          case rel => exact ⟨k + 1, by omega, rfl, by go_num, hb.alloc hb.size _, Hoa.out, Hall.out.step Hx.out HN.out⟩
        · have HN : Hid (legP a b x = true) := by unfold Hid; rw [HP.out, c1, c2]; rfl
          have HR := Lib.hid (leg_hit (p := (a, b)) Hall.out Hx.out HN.out)
          have d0 : wr.cell? ⟨w.heap.size, 0, none⟩ = some (.int .i64 0) := ho.cell 0
          have d1 : wr.cell? ⟨w.heap.size, 1, none⟩ = some (.int .i64 0) := ho.cell 1
          have d2 : wr.cell? ⟨w.heap.size, 2, none⟩ = some (.int .i64 0) := ho.cell 2
          have d3 : wr.cell? ⟨w.heap.size, 3, none⟩ = some (.int .i64 0) := ho.cell 3
          have fr : ∀ o, wr.frozen? ⟨w.heap.size, o, none⟩ = false := ho.frozen
          have hlw : w.heap.size < wr.heap.size := ho.lt
          go_wp2
          refine bodyPost_ret (v := .tuple #[.agg #[.int .i64 x.from_, .int .i64 x.to_, .int .i64 x.minutes, .int .i64 x.exposure], .bool true]) (by simp [results, Tryd.results23, go_sem, d0, d1, d2, d3, hlw]) rfl (legAgg_ret (by rw [HR.out.2.2]; rfl) HR.out.2.1 ?_)
          repeat (first | (with_reducible exact hb) | (with_reducible refine Below.setCell ?_ (by simp) _) | (with_reducible refine Below.alloc ?_ (by simp; exact hb.size) _))
    · have HR := Lib.hid (leg_none (p := (a, b)) (n := k) (by rw [HL.out]; omega) Hall.out)
      have d0 : wr.cell? ⟨w.heap.size, 0, none⟩ = some (.int .i64 0) := ho.cell 0
      have d1 : wr.cell? ⟨w.heap.size, 1, none⟩ = some (.int .i64 0) := ho.cell 1
      have d2 : wr.cell? ⟨w.heap.size, 2, none⟩ = some (.int .i64 0) := ho.cell 2
      have d3 : wr.cell? ⟨w.heap.size, 3, none⟩ = some (.int .i64 0) := ho.cell 3
      have fr : ∀ o, wr.frozen? ⟨w.heap.size, o, none⟩ = false := ho.frozen
      go_wp2
      refine bodyPost_ret (v := .tuple #[.agg #[.int .i64 0, .int .i64 0, .int .i64 0, .int .i64 0], .bool false]) (by simp [results, Tryd.results23, go_sem, d0, d1, d2, d3]) rfl (legAgg_ret (by rw [HR.out.2.2]; rfl) HR.out.2.1 ?_)
      repeat (first | (with_reducible exact hb) | (with_reducible refine Below.setCell ?_ (by simp) _))

theorem legBetween_any (a b : Int) (A : Option Addr) (n c : Nat) (xs : List Leg) (w : World) (hx : SliceOf w 4 Leg.cells A n xs) :
    Calls Tryd.prog 23 #[.slice A n c, .int .i64 a, .int .i64 b] w (Ret (.tuple #[(legD xs (a, b)).agg, .bool (hasLeg xs (a, b))]) w) := by
  rcases Int.lt_trichotomy a b with h | h | h
  · exact legBetween_lt a b A n c xs w hx h
  · subst h; exact legBetween_eq a A n c xs w hx
  · exact legBetween_ge a b A n c xs w hx h


theorem onB_len {pts : Int} {rt : List Int} (h : onB pts rt = true) : 1 ≤ rt.length ∧ rt.length ≤ 64 := by
  unfold onB at h
  simp only [Bool.and_eq_true, decide_eq_true_eq] at h
  exact h.1
theorem legsOk_pts {pts : Int} {xs : List Leg} (h : legsOk pts xs = true) : 1 ≤ pts ∧ pts ≤ 12 := by
  unfold legsOk at h
  rw [Bool.and_eq_true] at h
  exact inB_iff.1 h.1
theorem legsOk_len {pts : Int} {xs : List Leg} (h : legsOk pts xs = true) : xs.length ≤ 24 := by
  unfold legsOk at h
  rw [Bool.and_eq_true] at h
  exact (validL_spec.1 h.2).1

set_option maxHeartbeats 2000000 in
theorem l23Route_any (pts : Int) (A : Option Addr) (n c : Nat) (xs : List Leg) (B : Option Addr) (m d : Nat) (rt : List Int) (w : World) (hx : SliceOf w 4 Leg.cells A n xs) (hr : SliceOf w 1 i64cells B m rt) :
    Calls Tryd.prog 30 #[.int .i64 pts, .slice A n c, .slice B m d] w (Ret (.int .i64 (routeC pts xs rt)) w) := by
  have hn := hx.le
  have hm := hr.le
  have HL := Lib.hid hx.len
  have HM := Lib.hid hr.len
  cases hv : legsOk pts xs
  · have HV := Lib.hid hv
    go_enter Tryd.func30, Tryd.ntmps30
    go_wp2_with fail
    refine (l23Ok_any _ _ _ _ xs _ hx).mono ?_
    rintro e w1 ⟨rfl, hb1⟩
    go_wp2
    go_ret
    exact Ret.i (by unfold routeC; rw [if_pos HV.out]) hb1
  have HV := Lib.hid hv
  have ⟨_, _⟩ := legsOk_pts hv
  cases hlen : inB (m : Int) 1 64
  · have HN : Hid (routeC pts xs rt = 7) := by
      unfold Hid routeC
      rw [if_neg (by rw [HV.out]; simp), if_pos]
      unfold onB
      rw [HM.out]
      have := inB_no.1 hlen
      simp only [Bool.and_eq_false_iff, decide_eq_false_iff_not]
      left
      omega
    go_enter Tryd.func30, Tryd.ntmps30
    go_wp2_with fail
    refine (l23Ok_any _ _ _ _ xs _ hx).mono ?_
    rintro e w1 ⟨rfl, hb1⟩
    go_wp2_with (go_at_call 48; refine (l00In_any _ _ _ _).mono ?_; rintro e w' ⟨rfl, rfl⟩)
    go_ret
    exact Ret.i HN.out.symm hb1
  have hm64 := inB_iff.1 hlen
  go_enter Tryd.func30, Tryd.ntmps30
  go_wp2_with fail
  refine (l23Ok_any _ _ _ _ xs _ hx).mono ?_
  rintro e w1 ⟨rfl, hb1⟩
  have hx1 := hx.below hb1
  have hr1 := hr.below hb1
  clear hx hr
  go_wp2_with (go_at_call 48; refine (l00In_any _ _ _ _).mono ?_; rintro e w' ⟨rfl, rfl⟩)
  clear hv hlen
  go_loopg [7] m (fun gk i wr => ∃ k : Nat, k ≤ m ∧ gk = m - k ∧ i = .int .i64 k ∧ w1 = wr ∧ AllTo (fun r => inB r 0 (pts - 1)) rt k)
  case atStart => exact ⟨0, Nat.zero_le _, rfl, rfl, rfl, AllTo.zero⟩
  case round =>
    obtain ⟨k, hk, hgk, rfl, rfl, hall⟩ := hrel
    have Hall := Lib.hid hall
    have Hgk := Lib.hid hgk
    clear hall hgk
    by_cases hlt : k < m
    · obtain ⟨b1, o1, x, rfl, hbb1, hxk, x0⟩ := ints_at hr1 hlt
      have Hx := Lib.hid hxk
      clear hxk
      cases hc : inB x 0 (pts - 1)
      · have HN : Hid (routeC pts xs rt = 7) := by
          unfold Hid routeC
          rw [if_neg (by rw [HV.out]; simp), if_pos]
          unfold onB
          rw [all_no Hx.out hc, Bool.and_false]
        go_wp2_with (go_at_call 48; refine (l00In_any _ _ _ _).mono ?_; rintro e w' ⟨rfl, rfl⟩)
        go_ret
        exact Ret.i HN.out.symm hb1
      · have HC := Lib.hid hc
        go_wp2_with (go_at_call 48; refine (l00In_any _ _ _ _).mono ?_; rintro e w' ⟨rfl, rfl⟩)
        go_roundg (m - (k + 1))
        case measure => have := Hgk.out; omega
        case rel => exact ⟨k + 1, by omega, rfl, by go_num, rfl, Hall.out.step Hx.out HC.out⟩
    · have HO : Hid (onB pts rt = true) := by
        unfold Hid onB
        rw [AllTo.all (by rw [HM.out]; omega) Hall.out, HM.out]
        simp; omega
      clear Hall
      go_wp2
      go_loopg [8] m (fun gk i wr => ∃ k : Nat, k + 1 ≤ m ∧ gk = m - k ∧ i = .int .i64 (k + 1 : Nat) ∧ Below w1.heap.size w1 wr ∧ AllTo (hasLeg xs) (pairs rt) k)
      case atStart => exact ⟨0, by omega, rfl, rfl, Below.refl _ _, AllTo.zero⟩
      case round =>
        obtain ⟨k, hk, hgk, rfl, hb, hall⟩ := hrel
        have Hall := Lib.hid hall
        have Hgk := Lib.hid hgk
        clear hall hgk
        by_cases hlt : k + 1 < m
        · obtain ⟨b1, o1, x, rfl, hbb1, hxk, x0⟩ := ints_at (hr1.below hb) (show k < m by omega)
          obtain ⟨b2, o2, y, he, hbb2, hyk, y0⟩ := ints_at (hr1.below hb) hlt
          injection he with he
          injection he with he1 he2 _
          subst he1 he2
          have HP := Lib.hid (pairs_at hxk hyk)
          clear hxk hyk
          have hx2 := hx1.below hb
          have hsub := fun (g : Sub wr) b o (h : b < wr.heap.size) => g.cell b o h
          rcases leg_cases (xs := xs) (p := (x, y)) with ⟨j, z, hz, hj, hh, hd⟩ | ⟨hj, hh, hd⟩
          · have HH := Lib.hid hh
            clear hz hd hh
            go_wp2_with fail
            refine wp_region_sub (by kernel_rfl) (by kernel_rfl) ?_
            repeat (go_big_quiet_step (exact Calls.sub_of_eq (l23Leg_any _ _ _ _ _ xs _ (hx2.below (Sub.below _))) (congrArg (Value.int .i64) hj)))
            refine wpQuiet_nil ?_
            intro wg hg
            have hbg := hb.trans (hg.mono hb.size)
            clear hsub x0 y0 hj
            go_wp2
            go_roundg (m - (k + 1))
            case measure => have := Hgk.out; omega
            case rel => exact ⟨k + 1, by omega, rfl, by go_num, hbg, Hall.out.step HP.out HH.out⟩
          · have HN : Hid (routeC pts xs rt = 6) := by
              unfold Hid routeC
              rw [if_neg (by rw [HV.out]; simp), if_neg (by rw [HO.out]; simp), if_pos (all_no HP.out hh)]
            clear hd hh
            go_wp2_with fail
            refine wp_region_sub (by kernel_rfl) (by kernel_rfl) ?_
            repeat (go_big_quiet_step (exact Calls.sub_of_eq (l23Leg_any _ _ _ _ _ xs _ (hx2.below (Sub.below _))) (congrArg (Value.int .i64) hj)))
            refine wpQuiet_nil ?_
            intro wg hg
            have hbg := hb.trans (hg.mono hb.size)
            clear hsub x0 y0 hj
            go_wp2
            go_ret
            exact Ret.i HN.out.symm (hb1.trans (hbg.mono hb1.size))
        · have HN : Hid (routeC pts xs rt = 0) := by
            unfold Hid routeC
            rw [if_neg (by rw [HV.out]; simp), if_neg (by rw [HO.out]; simp), if_neg]
            rw [AllTo.all (n := k) (by rw [pairs_len, HM.out]; omega) Hall.out]; simp
          go_wp2
          go_ret
          exact Ret.i HN.out.symm (hb1.trans (hb.mono hb1.size))

set_option maxHeartbeats 2000000 in
theorem l23Minutes_any (pts : Int) (A : Option Addr) (n c : Nat) (xs : List Leg) (B : Option Addr) (m d : Nat) (rt : List Int) (w : World) (hx : SliceOf w 4 Leg.cells A n xs) (hr : SliceOf w 1 i64cells B m rt) (hv : legsOk pts xs = true) (hh : (pairs rt).all (hasLeg xs) = true) (hm : m ≤ 64) :
    Calls Tryd.prog 31 #[.slice A n c, .slice B m d] w (Ret (.int .i64 (minutesF xs rt)) w) := by
  have hn := hx.le
  have HL := Lib.hid hx.len
  have HM := Lib.hid hr.len
  have HV := Lib.hid hv
  have HH := Lib.hid hh
  clear hv hh
  go_enter Tryd.func31, Tryd.ntmps31
  go_wp2
  go_loopg [5, 6] m (fun gk s i wr => ∃ (k : Nat) (q : Int), (k + 1 ≤ m ∨ m = 0 ∧ k = 0) ∧ gk = m - k ∧ i = .int .i64 (k + 1 : Nat) ∧ s = .int .i64 q ∧ q = sumBy (fun p => (legD xs p).minutes) ((pairs rt).take k) ∧ 0 ≤ q ∧ q ≤ 600 * k ∧ Below w.heap.size w wr)
  case atStart => exact ⟨0, 0, by omega, rfl, rfl, rfl, rfl, by omega, by omega, Below.refl _ _⟩
  case round =>
    obtain ⟨k, q, hk, hgk, rfl, rfl, hq, hq0, hq1, hb⟩ := hrel
    have Hq := Lib.hid hq
    have Hgk := Lib.hid hgk
    clear hq hgk
    by_cases hlt : k + 1 < m
    · obtain ⟨b1, o1, x, rfl, hbb1, hxk, x0⟩ := ints_at (hr.below hb) (show k < m by omega)
      obtain ⟨b2, o2, y, he, hbb2, hyk, y0⟩ := ints_at (hr.below hb) hlt
      injection he with he
      injection he with he1 he2 _
      subst he1 he2
      have hpk := pairs_at hxk hyk
      have HS := Lib.hid (sumBy_step (f := fun p => (legD xs p).minutes) hpk)
      have hbd := legD_bounds (p := (x, y)) HV.out
      have ⟨_, _⟩ := And.intro hbd.1 hbd.2.1
      clear hxk hyk hbd
      obtain ⟨j, hj, hfi⟩ := leg_ix (all_at HH.out hpk)
      have hjl : j < n := by rw [← hx.len]; exact (List.getElem?_eq_some_iff.1 hj).1
      have hx2 := hx.below hb
      obtain ⟨b3, o3, z, rfl, hb3, hz, z0, z1, z2, z3⟩ := Leg.at_ hx2 hjl
      rw [hj] at hz
      injection hz with hz
      subst hz
      clear hj hpk z0 z1
      have hsub := fun (g : Sub wr) b o (h : b < wr.heap.size) => g.cell b o h
      obtain ⟨e, he⟩ : ∃ e, (legD xs (x, y)).minutes = e := ⟨_, rfl⟩
      have He := Lib.hid he
      simp only [he] at *
      clear he
      go_wp2_with fail
      refine wp_region_sub (by kernel_rfl) (by kernel_rfl) ?_
      repeat (go_big_quiet_step (exact Calls.sub_of_eq (l23Leg_any _ _ _ _ _ xs _ (hx2.below (Sub.below _))) (congrArg (Value.int .i64) hfi)))
      refine wpQuiet_nil ?_
      intro wg hg
      have hbg := hb.trans (hg.mono hb.size)
      clear hsub x0 y0 z2 z3 hfi
      go_wp2
      go_roundg (m - (k + 1))
      case measure => have := Hgk.out; omega
      case rel => exact ⟨k + 1, q + e, by omega, rfl, by go_num, rfl, by rw [HS.out, ← Hq.out], by omega, by omega, hbg⟩
    · have HE : Hid (q = minutesF xs rt) := by
        rw [Hid, Hq.out]; unfold minutesF; rw [List.take_of_length_le (by rw [pairs_len, HM.out]; omega)]
      go_wp2
      go_ret
      exact Ret.i HE.out hb

set_option maxHeartbeats 2000000 in
theorem l23Exposure_any (pts : Int) (A : Option Addr) (n c : Nat) (xs : List Leg) (B : Option Addr) (m d : Nat) (rt : List Int) (w : World) (hx : SliceOf w 4 Leg.cells A n xs) (hr : SliceOf w 1 i64cells B m rt) (hv : legsOk pts xs = true) (hh : (pairs rt).all (hasLeg xs) = true) (hm : m ≤ 64) :
    Calls Tryd.prog 32 #[.slice A n c, .slice B m d] w (Ret (.int .i64 (exposeF xs rt)) w) := by
  have hn := hx.le
  have HL := Lib.hid hx.len
  have HM := Lib.hid hr.len
  have HV := Lib.hid hv
  have HH := Lib.hid hh
  clear hv hh
  go_enter Tryd.func32, Tryd.ntmps32
  go_wp2
  go_loopg [5, 6] m (fun gk s i wr => ∃ (k : Nat) (q : Int), (k + 1 ≤ m ∨ m = 0 ∧ k = 0) ∧ gk = m - k ∧ i = .int .i64 (k + 1 : Nat) ∧ s = .int .i64 q ∧ q = sumBy (fun p => (legD xs p).exposure) ((pairs rt).take k) ∧ 0 ≤ q ∧ q ≤ 1000 * k ∧ Below w.heap.size w wr)
  case atStart => exact ⟨0, 0, by omega, rfl, rfl, rfl, rfl, by omega, by omega, Below.refl _ _⟩
  case round =>
    obtain ⟨k, q, hk, hgk, rfl, rfl, hq, hq0, hq1, hb⟩ := hrel
    have Hq := Lib.hid hq
    have Hgk := Lib.hid hgk
    clear hq hgk
    by_cases hlt : k + 1 < m
    · obtain ⟨b1, o1, x, rfl, hbb1, hxk, x0⟩ := ints_at (hr.below hb) (show k < m by omega)
      obtain ⟨b2, o2, y, he, hbb2, hyk, y0⟩ := ints_at (hr.below hb) hlt
      injection he with he
      injection he with he1 he2 _
      subst he1 he2
      have hpk := pairs_at hxk hyk
      have HS := Lib.hid (sumBy_step (f := fun p => (legD xs p).exposure) hpk)
      have hbd := legD_bounds (p := (x, y)) HV.out
      have ⟨_, _⟩ := And.intro hbd.2.2.1 hbd.2.2.2
      clear hxk hyk hbd
      obtain ⟨j, hj, hfi⟩ := leg_ix (all_at HH.out hpk)
      have hjl : j < n := by rw [← hx.len]; exact (List.getElem?_eq_some_iff.1 hj).1
      have hx2 := hx.below hb
      obtain ⟨b3, o3, z, rfl, hb3, hz, z0, z1, z2, z3⟩ := Leg.at_ hx2 hjl
      rw [hj] at hz
      injection hz with hz
      subst hz
      clear hj hpk z0 z1
      have hsub := fun (g : Sub wr) b o (h : b < wr.heap.size) => g.cell b o h
      obtain ⟨e, he⟩ : ∃ e, (legD xs (x, y)).exposure = e := ⟨_, rfl⟩
      have He := Lib.hid he
      simp only [he] at *
      clear he
      go_wp2_with fail
      refine wp_region_sub (by kernel_rfl) (by kernel_rfl) ?_
      repeat (go_big_quiet_step (exact Calls.sub_of_eq (l23Leg_any _ _ _ _ _ xs _ (hx2.below (Sub.below _))) (congrArg (Value.int .i64) hfi)))
      refine wpQuiet_nil ?_
      intro wg hg
      have hbg := hb.trans (hg.mono hb.size)
      clear hsub x0 y0 z2 z3 hfi
      go_wp2
      go_roundg (m - (k + 1))
      case measure => have := Hgk.out; omega
      case rel => exact ⟨k + 1, q + e, by omega, rfl, by go_num, rfl, by rw [HS.out, ← Hq.out], by omega, by omega, hbg⟩
    · have HE : Hid (q = exposeF xs rt) := by
        rw [Hid, Hq.out]; unfold exposeF; rw [List.take_of_length_le (by rw [pairs_len, HM.out]; omega)]
      go_wp2
      go_ret
      exact Ret.i HE.out hb

end Go.Proofs.YtamgodeiakflbaaDoor
