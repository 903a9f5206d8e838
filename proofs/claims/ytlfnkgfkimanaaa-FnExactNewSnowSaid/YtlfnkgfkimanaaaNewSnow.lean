/- NewSnow of the program and of the reference: the new snow between two hours. -/
import Derived.Test.YtlfnkgfkimanaaaVObserved
namespace Go.Proofs.Ytlfnkgfkimanaaa
open Go.RowKit

def snowF (a b : Int) (p : Observed × Observed) : Int := if a ≤ p.1.hour ∧ p.2.hour ≤ b then max (p.2.snow - p.1.snow) 0 else 0
def snowSum (a b : Int) (xs : List Observed) : Int := sumBy (snowF a b) (xs.zip (xs.drop 1))
def rangeB (a b : Int) : Bool := inB a 0 100000 && inB b 0 100000 && decide (a ≤ b)
def snowA (xs : List Observed) (a b : Int) : Int := if Observed.validB xs = true ∧ rangeB a b = true then snowSum a b xs else 0
def snowB (xs : List Observed) (a b : Int) : Int := if Observed.validB xs = true then (if rangeB a b = true then 0 else 2) else 1
theorem zip_at {α : Type} {xs : List α} {k : Nat} {p x : α} (hp : xs[k]? = some p) (hx : xs[k + 1]? = some x) : (xs.zip (xs.drop 1))[k]? = some (p, x) := by
  rw [List.getElem?_zip_eq_some]
  exact ⟨hp, by rw [List.getElem?_drop, Nat.add_comm]; exact hx⟩

set_option maxHeartbeats 4000000 in
theorem specNewSnow_any (a b : Int) (A : Option Addr) (n c : Nat) (xs : List Observed) (w : World) (hx : SliceOf w 4 Observed.cells A n xs) :
    Calls Try.prog 16 #[.slice A n c, .int .i64 a, .int .i64 b] w (Ret (.tuple #[.int .i64 (snowA xs a b), .int .i64 (snowB xs a b)]) w) := by
  have hn := hx.le
  have Hl := Lib.hid hx.len
  cases hv : Observed.validB xs
  · have HV := Lib.hid hv
    go_enter Try.func16, Try.ntmps16
    go_wp2_with (go_at_call 63; refine (specObservedValid_any _ _ _ xs _ hx).mono ?_; rintro e w1 ⟨rfl, hb1⟩)
    go_ret2
    exact Ret.ii (by simp [snowA, HV.out]) (by simp [snowB, HV.out]) (by assumption)
  have HV := Lib.hid hv
  cases hr : rangeB a b
  · have HR := Lib.hid hr
    have hr' : inB a 0 100000 = false ∨ inB a 0 100000 = true ∧ inB b 0 100000 = false ∨ inB a 0 100000 = true ∧ inB b 0 100000 = true ∧ b < a := by
      unfold rangeB at hr
      rcases cases2 (inB a 0 100000) (inB b 0 100000) with h | h | ⟨h, h'⟩
      · exact .inl h
      · exact .inr (.inl h)
      · rw [h, h'] at hr
        simp only [Bool.true_and, decide_eq_false_iff_not] at hr
        exact .inr (.inr ⟨h, h', by omega⟩)
    clear hr
    rcases hr' with h | ⟨h, h'⟩ | ⟨h, h', h2⟩
    all_goals
      go_enter Try.func16, Try.ntmps16
      go_wp2_with (first | (go_at_call 63; refine (specObservedValid_any _ _ _ xs _ hx).mono ?_; rintro e w1 ⟨rfl, hb1⟩) | (go_at_call 64; refine (l04Hour_any _ _).mono ?_; rintro e w' ⟨rfl, rfl⟩))
      go_ret2
      exact Ret.ii (by simp [snowA, HR.out]) (by simp [snowB, HV.out, HR.out]) (by assumption)
  have HR := Lib.hid hr
  have hr' : inB a 0 100000 = true ∧ inB b 0 100000 = true ∧ a ≤ b := by
    unfold rangeB at hr
    simp only [Bool.and_eq_true, decide_eq_true_eq] at hr
    exact ⟨hr.1.1, hr.1.2, hr.2⟩
  obtain ⟨h, h', h2⟩ := hr'
  have hM : n ≤ 48 := by rw [← hx.len]; exact (validL_spec.1 hv).1
  go_enter Try.func16, Try.ntmps16
  go_wp2_with fail
  refine (specObservedValid_any _ _ _ xs _ hx).mono ?_
  rintro e w1 ⟨rfl, hb1⟩
  have hx1 := hx.below hb1
  clear hx
  go_wp2_with (go_at_call 64; refine (l04Hour_any _ _).mono ?_; rintro e w' ⟨rfl, rfl⟩)
  clear hv hr h h'
  go_loopg [8, 9] n (fun gk m i wr => ∃ (k : Nat) (q : Int), (k ≤ n ∨ n = 0) ∧ gk = n - k ∧ i = .int .i64 (k + 1 : Nat) ∧ m = .int .i64 q ∧ q = sumBy (snowF a b) ((xs.zip (xs.drop 1)).take k) ∧ 0 ≤ q ∧ q ≤ 2000 * k ∧ (k + 1 ≤ n ∨ n = 0 ∧ k = 0) ∧ Below w1.heap.size w1 wr)
  case atStart => exact ⟨0, 0, .inl (Nat.zero_le _), rfl, rfl, rfl, rfl, by omega, by omega, by omega, Below.refl _ _⟩
  case round =>
    obtain ⟨k, q, hk, hgk, rfl, rfl, hq, hq0, hq1, hkn, hb⟩ := hrel
    have Hq := Lib.hid hq
    have Hgk := Lib.hid hgk
    clear hq hgk
    by_cases hlt : k + 1 < n
    · obtain ⟨b1, o1, p, rfl, hbb1, hpk, p0, p1, p2, p3⟩ := Observed.at_ (hx1.below hb) (show k < n by omega)
      obtain ⟨b2, o2, x, he, hbb2, hxk, x0, x1, x2, x3⟩ := Observed.at_ (hx1.below hb) hlt
      injection he with he
      injection he with he1 he2 _
      subst he1 he2
      have gp := validL_good HV.out hpk
      have gx := validL_good HV.out hxk
      have ⟨_, _⟩ := inB_iff.1 ((Observed.oneB_iff p).1 gp).2.1
      have ⟨_, _⟩ := inB_iff.1 ((Observed.oneB_iff x).1 gx).2.1
      clear gp gx
      have Hs := Lib.hid (sumBy_step (f := snowF a b) (zip_at hpk hxk))
      clear hpk hxk
      have hsub := fun (g : Sub wr) b o (h : b < wr.heap.size) => g.cell b o h
      by_cases c1 : a ≤ p.hour
      · by_cases c2 : x.hour ≤ b
        · have HF : Hid (snowF a b (p, x) = max (x.snow - p.snow) 0) := by unfold Hid snowF; rw [if_pos ⟨c1, c2⟩]
          go_wp2_with fail
          refine wp_region_sub (by kernel_rfl) (by kernel_rfl) ?_
          repeat (go_big_quiet_step (exact Calls.sub_of_same (l00Max_any _ _ _)))
          refine wpQuiet_nil ?_
          intro wg hg
          have hbg := hb.trans (hg.mono hb.size)
          go_wp2
          all_goals
            go_roundg (n - (k + 1))
            case measure => have := Hgk.out; omega
            case rel => exact ⟨k + 1, _, by omega, rfl, by go_num, rfl, by rw [Hs.out, HF.out]; have := Hq.out; omega, by omega, by omega, by omega, hbg⟩
        · have HF : Hid (snowF a b (p, x) = 0) := by unfold Hid snowF; rw [if_neg (by simp only [not_and]; omega)]
          go_wp2
          go_roundg (n - (k + 1))
          case measure => have := Hgk.out; omega
          case rel => exact ⟨k + 1, q, by omega, rfl, by go_num, rfl, by rw [Hs.out, HF.out]; have := Hq.out; omega, by omega, by omega, by omega, hb⟩
      · have HF : Hid (snowF a b (p, x) = 0) := by unfold Hid snowF; rw [if_neg (by simp only [not_and]; omega)]
        go_wp2
        go_roundg (n - (k + 1))
        case measure => have := Hgk.out; omega
        case rel => exact ⟨k + 1, q, by omega, rfl, by go_num, rfl, by rw [Hs.out, HF.out]; have := Hq.out; omega, by omega, by omega, by omega, hb⟩
    · have HE : Hid (q = snowSum a b xs) := by
        rw [Hid, Hq.out, snowSum, List.take_of_length_le]
        rw [List.length_zip, List.length_drop, Hl.out]; omega
      go_wp2
      go_ret2
      exact Ret.ii (by simp only [snowA, HV.out, HR.out, and_self, if_true]; exact HE.out) (by simp [snowB, HV.out, HR.out]) (hb1.trans (hb.mono hb1.size))

set_option maxHeartbeats 4000000 in
theorem implNewSnow_any (a b : Int) (A : Option Addr) (n c : Nat) (xs : List Observed) (w : World) (hx : SliceOf w 4 Observed.cells A n xs) :
    Calls Try.prog 18 #[.slice A n c, .int .i64 a, .int .i64 b] w (Ret (.tuple #[.int .i64 (snowA xs a b), .int .i64 (snowB xs a b)]) w) := by
  have hn := hx.le
  have Hl := Lib.hid hx.len
  cases hv : Observed.validB xs
  · have HV := Lib.hid hv
    go_enter Try.func18, Try.ntmps18
    go_wp2_with (go_at_call 67; refine (implObservedValid_any _ _ _ xs _ hx).mono ?_; rintro e w1 ⟨rfl, hb1⟩)
    go_ret2
    exact Ret.ii (by simp [snowA, HV.out]) (by simp [snowB, HV.out]) (by assumption)
  have HV := Lib.hid hv
  cases hr : rangeB a b
  · have HR := Lib.hid hr
    have hr' : inB a 0 100000 = false ∨ inB a 0 100000 = true ∧ inB b 0 100000 = false ∨ inB a 0 100000 = true ∧ inB b 0 100000 = true ∧ b < a := by
      unfold rangeB at hr
      rcases cases2 (inB a 0 100000) (inB b 0 100000) with h | h | ⟨h, h'⟩
      · exact .inl h
      · exact .inr (.inl h)
      · rw [h, h'] at hr
        simp only [Bool.true_and, decide_eq_false_iff_not] at hr
        exact .inr (.inr ⟨h, h', by omega⟩)
    clear hr
    rcases hr' with h | ⟨h, h'⟩ | ⟨h, h', h2⟩
    all_goals
      go_enter Try.func18, Try.ntmps18
      go_wp2_with (first | (go_at_call 67; refine (implObservedValid_any _ _ _ xs _ hx).mono ?_; rintro e w1 ⟨rfl, hb1⟩) | (go_at_call 68; refine (hourOk_any _ _).mono ?_; rintro e w' ⟨rfl, rfl⟩))
      go_ret2
      exact Ret.ii (by simp [snowA, HR.out]) (by simp [snowB, HV.out, HR.out]) (by assumption)
  have HR := Lib.hid hr
  have hr' : inB a 0 100000 = true ∧ inB b 0 100000 = true ∧ a ≤ b := by
    unfold rangeB at hr
    simp only [Bool.and_eq_true, decide_eq_true_eq] at hr
    exact ⟨hr.1.1, hr.1.2, hr.2⟩
  obtain ⟨h, h', h2⟩ := hr'
  have hM : n ≤ 48 := by rw [← hx.len]; exact (validL_spec.1 hv).1
  go_enter Try.func18, Try.ntmps18
  go_wp2_with fail
  refine (implObservedValid_any _ _ _ xs _ hx).mono ?_
  rintro e w1 ⟨rfl, hb1⟩
  have hx1 := hx.below hb1
  clear hx
  go_wp2_with (go_at_call 68; refine (hourOk_any _ _).mono ?_; rintro e w' ⟨rfl, rfl⟩)
  clear hv hr h h'
  go_loopg [8, 9] n (fun gk m i wr => ∃ (k : Nat) (q : Int), (k ≤ n ∨ n = 0) ∧ gk = n - k ∧ i = .int .i64 (k + 1 : Nat) ∧ m = .int .i64 q ∧ q = sumBy (snowF a b) ((xs.zip (xs.drop 1)).take k) ∧ 0 ≤ q ∧ q ≤ 2000 * k ∧ (k + 1 ≤ n ∨ n = 0 ∧ k = 0) ∧ Below w1.heap.size w1 wr)
  case atStart => exact ⟨0, 0, .inl (Nat.zero_le _), rfl, rfl, rfl, rfl, by omega, by omega, by omega, Below.refl _ _⟩
  case round =>
    obtain ⟨k, q, hk, hgk, rfl, rfl, hq, hq0, hq1, hkn, hb⟩ := hrel
    have Hq := Lib.hid hq
    have Hgk := Lib.hid hgk
    clear hq hgk
    by_cases hlt : k + 1 < n
    · obtain ⟨b1, o1, p, rfl, hbb1, hpk, p0, p1, p2, p3⟩ := Observed.at_ (hx1.below hb) (show k < n by omega)
      obtain ⟨b2, o2, x, he, hbb2, hxk, x0, x1, x2, x3⟩ := Observed.at_ (hx1.below hb) hlt
      injection he with he
      injection he with he1 he2 _
      subst he1 he2
      have gp := validL_good HV.out hpk
      have gx := validL_good HV.out hxk
      have ⟨_, _⟩ := inB_iff.1 ((Observed.oneB_iff p).1 gp).2.1
      have ⟨_, _⟩ := inB_iff.1 ((Observed.oneB_iff x).1 gx).2.1
      clear gp gx
      have Hs := Lib.hid (sumBy_step (f := snowF a b) (zip_at hpk hxk))
      clear hpk hxk
      have hsub := fun (g : Sub wr) b o (h : b < wr.heap.size) => g.cell b o h
      by_cases c1 : a ≤ p.hour
      · by_cases c2 : x.hour ≤ b
        · have HF : Hid (snowF a b (p, x) = max (x.snow - p.snow) 0) := by unfold Hid snowF; rw [if_pos ⟨c1, c2⟩]
          go_wp2_with fail
          refine wp_region_sub (by kernel_rfl) (by kernel_rfl) ?_
          repeat (go_big_quiet_step (fail))
          refine wpQuiet_nil ?_
          intro wg hg
          have hbg := hb.trans (hg.mono hb.size)
          go_wp2
          all_goals
            go_roundg (n - (k + 1))
            case measure => have := Hgk.out; omega
            case rel => exact ⟨k + 1, _, by omega, rfl, by go_num, rfl, by rw [Hs.out, HF.out]; have := Hq.out; omega, by omega, by omega, by omega, hbg⟩
        · have HF : Hid (snowF a b (p, x) = 0) := by unfold Hid snowF; rw [if_neg (by simp only [not_and]; omega)]
          go_wp2
          go_roundg (n - (k + 1))
          case measure => have := Hgk.out; omega
          case rel => exact ⟨k + 1, q, by omega, rfl, by go_num, rfl, by rw [Hs.out, HF.out]; have := Hq.out; omega, by omega, by omega, by omega, hb⟩
      · have HF : Hid (snowF a b (p, x) = 0) := by unfold Hid snowF; rw [if_neg (by simp only [not_and]; omega)]
        go_wp2
        go_roundg (n - (k + 1))
        case measure => have := Hgk.out; omega
        case rel => exact ⟨k + 1, q, by omega, rfl, by go_num, rfl, by rw [Hs.out, HF.out]; have := Hq.out; omega, by omega, by omega, by omega, hb⟩
    · have HE : Hid (q = snowSum a b xs) := by
        rw [Hid, Hq.out, snowSum, List.take_of_length_le]
        rw [List.length_zip, List.length_drop, Hl.out]; omega
      go_wp2
      go_ret2
      exact Ret.ii (by simp only [snowA, HV.out, HR.out, and_self, if_true]; exact HE.out) (by simp [snowB, HV.out, HR.out]) (hb1.trans (hb.mono hb1.size))


end Go.Proofs.Ytlfnkgfkimanaaa
