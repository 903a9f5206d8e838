/- Strength, stress, load and height: the program's and the reference's functions by what they return at valid layers. -/
import Derived.Test.YtmfghgoboibjdaaStabV
namespace Go.Proofs.Ytmfghgoboibjdaa
open Go.RowKit

theorem rndDiv_pos {a b : Int} (h : 0 < b) : rndDiv a b = rnd a b := by unfold rndDiv; rw [if_neg (by omega)]
theorem six {f : Int} (h : 1 ≤ f ∧ f ≤ 6) : f = 1 ∨ f = 2 ∨ f = 3 ∨ f = 4 ∨ f = 5 ∨ f = 6 := by omega
theorem factor_at {f : Int} (h : 1 ≤ f ∧ f ≤ 6) : ∀ w, (Instr.index 68 (.agg #[.int .i64 0, .int .i64 20, .int .i64 22, .int .i64 30, .int .i64 12, .int .i64 8, .int .i64 35]) (.int .i64 f)).run Try.prog w = .ok (.int .i64 (factorN f)) w := by
  intro w
  rcases six h with rfl | rfl | rfl | rfl | rfl | rfl <;> kernel_rfl
set_option maxHeartbeats 1000000 in
theorem strength_ok (x : Layer) (d : Int) (w : World) (h : x.oneB = true) (hd : 0 ≤ d ∧ d ≤ 1000) : Calls Try.prog 22 #[.agg #[.int .i64 x.form, .int .i64 x.ice, .int .i64 x.water, .int .i64 x.density, .int .i64 x.degrees, .int .i64 x.hardness, .int .i64 x.age], .int .i64 d] w (Ret (.tuple #[.int .i64 (lowN x d), .int .i64 (highN x d)]) w) := by
  have hp := Layer.one_parts h
  have hb := base_bd h
  have hl := low_bd h hd.1 hd.2
  have hh := high_bd h hd.1 hd.2
  have hi := factor_at (f := x.form) ⟨hp.1, hp.2.1⟩
  have HL : Hid (lowN x d = baseN x * (1000 - d) / 1000) := rfl
  have HH : Hid (highN x d = (baseN x * (1000 + d) + 999) / 1000) := rfl
  have HR : Hid (rndDiv (x.density * x.density * factorN x.form) 1000 = baseN x) := rndDiv_pos (by decide)
  obtain ⟨B, hB⟩ : ∃ B, baseN x = B := ⟨_, rfl⟩
  obtain ⟨G, hG⟩ : ∃ G, factorN x.form = G := ⟨_, rfl⟩
  rw [hB] at hb hl hh HL HH HR
  rw [hG] at hb hi HR
  obtain ⟨D2, hD2⟩ : ∃ D2, x.density * x.density = D2 := ⟨_, rfl⟩
  have ht : (B * (1000 - d)).tdiv 1000 = B * (1000 - d) / 1000 := Int.tdiv_eq_ediv_of_nonneg hl.1
  clear h hB hG hD2 D2
  go_enter Try.func22, Try.ntmps22
  go_wp2_with fail
  refine (divRound_any _ _ _ (by omega) (by omega) (by omega) (by omega) (by omega)).mono ?_
  rintro e w1 ⟨rfl, hb1⟩
  rw [HR.out]
  have HB1 := Lib.hid (((Below.refl _ w).alloc (Nat.le_refl _) _).trans (hb1.mono (by simp)))
  clear hb1 hi
  go_wp2_with (go_at_call 49; refine (divUp_any _ _ _ (by omega) (by omega) (by omega) (by omega)).mono ?_; rintro e w' ⟨rfl, rfl⟩)
  go_ret2
  exact Ret.ii (by rw [HL.out]) (by rw [HH.out]; congr 1; omega) HB1.out
set_option maxHeartbeats 1000000 in
theorem l07Factor_ok (f : Int) (w : World) (h : 1 ≤ f ∧ f ≤ 6) : Calls Try.prog 67 #[.int .i64 f] w (Ret (.int .i64 (factorN f)) w) := by
  rcases six h with rfl | rfl | rfl | rfl | rfl | rfl
  all_goals
    go_enter Try.func67, Try.ntmps67
    go_wp2
    go_ret
    exact Ret.i rfl (by repeat (first | exact Below.refl _ _ | refine below_drewN ?_ _ | refine Below.alloc ?_ (by simp <;> omega) _))
set_option maxHeartbeats 1000000 in
theorem l07Strength_ok (x : Layer) (d : Int) (b off : Nat) (w : World) (hbw : b < w.heap.size) (x0 : w.cell? ⟨b, off, none⟩ = some (.int .i64 x.form)) (x3 : w.cell? ⟨b, off + 3, none⟩ = some (.int .i64 x.density)) (h : x.oneB = true) (hd : 0 ≤ d ∧ d ≤ 1000) : Calls Try.prog 56 #[.pointer (some ⟨b, off, none⟩), .int .i64 d] w (Ret (.tuple #[.int .i64 (lowN x d), .int .i64 (highN x d)]) w) := by
  have hp := Layer.one_parts h
  have hb := base_bd h
  have hl := low_bd h hd.1 hd.2
  have hh := high_bd h hd.1 hd.2
  have HF := Lib.hid (show 1 ≤ x.form ∧ x.form ≤ 6 from ⟨hp.1, hp.2.1⟩)
  have HL : Hid (lowN x d = baseN x * (1000 - d) / 1000) := rfl
  have HH : Hid (highN x d = (baseN x * (1000 + d) + 999) / 1000) := rfl
  have HR : Hid (rndDiv (x.density * x.density * factorN x.form) 1000 = baseN x) := rndDiv_pos (by decide)
  obtain ⟨B, hB⟩ : ∃ B, baseN x = B := ⟨_, rfl⟩
  rw [hB] at hb hl hh HL HH HR
  have ht : (B * (1000 - d)).tdiv 1000 = B * (1000 - d) / 1000 := Int.tdiv_eq_ediv_of_nonneg hl.1
  have ht2 : (B * (1000 + d) + 999).tdiv 1000 = (B * (1000 + d) + 999) / 1000 := Int.tdiv_eq_ediv_of_nonneg (by omega)
  clear h hB
  have hsub := fun (g : Sub w) b o (h : b < w.heap.size) => g.cell b o h
  go_enter Try.func56, Try.ntmps56
  go_wp2_with fail
  refine wp_region_sub (by kernel_rfl) (by kernel_rfl) ?_
  repeat (go_big_quiet_step (first | exact Calls.sub_of (l07Factor_ok _ _ HF.out) | exact Calls.sub_of_same_eq (l01Div_any _ _ _ (by omega) (by omega) (by omega) (by omega) (by omega)) (congrArg (Value.int .i64) HR.out)))
  refine wpQuiet_nil ?_
  intro wg hg
  have HG := Lib.hid hg
  clear hg hsub x0 x3
  go_wp2
  go_ret2
  exact Ret.ii (by rw [HL.out]) (by rw [HH.out]) HG.out
set_option maxHeartbeats 1000000 in
theorem stressOf_ok (load rise run : Int) (w : World) (hl : 0 ≤ load ∧ load ≤ 33000000) (hr : 0 ≤ rise ∧ rise ≤ 1000) (hu : 1 ≤ run ∧ run ≤ 1000) : Calls Try.prog 27 #[.int .i64 load, .int .i64 rise, .int .i64 run] w (Ret (.int .i64 (stressN load rise run)) w) := by
  have h := stress_parts hl.1 hl.2 hr.1 hr.2 hu.1 hu.2
  have HR : Hid (rndDiv (981 * load * rise * run) (100000 * (rise * rise + run * run)) = stressN load rise run) := rndDiv_pos (by omega)
  go_enter Try.func27, Try.ntmps27
  go_wp2_with fail
  refine (divRound_any _ _ _ (by omega) (by omega) (by omega) (by omega) (by omega)).mono ?_
  rintro e w1 ⟨rfl, hb1⟩
  rw [HR.out]
  have HB := Lib.hid hb1
  clear hb1
  go_wp2
  go_ret
  exact Ret.i rfl HB.out
set_option maxHeartbeats 1000000 in
theorem l07Stress_ok (load rise run : Int) (w : World) (hl : 0 ≤ load ∧ load ≤ 33000000) (hr : 0 ≤ rise ∧ rise ≤ 1000) (hu : 1 ≤ run ∧ run ≤ 1000) : Calls Try.prog 54 #[.int .i64 load, .int .i64 rise, .int .i64 run] w (RetS (.int .i64 (stressN load rise run)) w) := by
  have h := stress_parts hl.1 hl.2 hr.1 hr.2 hu.1 hu.2
  have HR : Hid (rndDiv (load * 981 * rise * run) (100000 * (rise * rise + run * run)) = stressN load rise run) := by
    rw [Int.mul_comm load 981]; exact rndDiv_pos (by omega)
  rw [Int.mul_comm 981 load] at h
  go_enter Try.func54, Try.ntmps54
  go_wp2_with fail
  refine (l01Div_any _ _ _ (by omega) (by omega) (by omega) (by omega) (by omega)).mono ?_
  rintro e w' ⟨rfl, rfl⟩
  rw [HR.out]
  go_wp2
  go_ret
  exact RetS.i rfl
theorem mass_step {L : List Layer} {k : Nat} {x : Layer} (hx : L[k]? = some x) : massN (L.take (k + 1)) = massN (L.take k) + (x.ice + x.water) := sumBy_step hx
theorem mass_take {L : List Layer} (h : ∀ x ∈ L, x.oneB = true) (hl : L.length ≤ 16) (k : Nat) : 0 ≤ massN (L.take k) ∧ massN (L.take k) ≤ 32000000 := by
  have h1 := mass_bd (L := L.take k) (fun x hx => h x (List.mem_of_mem_take hx))
  have h2 : (L.take k).length ≤ 16 := by rw [List.length_take]; omega
  omega
set_option maxHeartbeats 1000000 in
theorem loadAbove_ok (b o n c k : Nat) (xs : List Layer) (w : World) (hx : SliceOf w 7 Layer.cells (some ⟨b, o, none⟩) n xs) (hv : profB xs = true) (hk : k < n) (hc : n ≤ c) (hc2 : c ≤ 9223372036854775807) :
    Calls Try.prog 28 #[.slice (some ⟨b, o, none⟩) n c, .int .i64 k] w (Ret (.int .i64 (loadN xs k)) w) := by
  have hp := profB_iff.1 hv
  have h16 : n ≤ 16 := by rw [← hx.len]; exact hp.1
  obtain ⟨ys, hys⟩ : ∃ ys, xs.drop (k + 1) = ys := ⟨_, rfl⟩
  have hd := hx.drop (k := k + 1) (by omega)
  rw [hys] at hd
  have HV : Hid (∀ x ∈ ys, x.oneB = true) := fun x h => hp.2 x (List.mem_of_mem_drop (hys ▸ h))
  have HR : Hid (loadN xs k = massN ys) := by rw [Hid, ← hys]; rfl
  obtain ⟨m, hm⟩ : ∃ m, n - (k + 1) = m := ⟨_, rfl⟩
  obtain ⟨o2, ho2⟩ : ∃ o2, o + (k + 1) * 7 = o2 := ⟨_, rfl⟩
  rw [hm, ho2] at hd
  have hm16 : m ≤ 16 := by omega
  have hcs : (c = k + 1 ∧ SliceOf w 7 Layer.cells (some ⟨b, o, none⟩) m ys) ∨ (¬ c = k + 1 ∧ SliceOf w 7 Layer.cells (some ⟨b, o2, none⟩) m ys) := by
    by_cases e : c = k + 1
    · exact .inl ⟨e, hd.len, hd.le, fun h => absurd h (by omega)⟩
    · exact .inr ⟨e, hd⟩
  have HLY : Hid (ys.length = m) := hd.len
  have HM : Hid (∀ q, 0 ≤ massN (ys.take q) ∧ massN (ys.take q) ≤ 32000000) := mass_take HV.out (by rw [HLY.out]; omega)
  clear hp hx hv hd hys
  rcases hcs with ⟨hcc, hX⟩ | ⟨hcc, hX⟩
  all_goals
    have HX := Lib.hid hX
    clear hX
    go_enter Try.func28, Try.ntmps28
    go_wp2
    clear hcc
    go_loopg [5, 13] m (fun gk s i wr => ∃ (q : Nat) (M : Int), q ≤ m ∧ gk = m - q ∧ i = .int .i64 q ∧ s = .int .i64 M ∧ M = massN (ys.take q) ∧ 0 ≤ M ∧ M ≤ 32000000 ∧ Below w.heap.size w wr)
    case atStart => exact ⟨0, 0, Nat.zero_le _, rfl, rfl, rfl, rfl, by decide, by decide, Below.refl _ _⟩
    case round =>
      obtain ⟨q, M, hq, hgk, rfl, rfl, hM, hM0, hM1, hb⟩ := hrel
      have HB := Lib.hid hb
      have HMQ := Lib.hid hM
      have Hgk := Lib.hid hgk
      clear hb hM hgk
      by_cases hlt : q < m
      · obtain ⟨b1, o1, x, he, hb1, hxk, x0, x1, x2, x3, x4, x5, x6⟩ := Layer.at_ (HX.out.below HB.out) hlt
        injection he with he
        injection he with e1 e2 _
        subst e1 e2
        have hst := mass_step hxk
        have hone := Layer.one_parts (HV.out x (List.mem_of_getElem? hxk))
        have HS := Lib.hid hst
        have hbd := HM.out (q + 1)
        rw [hst, ← HMQ.out] at hbd
        have hbd2 : 0 ≤ M + (x.ice + x.water) ∧ M + (x.ice + x.water) ≤ 32000000 := hbd
        clear hxk hst hbd
        go_wp2
        go_roundg (m - (q + 1))
        case measure => have := Hgk.out; omega
        case rel => exact ⟨q + 1, _, by omega, rfl, by go_num, rfl, by rw [HS.out, HMQ.out], by omega, by omega, HB.out.alloc HB.out.size _⟩
      · have hqm : q = m := by omega
        subst hqm
        go_wp2
        go_ret
        exact Ret.i (by rw [HMQ.out, HR.out, List.take_of_length_le (by rw [HLY.out]; exact Nat.le_refl _)]) HB.out
set_option maxHeartbeats 1000000 in
theorem l03Mass_ok (A : Option Addr) (m c : Nat) (ys : List Layer) (w : World) (hx : SliceOf w 7 Layer.cells A m ys) (hv : ∀ x ∈ ys, x.oneB = true) (h16 : m ≤ 16) :
    Calls Try.prog 66 #[.slice A m c] w (fun e w' => ∃ i t : Int, e = .returned (.tuple #[.int .i64 i, .int .i64 t]) ∧ i + t = massN ys ∧ 0 ≤ i ∧ 0 ≤ t ∧ w = w') := by
  have HX := Lib.hid hx
  have HV := Lib.hid hv
  have HLY : Hid (ys.length = m) := hx.len
  have HM : Hid (∀ q, 0 ≤ massN (ys.take q) ∧ massN (ys.take q) ≤ 32000000) := mass_take hv (by rw [HLY.out]; omega)
  clear hx hv
  go_enter Try.func66, Try.ntmps66
  go_wp2
  go_loopg [4, 5, 6] m (fun gk s4 s5 s6 wr => ∃ (q : Nat) (i t : Int), q ≤ m ∧ gk = m - q ∧ s6 = .int .i64 q ∧ s4 = .int .i64 i ∧ s5 = .int .i64 t ∧ i + t = massN (ys.take q) ∧ 0 ≤ i ∧ 0 ≤ t ∧ w = wr)
  case atStart => exact ⟨0, 0, 0, Nat.zero_le _, rfl, rfl, rfl, rfl, rfl, by decide, by decide, rfl⟩
  case round =>
    obtain ⟨q, i, t, hq, hgk, rfl, rfl, rfl, hM, hi, ht, rfl⟩ := hrel
    have HMQ := Lib.hid hM
    have Hgk := Lib.hid hgk
    have hbq := HM.out q
    rw [← hM] at hbq
    clear hM hgk
    by_cases hlt : q < m
    · obtain ⟨b1, o1, x, rfl, hb1, hxk, x0, x1, x2, x3, x4, x5, x6⟩ := Layer.at_ HX.out hlt
      have HS := Lib.hid (mass_step hxk)
      have hone := Layer.one_parts (HV.out x (List.mem_of_getElem? hxk))
      clear hxk
      go_wp2
      go_roundg (m - (q + 1))
      case measure => have := Hgk.out; omega
      case rel => exact ⟨q + 1, _, _, by omega, rfl, by go_num, rfl, rfl, by rw [HS.out, ← HMQ.out]; omega, by omega, by omega, rfl⟩
    · have hqm : q = m := by omega
      subst hqm
      go_wp2
      go_ret2
      exact ⟨i, t, rfl, by rw [HMQ.out, List.take_of_length_le (by rw [HLY.out]; exact Nat.le_refl _)], hi, ht, rfl⟩
set_option maxHeartbeats 1000000 in
theorem l03Load_ok (b o n c k : Nat) (xs : List Layer) (w : World) (hx : SliceOf w 7 Layer.cells (some ⟨b, o, none⟩) n xs) (hv : profB xs = true) (hk : k < n) (hc : n ≤ c) (hc2 : c ≤ 9223372036854775807) :
    Calls Try.prog 55 #[.slice (some ⟨b, o, none⟩) n c, .int .i64 k] w (RetS (.int .i64 (loadN xs k)) w) := by
  have hp := profB_iff.1 hv
  have h16 : n ≤ 16 := by rw [← hx.len]; exact hp.1
  have hld := load_bd hv k
  obtain ⟨ys, hys⟩ : ∃ ys, xs.drop (k + 1) = ys := ⟨_, rfl⟩
  have hd := hx.drop (k := k + 1) (by omega)
  rw [hys] at hd
  have HV : Hid (∀ x ∈ ys, x.oneB = true) := fun x h => hp.2 x (List.mem_of_mem_drop (hys ▸ h))
  have HR : Hid (loadN xs k = massN ys) := by rw [Hid, ← hys]; rfl
  obtain ⟨m, hm⟩ : ∃ m, n - (k + 1) = m := ⟨_, rfl⟩
  obtain ⟨o2, ho2⟩ : ∃ o2, o + (k + 1) * 7 = o2 := ⟨_, rfl⟩
  rw [hm, ho2] at hd
  have hm16 : m ≤ 16 := by omega
  have hcs : (c = k + 1 ∧ SliceOf w 7 Layer.cells (some ⟨b, o, none⟩) m ys) ∨ (¬ c = k + 1 ∧ SliceOf w 7 Layer.cells (some ⟨b, o2, none⟩) m ys) := by
    by_cases e : c = k + 1
    · exact .inl ⟨e, hd.len, hd.le, fun h => absurd h (by omega)⟩
    · exact .inr ⟨e, hd⟩
  clear hp hx hv hd hys
  rcases hcs with ⟨hcc, hX⟩ | ⟨hcc, hX⟩
  all_goals
    have HX := Lib.hid hX
    clear hX
    go_enter Try.func55, Try.ntmps55
    go_wp2_with fail
    refine (l03Mass_ok _ m _ ys _ HX.out HV.out hm16).mono ?_
    rintro e w' ⟨i, t, rfl, hit, hi0, ht0, rfl⟩
    have hb2 : i + t ≤ 32000000 := by have := HR.out; omega
    have HIT := Lib.hid hit
    clear hit hcc
    go_wp2
    go_ret
    exact RetS.i (by rw [HIT.out, HR.out])
theorem thick_bd {x : Layer} (h : x.oneB = true) : 0 ≤ rndDiv x.ice x.density ∧ rndDiv x.ice x.density ≤ 1000001 := by
  have hp := Layer.one_parts h
  have := rndDiv_le (a := x.ice) (b := x.density) (by omega) (by omega)
  omega
set_option maxHeartbeats 1000000 in
theorem thickness_ok (x : Layer) (w : World) (h : x.oneB = true) : Calls Try.prog 52 #[.agg #[.int .i64 x.form, .int .i64 x.ice, .int .i64 x.water, .int .i64 x.density, .int .i64 x.degrees, .int .i64 x.hardness, .int .i64 x.age]] w (Ret (.int .i64 (rndDiv x.ice x.density)) w) := by
  have hp := Layer.one_parts h
  go_enter Try.func52, Try.ntmps52
  go_wp2_with fail
  refine (divRound_any _ _ _ (by omega) (by omega) (by omega) (by omega) (by omega)).mono ?_
  rintro e w1 ⟨rfl, hb1⟩
  have HB1 := Lib.hid (((Below.refl _ w).alloc (Nat.le_refl _) _).trans (hb1.mono (by simp)))
  clear hb1
  go_wp2
  go_ret
  exact Ret.i rfl HB1.out
set_option maxHeartbeats 1000000 in
theorem heightOf_ok (A : Option Addr) (m c : Nat) (ys : List Layer) (w : World) (hx : SliceOf w 7 Layer.cells A m ys) (hv : ∀ x ∈ ys, x.oneB = true) (h16 : m ≤ 16) :
    Calls Try.prog 31 #[.slice A m c] w (fun e w' => ∃ h : Int, e = .returned (.int .i64 h) ∧ 0 ≤ h ∧ h ≤ 1000001 * 16 ∧ Below w.heap.size w w') := by
  have HX := Lib.hid hx
  have HV := Lib.hid hv
  clear hx hv
  go_enter Try.func31, Try.ntmps31
  go_wp2
  go_loopg [3, 8] m (fun gk s i wr => ∃ (q : Nat) (M : Int), q ≤ m ∧ gk = m - q ∧ i = .int .i64 q ∧ s = .int .i64 M ∧ 0 ≤ M ∧ M ≤ 1000001 * q ∧ Below w.heap.size w wr)
  case atStart => exact ⟨0, 0, Nat.zero_le _, rfl, rfl, rfl, by decide, by decide, Below.refl _ _⟩
  case round =>
    obtain ⟨q, M, hq, hgk, rfl, rfl, hM0, hM1, hb⟩ := hrel
    have HB := Lib.hid hb
    have Hgk := Lib.hid hgk
    clear hb hgk
    by_cases hlt : q < m
    · obtain ⟨b1, o1, x, rfl, hb1, hxk, x0, x1, x2, x3, x4, x5, x6⟩ := Layer.at_ (HX.out.below HB.out) hlt
      have HO := Lib.hid (HV.out x (List.mem_of_getElem? hxk))
      have hth := thick_bd HO.out
      clear hxk
      go_wp2_with fail
      refine (thickness_ok x _ HO.out).mono ?_
      rintro e w1 ⟨rfl, hb1⟩
      have HB1 := Lib.hid ((HB.out.alloc HB.out.size _).trans (hb1.mono (by have := HB.out.size; simp; omega)))
      clear hb1
      obtain ⟨T, hT⟩ : ∃ T, rndDiv x.ice x.density = T := ⟨_, rfl⟩
      rw [hT] at hth ⊢
      clear hT x0 x1 x2 x3 x4 x5 x6
      go_wp2
      go_roundg (m - (q + 1))
      case measure => have := Hgk.out; omega
      case rel => exact ⟨q + 1, _, by omega, rfl, by go_num, rfl, by omega, by omega, HB1.out⟩
    · go_wp2
      go_ret
      exact ⟨M, rfl, hM0, by omega, HB.out⟩

end Go.Proofs.Ytmfghgoboibjdaa
