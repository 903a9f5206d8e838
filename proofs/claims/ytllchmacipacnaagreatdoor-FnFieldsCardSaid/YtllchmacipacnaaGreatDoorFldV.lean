/- When a field is valid, on both sides, the code of a field with directions and a share, and the sum of masses. -/
import Derived.Test.YtllchmacipacnaaGreatDoorFldP
import Derived.Test.YtllchmacipacnaaGreatDoorWithin
import Derived.Deep.RegionHeld3
import Derived.Deep.RegionLaw
import Derived.BigQuiet
namespace Go.Proofs.YtllchmacipacnaaGreatDoor
open Go.RowKit

theorem l06Mass_any (n : Int) (w : World) : Calls Tryz.prog 64 #[.int .i64 n] w (RetS (.bool (inB n 0 1000000)) w) := by
  go_enter Tryz.func64, Tryz.ntmps64
  go_wp2_with (go_at_call 61; refine (l00In_any _ _ _ _).mono ?_; rintro e w' ⟨rfl, rfl⟩)
  go_ret
  exact RetS.b rfl
theorem l06Wind_any (n : Int) (w : World) : Calls Tryz.prog 44 #[.int .i64 n] w (RetS (.bool (inB n 0 3)) w) := by
  go_enter Tryz.func44, Tryz.ntmps44
  go_wp2_with (go_at_call 61; refine (l00In_any _ _ _ _).mono ?_; rintro e w' ⟨rfl, rfl⟩)
  go_ret
  exact RetS.b rfl
theorem l06Share_any (n : Int) (w : World) : Calls Tryz.prog 45 #[.int .i64 n] w (RetS (.bool (inB n 0 1000)) w) := by
  go_enter Tryz.func45, Tryz.ntmps45
  go_wp2_with (go_at_call 61; refine (l00In_any _ _ _ _).mono ?_; rintro e w' ⟨rfl, rfl⟩)
  go_ret
  exact RetS.b rfl
set_option maxHeartbeats 1000000 in
theorem l06Masses_ok (X : Nat) (f : FieldR) (w : World) (h : BoxF X f w) (hm : massB f.masses = true) : Calls Tryz.prog 47 #[.pointer (some ⟨X, 0, none⟩)] w (RetS (.bool true) w) := by
  obtain ⟨_, _, y2, lx⟩ := h.cells
  have HG := Lib.hid h.gi.1
  have HM := Lib.hid hm
  have hn := h.gi.1.le
  clear h hm
  go_enter Tryz.func47, Tryz.ntmps47
  go_wp2
  go_loopg [3] f.massesN (fun gk i wr => ∃ k : Nat, k ≤ f.massesN ∧ gk = f.massesN - k ∧ i = .int .i64 k ∧ w = wr)
  case atStart => exact ⟨0, Nat.zero_le _, rfl, rfl, rfl⟩
  case round =>
    obtain ⟨k, hk, hgk, rfl, rfl⟩ := hrel
    have Hgk := Lib.hid hgk
    clear hgk
    by_cases hlt : k < f.massesN
    · obtain ⟨b2, o2, y, hA2, hb2, hxk, z0⟩ := ints_at HG.out hlt
      rw [hA2] at y2
      have hy := inB_iff.2 (massB_at HM.out hxk)
      have HY := Lib.hid hy
      clear hA2 hxk hy
      go_wp2_with (go_at_call 64; refine (l06Mass_any _ _).mono ?_; rintro e w' ⟨rfl, rfl⟩; rw [HY.out])
      go_roundg (f.massesN - (k + 1))
      case measure => have := Hgk.out; omega
      case rel => exact ⟨k + 1, by omega, rfl, by go_num, rfl⟩
    · go_wp2
      go_ret
      exact RetS.b rfl
set_option maxHeartbeats 1000000 in
theorem l06Ok_ok (X : Nat) (f : FieldR) (w : World) (h : BoxF X f w) (hf : fieldB f.val = true) : Calls Tryz.prog 43 #[.pointer (some ⟨X, 0, none⟩)] w (Ret (.bool true) w) := by
  obtain ⟨h0, h1, h2, h3⟩ := (fieldB_iff _).1 hf
  obtain ⟨x0, x1, x2, lx⟩ := h.cells
  have HBX := Lib.hid h
  have HM : Hid (massB f.masses = true) := h3
  have hlen := h.gi.1.len
  have h2 : decide ((f.massesN : Int) = f.rows * f.columns) = true := by have h2' : decide ((f.masses.length : Int) = f.rows * f.columns) = true := h2; rw [hlen] at h2'; exact h2'
  obtain ⟨hm, _, _⟩ := mul_i64 (inB_iff.1 h0) (inB_iff.1 h1)
  have h0 : inB f.rows 1 8 = true := h0
  have h1 : inB f.columns 1 8 = true := h1
  have hm : IntKind.i64.wrap (f.rows * f.columns) = f.rows * f.columns := hm
  have hne : ((f.massesN : Int) != f.rows * f.columns) = false := by simpa using h2
  have hsub := fun (g : Sub w) b o (h : b < w.heap.size) => g.cell b o h
  clear h hf h3 hlen
  go_enter Tryz.func43, Tryz.ntmps43
  go_wp2_with fail
  refine wp_region_sub (by kernel_rfl) (by kernel_rfl) ?_
  repeat (go_big_quiet_step (first | with_reducible exact Calls.sub_of_same_eq (l00In_any f.rows 1 8 _) (congrArg Value.bool h0) | with_reducible exact Calls.sub_of_same_eq (l00In_any f.columns 1 8 _) (congrArg Value.bool h1)))
  refine wpQuiet_nil ?_
  intro wg hg
  have HBG := Lib.hid (HBX.out.grow hg)
  clear hsub x0 x1 x2
  go_wp2_with fail
  refine (l06Masses_ok X f wg HBG.out HM.out).mono ?_
  rintro e w2 ⟨rfl, rfl⟩
  go_wp2
  go_ret
  exact Ret.b rfl hg
set_option maxHeartbeats 1000000 in
theorem validField_any (f : FieldR) (w : World) (hin : f.In w) : Calls Tryz.prog 23 #[.agg #[.int .i64 f.rows, .int .i64 f.columns, .slice f.massesA f.massesN f.massesC]] w (Ret (.bool (fieldB f.val)) w) := by
  have hlen := hin.1.len
  have HI := Lib.hid hin
  have hB : Below w.heap.size w (w.alloc (.cells #[.int .i64 f.rows, .int .i64 f.columns, .slice f.massesA f.massesN f.massesC] 26)) := (Below.refl _ _).alloc (Nat.le_refl _) _
  have HL := Lib.hid hlen
  clear hlen hin
  rcases cases4 (inB f.rows 1 8) (inB f.columns 1 8) (decide ((f.massesN : Int) = f.rows * f.columns)) (f.masses.all (fun y => inB y 0 1000000)) with h0 | ⟨h0, h1⟩ | ⟨h0, h1, h2⟩ | ⟨h0, h1, h2, h3⟩ | ⟨h0, h1, h2, h3⟩
  · skip
    go_enter Tryz.func23, Tryz.ntmps23
    go_wp2_with (first | (go_at_call 24; refine (within_any _ _ _ _).mono ?_; rintro e w' ⟨rfl, rfl⟩) | (go_at_call 50; refine (allWithin_any 0 1000000 _ _ _ f.masses _ (HI.out.1.below hB)).mono ?_; rintro e w' ⟨rfl, hb⟩))
    all_goals (go_ret; exact Ret.b (by simp [fieldB, massB, FieldR.val, HL.out, *]) (by first | exact hB | exact hB.trans ((by assumption : Below _ (w.alloc _) _).mono hB.size)))
  · skip
    go_enter Tryz.func23, Tryz.ntmps23
    go_wp2_with (first | (go_at_call 24; refine (within_any _ _ _ _).mono ?_; rintro e w' ⟨rfl, rfl⟩) | (go_at_call 50; refine (allWithin_any 0 1000000 _ _ _ f.masses _ (HI.out.1.below hB)).mono ?_; rintro e w' ⟨rfl, hb⟩))
    all_goals (go_ret; exact Ret.b (by simp [fieldB, massB, FieldR.val, HL.out, *]) (by first | exact hB | exact hB.trans ((by assumption : Below _ (w.alloc _) _).mono hB.size)))
  · skip
    obtain ⟨hm, _, _⟩ := mul_i64 (inB_iff.1 h0) (inB_iff.1 h1)
    go_enter Tryz.func23, Tryz.ntmps23
    go_wp2_with (first | (go_at_call 24; refine (within_any _ _ _ _).mono ?_; rintro e w' ⟨rfl, rfl⟩) | (go_at_call 50; refine (allWithin_any 0 1000000 _ _ _ f.masses _ (HI.out.1.below hB)).mono ?_; rintro e w' ⟨rfl, hb⟩))
    all_goals (go_ret; exact Ret.b (by simp [fieldB, massB, FieldR.val, HL.out, *]) (by first | exact hB | exact hB.trans ((by assumption : Below _ (w.alloc _) _).mono hB.size)))
  · skip
    obtain ⟨hm, _, _⟩ := mul_i64 (inB_iff.1 h0) (inB_iff.1 h1)
    go_enter Tryz.func23, Tryz.ntmps23
    go_wp2_with (first | (go_at_call 24; refine (within_any _ _ _ _).mono ?_; rintro e w' ⟨rfl, rfl⟩) | (go_at_call 50; refine (allWithin_any 0 1000000 _ _ _ f.masses _ (HI.out.1.below hB)).mono ?_; rintro e w' ⟨rfl, hb⟩))
    all_goals (go_ret; exact Ret.b (by simp [fieldB, massB, FieldR.val, HL.out, *]) (by first | exact hB | exact hB.trans ((by assumption : Below _ (w.alloc _) _).mono hB.size)))
  · skip
    obtain ⟨hm, _, _⟩ := mul_i64 (inB_iff.1 h0) (inB_iff.1 h1)
    go_enter Tryz.func23, Tryz.ntmps23
    go_wp2_with (first | (go_at_call 24; refine (within_any _ _ _ _).mono ?_; rintro e w' ⟨rfl, rfl⟩) | (go_at_call 50; refine (allWithin_any 0 1000000 _ _ _ f.masses _ (HI.out.1.below hB)).mono ?_; rintro e w' ⟨rfl, hb⟩))
    all_goals (go_ret; exact Ret.b (by simp [fieldB, massB, FieldR.val, HL.out, *]) (by first | exact hB | exact hB.trans ((by assumption : Below _ (w.alloc _) _).mono hB.size)))
def askC (f : Field) (ds : List Int) (share : Int) : Int := if fieldB f = false then 1 else if decide (24 < ds.length) = true ∨ (ds.all fun y => inB y 0 3) = false ∨ inB share 0 1000 = false then 2 else 0
theorem askC_ok {f : Field} {ds : List Int} {share : Int} (h : askC f ds share = 0) : fieldB f = true ∧ ds.length ≤ 24 ∧ (ds.all fun y => inB y 0 3) = true ∧ 0 ≤ share ∧ share ≤ 1000 := by
  unfold askC at h
  split at h
  · cases h
  · rename_i h0
    split at h
    · cases h
    · rename_i h1
      have h2 := not_or.1 h1
      have h3 := not_or.1 h2.2
      have h4 : inB share 0 1000 = true := by simpa using h3.2
      rw [inB_iff] at h4
      exact ⟨by simpa using h0, by have := h2.1; simp at this; exact this, by simpa using h3.1, h4⟩
set_option maxHeartbeats 1000000 in
theorem fieldCode_any (f : FieldR) (A : Option Addr) (n c : Nat) (ds : List Int) (share : Int) (w : World) (hin : f.In w) (hd : SliceOf w 1 i64cells A n ds) : Calls Tryz.prog 37 #[.agg #[.int .i64 f.rows, .int .i64 f.columns, .slice f.massesA f.massesN f.massesC], .slice A n c, .int .i64 share] w (Ret (.int .i64 (askC f.val ds share)) w) := by
  have hB : Below w.heap.size w (w.alloc (.cells #[.int .i64 f.rows, .int .i64 f.columns, .slice f.massesA f.massesN f.massesC] 26)) := (Below.refl _ _).alloc (Nat.le_refl _) _
  have HB := Lib.hid hB
  have HI := Lib.hid (hin.below hB)
  have HD := Lib.hid (hd.below hB)
  have HL := Lib.hid hd.len
  have hn := hd.le
  clear hB hin hd
  cases hf : fieldB f.val
  · have HC : Hid (askC f.val ds share = 1) := by rw [Hid, askC, if_pos hf]
    go_enter Tryz.func37, Tryz.ntmps37
    go_wp2_with fail
    refine (validField_any f _ HI.out).mono ?_
    rintro e w2 ⟨rfl, hb2⟩
    rw [hf]
    clear hf
    go_wp2
    go_ret
    exact Ret.i HC.out.symm (HB.out.trans (hb2.mono HB.out.size))
  by_cases h24 : 24 < n
  · have HC : Hid (askC f.val ds share = 2) := by rw [Hid, askC, if_neg (by rw [hf]; simp), if_pos (.inl (by rw [HL.out]; exact decide_eq_true h24))]
    go_enter Tryz.func37, Tryz.ntmps37
    go_wp2_with fail
    refine (validField_any f _ HI.out).mono ?_
    rintro e w2 ⟨rfl, hb2⟩
    rw [hf]
    clear hf
    go_wp2
    go_ret
    exact Ret.i HC.out.symm (HB.out.trans (hb2.mono HB.out.size))
  have h0 : decide (24 < n) = false := decide_eq_false h24
  have h25 : n ≤ 24 := by omega
  clear h24
  have hcs : (ds.all fun y => inB y 0 3) = false ∨ ((ds.all fun y => inB y 0 3) = true ∧ inB share 0 1000 = false) ∨ ((ds.all fun y => inB y 0 3) = true ∧ inB share 0 1000 = true) := by
    cases (ds.all fun y => inB y 0 3) <;> cases inB share 0 1000 <;> simp
  rcases hcs with h1 | ⟨h1, h2⟩ | ⟨h1, h2⟩
  all_goals have H1 := Lib.hid h1
  all_goals try have H2 := Lib.hid h2
  · have HC : Hid (askC f.val ds share = 2) := by rw [Hid, askC, if_neg (by rw [hf]; simp), if_pos (.inr (.inl h1))]
    go_enter Tryz.func37, Tryz.ntmps37
    go_wp2_with fail
    refine (validField_any f _ HI.out).mono ?_
    rintro e w2 ⟨rfl, hb2⟩
    rw [hf]
    have HB2 := Lib.hid (HB.out.trans (hb2.mono HB.out.size))
    have HD2 := Lib.hid (HD.out.below hb2)
    clear hf h1 hb2
    go_wp2_with fail
    refine (allWithin_any 0 3 A n c ds w2 HD2.out).mono ?_
    rintro e w3 ⟨rfl, hb3⟩
    rw [H1.out]
    have HB3 := Lib.hid (HB2.out.trans (hb3.mono HB2.out.size))
    clear hb3
    go_wp2
    go_ret
    exact Ret.i HC.out.symm HB3.out
  · have HC : Hid (askC f.val ds share = 2) := by rw [Hid, askC, if_neg (by rw [hf]; simp), if_pos (.inr (.inr h2))]
    go_enter Tryz.func37, Tryz.ntmps37
    go_wp2_with fail
    refine (validField_any f _ HI.out).mono ?_
    rintro e w2 ⟨rfl, hb2⟩
    rw [hf]
    have HB2 := Lib.hid (HB.out.trans (hb2.mono HB.out.size))
    have HD2 := Lib.hid (HD.out.below hb2)
    clear hf h1 h2 hb2
    go_wp2_with fail
    refine (allWithin_any 0 3 A n c ds w2 HD2.out).mono ?_
    rintro e w3 ⟨rfl, hb3⟩
    rw [H1.out]
    have HB3 := Lib.hid (HB2.out.trans (hb3.mono HB2.out.size))
    clear hb3
    go_wp2_with fail
    refine (within_any share 0 1000 w3).mono ?_
    rintro e w4 ⟨rfl, rfl⟩
    rw [H2.out]
    go_wp2
    go_ret
    exact Ret.i HC.out.symm HB3.out
  · have HC : Hid (askC f.val ds share = 0) := by rw [Hid, askC, if_neg (by rw [hf]; simp), if_neg (by rw [h1, h2, HL.out, h0]; simp)]
    go_enter Tryz.func37, Tryz.ntmps37
    go_wp2_with fail
    refine (validField_any f _ HI.out).mono ?_
    rintro e w2 ⟨rfl, hb2⟩
    rw [hf]
    have HB2 := Lib.hid (HB.out.trans (hb2.mono HB.out.size))
    have HD2 := Lib.hid (HD.out.below hb2)
    clear hf h1 h2 hb2
    go_wp2_with fail
    refine (allWithin_any 0 3 A n c ds w2 HD2.out).mono ?_
    rintro e w3 ⟨rfl, hb3⟩
    rw [H1.out]
    have HB3 := Lib.hid (HB2.out.trans (hb3.mono HB2.out.size))
    clear hb3
    go_wp2_with fail
    refine (within_any share 0 1000 w3).mono ?_
    rintro e w4 ⟨rfl, rfl⟩
    rw [H2.out]
    go_wp2
    go_ret
    exact Ret.i HC.out.symm HB3.out
set_option maxHeartbeats 1000000 in
theorem sumOf_ok (A : Option Addr) (n c : Nat) (ms : List Int) (w : World) (hx : SliceOf w 1 i64cells A n ms) (hm : massB ms = true) (hn : n ≤ 64) : Calls Tryz.prog 26 #[.slice A n c] w (RetS (.int .i64 (sumF ms n)) w) := by
  have HM := Lib.hid hm
  clear hm
  go_enter Tryz.func26, Tryz.ntmps26
  go_wp2
  go_loopg [3, 8] n (fun gk s i wr => ∃ k : Nat, k ≤ n ∧ gk = n - k ∧ i = .int .i64 k ∧ s = .int .i64 (sumF ms k) ∧ w = wr)
  case atStart => exact ⟨0, Nat.zero_le _, rfl, rfl, rfl, rfl⟩
  case round =>
    obtain ⟨k, hk, hgk, rfl, rfl, rfl⟩ := hrel
    have Hgk := Lib.hid hgk
    clear hgk
    by_cases hlt : k < n
    · obtain ⟨b2, o2, y, rfl, hb2, hxk, z0⟩ := ints_at hx hlt
      have h1 := sumF_bound HM.out k
      have h2 := massB_at HM.out hxk
      have HS : Hid (sumF ms (k + 1) = sumF ms k + y) := by rw [Hid, sumF, lvF_at hxk]
      clear hxk
      go_wp2
      go_roundg (n - (k + 1))
      case measure => have := Hgk.out; omega
      case rel => exact ⟨k + 1, by omega, rfl, by go_num, by rw [HS.out], rfl⟩
    · obtain rfl : k = n := by omega
      go_wp2
      go_ret
      exact RetS.i rfl
set_option maxHeartbeats 1000000 in
theorem fieldMass_ok (f : FieldR) (w : World) (hin : f.In w) (hf : fieldB f.val = true) : Calls Tryz.prog 7 #[.agg #[.int .i64 f.rows, .int .i64 f.columns, .slice f.massesA f.massesN f.massesC]] w (Ret (.tuple #[.int .i64 (sumF f.masses f.massesN), .int .i64 0]) w) := by
  obtain ⟨R, C, _, _, _, _, _, _, hl, h64, hm⟩ := fieldB_nat hf
  have hn : f.massesN ≤ 64 := by rw [← hin.1.len]; have hl' : f.masses.length = R * C := hl; omega
  have hB : Below w.heap.size w (w.alloc (.cells #[.int .i64 f.rows, .int .i64 f.columns, .slice f.massesA f.massesN f.massesC] 26)) := (Below.refl _ _).alloc (Nat.le_refl _) _
  have HB := Lib.hid hB
  have HO : Hid (BoxF w.heap.size f (w.alloc (.cells #[.int .i64 f.rows, .int .i64 f.columns, .slice f.massesA f.massesN f.massesC] 26))) := BoxF.new hin
  have HM : Hid (massB f.masses = true) := hm
  have HF := Lib.hid hf
  clear hB hin hf hm hl h64
  obtain ⟨y0, y1, y2, lx⟩ := HO.out.cells
  go_enter Tryz.func7, Tryz.ntmps7
  go_wp2_with fail
  clear y0 y1 y2 lx
  refine (validField_any f _ HO.out.gi).mono ?_
  rintro e w2 ⟨rfl, hb2⟩
  rw [HF.out]
  have HO2 := Lib.hid (HO.out.grow hb2)
  have HB2 := Lib.hid (HB.out.trans (hb2.mono HB.out.size))
  clear hb2
  obtain ⟨y0, y1, y2, lx⟩ := HO2.out.cells
  go_wp2_with fail
  refine (sumOf_ok _ _ _ f.masses w2 HO2.out.gi.1 HM.out hn).mono ?_
  rintro e w3 ⟨rfl, rfl⟩
  go_wp2
  go_ret2
  exact Ret.ii rfl rfl HB2.out

end Go.Proofs.YtllchmacipacnaaGreatDoor
