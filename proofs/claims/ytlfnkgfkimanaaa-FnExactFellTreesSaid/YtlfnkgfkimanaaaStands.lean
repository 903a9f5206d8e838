/- ProtectionOf, FellTrees and MostSnow of the program and of the reference. -/
import Derived.Test.YtlfnkgfkimanaaaVStand
namespace Go.Proofs.Ytlfnkgfkimanaaa
open Go.RowKit

def protF (x : Stand) (snow : Int) : Int := if x.height < 2 * snow then 0 else max (min (min 1000 (rndDiv (x.trees * 1000) 500)) x.cover - 10 * max (x.gap - 20) 0) 0
theorem rndDiv_bounds {a b : Int} (hb : 0 < b) (M : Int) (h1 : -M ≤ a) (h2 : a ≤ M) : -M ≤ rndDiv a b ∧ rndDiv a b ≤ M := by
  unfold rndDiv; rw [if_neg (by omega)]; exact rnd_bounds hb M h1 h2
theorem Stand.facts {x : Stand} (h : x.oneB = true) : (0 ≤ x.trees ∧ x.trees ≤ 2000) ∧ (0 ≤ x.height ∧ x.height ≤ 5000) ∧ (0 ≤ x.cover ∧ x.cover ≤ 1000) ∧ (0 ≤ x.gap ∧ x.gap ≤ 100) := by
  have h := (Stand.oneB_iff x).1 h
  exact ⟨inB_iff.1 h.2.1, inB_iff.1 h.2.2.1, inB_iff.1 h.2.2.2.1, inB_iff.1 h.2.2.2.2⟩

set_option maxHeartbeats 2000000 in
theorem implProt_any (x : Stand) (s : Int) (w : World) (h : x.oneB = true) (hs0 : 0 ≤ s) (hs1 : s ≤ 2000) :
    Calls Try.prog 80 #[.agg #[.string x.id, .int .i64 x.trees, .int .i64 x.height, .int .i64 x.cover, .int .i64 x.gap], .int .i64 s] w (Ret (.int .i64 (protF x s)) w) := by
  have hf := Stand.facts h
  have ⟨_, _⟩ := hf.1
  have ⟨_, _⟩ := hf.2.1
  have ⟨_, _⟩ := hf.2.2.1
  have ⟨_, _⟩ := hf.2.2.2
  clear hf h
  have hq := rndDiv_bounds (a := x.trees * 1000) (b := 500) (by omega) 2000000 (by omega) (by omega)
  by_cases h2 : x.height < 2 * s
  · have H2 := Lib.hid h2
    go_enter Try.func80, Try.ntmps80
    go_wp2
    go_ret
    exact Ret.i (by unfold protF; rw [if_pos H2.out]) (by repeat (first | assumption | exact Below.refl _ _ | refine Below.alloc ?_ (by simp <;> omega) _))
  have hsub := fun (o : Obj) (g : Sub (w.alloc o)) b o' (h : b < (w.alloc o).heap.size) => g.cell b o' h
  go_enter Try.func80, Try.ntmps80
  go_wp2_with fail
  refine wp_region_sub (by kernel_rfl) (by kernel_rfl) ?_
  repeat (go_big_quiet_step (exact Calls.sub_of (divRound_any _ _ _ (by omega) (by omega) (by omega) (by omega) (by omega))))
  refine wpQuiet_nil ?_
  intro wg hg
  clear hsub
  go_wp2
  all_goals (go_ret; refine Ret.i ?_ (((Below.refl _ _).alloc (Nat.le_refl _) _).trans (hg.mono (by simp))))
  all_goals (unfold protF; rw [if_neg (by omega)]; first | rfl | omega)

set_option maxHeartbeats 2000000 in
theorem specProt_any (x : Stand) (s : Int) (b off : Nat) (w : World) (hb : b < w.heap.size) (h : x.oneB = true) (hs0 : 0 ≤ s) (hs1 : s ≤ 2000) (_x0 : w.cell? ⟨b, off, none⟩ = some (.string x.id)) (x1 : w.cell? ⟨b, off + 1, none⟩ = some (.int .i64 x.trees)) (x2 : w.cell? ⟨b, off + 2, none⟩ = some (.int .i64 x.height)) (x3 : w.cell? ⟨b, off + 3, none⟩ = some (.int .i64 x.cover)) (x4 : w.cell? ⟨b, off + 4, none⟩ = some (.int .i64 x.gap)) :
    Calls Try.prog 77 #[.pointer (some ⟨b, off, none⟩), .int .i64 s] w (Ret (.int .i64 (protF x s)) w) := by
  have hf := Stand.facts h
  have ⟨_, _⟩ := hf.1
  have ⟨_, _⟩ := hf.2.1
  have ⟨_, _⟩ := hf.2.2.1
  have ⟨_, _⟩ := hf.2.2.2
  clear hf h
  have hq := rndDiv_bounds (a := x.trees * 1000) (b := 500) (by omega) 2000000 (by omega) (by omega)
  by_cases h2 : x.height < 2 * s
  · have H2 := Lib.hid h2
    go_enter Try.func77, Try.ntmps77
    go_wp2
    go_ret
    exact Ret.i (by unfold protF; rw [if_pos H2.out]) (Below.refl _ _)
  have hsub := fun (g : Sub w) b o (h : b < w.heap.size) => g.cell b o h
  go_enter Try.func77, Try.ntmps77
  go_wp2_with fail
  refine wp_region_sub (by kernel_rfl) (by kernel_rfl) ?_
  repeat (go_big_quiet_step (first | exact Calls.sub_of_same (l01Div_any _ _ _ (by omega) (by omega) (by omega) (by omega) (by omega)) | exact Calls.sub_of_same (l00Min_any _ _ _)))
  refine wpQuiet_nil ?_
  intro wg hg
  have hcg := fun b o (h : b < w.heap.size) => hg.cell (p := ⟨b, o, none⟩) h
  clear hsub
  go_wp2_with (go_at_call 65; refine (l00Max_any _ _ _).mono ?_; rintro e w' ⟨rfl, rfl⟩)
  go_ret
  refine Ret.i ?_ hg
  unfold protF; rw [if_neg (by omega)]; omega

theorem protectOk_any (s l : Int) (w : World) : Calls Try.prog 104 #[.int .i64 s, .int .i64 l] w (RetS (.bool (inB s 0 2000 && inB l 0 1000)) w) := by
  go_enter Try.func104, Try.ntmps104
  cases h : inB s 0 2000
  all_goals
    go_wp2_with (go_at_call 79; refine (within_any _ _ _ _).mono ?_; rintro e w' ⟨rfl, rfl⟩)
    go_ret
    exact RetS.b (by simp)
theorem l10Least_any (n : Int) (w : World) : Calls Try.prog 103 #[.int .i64 n] w (RetS (.bool (inB n 0 1000)) w) := by
  go_enter Try.func103, Try.ntmps103
  go_wp2_with (go_at_call 100; refine (l00In_any _ _ _ _).mono ?_; rintro e w' ⟨rfl, rfl⟩)
  go_ret
  exact RetS.b rfl
theorem l10Snow_any (n : Int) (w : World) : Calls Try.prog 76 #[.int .i64 n] w (RetS (.bool (inB n 0 2000)) w) := by
  go_enter Try.func76, Try.ntmps76
  go_wp2_with (go_at_call 100; refine (l00In_any _ _ _ _).mono ?_; rintro e w' ⟨rfl, rfl⟩)
  go_ret
  exact RetS.b rfl

/-! ### ProtectionOf -/
def protA (x : Stand) (s : Int) : Int := if x.oneB = true ∧ inB s 0 2000 = true then protF x s else 0
def protB (x : Stand) (s : Int) : Int := if x.oneB = true then (if inB s 0 2000 = true then 0 else 2) else 1

set_option maxHeartbeats 2000000 in
theorem implProtectionOf_any (x : Stand) (s : Int) (w : World) (hs : x.id.size ≤ 9223372036854775807) :
    Calls Try.prog 28 #[.agg #[.string x.id, .int .i64 x.trees, .int .i64 x.height, .int .i64 x.cover, .int .i64 x.gap], .int .i64 s] w (Ret (.tuple #[.int .i64 (protA x s), .int .i64 (protB x s)]) w) := by
  have ho := Own.new w 41 #[.string x.id, .int .i64 x.trees, .int .i64 x.height, .int .i64 x.cover, .int .i64 x.gap]
  have hlt := ho.lt
  rcases cases2 x.oneB (inB s 0 2000) with h | ⟨h, h'⟩ | ⟨h, h'⟩
  all_goals have HV := Lib.hid h
  · go_enter Try.func28, Try.ntmps28
    go_wp2_with fail
    refine (implStandvalid_any x _ hs).mono ?_
    rintro e w1 ⟨rfl, hb⟩
    go_wp2
    go_ret2
    exact Ret.ii (by simp [protA, HV.out]) (by simp [protB, HV.out]) (((Below.refl _ _).alloc (Nat.le_refl _) _).trans (hb.mono (by simp)))
  · have HR := Lib.hid h'
    go_enter Try.func28, Try.ntmps28
    go_wp2_with fail
    refine (implStandvalid_any x _ hs).mono ?_
    rintro e w1 ⟨rfl, hb⟩
    go_wp2_with (go_at_call 79; refine (within_any _ _ _ _).mono ?_; rintro e w' ⟨rfl, rfl⟩)
    go_ret2
    exact Ret.ii (by simp [protA, HV.out, HR.out]) (by simp [protB, HV.out, HR.out]) (((Below.refl _ _).alloc (Nat.le_refl _) _).trans (hb.mono (by simp)))
  · have HR := Lib.hid h'
    have ⟨_, _⟩ := inB_iff.1 h'
    go_enter Try.func28, Try.ntmps28
    go_wp2_with fail
    refine (implStandvalid_any x _ hs).mono ?_
    rintro e w1 ⟨rfl, hb⟩
    have ho1 := ho.below' hb
    have c0 : w1.cell? ⟨w.heap.size, 0, none⟩ = some (.string x.id) := ho1.cell 0
    have c1 : w1.cell? ⟨w.heap.size, 1, none⟩ = some (.int .i64 x.trees) := ho1.cell 1
    have c2 : w1.cell? ⟨w.heap.size, 2, none⟩ = some (.int .i64 x.height) := ho1.cell 2
    have c3 : w1.cell? ⟨w.heap.size, 3, none⟩ = some (.int .i64 x.cover) := ho1.cell 3
    have c4 : w1.cell? ⟨w.heap.size, 4, none⟩ = some (.int .i64 x.gap) := ho1.cell 4
    go_wp2_with (go_at_call 79; refine (within_any _ _ _ _).mono ?_; rintro e w' ⟨rfl, rfl⟩)
    refine (implProt_any x _ _ HV.out (by assumption) (by assumption)).mono ?_
    rintro e w2 ⟨rfl, hb2⟩
    go_wp2
    go_ret2
    exact Ret.ii (by simp [protA, HV.out, HR.out]) (by simp [protB, HV.out, HR.out]) ((((Below.refl _ _).alloc (Nat.le_refl _) _).trans (hb.mono (by simp))).trans (hb2.mono (Nat.le_trans (by simp) hb.size)))

set_option maxHeartbeats 2000000 in
theorem specProtectionOf_any (x : Stand) (s : Int) (w : World) (hs : x.id.size ≤ 9223372036854775807) :
    Calls Try.prog 26 #[.agg #[.string x.id, .int .i64 x.trees, .int .i64 x.height, .int .i64 x.cover, .int .i64 x.gap], .int .i64 s] w (Ret (.tuple #[.int .i64 (protA x s), .int .i64 (protB x s)]) w) := by
  have ho := Own.new w 41 #[.string x.id, .int .i64 x.trees, .int .i64 x.height, .int .i64 x.cover, .int .i64 x.gap]
  have hlt := ho.lt
  rcases cases2 x.oneB (inB s 0 2000) with h | ⟨h, h'⟩ | ⟨h, h'⟩
  all_goals have HV := Lib.hid h
  · go_enter Try.func26, Try.ntmps26
    go_wp2_with fail
    refine (specStandOne_any x _ _ _ ho.lt hs (ho.cell 0) (ho.cell 1) (ho.cell 2) (ho.cell 3) (ho.cell 4)).mono ?_
    rintro e w1 ⟨rfl, hb⟩
    go_wp2
    go_ret2
    exact Ret.ii (by simp [protA, HV.out]) (by simp [protB, HV.out]) (((Below.refl _ _).alloc (Nat.le_refl _) _).trans (hb.mono (by simp)))
  · have HR := Lib.hid h'
    go_enter Try.func26, Try.ntmps26
    go_wp2_with fail
    refine (specStandOne_any x _ _ _ ho.lt hs (ho.cell 0) (ho.cell 1) (ho.cell 2) (ho.cell 3) (ho.cell 4)).mono ?_
    rintro e w1 ⟨rfl, hb⟩
    go_wp2_with (go_at_call 76; refine (l10Snow_any _ _).mono ?_; rintro e w' ⟨rfl, rfl⟩)
    go_ret2
    exact Ret.ii (by simp [protA, HV.out, HR.out]) (by simp [protB, HV.out, HR.out]) (((Below.refl _ _).alloc (Nat.le_refl _) _).trans (hb.mono (by simp)))
  · have HR := Lib.hid h'
    have ⟨_, _⟩ := inB_iff.1 h'
    go_enter Try.func26, Try.ntmps26
    go_wp2_with fail
    refine (specStandOne_any x _ _ _ ho.lt hs (ho.cell 0) (ho.cell 1) (ho.cell 2) (ho.cell 3) (ho.cell 4)).mono ?_
    rintro e w1 ⟨rfl, hb⟩
    have ho1 := ho.below' hb
    go_wp2_with (go_at_call 76; refine (l10Snow_any _ _).mono ?_; rintro e w' ⟨rfl, rfl⟩)
    refine (specProt_any x _ _ _ _ ho1.lt HV.out (by assumption) (by assumption) (ho1.cell 0) (ho1.cell 1) (ho1.cell 2) (ho1.cell 3) (ho1.cell 4)).mono ?_
    rintro e w2 ⟨rfl, hb2⟩
    go_wp2
    go_ret2
    exact Ret.ii (by simp [protA, HV.out, HR.out]) (by simp [protB, HV.out, HR.out]) ((((Below.refl _ _).alloc (Nat.le_refl _) _).trans (hb.mono (by simp))).trans (hb2.mono (Nat.le_trans (by simp) hb.size)))

/-! ### MostSnow -/
/-- The greatest number below n of which p holds. -/
def downFind (p : Nat → Bool) : Nat → Option Nat
  | 0 => none
  | n + 1 => if p n then some n else downFind p n
def mostO (x : Stand) (l : Int) : Option Nat := downFind (fun s => decide (l ≤ protF x s)) 2001
def mostA (x : Stand) (l : Int) : Int := if x.oneB = true ∧ inB l 0 1000 = true then (match mostO x l with | some s => (s : Int) | none => 0) else 0
def mostB (x : Stand) (l : Int) : Int := if x.oneB = true then (if inB l 0 1000 = true then (match mostO x l with | some _ => 0 | none => 3) else 2) else 1
theorem downFind_hit {p : Nat → Bool} {v : Int} {D : Option Nat} (h0 : 0 ≤ v) (h : downFind p (v + 1).toNat = D) (hp : p v.toNat = true) : D = some v.toNat := by
  rw [show (v + 1).toNat = v.toNat + 1 by omega, downFind, if_pos hp] at h
  exact h.symm
theorem downFind_miss {p : Nat → Bool} {v : Int} {D : Option Nat} (h0 : 0 ≤ v) (h : downFind p (v + 1).toNat = D) (hp : p v.toNat = false) : downFind p (v - 1 + 1).toNat = D := by
  rw [show (v + 1).toNat = v.toNat + 1 by omega, downFind, hp] at h
  rw [show (v - 1 + 1).toNat = v.toNat by omega]
  exact h

set_option maxHeartbeats 4000000 in
theorem implMostSnow_any (x : Stand) (l : Int) (w : World) (hs : x.id.size ≤ 9223372036854775807) :
    Calls Try.prog 60 #[.agg #[.string x.id, .int .i64 x.trees, .int .i64 x.height, .int .i64 x.cover, .int .i64 x.gap], .int .i64 l] w (Ret (.tuple #[.int .i64 (mostA x l), .int .i64 (mostB x l)]) w) := by
  have ho := Own.new w 41 #[.string x.id, .int .i64 x.trees, .int .i64 x.height, .int .i64 x.cover, .int .i64 x.gap]
  have hlt := ho.lt
  rcases cases2 x.oneB (inB l 0 1000) with h | ⟨h, h'⟩ | ⟨h, h'⟩
  all_goals have HV := Lib.hid h
  · go_enter Try.func60, Try.ntmps60
    go_wp2_with fail
    refine (implStandvalid_any x _ hs).mono ?_
    rintro e w1 ⟨rfl, hb⟩
    go_wp2
    go_ret2
    exact Ret.ii (by simp [mostA, HV.out]) (by simp [mostB, HV.out]) (((Below.refl _ _).alloc (Nat.le_refl _) _).trans (hb.mono (by simp)))
  · have HR := Lib.hid h'
    have h00 : inB 0 0 2000 = true := rfl
    go_enter Try.func60, Try.ntmps60
    go_wp2_with fail
    refine (implStandvalid_any x _ hs).mono ?_
    rintro e w1 ⟨rfl, hb⟩
    go_wp2_with (go_at_call 104; refine (protectOk_any _ _ _).mono ?_; rintro e w' ⟨rfl, rfl⟩)
    go_ret2
    exact Ret.ii (by simp [mostA, HV.out, HR.out]) (by simp [mostB, HV.out, HR.out]) (((Below.refl _ _).alloc (Nat.le_refl _) _).trans (hb.mono (by simp)))
  · have HR := Lib.hid h'
    have h00 : inB 0 0 2000 = true := rfl
    obtain ⟨D, hD⟩ : ∃ D, mostO x l = D := ⟨_, rfl⟩
    have HD := Lib.hid hD
    clear hD
    go_enter Try.func60, Try.ntmps60
    go_wp2_with fail
    refine (implStandvalid_any x _ hs).mono ?_
    rintro e w1 ⟨rfl, hb⟩
    have ho1 := ho.below' hb
    go_wp2_with (go_at_call 104; refine (protectOk_any _ _ _).mono ?_; rintro e w' ⟨rfl, rfl⟩)
    clear h h' h00
    have hb1 := ((Below.refl w.heap.size w).alloc (Nat.le_refl _) (.cells #[.string x.id, .int .i64 x.trees, .int .i64 x.height, .int .i64 x.cover, .int .i64 x.gap] 41)).trans (hb.mono (by simp))
    go_loopg [6] 2001 (fun gk i wr => ∃ v : Int, -1 ≤ v ∧ v ≤ 2000 ∧ gk = (v + 1).toNat ∧ i = .int .i64 v ∧ Below w.heap.size w wr ∧ Own wr w.heap.size 41 #[.string x.id, .int .i64 x.trees, .int .i64 x.height, .int .i64 x.cover, .int .i64 x.gap] ∧ downFind (fun s => decide (l ≤ protF x s)) (v + 1).toNat = D)
    case atStart => exact ⟨2000, by omega, by omega, rfl, rfl, hb1, ho1, HD.out⟩
    case round =>
      obtain ⟨v, hv0, hv1, hgk, rfl, hbr, hor, hd⟩ := hrel
      have Hd := Lib.hid hd
      have Hgk := Lib.hid hgk
      clear hd hgk
      by_cases hlt' : 0 ≤ v
      · have c0 : wr.cell? ⟨w.heap.size, 0, none⟩ = some (.string x.id) := hor.cell 0
        have c1 : wr.cell? ⟨w.heap.size, 1, none⟩ = some (.int .i64 x.trees) := hor.cell 1
        have c2 : wr.cell? ⟨w.heap.size, 2, none⟩ = some (.int .i64 x.height) := hor.cell 2
        have c3 : wr.cell? ⟨w.heap.size, 3, none⟩ = some (.int .i64 x.cover) := hor.cell 3
        have c4 : wr.cell? ⟨w.heap.size, 4, none⟩ = some (.int .i64 x.gap) := hor.cell 4
        go_wp2_with fail
        refine (implProt_any x _ _ HV.out hlt' hv1).mono ?_
        rintro e w2 ⟨rfl, hb2⟩
        have hor2 := hor.below' hb2
        have hbb := hbr.trans (hb2.mono hbr.size)
        clear c0 c1 c2 c3 c4
        by_cases hc : l ≤ protF x v
        · have HE := Lib.hid (downFind_hit hlt' Hd.out (by simp only [Int.toNat_of_nonneg hlt', hc, decide_true]))
          go_wp2
          go_ret2
          exact Ret.ii (by simp only [mostA, HV.out, HR.out, HD.out, HE.out, and_self, if_true]; omega) (by simp [mostB, HV.out, HR.out, HD.out, HE.out]) hbb
        · have HE := Lib.hid (downFind_miss hlt' Hd.out (by simp only [Int.toNat_of_nonneg hlt', hc, decide_false]))
          go_wp2
          go_roundg v.toNat
          case measure => have := Hgk.out; omega
          case rel => exact ⟨v - 1, by omega, by omega, by omega, rfl, hbb, hor2, HE.out⟩
      · have HE : Hid (D = none) := by have := Hd.out; rw [show (v + 1).toNat = 0 by omega] at this; exact this.symm
        go_wp2
        go_ret2
        exact Ret.ii (by simp [mostA, HV.out, HR.out, HD.out, HE.out]) (by simp [mostB, HV.out, HR.out, HD.out, HE.out]) hbr

set_option maxHeartbeats 4000000 in
theorem specMostSnow_any (x : Stand) (l : Int) (w : World) (hs : x.id.size ≤ 9223372036854775807) :
    Calls Try.prog 59 #[.agg #[.string x.id, .int .i64 x.trees, .int .i64 x.height, .int .i64 x.cover, .int .i64 x.gap], .int .i64 l] w (Ret (.tuple #[.int .i64 (mostA x l), .int .i64 (mostB x l)]) w) := by
  have ho := Own.new w 41 #[.string x.id, .int .i64 x.trees, .int .i64 x.height, .int .i64 x.cover, .int .i64 x.gap]
  have hlt := ho.lt
  rcases cases2 x.oneB (inB l 0 1000) with h | ⟨h, h'⟩ | ⟨h, h'⟩
  all_goals have HV := Lib.hid h
  · go_enter Try.func59, Try.ntmps59
    go_wp2_with fail
    refine (specStandOne_any x _ _ _ ho.lt hs (ho.cell 0) (ho.cell 1) (ho.cell 2) (ho.cell 3) (ho.cell 4)).mono ?_
    rintro e w1 ⟨rfl, hb⟩
    go_wp2
    go_ret2
    exact Ret.ii (by simp [mostA, HV.out]) (by simp [mostB, HV.out]) (((Below.refl _ _).alloc (Nat.le_refl _) _).trans (hb.mono (by simp)))
  · have HR := Lib.hid h'
    go_enter Try.func59, Try.ntmps59
    go_wp2_with fail
    refine (specStandOne_any x _ _ _ ho.lt hs (ho.cell 0) (ho.cell 1) (ho.cell 2) (ho.cell 3) (ho.cell 4)).mono ?_
    rintro e w1 ⟨rfl, hb⟩
    go_wp2_with (go_at_call 103; refine (l10Least_any _ _).mono ?_; rintro e w' ⟨rfl, rfl⟩)
    go_ret2
    exact Ret.ii (by simp [mostA, HV.out, HR.out]) (by simp [mostB, HV.out, HR.out]) (((Below.refl _ _).alloc (Nat.le_refl _) _).trans (hb.mono (by simp)))
  · have HR := Lib.hid h'
    obtain ⟨D, hD⟩ : ∃ D, mostO x l = D := ⟨_, rfl⟩
    have HD := Lib.hid hD
    clear hD
    go_enter Try.func59, Try.ntmps59
    go_wp2_with fail
    refine (specStandOne_any x _ _ _ ho.lt hs (ho.cell 0) (ho.cell 1) (ho.cell 2) (ho.cell 3) (ho.cell 4)).mono ?_
    rintro e w1 ⟨rfl, hb⟩
    have ho1 := ho.below' hb
    go_wp2_with (go_at_call 103; refine (l10Least_any _ _).mono ?_; rintro e w' ⟨rfl, rfl⟩)
    clear h h'
    have hb1 := ((Below.refl w.heap.size w).alloc (Nat.le_refl _) (.cells #[.string x.id, .int .i64 x.trees, .int .i64 x.height, .int .i64 x.cover, .int .i64 x.gap] 41)).trans (hb.mono (by simp))
    go_loopg [6] 2001 (fun gk i wr => ∃ v : Int, -1 ≤ v ∧ v ≤ 2000 ∧ gk = (v + 1).toNat ∧ i = .int .i64 v ∧ Below w.heap.size w wr ∧ Own wr w.heap.size 41 #[.string x.id, .int .i64 x.trees, .int .i64 x.height, .int .i64 x.cover, .int .i64 x.gap] ∧ downFind (fun s => decide (l ≤ protF x s)) (v + 1).toNat = D)
    case atStart => exact ⟨2000, by omega, by omega, rfl, rfl, hb1, ho1, HD.out⟩
    case round =>
      obtain ⟨v, hv0, hv1, hgk, rfl, hbr, hor, hd⟩ := hrel
      have Hd := Lib.hid hd
      have Hgk := Lib.hid hgk
      clear hd hgk
      by_cases hlt' : 0 ≤ v
      · go_wp2_with fail
        refine (specProt_any x _ _ _ _ hor.lt HV.out hlt' hv1 (hor.cell 0) (hor.cell 1) (hor.cell 2) (hor.cell 3) (hor.cell 4)).mono ?_
        rintro e w2 ⟨rfl, hb2⟩
        have hor2 := hor.below' hb2
        have hbb := hbr.trans (hb2.mono hbr.size)
        by_cases hc : l ≤ protF x v
        · have HE := Lib.hid (downFind_hit hlt' Hd.out (by simp only [Int.toNat_of_nonneg hlt', hc, decide_true]))
          go_wp2
          go_ret2
          exact Ret.ii (by simp only [mostA, HV.out, HR.out, HD.out, HE.out, and_self, if_true]; omega) (by simp [mostB, HV.out, HR.out, HD.out, HE.out]) hbb
        · have HE := Lib.hid (downFind_miss hlt' Hd.out (by simp only [Int.toNat_of_nonneg hlt', hc, decide_false]))
          go_wp2
          go_roundg v.toNat
          case measure => have := Hgk.out; omega
          case rel => exact ⟨v - 1, by omega, by omega, by omega, rfl, hbb, hor2, HE.out⟩
      · have HE : Hid (D = none) := by have := Hd.out; rw [show (v + 1).toNat = 0 by omega] at this; exact this.symm
        go_wp2
        go_ret2
        exact Ret.ii (by simp [mostA, HV.out, HR.out, HD.out, HE.out]) (by simp [mostB, HV.out, HR.out, HD.out, HE.out]) hbr

end Go.Proofs.Ytlfnkgfkimanaaa
