/- Gains and loaded cells, and fields that are equal: the program's side. -/
import Derived.Test.YtllchmacipacnaaGreatDoorFldR
import Derived.Deep.RegionHeld3
import Derived.Deep.RegionLaw
import Derived.BigQuiet
namespace Go.Proofs.YtllchmacipacnaaGreatDoor
open Go.RowKit

/-- The steps of a field that may be taken, with what they bring. -/
def RanOk (f : Field) (ds : List Int) (n : Nat) (share : Int) (m : List Int) : Prop := fieldB f = true ∧ n ≤ 24 ∧ (ds.all fun y => inB y 0 3) = true ∧ 0 ≤ share ∧ share ≤ 1000 ∧ ∃ R C : Nat, f.rows = (R : Int) ∧ f.columns = (C : Int) ∧ runP R C share (lvF ds) f.masses n = some m
set_option maxHeartbeats 1000000 in
theorem implDriftGain_any (f : FieldR) (A : Option Addr) (n c : Nat) (ds : List Int) (share : Int) (w : World) (hin : f.In w) (hd : SliceOf w 1 i64cells A n ds) :
    Calls Tryz.prog 35 #[.agg #[.int .i64 f.rows, .int .i64 f.columns, .slice f.massesA f.massesN f.massesC], .slice A n c, .int .i64 share] w (fun e w' => ∃ (v : Value) (code : Int), e = .returned (.tuple #[v, .int .i64 code]) ∧ Below w.heap.size w w' ∧ (code ≠ 0 → v = .slice none 0 0) ∧ (code = 0 → ∃ m, RanOk f.val ds n share m ∧ OwnsL w' w.heap.size 2 1 i64cells v (gainF f.masses m))) := by
  have hB : Below w.heap.size w (w.alloc (.cells #[.int .i64 f.rows, .int .i64 f.columns, .slice f.massesA f.massesN f.massesC] 26)) := (Below.refl _ _).alloc (Nat.le_refl _) _
  have HB := Lib.hid hB
  have HO : Hid (BoxF w.heap.size f (w.alloc (.cells #[.int .i64 f.rows, .int .i64 f.columns, .slice f.massesA f.massesN f.massesC] 26))) := BoxF.new hin
  have HD := Lib.hid (hd.below hB)
  have HL := Lib.hid hd.len
  clear hB hin hd
  obtain ⟨y0, y1, y2, ly⟩ := HO.out.cells
  go_enter Tryz.func35, Tryz.ntmps35
  go_wp2_with fail
  clear y0 y1 y2 ly
  refine (fieldCode_any f A n c ds share _ HO.out.gi HD.out).mono ?_
  rintro e w1 ⟨rfl, hb1⟩
  have HB1 := Lib.hid (HB.out.trans (hb1.mono HB.out.size))
  have HO1 := Lib.hid (HO.out.grow hb1)
  have HD1 := Lib.hid (HD.out.below hb1)
  clear hb1
  obtain ⟨a0, ha0⟩ : ∃ a0, askC f.val ds share = a0 := ⟨_, rfl⟩
  rw [ha0]
  by_cases hz : a0 = 0
  rotate_left
  · have hne : (a0 == 0) = false := by simp [hz]
    have HZ := Lib.hid hz
    clear ha0 hz
    go_wp2
    go_ret2
    exact ⟨_, a0, rfl, HB1.out, fun _ => rfl, fun h => absurd h HZ.out⟩
  subst hz
  obtain ⟨hf, hn24, hds, hs0, hs1⟩ := askC_ok ha0
  obtain ⟨R, C, hR, hC, hR1, hR8, hC1, hC8, hl, h64, hmB⟩ := fieldB_nat hf
  have HF := Lib.hid hf
  have HDS := Lib.hid hds
  have HFR : Hid (f.rows = (R : Int)) := hR
  have HFC : Hid (f.columns = (C : Int)) := hC
  have HMB : Hid (massB f.masses = true) := hmB
  have HLM : Hid (f.masses.length = f.massesN) := HO1.out.gi.1.len
  have hn64 : f.massesN ≤ 64 := by have h1 : f.masses.length = R * C := hl; have := HLM.out; omega
  have hn1 : 1 ≤ f.massesN := by have h1 : f.masses.length = R * C := hl; have := HLM.out; have h2 : 1 ≤ R * C := Nat.mul_le_mul hR1 hC1; omega
  have hnl : n ≤ 24 := by rw [← HL.out]; exact hn24
  clear ha0 hf hn24 hds hR hC hl h64 hmB hR1 hR8 hC1 hC8
  obtain ⟨y0, y1, y2, ly⟩ := HO1.out.cells
  go_wp2_with fail
  clear y0 y1 y2 ly
  refine (run_any f R C A n c ds share w1 HO1.out.gi HF.out HFR.out HFC.out HD1.out HDS.out hs0 hs1).mono ?_
  rintro e w2 ⟨⟨pr, pc, pA, pN, pC, pm⟩, code, rfl, hb2, hyes, hpin⟩
  simp only at hyes hpin
  have HYES := Lib.hid hyes
  have HB2 := Lib.hid (HB1.out.trans (hb2.mono HB1.out.size))
  have HO2 := Lib.hid (HO1.out.grow hb2)
  clear hyes hb2
  by_cases hz : code = 0
  rotate_left
  · have hne : (code == 0) = false := by simp [hz]
    have HZ := Lib.hid hz
    clear hz
    have HBX : Hid (Below w.heap.size w (w2.alloc (.cells #[.int .i64 pr, .int .i64 pc, .slice pA pN pC] 26))) := HB2.out.alloc HB2.out.size _
    go_wp2
    go_ret2
    exact ⟨_, code, rfl, HBX.out, fun _ => rfl, fun h => absurd h HZ.out⟩
  subst hz
  obtain ⟨m, hrun, hpv, hpN, hown⟩ := HYES.out rfl
  have hpm : pm = m := by injection hpv
  subst hpm hpN
  have HRUN := Lib.hid hrun
  obtain ⟨hml, hmm⟩ := runP_ok HMB.out n hrun
  have HMM := Lib.hid hmm
  have HPS : Hid (SliceOf (w2.alloc (.cells #[.int .i64 pr, .int .i64 pc, .slice pA f.massesN pC] 26)) 1 i64cells pA f.massesN pm) := hpin.1.below ((Below.refl _ _).alloc (Nat.le_refl _) _)
  have HFS : Hid (SliceOf (w2.alloc (.cells #[.int .i64 pr, .int .i64 pc, .slice pA f.massesN pC] 26)) 1 i64cells f.massesA f.massesN f.masses) := HO2.out.gi.1.below ((Below.refl _ _).alloc (Nat.le_refl _) _)
  have HBX : Hid (Below w.heap.size w (w2.alloc (.cells #[.int .i64 pr, .int .i64 pc, .slice pA f.massesN pC] 26))) := HB2.out.alloc HB2.out.size _
  clear hrun hpv hown hml hmm hpin HYES
  obtain ⟨y0, y1, y2, ly⟩ := HO2.out.cells
  go_wp2_with fail
  clear y0 y1 y2 ly
  refine (gain_ok f.rows f.columns pr pc f.massesA pA f.massesN f.massesC pC f.masses pm _ HFS.out HPS.out hn1 hn64 HMB.out HMM.out).mono ?_
  rintro e w3 ⟨v, rfl, hov, hb3⟩
  have HOV := Lib.hid (hov.rebase HBX.out.size)
  have HB3 := Lib.hid (HBX.out.trans (hb3.mono HBX.out.size))
  clear hov hb3
  go_wp2
  go_ret2
  exact ⟨v, 0, rfl, HB3.out, fun h => absurd rfl h, fun _ => ⟨pm, ⟨HF.out, hnl, HDS.out, hs0, hs1, R, C, HFR.out, HFC.out, HRUN.out⟩, HOV.out⟩⟩
set_option maxHeartbeats 1000000 in
theorem implLoadedCells_any (f : FieldR) (A : Option Addr) (n c : Nat) (ds : List Int) (share least : Int) (w : World) (hin : f.In w) (hd : SliceOf w 1 i64cells A n ds) :
    Calls Tryz.prog 12 #[.agg #[.int .i64 f.rows, .int .i64 f.columns, .slice f.massesA f.massesN f.massesC], .slice A n c, .int .i64 share, .int .i64 least] w (fun e w' => ∃ (v : Value) (code : Int), e = .returned (.tuple #[v, .int .i64 code]) ∧ Below w.heap.size w w' ∧ (code ≠ 0 → v = .slice none 0 0) ∧ (code = 0 → ∃ m, RanOk f.val ds n share m ∧ m.length = f.massesN ∧ OwnsL w' w.heap.size 2 1 i64cells v (cellsTo (gainF f.masses m) least f.massesN))) := by
  have hB : Below w.heap.size w (w.alloc (.cells #[.int .i64 f.rows, .int .i64 f.columns, .slice f.massesA f.massesN f.massesC] 26)) := (Below.refl _ _).alloc (Nat.le_refl _) _
  have HB := Lib.hid hB
  have HO : Hid (BoxF w.heap.size f (w.alloc (.cells #[.int .i64 f.rows, .int .i64 f.columns, .slice f.massesA f.massesN f.massesC] 26))) := BoxF.new hin
  have HD := Lib.hid (hd.below hB)
  clear hB hin hd
  obtain ⟨y0, y1, y2, ly⟩ := HO.out.cells
  go_enter Tryz.func12, Tryz.ntmps12
  go_wp2_with fail
  clear y0 y1 y2 ly
  refine (validField_any f _ HO.out.gi).mono ?_
  rintro e w1 ⟨rfl, hb1⟩
  have HB1 := Lib.hid (HB.out.trans (hb1.mono HB.out.size))
  have HO1 := Lib.hid (HO.out.grow hb1)
  have HD1 := Lib.hid (HD.out.below hb1)
  clear hb1
  cases hf : fieldB f.val
  · go_wp2
    go_ret2
    exact ⟨_, 1, rfl, HB1.out, fun _ => rfl, fun h => absurd h (by decide)⟩
  have HF := Lib.hid hf
  clear hf
  cases hms : inB least 0 1000000
  · go_wp2_with fail
    refine (within_any least 0 1000000 w1).mono ?_
    rintro e w2 ⟨rfl, rfl⟩
    rw [hms]
    go_wp2
    go_ret2
    exact ⟨_, 2, rfl, HB1.out, fun _ => rfl, fun h => absurd h (by decide)⟩
  go_wp2_with fail
  refine (within_any least 0 1000000 w1).mono ?_
  rintro e w2 ⟨rfl, rfl⟩
  rw [hms]
  have ⟨hl0, hl1⟩ := inB_iff.1 hms
  clear hms
  obtain ⟨y0, y1, y2, ly⟩ := HO1.out.cells
  go_wp2_with fail
  clear y0 y1 y2 ly
  refine (implDriftGain_any f A n c ds share w1 HO1.out.gi HD1.out).mono ?_
  rintro e w2 ⟨v, code, rfl, hb2, hno, hyes⟩
  have HB2 := Lib.hid (HB1.out.trans (hb2.mono HB1.out.size))
  have HYES := Lib.hid hyes
  clear hyes hb2
  by_cases hz : code = 0
  rotate_left
  · have hne : (code == 0) = false := by simp [hz]
    obtain rfl := hno hz
    have HZ := Lib.hid hz
    clear hz hno
    go_wp2
    go_ret2
    exact ⟨_, code, rfl, HB2.out, fun _ => rfl, fun h => absurd h HZ.out⟩
  subst hz
  obtain ⟨m, hran, hown⟩ := HYES.out rfl
  have HRAN := Lib.hid hran
  obtain ⟨_, _, _, _, _, R, C, _, _, hrun⟩ := hran
  obtain ⟨R', C', _, _, _, _, _, _, hl, h64, hmB⟩ := fieldB_nat HF.out
  have HLM : Hid (f.masses.length = f.massesN) := HO1.out.gi.1.len
  have hn64 : f.massesN ≤ 64 := by have h1 : f.masses.length = R' * C' := hl; have := HLM.out; omega
  obtain ⟨hml0, _⟩ := runP_ok (show massB f.val.masses = true from hmB) n hrun
  have hml : m.length = f.masses.length := hml0
  have HML : Hid (m.length = f.massesN) := hml.trans HLM.out
  have hgl : (gainF f.masses m).length = f.massesN := by rw [gainF_len hml]; exact HLM.out
  obtain ⟨gs, hgs⟩ : ∃ gs, gainF f.masses m = gs := ⟨_, rfl⟩
  rw [hgs] at hown hgl
  have HGS := Lib.hid hgs
  have HGL := Lib.hid hgl
  obtain ⟨VA, vc, rfl, _, _, hsl⟩ := hown.slice i64cells_len
  rw [hgl] at hsl ⊢
  have HSL := Lib.hid hsl
  obtain ⟨N, hN⟩ : ∃ N, f.massesN = N := ⟨_, rfl⟩
  have HN := Lib.hid hN
  rw [hN] at HSL HGL HML hn64 ⊢
  clear hno hown hrun hml0 hml hgl hgs hsl hl h64 hmB HYES hN
  go_wp2
  go_loopg [12, 35] N (fun gk s i wr => ∃ (k : Nat) (v : Value), k ≤ N ∧ gk = N - k ∧ i = .int .i64 k ∧ v = s ∧ Below w2.heap.size w2 wr ∧ OwnsL wr w2.heap.size 2 1 i64cells v (cellsTo gs least k))
  case atStart => exact ⟨0, _, Nat.zero_le _, rfl, rfl, rfl, Below.refl _ _, OwnsL.nil_ _ _ _ _ _⟩
  case round =>
    obtain ⟨k, v, hk, hgk, rfl, rfl, hb, hown⟩ := hrel
    have Hgk := Lib.hid hgk
    have HOWN := Lib.hid hown
    have HBR := Lib.hid hb
    clear hgk hown hb
    by_cases hlt : k < N
    rotate_left
    · obtain rfl : k = N := by omega
      go_wp2
      go_ret2
      exact ⟨v, 0, rfl, HB2.out.trans (HBR.out.mono HB2.out.size), fun h => absurd rfl h, fun _ => ⟨m, HRAN.out, by rw [HN.out]; exact HML.out, by rw [HGS.out, HN.out]; exact HOWN.out.rebase HB2.out.size⟩⟩
    obtain ⟨b1, o1, x, rfl, hb1, hxk, x0⟩ := ints_at (HSL.out.below HBR.out) hlt
    have hcl := cellsTo_len (gs := gs) (least := least) k
    have HCL := Lib.hid hcl
    have HLX : Hid (lvF gs k = x) := lvF_at hxk
    clear hxk hcl
    by_cases hge : least ≤ x
    · have HST : Hid (cellsTo gs least (k + 1) = cellsTo gs least k ++ [(k : Int)]) := by rw [Hid, cellsTo, HLX.out, if_pos hge]
      obtain ⟨cl, hcl⟩ : ∃ cl, cellsTo gs least k = cl := ⟨_, rfl⟩
      rw [hcl] at HST HOWN HCL
      clear hcl
      go_wp2_with (at_builtin; refine wpList_push (by rfl) (.tmp 43) (.tmp 45) 24 (by rfl) w2.heap.size 2 1 Tryz.underlying24 infoI64 (by rfl) (by decide) i64cells i64cells_len i64cells_one _ v cl (k : Int) (by rfl) (by rfl) HOWN.out (by rfl) (by have := HCL.out; omega) (by decide) HBR.out.size ?_)
      intro v' w' hown' hb' _
      have HBW := Lib.hid (HBR.out.trans hb')
      have HW : Hid (OwnsL w' w2.heap.size 2 1 i64cells v' (cellsTo gs least (k + 1))) := by rw [Hid, HST.out]; exact hown'
      clear hown' hb'
      go_wp2
      go_roundg (N - (k + 1))
      case measure => have := Hgk.out; omega
      case rel => exact ⟨k + 1, v', by omega, rfl, by go_num, rfl, HBW.out, HW.out⟩
    · have HST : Hid (cellsTo gs least (k + 1) = cellsTo gs least k) := by rw [Hid, cellsTo, HLX.out, if_neg hge]
      have hge2 : decide (least ≤ x) = false := decide_eq_false hge
      clear hge
      go_wp2
      go_roundg (N - (k + 1))
      case measure => have := Hgk.out; omega
      case rel => exact ⟨k + 1, v, by omega, rfl, by go_num, rfl, HBR.out, by rw [HST.out]; exact HOWN.out⟩
set_option maxHeartbeats 1000000 in
theorem equalI_ok (A B : Option Addr) (n c1 c2 : Nat) (xs : List Int) (w : World) (hx : SliceOf w 1 i64cells A n xs) (hy : SliceOf w 1 i64cells B n xs) :
    Calls Tryz.prog 32 #[.slice A n c1, .slice B n c2] w (Ret (.bool true) w) := by
  have hn := hx.le
  have HX := Lib.hid hx
  have HY := Lib.hid hy
  clear hx hy
  go_enter Tryz.func32, Tryz.ntmps32
  go_wp2
  go_loopg [13] n (fun gk i wr => ∃ k : Nat, k ≤ n ∧ gk = n - k ∧ i = .int .i64 k ∧ Below w.heap.size w wr)
  case atStart => exact ⟨0, Nat.zero_le _, rfl, rfl, Below.refl _ _⟩
  case round =>
    obtain ⟨k, hk, hgk, rfl, hb⟩ := hrel
    have Hgk := Lib.hid hgk
    clear hgk
    by_cases hlt : k < n
    · obtain ⟨b1, o1, x, rfl, hb1, hxk, x0⟩ := ints_at (HX.out.below hb) hlt
      obtain ⟨b2, o2, y, rfl, hb2, hyk, y0⟩ := ints_at (HY.out.below hb) hlt
      rw [hxk] at hyk
      injection hyk with hyk
      subst hyk
      clear hxk
      have hsub := fun (g : Sub wr) b o (h : b < wr.heap.size) => g.cell b o h
      go_wp2_with fail
      refine wp_region_sub (by kernel_rfl) (by kernel_rfl) ?_
      repeat (go_big_quiet_step (fail))
      refine wpQuiet_nil ?_
      intro wg hg
      have hbg := hb.trans (hg.mono hb.size)
      clear hsub x0 y0
      go_wp2
      go_roundg (n - (k + 1))
      case measure => have := Hgk.out; omega
      case rel => exact ⟨k + 1, by omega, rfl, by go_num, hbg⟩
    · go_wp2
      go_ret
      exact Ret.b rfl hb
set_option maxHeartbeats 1000000 in
theorem sameField_ok (fr fc : Int) (fA gA : Option Addr) (n fC gC : Nat) (ms : List Int) (w : World) (hf : SliceOf w 1 i64cells fA n ms) (hg : SliceOf w 1 i64cells gA n ms) :
    Calls Tryz.prog 10 #[.agg #[.int .i64 fr, .int .i64 fc, .slice fA n fC], .agg #[.int .i64 fr, .int .i64 fc, .slice gA n gC]] w (Ret (.bool true) w) := by
  obtain ⟨W2, hW2⟩ : ∃ W2, (w.alloc (.cells #[.int .i64 fr, .int .i64 fc, .slice fA n fC] 26)).alloc (.cells #[.int .i64 fr, .int .i64 fc, .slice gA n gC] 26) = W2 := ⟨_, rfl⟩
  have hB : Below w.heap.size w W2 := by rw [← hW2]; exact ((Below.refl _ _).alloc (Nat.le_refl _) _).alloc (by simp) _
  have HOF : Hid (Own W2 w.heap.size 26 #[.int .i64 fr, .int .i64 fc, .slice fA n fC]) := by rw [Hid, ← hW2]; exact (Own.new w _ _).alloc _
  have HOG : Hid (Own W2 (w.heap.size + 1) 26 #[.int .i64 fr, .int .i64 fc, .slice gA n gC]) := by have := Own.new (w.alloc (.cells #[.int .i64 fr, .int .i64 fc, .slice fA n fC] 26)) 26 #[.int .i64 fr, .int .i64 fc, .slice gA n gC]; rw [Hid, ← hW2]; simpa using this
  have HB := Lib.hid hB
  have HF := Lib.hid (hf.below hB)
  have HG := Lib.hid (hg.below hB)
  have hq1 : (fr == fr) = true := beq_self_eq_true _
  have hq2 : (fc == fc) = true := beq_self_eq_true _
  clear hf hg hB
  have x0 := HOF.out.cell 0
  have x1 := HOF.out.cell 1
  have x2 := HOF.out.cell 2
  have z0 := HOG.out.cell 0
  have z1 := HOG.out.cell 1
  have z2 := HOG.out.cell 2
  simp at x0 x1 x2 z0 z1 z2
  go_enter Tryz.func10, Tryz.ntmps10
  go_wp2_with fail
  try rw [hW2]
  refine (equalI_ok fA gA n fC gC ms W2 HF.out HG.out).mono ?_
  rintro e w3 ⟨rfl, hb3⟩
  have HB3 := Lib.hid (HB.out.trans (hb3.mono HB.out.size))
  clear x0 x1 x2 z0 z1 z2 hb3
  go_wp2
  go_ret
  exact Ret.b rfl HB3.out

end Go.Proofs.YtllchmacipacnaaGreatDoor
