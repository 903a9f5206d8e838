/- When a field does not change any more: the program's side. -/
import Derived.Test.YtllchmacipacnaaGreatDoorFldL
import Derived.Test.YtllchmacipacnaaGreatDoorHasP
import Derived.Deep.RegionHeld3
import Derived.Deep.RegionLaw
import Derived.BigQuiet
namespace Go.Proofs.YtllchmacipacnaaGreatDoor
open Go.RowKit

/-- A field that is settled behind some steps. -/
def SetOk (f : Field) (share limit : Int) (j : Nat) : Prop := j ≤ 100 ∧ fieldB f = true ∧ 0 ≤ share ∧ share ≤ 1000 ∧ 0 ≤ limit ∧ limit ≤ 1000000 ∧ ∃ (R C : Nat) (m : List Int), f.rows = (R : Int) ∧ f.columns = (C : Int) ∧ runP R C share (fun _ => 0) f.masses j = some m ∧ massB (stepF R C 0 share m) = true ∧ ∀ x ∈ gainF m (stepF R C 0 share m), max x (-x) ≤ limit
theorem lvF_zero : lvF [0] = fun _ => (0 : Int) := by
  funext k
  unfold lvF
  cases k <;> simp
theorem gain_in {ms os : List Int} (hm : massB ms = true) (ho : massB os = true) {x : Int} (h : x ∈ gainF ms os) : -1000000 ≤ x ∧ x ≤ 1000000 := by
  obtain ⟨k, hk⟩ := List.getElem?_of_mem h
  unfold gainF at hk
  rw [List.getElem?_zipWith] at hk
  cases h1 : os[k]? with
  | none => rw [h1] at hk; cases hk
  | some a =>
    cases h2 : ms[k]? with
    | none => rw [h1, h2] at hk; cases hk
    | some b =>
      rw [h1, h2] at hk
      injection hk with hk
      have := massB_at ho h1
      have := massB_at hm h2
      omega
def farB (limit x : Int) : Bool := decide (limit < max x (-x))
set_option maxHeartbeats 400000 in
theorem settled1_any (x limit : Int) (b0 : Nat) (w : World) (h0 : w.cell? ⟨b0, 0, none⟩ = some (.int .i64 limit)) (hx : -1000000 ≤ x ∧ x ≤ 1000000) :
    Calls Tryz.prog 41 #[.int .i64 x, .pointer (some ⟨b0, 0, none⟩)] w (Ret (.bool (farB limit x)) w) := by
  have hsub := fun (g : Sub w) b o (h : b < w.heap.size) => g.cell b o h
  have lb : b0 < w.heap.size := by
    by_cases h : b0 < w.heap.size
    · exact h
    · rw [World.cell?] at h0; simp [Array.getElem?_eq_none (Nat.le_of_not_lt h)] at h0
  go_enter Tryz.func41, Tryz.ntmps41
  go_wp2_with fail
  refine wp_region_sub (by kernel_rfl) (by kernel_rfl) ?_
  repeat (go_big_quiet_step (exact Calls.sub_of_same (abs_any x _ (by omega) (by omega))))
  refine wpQuiet_nil ?_
  intro wg hg
  clear hsub h0
  go_wp2
  go_ret
  exact Ret.b rfl hg
set_option maxHeartbeats 1000000 in
theorem indexFar_any (limit : Int) (b0 : Nat) (A : Option Addr) (n c : Nat) (xs : List Int) (w : World) (hx : SliceOf w 1 i64cells A n xs) (hb0 : b0 < w.heap.size) (h0 : w.cell? ⟨b0, 0, none⟩ = some (.int .i64 limit)) (hxs : ∀ x ∈ xs, -1000000 ≤ x ∧ x ≤ 1000000) :
    Calls Tryz.prog 60 #[.slice A n c, .func (.func 41) #[] #[.pointer (some ⟨b0, 0, none⟩)]] w (Ret (.int .i64 (findI (farB limit) xs)) w) := by
  have hn := hx.le
  have HL := Lib.hid hx.len
  have HX := Lib.hid hx
  have H0 := Lib.hid h0
  have HB0 := Lib.hid hb0
  have HXS := Lib.hid hxs
  clear h0 hx hb0 hxs
  go_enter Tryz.func60, Tryz.ntmps60
  go_wp2
  go_loopg [8] n (fun gk i wr => ∃ k : Nat, k ≤ n ∧ gk = n - k ∧ i = .int .i64 k ∧ Below w.heap.size w wr ∧ NoneTo (farB limit) xs k)
  case atStart => exact ⟨0, Nat.zero_le _, rfl, rfl, Below.refl _ _, NoneTo.zero⟩
  case round =>
    obtain ⟨k, hk, hgk, rfl, hb, hall⟩ := hrel
    have Hall := Lib.hid hall
    have Hgk := Lib.hid hgk
    have HBR := Lib.hid hb
    clear hall hgk hb
    by_cases hlt : k < n
    · obtain ⟨b1', o1, x, rfl, hb1, hxk, x0⟩ := ints_at (HX.out.below HBR.out) hlt
      have Hx := Lib.hid hxk
      have HC0 : Hid (wr.cell? ⟨b0, 0, none⟩ = some (.int .i64 limit)) := (HBR.out.cell HB0.out).trans H0.out
      have hxb := HXS.out x (List.mem_of_getElem? hxk)
      clear hxk
      cases hc : farB limit x
      · have HC := Lib.hid hc
        go_wp2_with (go_at_call 41; refine (settled1_any x limit b0 _ HC0.out hxb).mono ?_; rintro e w' ⟨rfl, hb'⟩; rw [HC.out])
        have HBS := Lib.hid (HBR.out.trans (hb'.mono HBR.out.size))
        go_roundg (n - (k + 1))
        case measure => have := Hgk.out; omega
        case rel => exact ⟨k + 1, by omega, rfl, by go_num, HBS.out, Hall.out.step Hx.out HC.out⟩
      · have HC := Lib.hid hc
        go_wp2_with (go_at_call 41; refine (settled1_any x limit b0 _ HC0.out hxb).mono ?_; rintro e w' ⟨rfl, hb'⟩; rw [HC.out])
        have HBS := Lib.hid (HBR.out.trans (hb'.mono HBR.out.size))
        go_ret
        exact Ret.i (findI_hit Hall.out Hx.out HC.out).symm HBS.out
    · go_wp2
      go_ret
      exact Ret.i (findI_none (n := k) (by rw [HL.out]; omega) Hall.out).symm HBR.out
set_option maxHeartbeats 1000000 in
theorem containsFar_any (limit : Int) (b0 : Nat) (A : Option Addr) (n c : Nat) (xs : List Int) (w : World) (hx : SliceOf w 1 i64cells A n xs) (hb0 : b0 < w.heap.size) (h0 : w.cell? ⟨b0, 0, none⟩ = some (.int .i64 limit)) (hxs : ∀ x ∈ xs, -1000000 ≤ x ∧ x ≤ 1000000) :
    Calls Tryz.prog 39 #[.slice A n c, .func (.func 41) #[] #[.pointer (some ⟨b0, 0, none⟩)]] w (Ret (.bool (xs.any (farB limit))) w) := by
  have HF := Lib.hid (findI_any (farB limit) xs)
  go_enter Tryz.func39, Tryz.ntmps39
  go_wp2_with fail
  refine (indexFar_any limit b0 _ _ _ xs _ hx hb0 h0 hxs).mono ?_
  rintro e w' ⟨rfl, hb⟩
  go_wp2
  go_ret
  exact Ret.b HF.out hb
set_option maxHeartbeats 2000000 in
theorem implSettled_any (f : FieldR) (share limit : Int) (w : World) (hin : f.In w) :
    Calls Tryz.prog 17 #[.agg #[.int .i64 f.rows, .int .i64 f.columns, .slice f.massesA f.massesN f.massesC], .int .i64 share, .int .i64 limit] w (fun e w' => ∃ k code : Int, e = .returned (.tuple #[.int .i64 k, .int .i64 code]) ∧ Below w.heap.size w w' ∧ (code ≠ 0 → k = 0) ∧ (code = 0 → ∃ j : Nat, k = (j : Int) ∧ SetOk f.val share limit j)) := by
  obtain ⟨W2, hW2⟩ : ∃ W2, (w.alloc (.cells #[.int .i64 f.rows, .int .i64 f.columns, .slice f.massesA f.massesN f.massesC] 26)).alloc (.cells #[.int .i64 limit] 2) = W2 := ⟨_, rfl⟩
  have hB : Below w.heap.size w W2 := by rw [← hW2]; exact ((Below.refl _ _).alloc (Nat.le_refl _) _).alloc (by simp) _
  have HOF : Hid (BoxF w.heap.size f W2) := ⟨by rw [← hW2]; exact (Own.new w _ _).alloc _, hin.below hB⟩
  have HOL : Hid (Own W2 (w.heap.size + 1) 2 #[.int .i64 limit]) := by have := Own.new (w.alloc (.cells #[.int .i64 f.rows, .int .i64 f.columns, .slice f.massesA f.massesN f.massesC] 26)) 2 #[.int .i64 limit]; rw [Hid, ← hW2]; simpa using this
  have HSZ : Hid (W2.heap.size = w.heap.size + 2) := by rw [Hid, ← hW2]; simp
  have HB := Lib.hid hB
  clear hin hB
  obtain ⟨y0, y1, y2, ly⟩ := HOF.out.cells
  go_enter Tryz.func17, Tryz.ntmps17
  go_wp2_with fail
  try rw [hW2]
  clear hW2 y0 y1 y2 ly
  refine (fieldCode_any f none 0 0 [] share W2 HOF.out.gi SliceOf.nil_).mono ?_
  rintro e w1 ⟨rfl, hb1⟩
  have HB1 := Lib.hid (HB.out.trans (hb1.mono HB.out.size))
  have HO1 := Lib.hid (HOF.out.grow hb1)
  have HL1 := Lib.hid (HOL.out.below' hb1)
  have HS1 : Hid (w.heap.size + 2 ≤ w1.heap.size) := by rw [Hid, ← HSZ.out]; exact hb1.size
  clear hb1
  obtain ⟨a0, ha0⟩ : ∃ a0, askC f.val [] share = a0 := ⟨_, rfl⟩
  rw [ha0]
  by_cases hz : a0 = 0
  rotate_left
  · have hne : (a0 == 0) = false := by simp [hz]
    have HZ := Lib.hid hz
    clear ha0 hz
    go_wp2
    go_ret2
    exact ⟨0, a0, rfl, HB1.out, fun _ => rfl, fun h => absurd h HZ.out⟩
  subst hz
  obtain ⟨hf, _, _, hs0, hs1⟩ := askC_ok ha0
  obtain ⟨R, C, hR, hC, hR1, hR8, hC1, hC8, hl, h64, hmB⟩ := fieldB_nat hf
  have HF := Lib.hid hf
  have HFR : Hid (f.rows = (R : Int)) := hR
  have HFC : Hid (f.columns = (C : Int)) := hC
  have HMB : Hid (massB f.masses = true) := hmB
  have HLM : Hid (f.masses.length = f.massesN) := HO1.out.gi.1.len
  have HNM : Hid (f.massesN = R * C) := HLM.out.symm.trans hl
  have hn64 : f.massesN ≤ 64 := by have := HNM.out; omega
  have hn1 : 1 ≤ f.massesN := by have := HNM.out; have h2 : 1 ≤ R * C := Nat.mul_le_mul hR1 hC1; omega
  clear ha0 hf hR hC hl h64 hmB
  have x0 := HL1.out.cell 0
  have lx := HL1.out.lt
  simp at x0
  go_wp2_with fail
  clear x0 lx
  refine (within_any limit 0 1000000 w1).mono ?_
  rintro e w2 ⟨rfl, rfl⟩
  cases hlm : inB limit 0 1000000
  · go_wp2
    go_ret2
    exact ⟨0, 2, rfl, HB1.out, fun _ => rfl, fun h => absurd h (by decide)⟩
  have ⟨hl0, hl1⟩ := inB_iff.1 hlm
  clear hlm
  go_wp2
  go_loopg [23] 101 (fun gk i wr => ∃ (k : Nat) (m : List Int) (A : Option Addr) (cc : Nat), k ≤ 101 ∧ gk = 101 - k ∧ i = .int .i64 k ∧ runP R C share (fun _ => 0) f.masses k = some m ∧ Below w.heap.size w wr ∧ Own wr w.heap.size 26 #[.int .i64 f.rows, .int .i64 f.columns, .slice A f.massesN cc] ∧ (⟨f.rows, f.columns, A, f.massesN, cc, m⟩ : FieldR).In wr ∧ Own wr (w.heap.size + 1) 2 #[.int .i64 limit])
  case atStart => exact ⟨0, f.masses, f.massesA, f.massesC, Nat.zero_le _, rfl, rfl, rfl, HB1.out, HO1.out.own, HO1.out.gi, HL1.out⟩
  case round =>
    obtain ⟨k, m, A, cc, hk, hgk, rfl, hrun, hb, ho, hi, hol⟩ := hrel
    have Hgk := Lib.hid hgk
    have HRUN := Lib.hid hrun
    have HBR := Lib.hid hb
    have HOR := Lib.hid ho
    have HIR := Lib.hid hi
    have HLR := Lib.hid hol
    obtain ⟨hml, hmm⟩ := runP_ok HMB.out k hrun
    have HMM := Lib.hid hmm
    have HML : Hid (m.length = f.massesN) := hml.trans HLM.out
    have HFB : Hid (fieldB ⟨f.rows, f.columns, m⟩ = true) := by rw [Hid, HFR.out, HFC.out]; exact fieldB_of hR1 hR8 hC1 hC8 (by rw [HML.out]; exact HNM.out) hmm
    clear hgk hrun hb ho hi hol hml hmm
    by_cases hlt : k < 101
    rotate_left
    · obtain rfl : k = 101 := by omega
      go_wp2
      go_ret2
      exact ⟨0, 3, rfl, HBR.out, fun _ => rfl, fun h => absurd h (by decide)⟩
    have y0 := HOR.out.cell 0
    have y1 := HOR.out.cell 1
    have y2 := HOR.out.cell 2
    have ly := HOR.out.lt
    simp at y0 y1 y2
    obtain ⟨wa, hwa⟩ : ∃ wa, wr.alloc (.cells #[.int .i64 0] 2) = wa := ⟨_, rfl⟩
    have hba : Below wr.heap.size wr wa := by rw [← hwa]; exact (Below.refl _ _).alloc (Nat.le_refl _) _
    have HDA : Hid (SliceOf wa 1 i64cells (some ⟨wr.heap.size, 0, none⟩) 1 [0]) := by rw [Hid, ← hwa]; exact sliceOf_new wr 2 [0] (by simp)
    have HBA := Lib.hid (HBR.out.trans (hba.mono HBR.out.size))
    have HOA := Lib.hid (HOR.out.below' hba)
    have HIA := Lib.hid (HIR.out.below hba)
    have HLA := Lib.hid (HLR.out.below' hba)
    clear hba
    go_wp2_with fail
    try rw [hwa]
    clear hwa y0 y1 y2 ly
    refine (run_any (⟨f.rows, f.columns, A, f.massesN, cc, m⟩ : FieldR) R C (some ⟨wr.heap.size, 0, none⟩) 1 1 [0] share wa HIA.out HFB.out HFR.out HFC.out HDA.out (by decide) hs0 hs1).mono ?_
    rintro e w5 ⟨⟨pr, pc, pA, pN, pC, pm⟩, code, rfl, hb5, hyes, hpin⟩
    simp only at hyes hpin
    have HYES := Lib.hid hyes
    have HB5 := Lib.hid (HBA.out.trans (hb5.mono HBA.out.size))
    have HO5 := Lib.hid (HOA.out.below' hb5)
    have HI5 := Lib.hid (HIA.out.below hb5)
    have HL5 := Lib.hid (HLA.out.below' hb5)
    have HA5 : Hid (w.heap.size + 2 ≤ wa.heap.size) := by have := HLA.out.lt; rw [Hid]; omega
    clear hyes hb5
    by_cases hz : code = 0
    rotate_left
    · have hne : (code == 0) = false := by simp [hz]
      have HZ := Lib.hid hz
      clear hz
      have HBX : Hid (Below w.heap.size w (w5.alloc (.cells #[.int .i64 pr, .int .i64 pc, .slice pA pN pC] 26))) := HB5.out.alloc HB5.out.size _
      go_wp2
      go_ret2
      exact ⟨0, code, rfl, HBX.out, fun _ => rfl, fun h => absurd h HZ.out⟩
    subst hz
    obtain ⟨m', hrun, hpv, hpN, hown⟩ := HYES.out rfl
    injection hpv with hp1 hp2 hp3
    subst hp1 hp2 hp3 hpN
    obtain ⟨hst0, hmst⟩ := runP_one hrun
    have hst : pm = stepF R C 0 share m := hst0
    have HST := Lib.hid hst
    have HMS := Lib.hid hmst
    have HPM : Hid (massB pm = true) := by rw [Hid, hst]; exact hmst
    obtain ⟨w6, hw6⟩ : ∃ w6, w5.alloc (.cells #[.int .i64 f.rows, .int .i64 f.columns, .slice pA f.massesN pC] 26) = w6 := ⟨_, rfl⟩
    obtain ⟨X6, hX6⟩ : ∃ X6, w5.heap.size = X6 := ⟨_, rfl⟩
    have hb6 : Below w5.heap.size w5 w6 := by rw [← hw6]; exact (Below.refl _ _).alloc (Nat.le_refl _) _
    have HN6 : Hid (Own w6 X6 26 #[.int .i64 f.rows, .int .i64 f.columns, .slice pA f.massesN pC]) := by rw [Hid, ← hw6, ← hX6]; exact Own.new _ _ _
    have HB6 := Lib.hid (HB5.out.trans (hb6.mono HB5.out.size))
    have HO6 := Lib.hid (HO5.out.below' hb6)
    have HI6 := Lib.hid (HI5.out.below hb6)
    have HL6 := Lib.hid (HL5.out.below' hb6)
    have HW6 := Lib.hid (hown.below' hb6)
    have HP6 := Lib.hid (hpin.below hb6)
    clear hrun hown hst0 hst hmst hb6 hpin HYES
    have y0 := HO6.out.cell 0
    have y1 := HO6.out.cell 1
    have y2 := HO6.out.cell 2
    have ly := HO6.out.lt
    have z0 := HN6.out.cell 0
    have z1 := HN6.out.cell 1
    have z2 := HN6.out.cell 2
    have lz := HN6.out.lt
    simp at y0 y1 y2 z0 z1 z2
    have hw6' := hw6
    go_wp2_with fail
    try rw [hw6]
    try rw [hX6]
    clear y0 y1 y2 ly z0 z1 z2 lz
    refine (gain_ok f.rows f.columns f.rows f.columns A pA f.massesN cc pC m pm w6 HI6.out.1 HP6.out.1 hn1 hn64 HMM.out HPM.out).mono ?_
    rintro e w7 ⟨v, rfl, hov, hb7⟩
    have hgl : (gainF m pm).length = f.massesN := by rw [gainF_len (by rw [HP6.out.1.len, HML.out]), HML.out]
    obtain ⟨VA, vc, rfl, _, _, hvs⟩ := hov.slice i64cells_len
    rw [hgl] at hvs ⊢
    have HVS := Lib.hid hvs
    have HB7 := Lib.hid (HB6.out.trans (hb7.mono HB6.out.size))
    have HO7 := Lib.hid (HO6.out.below' hb7)
    have HN7 := Lib.hid (HN6.out.below' hb7)
    have HL7 := Lib.hid (HL6.out.below' hb7)
    have HW7 := Lib.hid (HW6.out.below' hb7)
    clear hov hvs hb7 hgl hw6 hw6'
    go_wp2_with fail
    refine (containsFar_any limit (w.heap.size + 1) VA f.massesN vc (gainF m pm) w7 HVS.out HL7.out.lt (HL7.out.cell 0) (fun x hx => gain_in HMM.out HPM.out hx)).mono ?_
    rintro e w8 ⟨rfl, hb8⟩
    have HB8 := Lib.hid (HB7.out.trans (hb8.mono HB7.out.size))
    have HO8 := Lib.hid (HO7.out.below' hb8)
    have HN8 := Lib.hid (HN7.out.below' hb8)
    have HL8 := Lib.hid (HL7.out.below' hb8)
    have HW8 := Lib.hid (HW7.out.below' hb8)
    clear hb8
    cases hany : (gainF m pm).any (farB limit)
    · have HOK : Hid (SetOk f.val share limit k) := by
        refine ⟨by omega, HF.out, hs0, hs1, hl0, hl1, R, C, m, HFR.out, HFC.out, HRUN.out, HMS.out, fun x hx => ?_⟩
        rw [← HST.out] at hx
        have h1 := List.any_eq_false.1 hany x hx
        unfold farB at h1
        simpa using h1
      clear hany
      go_wp2
      go_ret2
      exact ⟨k, 0, rfl, HB8.out, fun h => absurd rfl h, fun _ => ⟨k, rfl, HOK.out⟩⟩
    have HRN : Hid (runP R C share (fun _ => 0) f.masses (k + 1) = some pm) := by rw [Hid, HST.out]; exact runP_on HRUN.out HMS.out
    clear hany
    have y0 := HO8.out.cell 0
    have y1 := HO8.out.cell 1
    have y2 := HO8.out.cell 2
    have dy := HO8.out.frozen
    have ly := HO8.out.lt
    have z0 := HN8.out.cell 0
    have z1 := HN8.out.cell 1
    have z2 := HN8.out.cell 2
    have lz := HN8.out.lt
    simp at y0 y1 y2 z0 z1 z2
    have h3 := put3 HO8.out (.int .i64 f.rows) (.int .i64 f.columns) (.slice pA f.massesN pC) HB8.out (Nat.le_refl _)
    have h4 : OwnsL (((w8.setCell ⟨w.heap.size, 0, none⟩ (.int .i64 f.rows)).setCell ⟨w.heap.size, 1, none⟩ (.int .i64 f.columns)).setCell ⟨w.heap.size, 2, none⟩ (.slice pA f.massesN pC)) wa.heap.size 2 1 i64cells (.slice pA f.massesN pC) pm := HW8.out.kept (fun b hb => put3_heap w8 w.heap.size _ _ _ b (by have h1 := (HW8.out.lt b hb).1; have h2 := HA5.out; omega))
    have h5 : Own (((w8.setCell ⟨w.heap.size, 0, none⟩ (.int .i64 f.rows)).setCell ⟨w.heap.size, 1, none⟩ (.int .i64 f.columns)).setCell ⟨w.heap.size, 2, none⟩ (.slice pA f.massesN pC)) (w.heap.size + 1) 2 #[.int .i64 limit] := (put3_heap w8 w.heap.size _ _ _ _ (by omega)).trans HL8.out
    have H3 := Lib.hid h3
    have H4 := Lib.hid (FieldR.in_of (p := ⟨f.rows, f.columns, pA, f.massesN, pC, pm⟩) h4)
    have H5 := Lib.hid h5
    clear h3 h4 h5
    go_wp2
    go_roundg (101 - (k + 1))
    case measure => have := Hgk.out; omega
    case rel => exact ⟨k + 1, pm, pA, pC, by omega, rfl, by go_num, HRN.out, H3.out.2, H3.out.1, H4.out, H5.out⟩

end Go.Proofs.YtllchmacipacnaaGreatDoor
