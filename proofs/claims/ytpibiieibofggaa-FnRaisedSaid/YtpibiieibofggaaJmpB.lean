/- JumpsOf of the program. -/
import Derived.Test.YtpibiieibofggaaJmpP
import Derived.Test.YtpibiieibofggaaStepA
namespace Go.Proofs.Ytpibiieibofggaa
open Go.RowKit

theorem less_gtr {a b : ByteArray} {r : Bool} (h : lessS a b = r) : (!Go.Op.bytesLess b.toList a.toList && !(b.toList == a.toList)) = r := by
  rw [← Bool.not_or, less_leq h, Bool.not_not]
structure PairR where
  g : Nat
  a : ByteArray
  b : ByteArray
def PairR.cells (p : PairR) : List Value := [.slice (some ⟨p.g, 0, none⟩) 2 2]
def PairR.val (p : PairR) : ByteArray × ByteArray := (p.a, p.b)
instance : Inhabited PairR := ⟨⟨0, ByteArray.empty, ByteArray.empty⟩⟩
theorem PairR.cells_len (x : PairR) : x.cells.length = 1 := rfl
theorem PairR.cells_one (x : PairR) : ∀ u ∈ x.cells, u.oneCell' = true := by intro u hu; simp [PairR.cells] at hu; subst hu; rfl
theorem infoStrs : (Try.prog.info? 32).map (fun i => (i.zero, i.size, i.bytes)) = some (some (.slice none 0 0), 1, 24) := by kernel_rfl
/-- A list of pairs of one's own. -/
structure PairsAt (w : World) (base : Nat) (v : Value) (ps : List PairR) : Prop where
  own : OwnsL w base 32 1 PairR.cells v ps
  one : ∀ p ∈ ps, Own w p.g 9 #[.string p.a, .string p.b]
  low : ∀ p ∈ ps, base ≤ p.g
  ap : ∀ p ∈ ps, v.ownBlock ≠ some p.g
theorem PairsAt.nil {w : World} {base : Nat} : PairsAt w base (.slice none 0 0) [] := ⟨OwnsL.nil_ _ _ _ _ _, by simp, by simp, by simp⟩
theorem PairsAt.below' {w w' : World} {base : Nat} {v : Value} {ps : List PairR} (h : PairsAt w base v ps) (hb : Below w.heap.size w w') : PairsAt w' base v ps := ⟨h.own.below' hb, fun p hp => (h.one p hp).below' hb, h.low, h.ap⟩
theorem PairsAt.push {w w' : World} {base : Nat} {v v' : Value} {ps : List PairR} {a b : ByteArray} (h : PairsAt w base v ps) (hbase : base ≤ w.heap.size) (h4 : OwnsL w' base 32 1 PairR.cells v' (ps ++ [⟨w.heap.size, a, b⟩])) (hkp : ∀ k, k < w.heap.size + 1 → some k ≠ v.ownBlock → w'.heap[k]? = (w.alloc (.cells #[.string a, .string b] 9)).heap[k]?) (hob : v'.ownBlock = v.ownBlock ∨ v'.ownBlock = some (w.heap.size + 1 + 1)) : PairsAt w' base v' (ps ++ [⟨w.heap.size, a, b⟩]) := by
  have hvlt := h.own.lt
  have hnew := Own.new w 9 #[.string a, .string b]
  refine ⟨h4, fun p hp => ?_, fun p hp => ?_, fun p hp e => ?_⟩
  · rcases List.mem_append.1 hp with h1 | h1
    · have hl := (h.one p h1).lt
      have h2 : Own (w.alloc (.cells #[.string a, .string b] 9)) p.g 9 #[.string p.a, .string p.b] := (h.one p h1).alloc _
      exact (hkp p.g (by omega) (fun e => h.ap p h1 e.symm)).trans h2
    · simp at h1; subst h1
      exact (hkp w.heap.size (by omega) (fun e => by have := (hvlt w.heap.size e.symm).2; omega)).trans hnew
  · rcases List.mem_append.1 hp with h1 | h1
    · exact h.low p h1
    · simp at h1; subst h1; exact hbase
  · rcases List.mem_append.1 hp with h1 | h1
    · have hl := (h.one p h1).lt
      rcases hob with h2 | h2
      · exact h.ap p h1 (h2 ▸ e)
      · rw [h2] at e; injection e with e; omega
    · simp at h1; subst h1
      rcases hob with h2 | h2
      · rw [h2] at e; have := (hvlt _ e).2; simp only at this; omega
      · rw [h2] at e; injection e with e; simp only at e; omega
theorem jumpsIn_no {xs : List Region} {least : Int} {r : Region} {l : List ByteArray} {t : Nat} {nm : ByteArray} (h : l[t]? = some nm) (hj : jumpB xs least r nm = false) : jumpsIn xs least r (l.take (t + 1)) = jumpsIn xs least r (l.take t) := by
  obtain ⟨h1, rfl⟩ := List.getElem?_eq_some_iff.1 h
  unfold jumpsIn
  rw [List.take_succ_eq_append_getElem h1, List.filter_append, List.filter_cons_of_neg (by simp [hj]), List.filter_nil, List.append_nil]
theorem jumpsIn_yes {xs : List Region} {least : Int} {r : Region} {l : List ByteArray} {t : Nat} {nm : ByteArray} (h : l[t]? = some nm) (hj : jumpB xs least r nm = true) : jumpsIn xs least r (l.take (t + 1)) = jumpsIn xs least r (l.take t) ++ [(r.id, nm)] := by
  obtain ⟨h1, rfl⟩ := List.getElem?_eq_some_iff.1 h
  unfold jumpsIn
  rw [List.take_succ_eq_append_getElem h1, List.filter_append, List.filter_cons_of_pos (by simp [hj]), List.filter_nil, List.map_append]
  rfl
theorem jumpsTo_snoc {xs l : List Region} {least : Int} {k : Nat} {r : Region} (h : l[k]? = some r) : jumpsTo xs least (l.take (k + 1)) = jumpsTo xs least (l.take k) ++ jumpsIn xs least r r.near := by
  obtain ⟨h1, rfl⟩ := List.getElem?_eq_some_iff.1 h
  unfold jumpsTo
  rw [List.take_succ_eq_append_getElem h1, List.flatMap_append, List.flatMap_cons, List.flatMap_nil, List.append_nil]
def RetPairs (J : List (ByteArray × ByteArray)) (code : Int) (w : World) (e : Ending) (w' : World) : Prop := ∃ v ps, e = .returned (.tuple #[v, .int .i64 code]) ∧ PairsAt w' w.heap.size v ps ∧ ps.map PairR.val = J ∧ Below w.heap.size w w'
theorem RetPairs.no {J : List (ByteArray × ByteArray)} {C c : Int} {w w' : World} (h : c = C) (hJ : J = []) (hb : Below w.heap.size w w') : RetPairs J C w (.returned (.tuple #[.slice none 0 0, .int .i64 c])) w' := ⟨_, [], by rw [h], PairsAt.nil, by rw [hJ]; rfl, hb⟩
theorem RetPairs.yes {J : List (ByteArray × ByteArray)} {C c : Int} {w w' : World} {v : Value} {ps : List PairR} (h : c = C) (ho : PairsAt w' w.heap.size v ps) (hJ : ps.map PairR.val = J) (hb : Below w.heap.size w w') : RetPairs J C w (.returned (.tuple #[v, .int .i64 c])) w' := ⟨_, ps, by rw [h], ho, hJ, hb⟩
set_option maxRecDepth 100000 in
set_option maxHeartbeats 2000000 in
theorem implJumpsOf_any (least : Int) (A : Option Addr) (n c : Nat) (xs : List Region) (w : World) (hx : Region.Sl w A n xs) (hg : ∀ x ∈ xs, x.Good) :
    Calls Try.prog 12 #[.slice A n c, .int .i64 least] w (RetPairs (jumL xs least) (jumC xs least) w) := by
  have HX := Lib.hid hx
  have HL := Lib.hid hx.len
  have HG := Lib.hid hg
  clear hx hg
  cases hv : regionsB xs
  · have HN : Hid (jumC xs least = 1) := by rw [Hid, jumC, if_pos hv]
    have HM : Hid (jumL xs least = []) := by rw [Hid, jumL, HN.out]; rfl
    go_enter Try.func12, Try.ntmps12
    go_wp2_with fail
    refine (implValidRegions_any A n c xs _ HX.out HG.out).mono ?_
    rintro e w1 ⟨rfl, hb1⟩
    rw [hv]
    clear hv
    go_wp2
    go_ret2
    exact RetPairs.no HN.out.symm HM.out hb1
  cases hmo : inB least 0 4
  · have HN : Hid (jumC xs least = 2) := by rw [Hid, jumC, if_neg (by rw [hv]; simp), if_pos hmo]
    have HM : Hid (jumL xs least = []) := by rw [Hid, jumL, HN.out]; rfl
    go_enter Try.func12, Try.ntmps12
    go_wp2_with fail
    refine (implValidRegions_any A n c xs _ HX.out HG.out).mono ?_
    rintro e w1 ⟨rfl, hb1⟩
    rw [hv]
    clear hv
    go_wp2_with (go_at_call 27; refine (within_any _ _ _ _).mono ?_; rintro e w' ⟨rfl, rfl⟩)
    go_ret2
    exact RetPairs.no HN.out.symm HM.out hb1
  have HN : Hid (jumC xs least = 0) := by rw [Hid, jumC, if_neg (by rw [hv]; simp), if_neg (by rw [hmo]; simp)]
  have HM : Hid (jumL xs least = jumpsTo xs least xs) := by rw [Hid, jumL, if_pos HN.out]
  have HV := Lib.hid hv
  have ⟨hU0, hU1⟩ := inB_iff.1 hmo
  have h8 : n ≤ 8 := by rw [← HL.out]; exact regionsB_len hv
  go_enter Try.func12, Try.ntmps12
  go_wp2_with fail
  refine (implValidRegions_any A n c xs _ HX.out HG.out).mono ?_
  rintro e w1 ⟨rfl, hb1⟩
  rw [hv]
  have HB1 := Lib.hid hb1
  clear hb1 hv
  go_wp2_with (go_at_call 27; refine (within_any _ _ _ _).mono ?_; rintro e w' ⟨rfl, rfl⟩)
  clear hmo
  go_loopg [6, 21] n (fun gk s i wr => ∃ (k : Nat) (v : Value) (ps : List PairR), k ≤ n ∧ gk = n - k ∧ i = .int .i64 k ∧ v = s ∧ Below w.heap.size w wr ∧ PairsAt wr w.heap.size v ps ∧ ps.length ≤ 8 * k ∧ ps.map PairR.val = jumpsTo xs least (xs.take k))
  case atStart => exact ⟨0, _, [], Nat.zero_le _, rfl, rfl, rfl, HB1.out, PairsAt.nil, by simp, rfl⟩
  case round =>
    obtain ⟨k, v, ps, hk, hgk, rfl, rfl, hb, hown, hpl, hps⟩ := hrel
    have Hgk := Lib.hid hgk
    have HOWN := Lib.hid hown
    have HPL := Lib.hid hpl
    have HPS := Lib.hid hps
    have HB := Lib.hid hb
    clear hgk hown hpl hps
    by_cases hlt : k < n
    rotate_left
    · have hkn : k = n := by omega
      subst hkn
      have HE : Hid (xs.take k = xs) := List.take_of_length_le (by rw [HL.out]; exact Nat.le_refl _)
      obtain ⟨VA, vc, rfl, _, _, _⟩ := HOWN.out.own.slice PairR.cells_len
      obtain ⟨P, hP⟩ : ∃ P, ps.length = P := ⟨_, rfl⟩
      rw [hP] at HOWN ⊢
      clear hP
      go_wp2
      go_ret2
      exact RetPairs.yes HN.out.symm HOWN.out (by rw [HPS.out, HE.out, HM.out]) hb
    have HXR := Lib.hid (HX.out.below hb)
    obtain ⟨b1, o1, ⟨xi, xl, NA, NN, NC, nr⟩, rfl, hb0, hxk, hix, y0, y1, y2⟩ := HX.out.at_ hlt
    simp only [RegionR.val] at hxk y0 y1 y2
    have hb1 : b1 < wr.heap.size := Nat.lt_of_lt_of_le hb0 hb.size
    replace y0 := (hb.cell hb0).trans y0
    replace y1 := (hb.cell hb0).trans y1
    replace y2 := (hb.cell hb0).trans y2
    have HIW : Hid (SliceOf w 1 strcells NA NN nr) := hix.1
    have Hx := Lib.hid hxk
    have hnr : NN ≤ 8 := by
      have h1 := near_len HV.out (List.mem_of_getElem? hxk)
      have h2 := hix.1.len
      simp only at h1 h2
      omega
    have hxl := regionsB_level HV.out (List.mem_of_getElem? hxk)
    simp only at hxl
    have HIX : Hid (SliceOf wr 1 strcells NA NN nr) := hix.1.below hb
    have HBA := Lib.hid (hb.alloc hb.size (.cells #[.string xi, .int .i64 xl, .slice NA NN NC] 34))
    have HOA := Lib.hid (Own.new wr 34 #[.string xi, .int .i64 xl, .slice NA NN NC])
    have HBX : Hid (Below wr.heap.size wr (wr.alloc (.cells #[.string xi, .int .i64 xl, .slice NA NN NC] 34))) := (Below.refl _ _).alloc (Nat.le_refl _) _
    clear hxk hix hb0
    go_wp2_with fail
    obtain ⟨wa, hwa⟩ : ∃ wa, wr.alloc (.cells #[.string xi, .int .i64 xl, .slice NA NN NC] 34) = wa := ⟨_, rfl⟩
    obtain ⟨bx, hbx⟩ : ∃ bx, wr.heap.size = bx := ⟨_, rfl⟩
    rw [hwa] at HBA HOA HBX ⊢
    have HBW := Lib.hid hbx
    rw [hbx] at HOA ⊢
    have hbx2 : Hid (w.heap.size ≤ bx) := by rw [Hid, ← hbx]; exact hb.size
    have HOWA : Hid (PairsAt wa w.heap.size v ps ∧ v.ownBlock ≠ some bx) := ⟨HOWN.out.below' HBX.out, fun e => by have := (HOWN.out.own.lt bx e).2; omega⟩
    have HIA := Lib.hid (HIX.out.below HBX.out)
    clear hwa hbx y0 y1 y2 hb hb1
    go_loopg [6, 28] NN (fun gk s i wr => ∃ (t : Nat) (v : Value) (ps : List PairR), t ≤ NN ∧ gk = NN - t ∧ i = .int .i64 t ∧ v = s ∧ Below w.heap.size w wr ∧ SliceOf wr 1 strcells NA NN nr ∧ Own wr bx 34 #[.string xi, .int .i64 xl, .slice NA NN NC] ∧ (PairsAt wr w.heap.size v ps ∧ v.ownBlock ≠ some bx) ∧ ps.length ≤ 8 * k + t ∧ ps.map PairR.val = jumpsTo xs least (xs.take k) ++ jumpsIn xs least ⟨xi, xl, nr⟩ (nr.take t))
    case atStart => exact ⟨0, _, ps, Nat.zero_le _, rfl, rfl, rfl, HBA.out, HIA.out, HOA.out, HOWA.out, HPL.out, by rw [HPS.out]; simp [jumpsIn]⟩
    case round =>
      obtain ⟨t, v, ps, ht, hgt, rfl, rfl, hb2, hi2, ho2, hown2, hpl2, hps2⟩ := hrel
      have HGT := Lib.hid hgt
      have HB2 := Lib.hid hb2
      have HI2 := Lib.hid hi2
      have HO2 := Lib.hid ho2
      have HOW2 := Lib.hid hown2
      have HPL2 := Lib.hid hpl2
      have HPS2 := Lib.hid hps2
      clear hgt hi2 ho2 hown2 hpl2 hps2
      by_cases htl : t < NN
      rotate_left
      · have htn : t = NN := by omega
        subst htn
        have HE : Hid (ps.map PairR.val = jumpsTo xs least (xs.take (k + 1))) := by
          have h1 := HPS2.out
          rw [show nr.take t = nr from List.take_of_length_le (by rw [HI2.out.len]; exact Nat.le_refl _)] at h1
          rw [Hid, jumpsTo_snoc Hx.out]
          exact h1
        go_wp2
        go_roundg (n - (k + 1))
        case measure => have := Hgk.out; omega
        case rel => exact ⟨k + 1, v, ps, by omega, rfl, by go_num, rfl, HB2.out, HOW2.out.1, by have := HPL2.out; omega, HE.out⟩
      obtain ⟨b3, o3, nm, rfl, hb3, hnm, z0⟩ := strs_at HI2.out htl
      have HNM := Lib.hid hnm
      have HXQ := Lib.hid (HX.out.below hb2)
      obtain ⟨Y, hY, hYn⟩ := (regionsB_map HV.out).near _ (List.mem_of_getElem? Hx.out) nm (List.mem_of_getElem? hnm)
      obtain ⟨j, hj, rfl⟩ := List.getElem_of_mem hY
      have hjx : xs[j]? = some xs[j] := List.getElem?_eq_getElem hj
      have hjf := levelOf_at HV.out hjx
      rw [hYn] at hjf
      have HJF := Lib.hid hjf
      have hjl := regionsB_level HV.out hY
      obtain ⟨yl, hyl⟩ : ∃ yl, xs[j].level = yl := ⟨_, rfl⟩
      rw [hyl] at hjl HJF
      have hjn : j < n := by rw [← HL.out]; exact hj
      obtain ⟨b4, o4, r4, hA4, hb4, hr4, hi4, q0, q1, q2⟩ := HXQ.out.at_ hjn
      injection hA4 with hA4
      injection hA4 with he1 he2 _
      subst he1 he2
      have hr5 : r4.level = yl := by rw [hr4] at hjx; injection hjx with hjx; rw [← hyl, ← hjx]; rfl
      rw [hr5] at q1
      have y0 : wr.cell? ⟨bx, 0, none⟩ = some (.string xi) := HO2.out.cell 0
      have y1 : wr.cell? ⟨bx, 1, none⟩ = some (.int .i64 xl) := HO2.out.cell 1
      have lx := HO2.out.lt
      have hsub := fun (g : Sub wr) b o (h : b < wr.heap.size) => g.cell b o h
      obtain ⟨VA, vc, rfl, _, _, _⟩ := HOW2.out.1.own.slice PairR.cells_len
      obtain ⟨P, hP⟩ : ∃ P, ps.length = P := ⟨_, rfl⟩
      rw [hP] at HOW2 HPL2 ⊢
      have HP := Lib.hid hP
      have hpl2 := HPL2.out
      have HXB := HB2
      clear hnm hY hYn hj hjx hjf hyl hr4 hi4 q0 q2 hr5 hP hb2
      cases hls : lessS xi nm
      · have HJ : Hid (jumpB xs least ⟨xi, xl, nr⟩ nm = false) := by rw [Hid, jumpB, hls]; rfl
        have hl2 := less_gtr hls
        clear hls q1
        go_wp2_with fail
        refine wp_region_sub (by kernel_rfl) (by kernel_rfl) ?_
        repeat (go_big_quiet_step (fail))
        refine wpQuiet_nil ?_
        intro wg hg
        have HBG := Lib.hid (HB2.out.trans (hg.mono HB2.out.size))
        have HIG := Lib.hid (HI2.out.below hg)
        have HOG := Lib.hid (HO2.out.below' hg)
        have HWG := Lib.hid (HOW2.out.1.below' hg)
        clear hsub y0 y1 lx hg hl2 z0 hb3 hb4
        go_wp2
        go_roundg (NN - (t + 1))
        case measure => have := HGT.out; omega
        case rel => exact ⟨t + 1, _, ps, by omega, rfl, by go_num, rfl, HBG.out, HIG.out, HOG.out, ⟨HWG.out, HOW2.out.2⟩, by rw [HP.out]; omega, by rw [HPS2.out, jumpsIn_no HNM.out HJ.out]⟩
      have hl2 := less_gtr hls
      have hab : -4 ≤ xl - yl ∧ xl - yl ≤ 4 := by omega
      cases hge : decide (least ≤ absB (xl - yl))
      · have HJ : Hid (jumpB xs least ⟨xi, xl, nr⟩ nm = false) := by rw [Hid, jumpB, hls, HJF.out.2, hge]; rfl
        clear hls
        go_wp2_with fail
        refine wp_region_sub (by kernel_rfl) (by kernel_rfl) ?_
        repeat (go_big_quiet_step ((first | exact Calls.sub_of_eq (regionAt_any nm _ _ _ xs _ (HXQ.out.below (Sub.below _))) (congrArg (Value.int .i64) HJF.out.1) | exact Calls.sub_of_same (implAbs_any _ _ (by omega)))))
        refine wpQuiet_nil ?_
        intro wg hg
        have HBG := Lib.hid (HB2.out.trans (hg.mono HB2.out.size))
        have HIG := Lib.hid (HI2.out.below hg)
        have HOG := Lib.hid (HO2.out.below' hg)
        have HWG := Lib.hid (HOW2.out.1.below' hg)
        clear hsub y0 y1 lx hg hl2 z0 hb3 hb4 hge q1
        go_wp2
        go_roundg (NN - (t + 1))
        case measure => have := HGT.out; omega
        case rel => exact ⟨t + 1, _, ps, by omega, rfl, by go_num, rfl, HBG.out, HIG.out, HOG.out, ⟨HWG.out, HOW2.out.2⟩, by rw [HP.out]; omega, by rw [HPS2.out, jumpsIn_no HNM.out HJ.out]⟩
      · have HJ : Hid (jumpB xs least ⟨xi, xl, nr⟩ nm = true) := by rw [Hid, jumpB, hls, HJF.out.2, hge]; rfl
        clear hls
        go_wp2_with fail
        refine wp_region_sub (by kernel_rfl) (by kernel_rfl) ?_
        repeat (go_big_quiet_step ((first | exact Calls.sub_of_eq (regionAt_any nm _ _ _ xs _ (HXQ.out.below (Sub.below _))) (congrArg (Value.int .i64) HJF.out.1) | exact Calls.sub_of_same (implAbs_any _ _ (by omega)))))
        refine wpQuiet_nil ?_
        intro wg hg
        have HBG := Lib.hid (HB2.out.trans (hg.mono HB2.out.size))
        have HIG := Lib.hid (HI2.out.below hg)
        have HOG := Lib.hid (HO2.out.below' hg)
        have HWG := Lib.hid (HOW2.out.1.below' hg)
        clear hsub y0 y1 lx hg hl2 z0 hb3 hb4 hge q1
        have y0 : wg.cell? ⟨bx, 0, none⟩ = some (.string xi) := HOG.out.cell 0
        have lx := HOG.out.lt
        have HSW : Hid (Below wg.heap.size wg (wg.alloc (.cells #[.string xi, .string nm] 9))) := (Below.refl _ _).alloc (Nat.le_refl _) _
        obtain ⟨hs, hhs⟩ : ∃ hs, wg.heap.size = hs := ⟨_, rfl⟩
        have HHS := Lib.hid hhs
        clear hhs
        go_wp2_with (at_builtin; refine wpList_push2 (by rfl) (.tmp 51) (.tmp 56) 38 (by rfl) w.heap.size 32 1 Try.underlying38 infoStrs (by rfl) (by decide) PairR.cells PairR.cells_len PairR.cells_one _ (.slice VA P vc) ps ⟨wg.heap.size, xi, nm⟩ (by rfl) (by rfl) (HWG.out.own.alloc _) (by first | rfl | simp [go_sem]) (by rw [HP.out]; omega) (by decide) (Nat.le_trans HBG.out.size HSW.out.size) ?_)
        intro v' w' hown' hb' hkp hob
        have HPU := Lib.hid (HWG.out.push HBG.out.size hown' hkp hob)
        have HBX5 : Hid (Below w.heap.size w w') := HBG.out.trans ((HSW.out.mono HBG.out.size).trans hb')
        have hbk : ∀ b, b < wg.heap.size → some b ≠ (Value.slice VA P vc).ownBlock → w'.heap[b]? = wg.heap[b]? := fun b h1 h2 => (hkp b (by omega) h2).trans (HSW.out.block b h1)
        have HO5 : Hid (Own w' bx 34 #[.string xi, .int .i64 xl, .slice (some ⟨b3, o3, none⟩) NN NC]) := (hbk bx HOG.out.lt (fun e => HOW2.out.2 e.symm)).trans HOG.out
        have HAP : Hid (v'.ownBlock ≠ some bx) := fun e => by
          have h1 := HOG.out.lt
          have h2 := HSW.out.size
          rcases hob with h3 | h3
          · exact HOW2.out.2 (h3 ▸ e)
          · rw [h3] at e; injection e with e; omega
        have HI5 : Hid (SliceOf w' 1 strcells (some ⟨b3, o3, none⟩) NN nr) := HIW.out.below HBX5.out
        clear hown' hb' hkp hob hbk y0 lx
        go_wp2
        go_roundg (NN - (t + 1))
        case measure => have := HGT.out; omega
        case rel => exact ⟨t + 1, v', _, by omega, rfl, by go_num, rfl, HBX5.out, HI5.out, HO5.out, ⟨HPU.out, HAP.out⟩, by rw [List.length_append, HP.out, List.length_singleton]; omega, by rw [List.map_append, HPS2.out, jumpsIn_yes HNM.out HJ.out, List.append_assoc]; rfl⟩

end Go.Proofs.Ytpibiieibofggaa
