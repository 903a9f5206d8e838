/- FrictionFor of the program. -/
import Derived.Test.YthlgfmdlecdchaaFricP
import Derived.Test.YthlgfmdlecdchaaSortU
namespace Go.Proofs.Ythlgfmdlecdchaa
open Go.RowKit

def fricV (g : Grid) (ms : List Int) (cell : Int) : Option Int := fricO (missB g ms cell.toNat) (candL g g.heights.length)
def fricK (g : Grid) (ms : List Int) (cell : Int) : Int := if runCx g ms 1 [cell] = 0 then if 0 < ms.getD cell.toNat 0 then 6 else if (fricV g ms cell).isSome then 0 else 3 else runCx g ms 1 [cell]
def fricA (g : Grid) (ms : List Int) (cell : Int) : Int := if runCx g ms 1 [cell] = 0 then if 0 < ms.getD cell.toNat 0 then 0 else (fricV g ms cell).getD 0 else 0
theorem runCx_zero {g : Grid} {ms : List Int} {cell : Int} (h : runCx g ms 1 [cell] = 0) : RunOk g ms 1 ∧ ∃ c : Nat, cell = c ∧ c < ms.length := by
  unfold runCx at h
  cases h1 : gridB g <;> cases h2 : inB 1 1 5000 <;> cases h3 : ([cell].all fun y => inB y 0 ((g.heights.length : Int) - 1)) <;> cases h4 : massB g ms <;> simp [h1, h2, h3, h4] at h
  have hm := massB_parts h1 h4
  have hc := inB_iff.1 (List.all_eq_true.1 h3 cell (by simp))
  exact ⟨⟨h1, by omega, by omega, hm.1, fun x hx => (hm.2.1 x hx).1, hm.2.2⟩, cell.toNat, by omega, by rw [hm.1]; omega⟩
theorem RunOk.at_ {g : Grid} {ms : List Int} {fr f : Int} (h : RunOk g ms fr) (h1 : 1 ≤ f) (h2 : f ≤ 5000) : RunOk g ms f := ⟨h.grid, h1, h2, h.len, h.pos, h.sum⟩
theorem candC_yes {l : List Stp} {k : Nat} {x : Stp} (h : l[k]? = some x) (hp : inB x.slope 1 4999 = true) : candC (l.take (k + 1)) = candC (l.take k) ++ [x.slope + 1] := by
  unfold candC; rw [filter_take_yes h hp, List.map_append]; rfl
theorem candC_no {l : List Stp} {k : Nat} {x : Stp} (h : l[k]? = some x) (hp : inB x.slope 1 4999 = false) : candC (l.take (k + 1)) = candC (l.take k) := by
  unfold candC; rw [filter_take_no h hp]
theorem candC_len (l : List Stp) : (candC l).length ≤ l.length := by unfold candC; rw [List.length_map]; exact List.length_filter_le _ _
theorem candL_len (g : Grid) : ∀ k, (candL g k).length ≤ 8 * k
  | 0 => by simp [candL]
  | k + 1 => by
    have h1 := candL_len g k
    have h2 := candC_len (nextT g k 8)
    have h3 := nextT_len g k 8
    unfold candL
    rw [List.length_append]; omega
theorem candL_in (g : Grid) : ∀ k, ∀ f ∈ candL g k, 1 ≤ f ∧ f ≤ 5000
  | 0, f, h => by simp [candL] at h
  | k + 1, f, h => by
    unfold candL at h
    rcases List.mem_append.1 h with h | h
    · exact candL_in g k f h
    · unfold candC at h
      obtain ⟨x, hx, rfl⟩ := List.mem_map.1 h
      rw [List.mem_filter] at hx
      have := inB_iff.1 hx.2
      omega
theorem find_at {p : Int → Bool} {L : List Int} {k : Nat} {x : Int} (h : L[k]? = some x) (hp : p x = true) (hn : ∀ i y, i < k → L[i]? = some y → p y = false) : L.find? p = some x := by
  rw [List.find?_eq_some_iff_append]
  refine ⟨hp, L.take k, L.drop (k + 1), ?_, fun y hy => ?_⟩
  · have hk := List.getElem?_eq_some_iff.1 h
    rw [← hk.2, ← List.drop_eq_getElem_cons hk.1, List.take_append_drop]
  · obtain ⟨i, hi⟩ := List.mem_iff_getElem?.1 hy
    have hik : i < k := by have := (List.getElem?_eq_some_iff.1 hi).1; rw [List.length_take] at this; omega
    rw [List.getElem?_take_of_lt hik] at hi
    rw [hn i y hik hi]; rfl
theorem find_none {p : Int → Bool} {L : List Int} (hn : ∀ i y, i < L.length → L[i]? = some y → p y = false) : L.find? p = none := by
  rw [List.find?_eq_none]
  intro y hy
  obtain ⟨i, hi⟩ := List.mem_iff_getElem?.1 hy
  rw [hn i y (List.getElem?_eq_some_iff.1 hi).1 hi]; simp
theorem compact_mem {zs : List Int} {x : Int} (h : x ∈ Lib.compact zs) : x ∈ zs := by
  have h1 := compact_find zs (fun y => decide (y = x))
  cases hf : zs.find? (fun y => decide (y = x)) with
  | none =>
    rw [hf, List.find?_eq_none] at h1
    exact absurd (by simp) (h1 x h)
  | some y =>
    have h2 := List.find?_some hf
    have h3 := List.mem_of_find?_eq_some hf
    have : y = x := by simpa using h2
    rw [← this]; exact h3
set_option maxRecDepth 100000 in
set_option maxHeartbeats 2000000 in
theorem implFrictionFor_any (g : GridR) (B : Option Addr) (n d : Nat) (ms : List Int) (cell : Int) (w : World) (hgi : g.In w) (hr : SliceOf w 1 i64cells B n ms) :
    Calls Try.prog 15 #[.agg #[.int .i64 g.rows, .int .i64 g.columns, .int .i64 g.size, .slice g.heightsA g.heightsN g.heightsC], .slice B n d, .int .i64 cell] w (Ret (.tuple #[.int .i64 (fricA g.val ms cell), .int .i64 (fricK g.val ms cell)]) w) := by
  have hB : Below w.heap.size w (w.alloc (.cells #[.int .i64 g.rows, .int .i64 g.columns, .int .i64 g.size, .slice g.heightsA g.heightsN g.heightsC] 26)) := (Below.refl _ _).alloc (Nat.le_refl _) _
  have HO0 := Lib.hid (Own.new w 26 #[.int .i64 g.rows, .int .i64 g.columns, .int .i64 g.size, .slice g.heightsA g.heightsN g.heightsC])
  have HB0 := Lib.hid hB
  have HI0 := Lib.hid (hgi.below hB)
  have HR0 := Lib.hid (hr.below hB)
  have HLn := Lib.hid hr.len
  have HGl : Hid (g.val.heights.length = g.heightsN) := hgi.1.len
  have hgn := hgi.1.le
  have hnle := hr.le
  clear hgi hB hr
  go_enter Try.func15, Try.ntmps15
  go_wp2_with fail
  obtain ⟨w0, hw0⟩ : ∃ w0, (w.alloc (.cells #[.int .i64 g.rows, .int .i64 g.columns, .int .i64 g.size, .slice g.heightsA g.heightsN g.heightsC] 26)).alloc (.cells #[.int .i64 cell] 2) = w0 := ⟨_, rfl⟩
  have hBq : Below (w.alloc (.cells #[.int .i64 g.rows, .int .i64 g.columns, .int .i64 g.size, .slice g.heightsA g.heightsN g.heightsC] 26)).heap.size (w.alloc (.cells #[.int .i64 g.rows, .int .i64 g.columns, .int .i64 g.size, .slice g.heightsA g.heightsN g.heightsC] 26)) w0 := by rw [← hw0]; exact (Below.refl _ _).alloc (Nat.le_refl _) _
  have hcs : SliceOf w0 1 i64cells (some ⟨w.heap.size + 1, 0, none⟩) 1 [cell] := by
    have h := sliceOf_new (w.alloc (.cells #[.int .i64 g.rows, .int .i64 g.columns, .int .i64 g.size, .slice g.heightsA g.heightsN g.heightsC] 26)) 2 [cell] (by simp)
    rw [show (w.alloc (.cells #[.int .i64 g.rows, .int .i64 g.columns, .int .i64 g.size, .slice g.heightsA g.heightsN g.heightsC] 26)).heap.size = w.heap.size + 1 by simp] at h
    rw [← hw0]
    exact h
  rw [hw0]
  have HO1 := Lib.hid (HO0.out.below' hBq)
  have HB1 := Lib.hid (HB0.out.trans (hBq.mono HB0.out.size))
  have HI1 := Lib.hid (HI0.out.below hBq)
  have HR1 := Lib.hid (HR0.out.below hBq)
  clear hBq hw0
  refine (routeCode_any g B n d ms 1 _ 1 1 [cell] _ HI1.out HR1.out hcs).mono ?_
  rintro e w1 ⟨rfl, hb1⟩
  have HO := Lib.hid (HO1.out.below' hb1)
  have HB := Lib.hid (HB1.out.trans (hb1.mono HB1.out.size))
  have HI := Lib.hid (HI1.out.below hb1)
  have HR := Lib.hid (HR1.out.below hb1)
  clear hb1 hcs
  by_cases hc : runCx g.val ms 1 [cell] = 0
  · have HC := Lib.hid hc
    have hne : (runCx g.val ms 1 [cell] != 0) = false := by simp [hc]
    obtain ⟨hk0, c, rfl, hcn⟩ := runCx_zero hc
    have HK := Lib.hid hk0
    rw [HLn.out] at hcn
    have HNN : Hid (n = g.heightsN) := hk0.n HI.out HR.out
    have hn64 : n ≤ 64 := by rw [← HLn.out]; exact (runOk_n64 hk0).2
    obtain ⟨bB, oB, m, rfl, hbB, hmc, m0⟩ := ints_at HR.out hcn
    have HMC := Lib.hid hmc
    have HGD : Hid (ms.getD ((c : Nat) : Int).toNat 0 = m) := by rw [Hid, Int.toNat_natCast, List.getD_eq_getElem?_getD, hmc]; rfl
    clear hk0 hmc hc
    by_cases hmp : 0 < m
    · have HK2 : Hid (fricK g.val ms c = 6) := by rw [Hid]; unfold fricK; rw [if_pos HC.out, HGD.out, if_pos hmp]
      have HA2 : Hid (fricA g.val ms c = 0) := by rw [Hid]; unfold fricA; rw [if_pos HC.out, HGD.out, if_pos hmp]
      go_wp2
      go_ret2
      exact Ret.ii HA2.out.symm HK2.out.symm HB.out
    · have hd : decide (0 < m) = false := decide_eq_false hmp
      have HK2 : Hid (fricK g.val ms c = if (fricV g.val ms c).isSome then 0 else 3) := by rw [Hid]; unfold fricK; rw [if_pos HC.out, HGD.out, if_neg hmp]
      have HA2 : Hid (fricA g.val ms c = (fricV g.val ms c).getD 0) := by rw [Hid]; unfold fricA; rw [if_pos HC.out, HGD.out, if_neg hmp]
      have y3 : w1.cell? ⟨w.heap.size, 3, none⟩ = some (.slice g.heightsA g.heightsN g.heightsC) := HO.out.cell 3
      have hwl : w.heap.size < w1.heap.size := HO.out.lt
      have hwl1 : w.heap.size < w1.heap.size + 1 := Nat.lt_succ_of_lt hwl
      go_wp2
      clear y3 m0 hd hmp hwl1
      obtain ⟨w2, hw2⟩ : ∃ w2, w1.alloc (.cells #[.int .i64 1] 2) = w2 := ⟨_, rfl⟩
      have hB2 : Below w1.heap.size w1 w2 := by rw [← hw2]; exact (Below.refl _ _).alloc (Nat.le_refl _) _
      have hF0 : OwnsL w2 w1.heap.size 2 1 i64cells (.slice (some ⟨w1.heap.size, 0, none⟩) 1 1) (1 :: candL g.val 0) := by
        have h : IntsAt w2 w1.heap.size [1] := by rw [← hw2]; exact Own.new w1 2 #[.int .i64 1]
        exact h.owns (n := 1) rfl (by omega) (Nat.le_refl _)
      rw [hw2]
      have HB2 := Lib.hid hB2
      have HF0 := Lib.hid hF0
      clear hw2 hB2 hF0
      go_loopg [34, 9] g.heightsN (fun gk i u wr => ∃ (k : Nat) (v : Value), k ≤ g.heightsN ∧ gk = g.heightsN - k ∧ i = .int .i64 k ∧ v = u ∧ Below w1.heap.size w1 wr ∧ OwnsL wr w1.heap.size 2 1 i64cells v (1 :: candL g.val k))
      case atStart => exact ⟨0, _, Nat.zero_le _, rfl, rfl, rfl, HB2.out, HF0.out⟩
      case round =>
        obtain ⟨k, v, hk, hgk, rfl, rfl, hb, hown⟩ := hrel
        have Hgk := Lib.hid hgk
        have HOW := Lib.hid hown
        have HBB := Lib.hid hb
        clear hgk hown
        by_cases hlt : k < g.heightsN
        · have y0 : wr.cell? ⟨w.heap.size, 0, none⟩ = some (.int .i64 g.rows) := (HO.out.below' hb).cell 0
          have y1 : wr.cell? ⟨w.heap.size, 1, none⟩ = some (.int .i64 g.columns) := (HO.out.below' hb).cell 1
          have y2 : wr.cell? ⟨w.heap.size, 2, none⟩ = some (.int .i64 g.size) := (HO.out.below' hb).cell 2
          have y3 : wr.cell? ⟨w.heap.size, 3, none⟩ = some (.slice g.heightsA g.heightsN g.heightsC) := (HO.out.below' hb).cell 3
          go_wp2_with fail
          refine (next_any g k _ (HI.out.below hb) HK.out.grid hlt).mono ?_
          rintro e w3 ⟨u, rfl, hv, hb3⟩
          clear y0 y1 y2 y3
          obtain ⟨NL, hNL⟩ : ∃ NL, nextT g.val k 8 = NL := ⟨_, rfl⟩
          rw [hNL] at hv
          obtain ⟨AN, cN, rfl, _, _, hsn⟩ := hv.slice Stp.cells_len
          obtain ⟨p, hp⟩ : ∃ p, NL.length = p := ⟨_, rfl⟩
          simp only [hp] at hv hsn ⊢
          have hp8 : p ≤ 8 := by rw [← hp, ← hNL]; exact nextT_len _ _ _
          have HSN := Lib.hid hsn
          have HNL := Lib.hid hNL
          have HP := Lib.hid hp
          have HOW3 := Lib.hid (HOW.out.below' hb3)
          have HBB3 := Lib.hid (HBB.out.trans (hb3.mono HBB.out.size))
          have HCL : Hid ((candL g.val k).length ≤ 8 * k) := candL_len g.val k
          have HNLo := Lib.hid hv
          have HVL : Hid (∀ b, v.ownBlock = some b → b < wr.heap.size) := fun b hb => (HOW.out.lt b hb).2
          obtain ⟨W0, hW0⟩ : ∃ W0, wr.heap.size = W0 := ⟨_, rfl⟩
          rw [hW0] at HNLo HVL
          have HNLlt : Hid (∀ b, (Value.slice AN p cN).ownBlock = some b → W0 ≤ b ∧ b < w3.heap.size) := HNLo.out.lt
          clear hv hsn hNL hp hb3 hW0
          go_wp2
          go_loopg [41, 9] p (fun gk i u wr => ∃ (j : Nat) (v : Value), j ≤ p ∧ gk = p - j ∧ i = .int .i64 j ∧ v = u ∧ Below w1.heap.size w1 wr ∧ OwnsL wr w1.heap.size 2 1 i64cells v ((1 :: candL g.val k) ++ candC (NL.take j)) ∧ w3.heap.size ≤ wr.heap.size ∧ (∀ b, v.ownBlock = some b → b < W0 ∨ w3.heap.size ≤ b) ∧ OwnsL wr W0 70 3 Stp.cells (.slice AN p cN) NL)
          case atStart => exact ⟨0, _, Nat.zero_le _, rfl, rfl, rfl, HBB3.out, by simpa [candC] using HOW3.out, Nat.le_refl _, fun b hb => .inl (HVL.out b hb), HNLo.out⟩
          case round =>
            obtain ⟨j, v, hj, hgj, rfl, rfl, hbj, hown, hszj, hvj, hnl⟩ := hrel
            have HGJ := Lib.hid hgj
            have HSZJ := Lib.hid hszj
            have HVJ := Lib.hid hvj
            have HNJ := Lib.hid hnl
            have HOJ := Lib.hid hown
            have HBJ := Lib.hid hbj
            clear hgj hown hszj hvj
            by_cases hjp : j < p
            · obtain ⟨bs, os, y, rfl, hbs, hyk, c0, c1, c2⟩ := Stp.at_ (hnl.sl Stp.cells_len) hjp
              obtain ⟨sl, hsl⟩ : ∃ sl, y.slope = sl := ⟨_, rfl⟩
              rw [hsl] at c2
              cases hin : inB sl 1 4999
              · have HT : Hid (candC (NL.take (j + 1)) = candC (NL.take j)) := candC_no hyk (by rw [hsl]; exact hin)
                have hB4 : Below wr.heap.size wr (wr.alloc (.cells #[.int .i64 y.cell, .int .i64 y.dir, .int .i64 sl] 70)) := (Below.refl _ _).alloc (Nat.le_refl _) _
                have HO4 := Lib.hid (HOJ.out.below' hB4)
                have HB4 := Lib.hid (HBJ.out.trans (hB4.mono HBJ.out.size))
                have HN4 := Lib.hid (HNJ.out.below' hB4)
                have HS4 := Lib.hid (Nat.le_trans HSZJ.out hB4.size)
                clear hyk hB4 hsl hnl
                go_wp2_with (go_at_call 42; refine (within_any _ _ _ _).mono ?_; rintro e w' ⟨rfl, rfl⟩)
                go_roundg (p - (j + 1))
                case measure => have := HGJ.out; omega
                case rel => exact ⟨j + 1, v, by omega, rfl, by go_num, rfl, HB4.out, by rw [HT.out]; exact HO4.out, HS4.out, HVJ.out, HN4.out⟩
              · have HT : Hid (candC (NL.take (j + 1)) = candC (NL.take j) ++ [sl + 1]) := by rw [Hid, ← hsl]; exact candC_yes hyk (by rw [hsl]; exact hin)
                obtain ⟨hsb1, hsb2⟩ := inB_iff.1 hin
                have HLC : Hid ((candC (NL.take j)).length ≤ 8) := by
                  have h1 := candC_len (NL.take j)
                  have h2 : (NL.take j).length ≤ j := List.length_take_le _ _
                  rw [Hid]; omega
                have hB4 : Below wr.heap.size wr (wr.alloc (.cells #[.int .i64 y.cell, .int .i64 y.dir, .int .i64 sl] 70)) := (Below.refl _ _).alloc (Nat.le_refl _) _
                have HO4 := Lib.hid (HOJ.out.below' hB4)
                have HB4 := Lib.hid (HBJ.out.trans (hB4.mono HBJ.out.size))
                have HS4 : Hid (w1.heap.size ≤ (wr.alloc (.cells #[.int .i64 y.cell, .int .i64 y.dir, .int .i64 sl] 70)).heap.size) := HB4.out.size
                have HN4 := Lib.hid (HNJ.out.below' hB4)
                have HSZ4 := Lib.hid (Nat.le_trans HSZJ.out hB4.size)
                clear hyk hB4 hsl hnl
                go_wp2_with fail
                refine (within_any _ _ _ _).mono ?_
                rintro e w' ⟨rfl, rfl⟩
                rw [hin]
                go_wp2_with (at_builtin; refine wpList_push2 (by rfl) (.tmp 48) (.tmp 52) 24 (by rfl) w1.heap.size 2 1 Try.underlying24 infoI64 (by rfl) (by decide) i64cells i64cells_len i64cells_one _ v _ (sl + 1) (by rfl) (by rfl) HO4.out (by first | rfl | simp [go_sem]) (by rw [List.length_append, List.length_cons]; have := HLC.out; have := HCL.out; have := HNN.out; omega) (by decide) HS4.out ?_)
                intro v' w' hown' hb' hkp hob
                have HN5 := Lib.hid (HN4.out.kept (fun b hb => hkp b (by simpa using (HN4.out.lt b hb).2) (fun e => by
                  have h1 := HNLlt.out b hb
                  have h2 := HVJ.out b e.symm
                  omega)))
                have HV5 : Hid (∀ b, v'.ownBlock = some b → b < W0 ∨ w3.heap.size ≤ b) := fun b hb => by
                  rcases hob with e | e
                  · exact HVJ.out b (by rw [← e, hb])
                  · rw [e] at hb
                    injection hb with hb
                    right
                    have h3 := HSZ4.out
                    simp at h3 hb
                    omega
                have HSZ5 : Hid (w3.heap.size ≤ w'.heap.size) := Nat.le_trans HSZ4.out hb'.size
                have HWN : Hid (OwnsL w' w1.heap.size 2 1 i64cells v' ((1 :: candL g.val k) ++ candC (NL.take (j + 1)))) := by
                  rw [Hid, HT.out]; simpa [List.append_assoc] using hown'
                have HBN := Lib.hid (HB4.out.trans hb')
                clear hown' hb' hkp hob
                go_wp2
                go_roundg (p - (j + 1))
                case measure => have := HGJ.out; omega
                case rel => exact ⟨j + 1, v', by omega, rfl, by go_num, rfl, HBN.out, HWN.out, HSZ5.out, HV5.out, HN5.out⟩
            · have hjp2 : j = p := by omega
              subst hjp2
              have HNX : Hid (OwnsL wr w1.heap.size 2 1 i64cells v (1 :: candL g.val (k + 1))) := by
                have h := HOJ.out
                rw [List.take_of_length_le (by rw [HP.out]; exact Nat.le_refl _), ← HNL.out] at h
                exact h
              have HBN := HBJ
              clear hnl
              go_wp2
              go_roundg (g.heightsN - (k + 1))
              case measure => have := Hgk.out; omega
              case rel => exact ⟨k + 1, v, by omega, rfl, by go_num, rfl, HBN.out, HNX.out⟩
        · have hkn : k = g.heightsN := by omega
          have HLL : Hid ((1 :: candL g.val k).length ≤ 1048576) := by
            have h1 := candL_len g.val k
            have := HNN.out
            rw [Hid, List.length_cons]; omega
          have HIN : Hid (∀ f ∈ (1 :: candL g.val k).mergeSort (fun x y => decide (x ≤ y)), 1 ≤ f ∧ f ≤ 5000) := fun f hf => by
            rcases List.mem_cons.1 ((List.mergeSort_perm _ _).mem_iff.1 hf) with e | h
            · omega
            · exact candL_in g.val k f h
          have HV : Hid (fricV g.val ms (c : Nat) = ((1 :: candL g.val k).mergeSort fun x y => decide (x ≤ y)).find? (missB g.val ms c)) := by
            rw [Hid]; unfold fricV fricO; rw [HGl.out, hkn, Int.toNat_natCast]
          obtain ⟨fs, hfs⟩ : ∃ fs, 1 :: candL g.val k = fs := ⟨_, rfl⟩
          have hne : fs ≠ [] := by rw [← hfs]; simp
          have hown := HOW.out
          rw [hfs] at hown HLL HIN HV
          obtain ⟨q, cap, rfl, hq, hql⟩ := hown.block hne
          obtain ⟨p, hp⟩ : ∃ p, fs.length = p := ⟨_, rfl⟩
          rw [hp] at hown HLL
          simp only [hp]
          have HOWN := Lib.hid hown
          have HLLp := HLL.out
          clear hown hne hfs hp
          go_wp2_with fail
          refine (sort_own HOWN.out HLLp).mono ?_
          rintro e w4 ⟨rfl, ho4, hg4⟩
          have HB4 := Lib.hid (HBB.out.trans (Below.grownI hg4 HBB.out.size hq))
          obtain ⟨L, hL⟩ : ∃ L, (fs.mergeSort fun x y => decide (x ≤ y)) = L := ⟨_, rfl⟩
          rw [hL] at ho4 HV HIN
          have HO4 := Lib.hid ho4
          clear hL ho4 hg4
          go_wp2_with fail
          refine (compact_own HO4.out HLLp).mono ?_
          rintro e w5 ⟨rfl, hs5, hg5⟩
          have HB5 := Lib.hid (HB4.out.trans (Below.grownI hg5 HB4.out.size hq))
          have HVC : Hid (fricV g.val ms (c : Nat) = (Lib.compact L).find? (missB g.val ms c)) := by rw [Hid, HV.out, compact_find]
          have HINC : Hid (∀ f ∈ Lib.compact L, 1 ≤ f ∧ f ≤ 5000) := fun f hf => HIN.out f (compact_mem hf)
          obtain ⟨C, hC⟩ : ∃ C, Lib.compact L = C := ⟨_, rfl⟩
          rw [hC] at hs5 HVC HINC
          obtain ⟨mC, hmC⟩ : ∃ mC, C.length = mC := ⟨_, rfl⟩
          simp only [hC, hmC]
          rw [hmC] at hs5
          have HS5 := Lib.hid hs5
          have HMC2 := Lib.hid hmC
          have hmle := hs5.le
          clear hC hmC hs5 hg5
          go_wp2
          go_loopg [61] mC (fun gk i wr => ∃ k : Nat, k ≤ mC ∧ gk = mC - k ∧ i = .int .i64 k ∧ Below w5.heap.size w5 wr ∧ ∀ i y, i < k → C[i]? = some y → missB g.val ms c y = false)
          case atStart => exact ⟨0, Nat.zero_le _, rfl, rfl, Below.refl _ _, fun i y h => absurd h (by omega)⟩
          case round =>
            obtain ⟨k, hk, hgk, rfl, hb, hno⟩ := hrel
            have Hgk := Lib.hid hgk
            have HNO := Lib.hid hno
            have HBK := Lib.hid (HB5.out.trans (hb.mono HB5.out.size))
            clear hgk hno
            by_cases hlt : k < mC
            · obtain ⟨b9, o9, f, hA9, hb9, hf, f0⟩ := ints_at (HS5.out.below hb) hlt
              injection hA9 with e
              injection e with e1 e2 _
              subst e1 e2
              simp only [Nat.zero_add] at f0
              have HF := Lib.hid hf
              have hfb := HINC.out f (List.mem_of_getElem? hf)
              have y0 : wr.cell? ⟨w.heap.size, 0, none⟩ = some (.int .i64 g.rows) := (HO.out.below' HBK.out).cell 0
              have y1 : wr.cell? ⟨w.heap.size, 1, none⟩ = some (.int .i64 g.columns) := (HO.out.below' HBK.out).cell 1
              have y2 : wr.cell? ⟨w.heap.size, 2, none⟩ = some (.int .i64 g.size) := (HO.out.below' HBK.out).cell 2
              have y3 : wr.cell? ⟨w.heap.size, 3, none⟩ = some (.slice g.heightsA g.heightsN g.heightsC) := (HO.out.below' HBK.out).cell 3
              clear hf
              go_wp2_with fail
              refine ((HK.out.at_ hfb.1 hfb.2).call (HI.out.below HBK.out) (HR.out.below HBK.out)).mono ?_
              rintro e w6 ⟨AU, mu, cu, sN, AV, cv, ts, rfl, hsv, hts, hb6⟩
              have hfd : ∀ w : World, (Instr.field 63 (.agg #[.slice AU mu cu, .int .i64 sN, .slice AV n cv]) 2).run Try.prog w = .ok (.slice AV n cv) w := fun _ => by kernel_rfl
              obtain ⟨bV, oV, t, hAV, hbV, htc, t0⟩ := ints_at hsv hcn
              subst hAV
              have HMISS : Hid (missB g.val ms c f = decide (t < 0)) := by
                rw [Hid]; unfold missB; rw [← hts, List.getD_eq_getElem?_getD, htc]; rfl
              have HB6 := Lib.hid (HBK.out.trans (hb6.mono HBK.out.size))
              have HB65 := Lib.hid (hb.trans (hb6.mono hb.size))
              clear hsv hts htc hb6 y0 y1 y2 y3 f0
              by_cases htn : t < 0
              · have HVS : Hid (fricV g.val ms (c : Nat) = some f) := by
                  rw [Hid, HVC.out]
                  exact find_at HF.out (by rw [HMISS.out]; exact decide_eq_true htn) HNO.out
                have HK3 : Hid (fricK g.val ms c = 0) := by rw [Hid, HK2.out, HVS.out]; rfl
                have HA3 : Hid (fricA g.val ms c = f) := by rw [Hid, HA2.out, HVS.out]; rfl
                go_wp2
                go_ret2
                exact Ret.ii HA3.out.symm HK3.out.symm (HB.out.trans (HB6.out.mono HB.out.size))
              · have hd : decide (t < 0) = false := decide_eq_false htn
                have HNN2 : Hid (∀ i y, i < k + 1 → C[i]? = some y → missB g.val ms c y = false) := fun i y hi hy => by
                  by_cases e : i = k
                  · subst e
                    rw [HF.out] at hy
                    injection hy with hy
                    rw [← hy, HMISS.out, hd]
                  · exact HNO.out i y (by omega) hy
                go_wp2
                clear hfd
                go_roundg (mC - (k + 1))
                case measure => have := Hgk.out; omega
                case rel => exact ⟨k + 1, by omega, rfl, by go_num, HB65.out, HNN2.out⟩
            · have hkm : k = mC := by omega
              subst hkm
              have HVN : Hid (fricV g.val ms (c : Nat) = none) := by
                rw [Hid, HVC.out]
                exact find_none (fun i y hi hy => HNO.out i y (by rw [← HMC2.out]; exact hi) hy)
              have HK3 : Hid (fricK g.val ms c = 3) := by rw [Hid, HK2.out, HVN.out]; rfl
              have HA3 : Hid (fricA g.val ms c = 0) := by rw [Hid, HA2.out, HVN.out]; rfl
              go_wp2
              go_ret2
              exact Ret.ii HA3.out.symm HK3.out.symm (HB.out.trans (HBK.out.mono HB.out.size))
  · have HC := Lib.hid hc
    have hne : (runCx g.val ms 1 [cell] != 0) = true := by simp [hc]
    have HK2 : Hid (fricK g.val ms cell = runCx g.val ms 1 [cell]) := by rw [Hid]; unfold fricK; rw [if_neg hc]
    have HA2 : Hid (fricA g.val ms cell = 0) := by rw [Hid]; unfold fricA; rw [if_neg hc]
    clear hc
    go_wp2
    go_ret2
    exact Ret.ii HA2.out.symm HK2.out.symm HB.out

end Go.Proofs.Ythlgfmdlecdchaa
