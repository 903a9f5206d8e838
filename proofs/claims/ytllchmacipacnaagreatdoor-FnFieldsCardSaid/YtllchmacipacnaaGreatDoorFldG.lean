/- What cells gain, and snow over a field: the program's side. -/
import Derived.Test.YtllchmacipacnaaGreatDoorFldV
import Derived.Test.YtllchmacipacnaaGreatDoorPush2
import Derived.Test.YtllchmacipacnaaGreatDoorOwn2
import Derived.Deep.RegionHeld3
import Derived.Deep.RegionLaw
import Derived.BigQuiet
namespace Go.Proofs.YtllchmacipacnaaGreatDoor
open Go.RowKit

theorem belowC_step {a x y : World} (k : Below x.heap.size x y) (h : Below a.heap.size a x) : Below a.heap.size a y := h.trans (k.mono h.size)
theorem belowC_alc {a w : World} (h : Below a.heap.size a w) (o : Obj) : Below a.heap.size a (w.alloc o) := h.alloc h.size o
theorem put3 {T : TypeId} {R base : Nat} {w v : World} {p q r : Value} (h : Own v R T #[p, q, r]) (a b c : Value) (hb : Below base w v) (hR : base ≤ R) : Own (((v.setCell ⟨R, 0, none⟩ a).setCell ⟨R, 1, none⟩ b).setCell ⟨R, 2, none⟩ c) R T #[a, b, c] ∧ Below base w (((v.setCell ⟨R, 0, none⟩ a).setCell ⟨R, 1, none⟩ b).setCell ⟨R, 2, none⟩ c) :=
  ⟨by simpa using (((h.put 0 a).put 1 b).put 2 c), ((hb.setCell (p := ⟨R, 0, none⟩) hR _).setCell (p := ⟨R, 1, none⟩) hR _).setCell (p := ⟨R, 2, none⟩) hR _⟩
theorem put3_heap (w : World) (bb : Nat) (u v x : Value) (k : Nat) (h : k ≠ bb) : (((w.setCell ⟨bb, 0, none⟩ u).setCell ⟨bb, 1, none⟩ v).setCell ⟨bb, 2, none⟩ x).heap[k]? = w.heap[k]? :=
  (Below.heap_setCell _ ⟨bb, 2, none⟩ x k h).trans ((Below.heap_setCell _ ⟨bb, 1, none⟩ v k h).trans (Below.heap_setCell _ ⟨bb, 0, none⟩ u k h))
theorem OwnsL.put3 {α : Type} {w : World} {base G n cap sz R : Nat} {e : TypeId} {cells : α → List Value} {xs : List α} (h : OwnsL w base e sz cells (.slice (some ⟨G, 0, none⟩) n cap) xs) (hne : G ≠ R) (a b c : Value) : OwnsL (((w.setCell ⟨R, 0, none⟩ a).setCell ⟨R, 1, none⟩ b).setCell ⟨R, 2, none⟩ c) base e sz cells (.slice (some ⟨G, 0, none⟩) n cap) xs := h.kept (fun k hk => put3_heap w R a b c k (by
  have h1 : G = k := by injection hk
  omega))
set_option maxHeartbeats 1000000 in
theorem cloneI_any (b o n c : Nat) (xs : List Int) (w : World) (hx : SliceOf w 1 i64cells (some ⟨b, o, none⟩) n xs) (hn : n ≤ 1048576) :
    Calls Tryz.prog 25 #[.slice (some ⟨b, o, none⟩) n c] w (RetL 2 1 i64cells xs w) := by
  have hB : Below w.heap.size w (w.alloc (.cells #[] 2)) := (Below.refl _ _).alloc (Nat.le_refl _) _
  have hO := OwnsL.made w w.heap.size 2 1 i64cells (Nat.le_refl _)
  have q22 : ∀ (w : World) (a : Option Addr) (n c n' c' : Nat), (binOp .eql 24 (.slice a n c) (.slice none n' c')).run Tryz.prog w = .ok (.bool a.isNone) w := fun w a n c n' c' => Lib.run_eql_slice_nil w _ _ a n c n' c' Tryz.underlying24
  have HX := Lib.hid (hx.below hB)
  have HO := Lib.hid hO
  have HB := Lib.hid hB
  clear hx hB hO
  go_enter Tryz.func25, Tryz.ntmps25
  go_wp2_with (at_builtin; refine wpList_pushL (by rfl) _ _ 24 (by rfl) w.heap.size 2 Tryz.underlying24 infoI64 (by rfl) _ [] xs b o n c (by rfl) HO.out (by rfl) HX.out (by simp; omega) (by decide) HB.out.size ?_)
  intro v' w' hown hb _ _
  have HW := Lib.hid hown
  have HBW := Lib.hid (HB.out.trans hb)
  clear hown hb
  go_wp2
  go_ret
  exact RetP.mk (by simpa using HW.out) HBW.out
set_option maxHeartbeats 1000000 in
theorem gain_ok (fr fc gr gc : Int) (fA gA : Option Addr) (n fC gC : Nat) (ms os : List Int) (w : World) (hf : SliceOf w 1 i64cells fA n ms) (hg : SliceOf w 1 i64cells gA n os) (hn : 1 ≤ n) (hn64 : n ≤ 64) (hm : massB ms = true) (ho : massB os = true) :
    Calls Tryz.prog 40 #[.agg #[.int .i64 fr, .int .i64 fc, .slice fA n fC], .agg #[.int .i64 gr, .int .i64 gc, .slice gA n gC]] w (RetP (fun v w' => OwnsL w' w.heap.size 2 1 i64cells v (gainF ms os)) w) := by
  obtain ⟨ga, go, _, rfl, _, _, _⟩ := ints_at hg (k := 0) hn
  obtain ⟨W2, hW2⟩ : ∃ W2, (w.alloc (.cells #[.int .i64 fr, .int .i64 fc, .slice fA n fC] 26)).alloc (.cells #[.int .i64 gr, .int .i64 gc, .slice (some ⟨ga, go, none⟩) n gC] 26) = W2 := ⟨_, rfl⟩
  have hB : Below w.heap.size w W2 := by rw [← hW2]; exact ((Below.refl _ _).alloc (Nat.le_refl _) _).alloc (by simp) _
  have HOF : Hid (Own W2 w.heap.size 26 #[.int .i64 fr, .int .i64 fc, .slice fA n fC]) := by rw [Hid, ← hW2]; exact (Own.new w _ _).alloc _
  have HOG : Hid (Own W2 (w.heap.size + 1) 26 #[.int .i64 gr, .int .i64 gc, .slice (some ⟨ga, go, none⟩) n gC]) := by have := Own.new (w.alloc (.cells #[.int .i64 fr, .int .i64 fc, .slice fA n fC] 26)) 26 #[.int .i64 gr, .int .i64 gc, .slice (some ⟨ga, go, none⟩) n gC]; rw [Hid, ← hW2]; simpa using this
  have HSF := Lib.hid hf
  have HSG := Lib.hid (hg.below hB)
  have HB := Lib.hid hB
  have HM := Lib.hid hm
  have HO := Lib.hid ho
  have hlm := hf.len
  have hlo := hg.len
  have HLE : Hid (os.length = ms.length) := hlo.trans hlm.symm
  have HLO := Lib.hid hlo
  clear hf hg hB hm ho hlm hlo
  have x2 : W2.cell? ⟨w.heap.size, 2, none⟩ = some (.slice fA n fC) := HOF.out.cell 2
  have y2 : W2.cell? ⟨w.heap.size + 1, 2, none⟩ = some (.slice (some ⟨ga, go, none⟩) n gC) := HOG.out.cell 2
  go_enter Tryz.func40, Tryz.ntmps40
  go_wp2_with fail
  try rw [hW2]
  clear y2 x2 hW2
  refine (cloneI_any ga go n gC os W2 HSG.out (by omega)).mono ?_
  rintro e w1 ⟨v, rfl, hown, hb1⟩
  obtain ⟨G, cap, rfl, hG, hG2⟩ := hown.block (by intro h; have := HLO.out; rw [h] at this; simp at this; omega)
  rw [HLO.out] at hown ⊢
  have HGB : Hid (w.heap.size ≤ G) := Nat.le_trans HB.out.size hG
  have HOW := Lib.hid hown
  have HB1 := Lib.hid (HB.out.trans (hb1.mono HB.out.size))
  have x2 : w1.cell? ⟨w.heap.size, 2, none⟩ = some (.slice fA n fC) := (HOF.out.below' hb1).cell 2
  clear hown hb1 hG hG2
  go_wp2
  clear x2
  go_loopg [14] n (fun gk i wr => ∃ k : Nat, k ≤ n ∧ gk = n - k ∧ i = .int .i64 k ∧ Below w.heap.size w wr ∧ OwnsL wr W2.heap.size 2 1 i64cells (.slice (some ⟨G, 0, none⟩) n cap) (mixL (fun a b => a - b) os ms k))
  case atStart => exact ⟨0, Nat.zero_le _, rfl, rfl, HB1.out, by rw [mixL_zero]; exact HOW.out⟩
  case round =>
    obtain ⟨k, hk, hgk, rfl, hb, hown⟩ := hrel
    have Hgk := Lib.hid hgk
    have HOW := Lib.hid hown
    have HBR := Lib.hid hb
    clear hgk hown hb
    by_cases hlt : k < n
    · obtain ⟨b1, o1, x, rfl, hb1, hxk, x0⟩ := ints_at (HSF.out.below HBR.out) hlt
      obtain ⟨y, hyk⟩ : ∃ y, os[k]? = some y := ⟨_, List.getElem?_eq_getElem (by rw [HLO.out]; exact hlt)⟩
      have c0 := HOW.out.cellAt (mixL_at HLE.out hyk)
      have df := HOW.out.frozen
      have lG := (HOW.out.lt G rfl).2
      have hx := massB_at HM.out hxk
      have hy := massB_at HO.out hyk
      have hgb := HGB.out
      have HSET := Lib.hid (HOW.out.setAt (k := k) (y - x))
      rw [mixL_step HLE.out hyk hxk] at HSET
      have HBS : Hid (Below w.heap.size w (wr.setCell ⟨G, k, none⟩ (.int .i64 (y - x)))) := HBR.out.setCell HGB.out _
      clear hxk hyk
      go_wp2
      go_roundg (n - (k + 1))
      case measure => have := Hgk.out; omega
      case rel => exact ⟨k + 1, by omega, rfl, by go_num, HBS.out, HSET.out⟩
    · obtain rfl : k = n := by omega
      have HE : Hid (mixL (fun a b => a - b) os ms k = gainF ms os) := by
        have h := mixL_all (f := fun a b : Int => a - b) HLE.out
        rw [HLO.out] at h
        exact h
      go_wp2
      go_ret
      exact RetP.mk (HE.out ▸ HOW.out.rebase HB.out.size) HBR.out
set_option maxHeartbeats 1000000 in
theorem snowOver_any (f : FieldR) (mass : Int) (w : World) (hin : f.In w) : Calls Tryz.prog 6 #[.agg #[.int .i64 f.rows, .int .i64 f.columns, .slice f.massesA f.massesN f.massesC], .int .i64 mass] w (fun e w' => ∃ (p : FieldR) (code : Int), e = .returned (.tuple #[.agg #[.int .i64 p.rows, .int .i64 p.columns, .slice p.massesA p.massesN p.massesC], .int .i64 code]) ∧ Below w.heap.size w w' ∧ p.In w' ∧ (code = 0 → fieldB f.val = true ∧ 0 ≤ mass ∧ mass ≤ 1000000 ∧ p.val = ⟨f.rows, f.columns, addF mass f.masses⟩ ∧ fieldB p.val = true)) := by
  obtain ⟨W2, hW2⟩ : ∃ W2, (w.alloc (.cells #[.int .i64 f.rows, .int .i64 f.columns, .slice f.massesA f.massesN f.massesC] 26)).alloc (.cells #[.int .i64 0, .int .i64 0, .slice none 0 0] 26) = W2 := ⟨_, rfl⟩
  have hB : Below w.heap.size w W2 := by rw [← hW2]; exact ((Below.refl _ _).alloc (Nat.le_refl _) _).alloc (by simp) _
  have HOF : Hid (BoxF w.heap.size f W2) := ⟨by rw [← hW2]; exact (Own.new w _ _).alloc _, hin.below hB⟩
  have HOR : Hid (Own W2 (w.heap.size + 1) 26 #[.int .i64 0, .int .i64 0, .slice none 0 0]) := by have := Own.new (w.alloc (.cells #[.int .i64 f.rows, .int .i64 f.columns, .slice f.massesA f.massesN f.massesC] 26)) 26 #[.int .i64 0, .int .i64 0, .slice none 0 0]; rw [Hid, ← hW2]; simpa using this
  have HB := Lib.hid hB
  clear hin hB
  obtain ⟨y0, y1, y2, ly⟩ := HOF.out.cells
  go_enter Tryz.func6, Tryz.ntmps6
  go_wp2_with fail
  try rw [hW2]
  clear hW2
  refine (validField_any f _ HOF.out.gi).mono ?_
  rintro e w1 ⟨rfl, hb1⟩
  have HOF1 := Lib.hid (HOF.out.grow hb1)
  have HOR1 := Lib.hid (HOR.out.below' hb1)
  have HB1 := Lib.hid (HB.out.trans (hb1.mono HB.out.size))
  clear y0 y1 y2 ly hb1
  have z0 := HOR1.out.cell 0
  have z1 := HOR1.out.cell 1
  have z2 := HOR1.out.cell 2
  have dz := HOR1.out.frozen
  have lz := HOR1.out.lt
  have HNI : Hid ((⟨0, 0, none, 0, 0, []⟩ : FieldR).In w) := ⟨SliceOf.nil_, Nat.le_refl _, by decide⟩
  simp at z0 z1 z2
  cases hf : fieldB f.val
  · go_wp2
    have h3 := put3 HOR1.out (.int .i64 0) (.int .i64 0) (.slice none 0 0) HB1.out (by omega)
    obtain ⟨wf, hwf⟩ : ∃ wf, ((w1.setCell ⟨w.heap.size + 1, 0, none⟩ (.int .i64 0)).setCell ⟨w.heap.size + 1, 1, none⟩ (.int .i64 0)).setCell ⟨w.heap.size + 1, 2, none⟩ (.slice none 0 0) = wf := ⟨_, rfl⟩
    rw [hwf] at h3 ⊢
    have f0 := h3.1.cell 0
    have f1 := h3.1.cell 1
    have f2 := h3.1.cell 2
    simp at f0 f1 f2
    exact bodyPost_ret (v := .tuple #[.agg #[.int .i64 0, .int .i64 0, .slice none 0 0], .int .i64 1]) (by simp [results, Tryz.results6, go_sem, f0, f1, f2]) rfl ⟨⟨0, 0, none, 0, 0, []⟩, 1, rfl, h3.2, HNI.out.below h3.2, fun h => absurd h (by decide)⟩
  have HF := Lib.hid hf
  obtain ⟨R, C, hR, hC, hR1, hR8, hC1, hC8, hl, h64, hmB⟩ := fieldB_nat hf
  have HLM : Hid (f.masses.length = f.massesN) := HOF.out.gi.1.len
  have hl' : f.massesN = R * C := HLM.out.symm.trans hl
  have hRC : 1 ≤ R * C := Nat.mul_le_mul hR1 hC1
  have hn1 : 1 ≤ f.massesN := by omega
  have hn64 : f.massesN ≤ 64 := by omega
  have HMB : Hid (massB f.masses = true) := hmB
  clear hf hR hC hl h64 hmB hl' hRC hR1 hR8 hC1 hC8
  cases hms : inB mass 0 1000000
  · go_wp2_with fail
    refine (within_any mass 0 1000000 w1).mono ?_
    rintro e w2 ⟨rfl, rfl⟩
    rw [hms]
    go_wp2
    have h3 := put3 HOR1.out (.int .i64 0) (.int .i64 0) (.slice none 0 0) HB1.out (by omega)
    obtain ⟨wf, hwf⟩ : ∃ wf, ((w1.setCell ⟨w.heap.size + 1, 0, none⟩ (.int .i64 0)).setCell ⟨w.heap.size + 1, 1, none⟩ (.int .i64 0)).setCell ⟨w.heap.size + 1, 2, none⟩ (.slice none 0 0) = wf := ⟨_, rfl⟩
    rw [hwf] at h3 ⊢
    have f0 := h3.1.cell 0
    have f1 := h3.1.cell 1
    have f2 := h3.1.cell 2
    simp at f0 f1 f2
    exact bodyPost_ret (v := .tuple #[.agg #[.int .i64 0, .int .i64 0, .slice none 0 0], .int .i64 2]) (by simp [results, Tryz.results6, go_sem, f0, f1, f2]) rfl ⟨⟨0, 0, none, 0, 0, []⟩, 2, rfl, h3.2, HNI.out.below h3.2, fun h => absurd h (by decide)⟩
  have ⟨hm0, hm1⟩ := inB_iff.1 hms
  go_wp2_with fail
  refine (within_any mass 0 1000000 w1).mono ?_
  rintro e w2 ⟨rfl, rfl⟩
  rw [hms]
  clear hms
  obtain ⟨ga, go, _, hA, _, _, _⟩ := ints_at HOF1.out.gi.1 (k := 0) hn1
  obtain ⟨y0, y1, y2, ly⟩ := HOF1.out.cells
  rw [hA] at y2
  have HSL : Hid (SliceOf w1 1 i64cells (some ⟨ga, go, none⟩) f.massesN f.masses) := by rw [Hid, ← hA]; exact HOF1.out.gi.1
  have HCL : Hid (∀ W, Below w1.heap.size w1 W → Calls Tryz.prog 25 #[.slice (some ⟨ga, go, none⟩) f.massesN f.massesC] W (RetL 2 1 i64cells f.masses W)) := fun W hW => cloneI_any ga go f.massesN f.massesC f.masses W (HSL.out.below hW) (by omega)
  have HA := Lib.hid hA
  clear hA
  have HSB : Hid (∀ w', Below w1.heap.size w1 w' → w'.cell? ⟨w.heap.size, 0, none⟩ = some (.int .i64 f.rows) ∧ w'.cell? ⟨w.heap.size, 1, none⟩ = some (.int .i64 f.columns) ∧ w'.cell? ⟨w.heap.size, 2, none⟩ = some (.slice (some ⟨ga, go, none⟩) f.massesN f.massesC) ∧ w.heap.size < w'.heap.size ∧ Below w1.heap.size w1 w') := fun w' h => ⟨(h.cell ly).trans y0, (h.cell ly).trans y1, (h.cell ly).trans y2, Nat.lt_of_lt_of_le ly h.size, h⟩
  go_upto_region 5 with fail
  go_cut [6] from 18 to 25 (fun p wx => ∃ X G cap : Nat, p = .pointer (some ⟨X, 0, none⟩) ∧ Own wx X 26 #[.int .i64 f.rows, .int .i64 f.columns, .slice (some ⟨G, 0, none⟩) f.massesN cap] ∧ OwnsL wx w1.heap.size 2 1 i64cells (.slice (some ⟨G, 0, none⟩) f.massesN cap) f.masses ∧ X ≠ G ∧ w1.heap.size ≤ X ∧ w1.heap.size ≤ G ∧ Below w1.heap.size w1 wx)
  case first =>
    refine wp_region_held_drew (S := (fun w' => w'.cell? ⟨w.heap.size, 0, none⟩ = some (.int .i64 f.rows) ∧ w'.cell? ⟨w.heap.size, 1, none⟩ = some (.int .i64 f.columns) ∧ w'.cell? ⟨w.heap.size, 2, none⟩ = some (.slice (some ⟨ga, go, none⟩) f.massesN f.massesC) ∧ w.heap.size < w'.heap.size ∧ Below w1.heap.size w1 w')) (by kernel_rfl) (HSB.out _ (by (repeat (first | (with_reducible exact Below.refl _ _) | (with_reducible refine Below.drew ?_) | (with_reducible refine belowC_alc ?_ _) | (with_reducible refine belowC_step (by assumption) ?_))))) (fun hHeld => ?_)
    simp only [List.size_toArray, List.length_cons, List.length_nil, Nat.zero_add, Nat.reduceAdd]
    refine wpAnyH_take (i := 0) (oi := _) (v := ?_) rfl (by kernel_rfl) (by kernel_rfl) (by kernel_rfl) (fun _ _ _ h => h) (Or.inl ⟨by rfl, ?_⟩) (by assumption) ?_
    rotate_left
    · intro w hSw; (try dsimp only at hSw); go_simp; (try with_reducible rfl)
    simp only [List.getElem_toArray, List.getElem_cons_zero, Act.put, List.setIfInBounds_toArray, List.set_cons_zero, List.set_cons_succ]
    refine wpAnyH_take (i := 1) (oi := _) (v := ?_) rfl (by kernel_rfl) (by kernel_rfl) (by kernel_rfl) (fun _ _ _ h => h) (Or.inl ⟨by rfl, ?_⟩) (by assumption) ?_
    rotate_left
    · intro w hSw; (try dsimp only at hSw); go_simp; (try with_reducible rfl)
    simp only [List.getElem_toArray, List.getElem_cons_zero, List.getElem_cons_succ, Act.put, List.setIfInBounds_toArray, List.set_cons_zero, List.set_cons_succ]
    refine wpAnyH_take (i := 2) (oi := _) (v := ?_) rfl (by kernel_rfl) (by kernel_rfl) (by kernel_rfl) (fun _ _ _ h => h) (Or.inl ⟨by rfl, ?_⟩) (by assumption) ?_
    rotate_left
    · intro w hSw; (try dsimp only at hSw); go_simp; (try with_reducible rfl)
    simp only [List.getElem_toArray, List.getElem_cons_zero, List.getElem_cons_succ, Act.put, List.setIfInBounds_toArray, List.set_cons_zero, List.set_cons_succ]
    refine wpAnyH_take (i := 3) (oi := _) (v := ?_) rfl (by kernel_rfl) (by kernel_rfl) (by kernel_rfl) (fun _ _ _ h => h) (Or.inl ⟨by rfl, ?_⟩) (by assumption) ?_
    rotate_left
    · intro w hSw; (try dsimp only at hSw); go_simp; (try with_reducible rfl)
    simp only [List.getElem_toArray, List.getElem_cons_zero, List.getElem_cons_succ, Act.put, List.setIfInBounds_toArray, List.set_cons_zero, List.set_cons_succ]
    refine wpAnyH_take (i := 4) (oi := _) (v := ?_) rfl (by kernel_rfl) (by kernel_rfl) (by kernel_rfl) (fun _ _ _ h => h) (Or.inl ⟨by rfl, ?_⟩) (by assumption) ?_
    rotate_left
    · intro w hSw; (try dsimp only at hSw); go_simp; (try with_reducible rfl)
    simp only [List.getElem_toArray, List.getElem_cons_zero, List.getElem_cons_succ, Act.put, List.setIfInBounds_toArray, List.set_cons_zero, List.set_cons_succ]
    refine wpAnyH_take (i := 5) (oi := _) (v := ?_) rfl (by kernel_rfl) (by kernel_rfl) (by kernel_rfl) (fun _ _ _ h => h) (Or.inl ⟨by rfl, ?_⟩) (by assumption) ?_
    rotate_left
    · intro w hSw; (try dsimp only at hSw); go_simp; (try with_reducible rfl)
    simp only [List.getElem_toArray, List.getElem_cons_zero, List.getElem_cons_succ, Act.put, List.setIfInBounds_toArray, List.set_cons_zero, List.set_cons_succ]
    refine wpAnyH_ready (rs := [6, 8]) (by kernel_rfl) (by simp) ?_
    refine AllReadyH.cons (o := _) rfl (fun K hK => ?_) (AllReadyH.cons (o := _) rfl (fun K hK => ?_) AllReadyH.nil)
    · simp only [List.getElem_toArray, List.getElem_cons_zero, List.getElem_cons_succ]
      go_simp
      go_at_call 25; (with_reducible refine Calls.mono (HCL.out _ (by (repeat (first | (with_reducible exact Below.refl _ _) | (with_reducible refine Below.drew ?_) | (with_reducible refine belowC_alc ?_ _) | (with_reducible refine belowC_step (by assumption) ?_))))) ?_); rintro e wq ⟨v, rfl, hoq, hbq⟩; obtain ⟨G, cap, rfl, hG, hG2⟩ := hoq.block (by intro h; have := HLM.out; rw [h] at this; simp at this; omega); rw [HLM.out] at hoq ⊢; have hGl : G < wq.heap.size := (hoq.lt G rfl).2
      refine hK.out _ _ (HSB.out _ (by (repeat (first | (with_reducible exact Below.refl _ _) | (with_reducible refine Below.drew ?_) | (with_reducible refine belowC_alc ?_ _) | (with_reducible refine belowC_step (by assumption) ?_))))) (fun hHeld2 => ?_)
      clear hK K
      try simp only [List.getElem_toArray, List.getElem_cons_zero, List.getElem_cons_succ, Act.put, List.setIfInBounds_toArray, List.set_cons_zero, List.set_cons_succ]
      refine wpAnyH_take (i := 7) (oi := _) (v := ?_) rfl (by kernel_rfl) (by kernel_rfl) (by kernel_rfl) (fun _ _ _ h => h) (Or.inl ⟨by rfl, ?_⟩) (by assumption) ?_
      rotate_left
      · intro w hSw; (try dsimp only at hSw); go_simp; (try with_reducible rfl)
      simp only [List.getElem_toArray, List.getElem_cons_zero, List.getElem_cons_succ, Act.put, List.setIfInBounds_toArray, List.set_cons_zero, List.set_cons_succ]
      have hW1 : w1.heap.size ≤ G := Nat.le_trans (by exact (by (repeat (first | (with_reducible exact Below.refl _ _) | (with_reducible refine Below.drew ?_) | (with_reducible refine belowC_alc ?_ _) | (with_reducible refine belowC_step (by assumption) ?_))) : Below w1.heap.size w1 _).size) hG
      refine wpAnyH_ready (rs := [8]) (by kernel_rfl) (by simp) ?_
      refine AllReadyH.cons (o := _) rfl (fun K hK => ?_) AllReadyH.nil
      simp only [List.getElem_toArray, List.getElem_cons_zero, List.getElem_cons_succ]
      go_simp
      refine hK.out _ _ (HSB.out _ (by (repeat (first | (with_reducible exact Below.refl _ _) | (with_reducible refine Below.drew ?_) | (with_reducible refine belowC_alc ?_ _) | (with_reducible refine belowC_step (by assumption) ?_))))) (fun hHeld2 => ?_)
      clear hK K
      try simp only [List.getElem_toArray, List.getElem_cons_zero, List.getElem_cons_succ, Act.put, List.setIfInBounds_toArray, List.set_cons_zero, List.set_cons_succ]
      have HX := Own.new wq 26 #[.int .i64 f.rows, .int .i64 f.columns, .slice (some ⟨G, 0, none⟩) f.massesN cap]
      refine wpAnyH_ready (rs := [9]) (by kernel_rfl) (by simp) ?_
      refine AllReadyH.cons (o := _) rfl (fun K hK => ?_) AllReadyH.nil
      simp only [List.getElem_toArray, List.getElem_cons_zero, List.getElem_cons_succ]
      go_simp
      refine hK.out _ _ (HSB.out _ (by (repeat (first | (with_reducible exact Below.refl _ _) | (with_reducible refine Below.drew ?_) | (with_reducible refine belowC_alc ?_ _) | (with_reducible refine belowC_step (by assumption) ?_))))) (fun hHeld2 => ?_)
      clear hK K
      try simp only [List.getElem_toArray, List.getElem_cons_zero, List.getElem_cons_succ, Act.put, List.setIfInBounds_toArray, List.set_cons_zero, List.set_cons_succ]
      refine wpAnyH_done (by kernel_rfl) ?_ _
      go_wp2_with fail
      go_meet
      exact ⟨_, G, cap, rfl, HX, OwnsL.rebase (hoq.alloc _) (by exact (by (repeat (first | (with_reducible exact Below.refl _ _) | (with_reducible refine Below.drew ?_) | (with_reducible refine belowC_alc ?_ _) | (with_reducible refine belowC_step (by assumption) ?_))) : Below w1.heap.size w1 _).size), by omega, by exact (by (repeat (first | (with_reducible exact Below.refl _ _) | (with_reducible refine Below.drew ?_) | (with_reducible refine belowC_alc ?_ _) | (with_reducible refine belowC_step (by assumption) ?_))) : Below w1.heap.size w1 wq).size, hW1, by (repeat (first | (with_reducible exact Below.refl _ _) | (with_reducible refine Below.drew ?_) | (with_reducible refine belowC_alc ?_ _) | (with_reducible refine belowC_step (by assumption) ?_)))⟩
    · simp only [List.getElem_toArray, List.getElem_cons_zero, List.getElem_cons_succ]
      go_simp
      refine hK.out _ _ (HSB.out _ (by (repeat (first | (with_reducible exact Below.refl _ _) | (with_reducible refine Below.drew ?_) | (with_reducible refine belowC_alc ?_ _) | (with_reducible refine belowC_step (by assumption) ?_))))) (fun hHeld2 => ?_)
      clear hK K
      try simp only [List.getElem_toArray, List.getElem_cons_zero, List.getElem_cons_succ, Act.put, List.setIfInBounds_toArray, List.set_cons_zero, List.set_cons_succ]
      refine wpAnyH_ready (rs := [6]) (by kernel_rfl) (by simp) ?_
      refine AllReadyH.cons (o := _) rfl (fun K hK => ?_) AllReadyH.nil
      simp only [List.getElem_toArray, List.getElem_cons_zero, List.getElem_cons_succ]
      go_simp
      (go_at_call 25; (with_reducible refine Calls.mono (HCL.out _ (by (repeat (first | (with_reducible exact Below.refl _ _) | (with_reducible refine Below.drew ?_) | (with_reducible refine belowC_alc ?_ _) | (with_reducible refine belowC_step (by assumption) ?_))))) ?_); rintro e wq ⟨v, rfl, hoq, hbq⟩; obtain ⟨G, cap, rfl, hG, hG2⟩ := hoq.block (by intro h; have := HLM.out; rw [h] at this; simp at this; omega); rw [HLM.out] at hoq ⊢; have hGl : G < wq.heap.size := (hoq.lt G rfl).2)
      refine hK.out _ _ (HSB.out _ (by (repeat (first | (with_reducible exact Below.refl _ _) | (with_reducible refine Below.drew ?_) | (with_reducible refine belowC_alc ?_ _) | (with_reducible refine belowC_step (by assumption) ?_))))) (fun hHeld2 => ?_)
      clear hK K
      try simp only [List.getElem_toArray, List.getElem_cons_zero, List.getElem_cons_succ, Act.put, List.setIfInBounds_toArray, List.set_cons_zero, List.set_cons_succ]
      refine wpAnyH_take (i := 7) (oi := _) (v := ?_) rfl (by kernel_rfl) (by kernel_rfl) (by kernel_rfl) (fun _ _ _ h => h) (Or.inl ⟨by rfl, ?_⟩) (by assumption) ?_
      rotate_left
      · intro w hSw; (try dsimp only at hSw); go_simp; (try with_reducible rfl)
      simp only [List.getElem_toArray, List.getElem_cons_zero, List.getElem_cons_succ, Act.put, List.setIfInBounds_toArray, List.set_cons_zero, List.set_cons_succ]
      have hW1 : w1.heap.size + 1 ≤ G := by simpa using hG
      have HOZ : Own wq w1.heap.size 26 #[.int .i64 0, .int .i64 0, .slice none 0 0] := (Own.new w1.drew 26 #[.int .i64 0, .int .i64 0, .slice none 0 0]).below' hbq
      have hBq : Below w1.heap.size w1 wq := by (repeat (first | (with_reducible exact Below.refl _ _) | (with_reducible refine Below.drew ?_) | (with_reducible refine belowC_alc ?_ _) | (with_reducible refine belowC_step (by assumption) ?_)))
      have c0 := HOZ.cell 0
      have c1 := HOZ.cell 1
      have c2 := HOZ.cell 2
      have dq := HOZ.frozen
      have lq := HOZ.lt
      simp at c0 c1 c2
      have h3 := put3 HOZ (.int .i64 f.rows) (.int .i64 f.columns) (.slice (some ⟨G, 0, none⟩) f.massesN cap) hBq (Nat.le_refl _)
      have HKQ := OwnsL.put3 hoq (R := w1.heap.size) (by omega) (.int .i64 f.rows) (.int .i64 f.columns) (.slice (some ⟨G, 0, none⟩) f.massesN cap)
      refine wpAnyH_ready (rs := [9]) (by kernel_rfl) (by simp) ?_
      refine AllReadyH.cons (o := _) rfl (fun K hK => ?_) AllReadyH.nil
      simp only [List.getElem_toArray, List.getElem_cons_zero, List.getElem_cons_succ]
      go_simp
      refine hK.out _ _ (HSB.out _ h3.2) (fun hHeld2 => ?_)
      clear hK K
      try simp only [List.getElem_toArray, List.getElem_cons_zero, List.getElem_cons_succ, Act.put, List.setIfInBounds_toArray, List.set_cons_zero, List.set_cons_succ]
      refine wpAnyH_done (by kernel_rfl) ?_ _
      go_wp2_with fail
      go_meet
      exact ⟨_, G, cap, rfl, h3.1, HKQ.rebase (by simp), by omega, Nat.le_refl _, by omega, h3.2⟩
  case rest =>
    obtain ⟨X, G, cap, rfl, hox, hog, hXG, hX, hG, hbc⟩ := hcut
    have HOX := Lib.hid hox
    have HOG := Lib.hid hog
    have HBC := Lib.hid hbc
    have HXG := Lib.hid hXG
    have HOR2 := Lib.hid (HOR1.out.below' hbc)
    have HXL : Hid (w1.heap.size ≤ X ∧ w1.heap.size ≤ G) := ⟨hX, hG⟩
    clear hox hog hbc y0 y1 y2 ly z0 z1 z2 dz lz HCL HSB
    have x2 := HOX.out.cell 2
    simp at x2
    go_wp2
    clear x2
    go_loopg [29] f.massesN (fun gk i wr => ∃ k : Nat, k ≤ f.massesN ∧ gk = f.massesN - k ∧ i = .int .i64 k ∧ Below w1.heap.size w1 wr ∧ Own wr X 26 #[.int .i64 f.rows, .int .i64 f.columns, .slice (some ⟨G, 0, none⟩) f.massesN cap] ∧ OwnsL wr w1.heap.size 2 1 i64cells (.slice (some ⟨G, 0, none⟩) f.massesN cap) (mixL (fun a b => a + b) f.masses (f.masses.map fun _ => mass) k))
    case atStart => exact ⟨0, Nat.zero_le _, rfl, rfl, HBC.out, HOX.out, by rw [mixL_zero]; exact HOG.out⟩
    case round =>
      obtain ⟨k, hk, hgk, rfl, hb, hox, hog⟩ := hrel
      have Hgk := Lib.hid hgk
      have HBR := Lib.hid hb
      have HOXR := Lib.hid hox
      have HOGR := Lib.hid hog
      have HLE : Hid (f.masses.length = (f.masses.map fun _ => mass).length) := by simp [Hid]
      clear hgk hb hox hog
      have x2 := HOXR.out.cell 2
      have lX := HOXR.out.lt
      simp at x2
      by_cases hlt : k < f.massesN
      · obtain ⟨y, hyk⟩ : ∃ y, f.masses[k]? = some y := ⟨_, List.getElem?_eq_getElem (by rw [HLM.out]; exact hlt)⟩
        have hmk : (f.masses.map fun _ => mass)[k]? = some mass := by rw [List.getElem?_map, hyk]; rfl
        have hy := massB_at HMB.out hyk
        have c0 := HOGR.out.cellAt (mixL_at HLE.out hyk)
        have df := HOGR.out.frozen
        have lG := (HOGR.out.lt G rfl).2
        have HSET := Lib.hid (HOGR.out.setAt (k := k) (y + mass))
        rw [mixL_step HLE.out hyk hmk] at HSET
        have HBS : Hid (Below w1.heap.size w1 (wr.setCell ⟨G, k, none⟩ (.int .i64 (y + mass)))) := HBR.out.setCell HXL.out.2 _
        have HXS : Hid (Own (wr.setCell ⟨G, k, none⟩ (.int .i64 (y + mass))) X 26 #[.int .i64 f.rows, .int .i64 f.columns, .slice (some ⟨G, 0, none⟩) f.massesN cap]) := HOXR.out.far HXG.out _
        clear hyk hmk
        go_wp2
        go_roundg (f.massesN - (k + 1))
        case measure => have := Hgk.out; omega
        case rel => exact ⟨k + 1, by omega, rfl, by go_num, HBS.out, HXS.out, HSET.out⟩
      · obtain rfl : k = f.massesN := by omega
        have HE : Hid (mixL (fun a b => a + b) f.masses (f.masses.map fun _ => mass) f.massesN = addF mass f.masses) := by
          have h := mixL_all (f := fun a b : Int => a + b) HLE.out
          rw [HLM.out] at h
          exact h
        have hog := HOGR.out
        rw [HE.out] at hog
        have HOGE := Lib.hid hog
        have HIN : Hid ((⟨f.rows, f.columns, some ⟨G, 0, none⟩, f.massesN, cap, addF mass f.masses⟩ : FieldR).In wr) := FieldR.in_of (p := ⟨f.rows, f.columns, some ⟨G, 0, none⟩, f.massesN, cap, addF mass f.masses⟩) hog
        have x0 := HOXR.out.cell 0
        have x1 := HOXR.out.cell 1
        simp at x0 x1
        clear hog HOGR HE
        go_wp2_with fail
        refine (validField_any (⟨f.rows, f.columns, some ⟨G, 0, none⟩, f.massesN, cap, addF mass f.masses⟩ : FieldR) _ HIN.out).mono ?_
        rintro e w5 ⟨rfl, hb5⟩
        have HOX5 := Lib.hid (HOXR.out.below' hb5)
        have HOG5 := Lib.hid (HOGE.out.below' hb5)
        have HB5 := Lib.hid (HBR.out.trans (hb5.mono HBR.out.size))
        have HOR5 := Lib.hid (HOR1.out.below' HB5.out)
        have HBW : Hid (Below w.heap.size w w5) := HB1.out.trans (HB5.out.mono HB1.out.size)
        have HRL := Lib.hid HOR1.out.lt
        clear x0 x1 x2 lX hb5
        have x0 := HOX5.out.cell 0
        have x1 := HOX5.out.cell 1
        have x2 := HOX5.out.cell 2
        have lX := HOX5.out.lt
        have z0 := HOR5.out.cell 0
        have z1 := HOR5.out.cell 1
        have z2 := HOR5.out.cell 2
        have dz := HOR5.out.frozen
        have lz := HOR5.out.lt
        simp at x0 x1 x2 z0 z1 z2
        cases hfb : fieldB (⟨f.rows, f.columns, some ⟨G, 0, none⟩, f.massesN, cap, addF mass f.masses⟩ : FieldR).val
        · go_wp2
          have h3 := put3 HOR5.out (.int .i64 0) (.int .i64 0) (.slice none 0 0) HBW.out (by omega)
          obtain ⟨wf, hwf⟩ : ∃ wf, ((w5.setCell ⟨w.heap.size + 1, 0, none⟩ (.int .i64 0)).setCell ⟨w.heap.size + 1, 1, none⟩ (.int .i64 0)).setCell ⟨w.heap.size + 1, 2, none⟩ (.slice none 0 0) = wf := ⟨_, rfl⟩
          rw [hwf] at h3 ⊢
          have f0 := h3.1.cell 0
          have f1 := h3.1.cell 1
          have f2 := h3.1.cell 2
          simp at f0 f1 f2
          exact bodyPost_ret (v := .tuple #[.agg #[.int .i64 0, .int .i64 0, .slice none 0 0], .int .i64 6]) (by simp [results, Tryz.results6, go_sem, f0, f1, f2]) rfl ⟨⟨0, 0, none, 0, 0, []⟩, 6, rfl, h3.2, HNI.out.below h3.2, fun h => absurd h (by decide)⟩
        · have HFB := Lib.hid hfb
          clear hfb
          go_wp2
          have h3 := put3 HOR5.out (.int .i64 f.rows) (.int .i64 f.columns) (.slice (some ⟨G, 0, none⟩) f.massesN cap) HBW.out (by omega)
          have h4 := OwnsL.put3 HOG5.out (R := w.heap.size + 1) (by have h1 := HRL.out; have h2 := HXL.out.2; omega) (.int .i64 f.rows) (.int .i64 f.columns) (.slice (some ⟨G, 0, none⟩) f.massesN cap)
          obtain ⟨wf, hwf⟩ : ∃ wf, ((w5.setCell ⟨w.heap.size + 1, 0, none⟩ (.int .i64 f.rows)).setCell ⟨w.heap.size + 1, 1, none⟩ (.int .i64 f.columns)).setCell ⟨w.heap.size + 1, 2, none⟩ (.slice (some ⟨G, 0, none⟩) f.massesN cap) = wf := ⟨_, rfl⟩
          rw [hwf] at h3 h4 ⊢
          have f0 := h3.1.cell 0
          have f1 := h3.1.cell 1
          have f2 := h3.1.cell 2
          simp at f0 f1 f2
          exact bodyPost_ret (v := .tuple #[.agg #[.int .i64 f.rows, .int .i64 f.columns, .slice (some ⟨G, 0, none⟩) f.massesN cap], .int .i64 0]) (by simp [results, Tryz.results6, go_sem, f0, f1, f2]) rfl ⟨⟨f.rows, f.columns, some ⟨G, 0, none⟩, f.massesN, cap, addF mass f.masses⟩, 0, rfl, h3.2, FieldR.in_of (p := ⟨f.rows, f.columns, some ⟨G, 0, none⟩, f.massesN, cap, addF mass f.masses⟩) h4, fun _ => ⟨HF.out, hm0, hm1, rfl, HFB.out⟩⟩

end Go.Proofs.YtllchmacipacnaaGreatDoor
