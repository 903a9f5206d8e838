/- A copy of a grid with one cell raised, on both sides. -/
import Derived.Test.YthlgfmdlecdchaaBase
import Derived.Test.YthlgfmdlecdchaaMem
import Derived.Test.YthlgfmdlecdchaaTInt64
import Derived.Test.YthlgfmdlecdchaaWithin
import Derived.Test.YthlgfmdlecdchaaTGrid
import Derived.Test.YthlgfmdlecdchaaPush2
import Derived.Test.YthlgfmdlecdchaaArr
import Derived.Test.YthlgfmdlecdchaaArr2
import Derived.Test.YthlgfmdlecdchaaDamP
import Derived.Test.YthlgfmdlecdchaaSrcK
namespace Go.Proofs.Ythlgfmdlecdchaa
open Go.RowKit

theorem l15By_any (b : Int) (w : World) : Calls Try.prog 49 #[.int .i64 b] w (RetS (.bool (inB b 0 100)) w) := by
  go_enter Try.func49, Try.ntmps49
  go_wp2_with (go_at_call 62; refine (l00In_any _ _ _ _).mono ?_; rintro e w' ⟨rfl, rfl⟩)
  go_ret
  exact RetS.b rfl
set_option maxHeartbeats 1000000 in
theorem cloneI_any (b o n c : Nat) (xs : List Int) (w : World) (hx : SliceOf w 1 i64cells (some ⟨b, o, none⟩) n xs) (hn : n ≤ 1048576) :
    Calls Try.prog 76 #[.slice (some ⟨b, o, none⟩) n c] w (RetL 2 1 i64cells xs w) := by
  have hB : Below w.heap.size w (w.alloc (.cells #[] 2)) := (Below.refl _ _).alloc (Nat.le_refl _) _
  have hO := OwnsL.made w w.heap.size 2 1 i64cells (Nat.le_refl _)
  have q22 : ∀ (w : World) (a : Option Addr) (n c n' c' : Nat), (binOp .eql 24 (.slice a n c) (.slice none n' c')).run Try.prog w = .ok (.bool a.isNone) w := fun w a n c n' c' => Lib.run_eql_slice_nil w _ _ a n c n' c' Try.underlying24
  have HX := Lib.hid (hx.below hB)
  have HO := Lib.hid hO
  have HB := Lib.hid hB
  clear hx hB hO
  go_enter Try.func76, Try.ntmps76
  go_wp2_with (at_builtin; refine wpList_pushL (by rfl) _ _ 24 (by rfl) w.heap.size 2 Try.underlying24 infoI64 (by rfl) _ [] xs b o n c (by rfl) HO.out (by rfl) HX.out (by simp; omega) (by decide) HB.out.size ?_)
  intro v' w' hown hb _ _
  have HW := Lib.hid hown
  have HBW := Lib.hid (HB.out.trans hb)
  clear hown hb
  go_wp2
  go_ret
  exact RetP.mk (by simpa using HW.out) HBW.out
theorem raise_end {w w1 wf : World} {g : GridR} {X R G c cap n base : Nat} {y b : Int} (hX : w.heap.size ≤ X) (hR : w.heap.size ≤ R) (hG : w.heap.size ≤ G) (hGX : G ≠ X) (hGR : G ≠ R) (hRX : R ≠ X)
    (ho : Own w1 R 26 #[.int .i64 0, .int .i64 0, .int .i64 0, .slice none 0 0]) (hw : OwnsL w1 base 2 1 i64cells (.slice (some ⟨G, 0, none⟩) n cap) g.heights) (hb : Below w.heap.size w w1)
    (hf : (((((w1.setCell ⟨X, 3, none⟩ (.slice (some ⟨G, 0, none⟩) n cap)).setCell ⟨G, c, none⟩ (.int .i64 (y + b))).setCell ⟨R, 0, none⟩ (.int .i64 g.rows)).setCell ⟨R, 1, none⟩ (.int .i64 g.columns)).setCell ⟨R, 2, none⟩ (.int .i64 g.size)).setCell ⟨R, 3, none⟩ (.slice (some ⟨G, 0, none⟩) n cap) = wf) :
    Own wf R 26 #[.int .i64 g.rows, .int .i64 g.columns, .int .i64 g.size, .slice (some ⟨G, 0, none⟩) n cap] ∧ OwnsL wf base 2 1 i64cells (.slice (some ⟨G, 0, none⟩) n cap) (g.heights.set c (y + b)) ∧ Below w.heap.size w wf := by
  subst hf
  refine ⟨?_, ?_, ?_⟩
  · exact (((((ho.far (p := ⟨X, 3, none⟩) hRX _).far (p := ⟨G, c, none⟩) (Ne.symm hGR) _).put 0 _).put 1 _).put 2 _).put 3 _
  · have h1 : OwnsL (w1.setCell ⟨X, 3, none⟩ (.slice (some ⟨G, 0, none⟩) n cap)) base 2 1 i64cells (.slice (some ⟨G, 0, none⟩) n cap) g.heights := hw.kept (fun k hk => Below.heap_setCell w1 ⟨X, 3, none⟩ _ k (by
      have : G = k := by injection hk
      simp only; omega))
    have h2 := h1.setAt (k := c) (y + b)
    refine h2.kept (fun k hk => ?_)
    have hk' : G = k := by injection hk
    have hne : k ≠ R := by omega
    exact (Below.heap_setCell _ ⟨R, 3, none⟩ _ k hne).trans ((Below.heap_setCell _ ⟨R, 2, none⟩ _ k hne).trans ((Below.heap_setCell _ ⟨R, 1, none⟩ _ k hne).trans (Below.heap_setCell _ ⟨R, 0, none⟩ _ k hne)))
  · exact (((((hb.setCell (p := ⟨X, 3, none⟩) hX _).setCell (p := ⟨G, c, none⟩) hG _).setCell (p := ⟨R, 0, none⟩) hR _).setCell (p := ⟨R, 1, none⟩) hR _).setCell (p := ⟨R, 2, none⟩) hR _).setCell (p := ⟨R, 3, none⟩) hR _
theorem raise_val {g : GridR} {c : Nat} {y b : Int} (hy : g.heights[c]? = some y) (A : Option Addr) (n cap : Nat) : (⟨g.rows, g.columns, g.size, A, n, cap, g.heights.set c (y + b)⟩ : GridR).val = raiseG g.val c b := by
  unfold raiseG GridR.val
  simp [List.getD_eq_getElem?_getD, hy]
set_option maxHeartbeats 2000000 in
theorem raised_any (g : GridR) (c : Nat) (b y : Int) (w : World) (hgi : g.In w) (hn : g.heightsN ≤ 64) (hy : g.heights[c]? = some y) (hw0 : 0 ≤ y + b) (hw1 : y + b ≤ 5000) :
    Calls Try.prog 54 #[.agg #[.int .i64 g.rows, .int .i64 g.columns, .int .i64 g.size, .slice g.heightsA g.heightsN g.heightsC], .int .i64 c, .int .i64 b] w (fun e w' => ∃ p : GridR, e = .returned (.agg #[.int .i64 p.rows, .int .i64 p.columns, .int .i64 p.size, .slice p.heightsA p.heightsN p.heightsC]) ∧ p.In w' ∧ OwnsL w' w.heap.size 2 1 i64cells (.slice p.heightsA p.heightsN p.heightsC) p.heights ∧ p.val = raiseG g.val c b ∧ Below w.heap.size w w') := by
  have hcn : c < g.heightsN := by rw [← hgi.1.len]; exact (List.getElem?_eq_some_iff.1 hy).1
  obtain ⟨ga, go, _, hA, hga, _, _⟩ := ints_at hgi.1 hcn
  have HY := Lib.hid hy
  have HL := Lib.hid hgi.1.len
  have hB : Below w.heap.size w ((w.alloc (.cells #[.int .i64 g.rows, .int .i64 g.columns, .int .i64 g.size, .slice g.heightsA g.heightsN g.heightsC] 26)).alloc (.cells #[.int .i64 0, .int .i64 0, .int .i64 0, .slice none 0 0] 26)) := ((Below.refl _ _).alloc (Nat.le_refl _) _).alloc (by simp) _
  have HB := Lib.hid hB
  have HS : Hid (SliceOf ((w.alloc (.cells #[.int .i64 g.rows, .int .i64 g.columns, .int .i64 g.size, .slice g.heightsA g.heightsN g.heightsC] 26)).alloc (.cells #[.int .i64 0, .int .i64 0, .int .i64 0, .slice none 0 0] 26)) 1 i64cells (some ⟨ga, go, none⟩) g.heightsN g.heights) := by rw [Hid, ← hA]; exact hgi.1.below hB
  have HOX : Hid (Own ((w.alloc (.cells #[.int .i64 g.rows, .int .i64 g.columns, .int .i64 g.size, .slice g.heightsA g.heightsN g.heightsC] 26)).alloc (.cells #[.int .i64 0, .int .i64 0, .int .i64 0, .slice none 0 0] 26)) w.heap.size 26 #[.int .i64 g.rows, .int .i64 g.columns, .int .i64 g.size, .slice g.heightsA g.heightsN g.heightsC]) := (Own.new w 26 #[.int .i64 g.rows, .int .i64 g.columns, .int .i64 g.size, .slice g.heightsA g.heightsN g.heightsC]).alloc _
  have HOR : Hid (Own ((w.alloc (.cells #[.int .i64 g.rows, .int .i64 g.columns, .int .i64 g.size, .slice g.heightsA g.heightsN g.heightsC] 26)).alloc (.cells #[.int .i64 0, .int .i64 0, .int .i64 0, .slice none 0 0] 26)) (w.heap.size + 1) 26 #[.int .i64 0, .int .i64 0, .int .i64 0, .slice none 0 0]) := by have := Own.new (w.alloc (.cells #[.int .i64 g.rows, .int .i64 g.columns, .int .i64 g.size, .slice g.heightsA g.heightsN g.heightsC] 26)) 26 #[.int .i64 0, .int .i64 0, .int .i64 0, .slice none 0 0]; rw [Hid]; simpa using this
  have y3 : ((w.alloc (.cells #[.int .i64 g.rows, .int .i64 g.columns, .int .i64 g.size, .slice g.heightsA g.heightsN g.heightsC] 26)).alloc (.cells #[.int .i64 0, .int .i64 0, .int .i64 0, .slice none 0 0] 26)).cell? ⟨w.heap.size, 3, none⟩ = some (.slice (some ⟨ga, go, none⟩) g.heightsN g.heightsC) := by rw [← hA]; exact HOX.out.cell 3
  clear hgi hB hy hA
  go_enter Try.func54, Try.ntmps54
  go_wp2_with fail
  clear y3
  refine (cloneI_any ga go g.heightsN g.heightsC g.heights _ HS.out (by omega)).mono ?_
  rintro e w1 ⟨v, rfl, hown, hb1⟩
  obtain ⟨G, cap, rfl, hG, hG2⟩ := hown.block (by intro h; have := HL.out; rw [h] at this; simp at this; omega)
  rw [HL.out] at hown ⊢
  have hsz : ((w.alloc (.cells #[.int .i64 g.rows, .int .i64 g.columns, .int .i64 g.size, .slice g.heightsA g.heightsN g.heightsC] 26)).alloc (.cells #[.int .i64 0, .int .i64 0, .int .i64 0, .slice none 0 0] 26)).heap.size = w.heap.size + 2 := by simp
  rw [hsz] at hG
  have HOX1 := Lib.hid (HOX.out.below' hb1)
  have HOR1 := Lib.hid (HOR.out.below' hb1)
  have HW1 := Lib.hid hown
  have HB1 := Lib.hid (HB.out.trans (hb1.mono HB.out.size))
  obtain ⟨X, hX⟩ : ∃ X, w.heap.size = X := ⟨_, rfl⟩
  have HXX := Lib.hid hX
  rw [hX] at hG HOX1 HOR1 ⊢
  have dX := HOX1.out.frozen
  have lX := HOX1.out.lt
  have dR := HOR1.out.frozen
  have lR := HOR1.out.lt
  have dG := HW1.out.frozen
  have cG := HW1.out.cellAt HY.out
  have x0 := HOX1.out.cell 0
  have x1 := HOX1.out.cell 1
  have x2 := HOX1.out.cell 2
  have x3 := HOX1.out.cell 3
  have r0 := HOR1.out.cell 0
  have r1 := HOR1.out.cell 1
  have r2 := HOR1.out.cell 2
  have r3 := HOR1.out.cell 3
  simp at x0 x1 x2 x3 r0 r1 r2 r3
  have n1 : G ≠ X := by omega
  have n2 : X ≠ G := by omega
  have n3 : G ≠ X + 1 := by omega
  have n4 : X + 1 ≠ G := by omega
  clear hown hb1 hsz HS HOX HOR hX
  go_wp2_with fail
  obtain ⟨wf, hwf⟩ : ∃ wf, (((((w1.setCell ⟨X, 3, none⟩ (.slice (some ⟨G, 0, none⟩) g.heightsN cap)).setCell ⟨G, c, none⟩ (.int .i64 (y + b))).setCell ⟨X + 1, 0, none⟩ (.int .i64 g.rows)).setCell ⟨X + 1, 1, none⟩ (.int .i64 g.columns)).setCell ⟨X + 1, 2, none⟩ (.int .i64 g.size)).setCell ⟨X + 1, 3, none⟩ (.slice (some ⟨G, 0, none⟩) g.heightsN cap) = wf := ⟨_, rfl⟩
  obtain ⟨ho, hw, hb⟩ := raise_end (w := w) (X := X) (R := X + 1) (by have := HXX.out; omega) (by have := HXX.out; omega) (by have := HXX.out; omega) n1 n3 (by omega) HOR1.out HW1.out HB1.out hwf
  rw [hwf]
  have f0 := ho.cell 0
  have f1 := ho.cell 1
  have f2 := ho.cell 2
  have f3 := ho.cell 3
  simp at f0 f1 f2 f3
  refine bodyPost_ret (v := .agg #[.int .i64 g.rows, .int .i64 g.columns, .int .i64 g.size, .slice (some ⟨G, 0, none⟩) g.heightsN cap]) (by simp [results, Try.results54, go_sem, f0, f1, f2, f3]) rfl ⟨⟨g.rows, g.columns, g.size, some ⟨G, 0, none⟩, g.heightsN, cap, g.heights.set c (y + b)⟩, rfl, GridR.in_of hw, hw.rebase (by have := HXX.out; simp; omega), raise_val HY.out _ _ _, hb⟩
set_option maxHeartbeats 2000000 in
theorem l15Raise_any (g : GridR) (bg : Nat) (c : Nat) (b y : Int) (w : World) (hgi : g.In w) (hog : Own w bg 26 #[.int .i64 g.rows, .int .i64 g.columns, .int .i64 g.size, .slice g.heightsA g.heightsN g.heightsC]) (hn : g.heightsN ≤ 64) (hy : g.heights[c]? = some y) (hw0 : 0 ≤ y + b) (hw1 : y + b ≤ 5000) :
    Calls Try.prog 50 #[.pointer (some ⟨bg, 0, none⟩), .int .i64 c, .int .i64 b] w (fun e w' => ∃ p : GridR, e = .returned (.agg #[.int .i64 p.rows, .int .i64 p.columns, .int .i64 p.size, .slice p.heightsA p.heightsN p.heightsC]) ∧ p.In w' ∧ OwnsL w' w.heap.size 2 1 i64cells (.slice p.heightsA p.heightsN p.heightsC) p.heights ∧ p.val = raiseG g.val c b ∧ Below w.heap.size w w') := by
  have hcn : c < g.heightsN := by rw [← hgi.1.len]; exact (List.getElem?_eq_some_iff.1 hy).1
  obtain ⟨ga, go, _, hA, hga, _, _⟩ := ints_at hgi.1 hcn
  have HY := Lib.hid hy
  have HL := Lib.hid hgi.1.len
  have hB : Below w.heap.size w ((w.alloc (.cells #[.int .i64 0, .int .i64 0, .int .i64 0, .slice none 0 0] 26)).alloc (.cells #[.int .i64 g.rows, .int .i64 g.columns, .int .i64 g.size, .slice g.heightsA g.heightsN g.heightsC] 26)) := ((Below.refl _ _).alloc (Nat.le_refl _) _).alloc (by simp) _
  have HB := Lib.hid hB
  have HS : Hid (SliceOf ((w.alloc (.cells #[.int .i64 0, .int .i64 0, .int .i64 0, .slice none 0 0] 26)).alloc (.cells #[.int .i64 g.rows, .int .i64 g.columns, .int .i64 g.size, .slice g.heightsA g.heightsN g.heightsC] 26)) 1 i64cells (some ⟨ga, go, none⟩) g.heightsN g.heights) := by rw [Hid, ← hA]; exact hgi.1.below hB
  have HOX : Hid (Own ((w.alloc (.cells #[.int .i64 0, .int .i64 0, .int .i64 0, .slice none 0 0] 26)).alloc (.cells #[.int .i64 g.rows, .int .i64 g.columns, .int .i64 g.size, .slice g.heightsA g.heightsN g.heightsC] 26)) (w.heap.size + 1) 26 #[.int .i64 g.rows, .int .i64 g.columns, .int .i64 g.size, .slice g.heightsA g.heightsN g.heightsC]) := by have := Own.new (w.alloc (.cells #[.int .i64 0, .int .i64 0, .int .i64 0, .slice none 0 0] 26)) 26 #[.int .i64 g.rows, .int .i64 g.columns, .int .i64 g.size, .slice g.heightsA g.heightsN g.heightsC]; rw [Hid]; simpa using this
  have HOR : Hid (Own ((w.alloc (.cells #[.int .i64 0, .int .i64 0, .int .i64 0, .slice none 0 0] 26)).alloc (.cells #[.int .i64 g.rows, .int .i64 g.columns, .int .i64 g.size, .slice g.heightsA g.heightsN g.heightsC] 26)) w.heap.size 26 #[.int .i64 0, .int .i64 0, .int .i64 0, .slice none 0 0]) := (Own.new w 26 #[.int .i64 0, .int .i64 0, .int .i64 0, .slice none 0 0]).alloc _
  have hlg := hog.lt
  have hog1 : Own (w.alloc (.cells #[.int .i64 0, .int .i64 0, .int .i64 0, .slice none 0 0] 26)) bg 26 #[.int .i64 g.rows, .int .i64 g.columns, .int .i64 g.size, .slice g.heightsA g.heightsN g.heightsC] := hog.alloc _
  have hog2 : Own ((w.alloc (.cells #[.int .i64 0, .int .i64 0, .int .i64 0, .slice none 0 0] 26)).alloc (.cells #[.int .i64 g.rows, .int .i64 g.columns, .int .i64 g.size, .slice g.heightsA g.heightsN g.heightsC] 26)) bg 26 #[.int .i64 g.rows, .int .i64 g.columns, .int .i64 g.size, .slice g.heightsA g.heightsN g.heightsC] := hog1.alloc _
  have a0 := hog1.cell 0
  have a1 := hog1.cell 1
  have a2 := hog1.cell 2
  have a3 := hog1.cell 3
  have y3 : ((w.alloc (.cells #[.int .i64 0, .int .i64 0, .int .i64 0, .slice none 0 0] 26)).alloc (.cells #[.int .i64 g.rows, .int .i64 g.columns, .int .i64 g.size, .slice g.heightsA g.heightsN g.heightsC] 26)).cell? ⟨bg, 3, none⟩ = some (.slice (some ⟨ga, go, none⟩) g.heightsN g.heightsC) := by rw [← hA]; exact hog2.cell 3
  simp at a0 a1 a2 a3
  clear hgi hB hy hA hog hog1 hog2
  go_enter Try.func50, Try.ntmps50
  go_wp2_with fail
  clear y3 a0 a1 a2 a3
  refine (l00Own_any ga go g.heightsN g.heightsC g.heights _ HS.out (by omega)).mono ?_
  rintro e w1 ⟨v, rfl, hown, hb1⟩
  obtain ⟨G, cap, rfl, hG, hG2⟩ := hown.block (by intro h; have := HL.out; rw [h] at this; simp at this; omega)
  rw [HL.out] at hown ⊢
  have hsz : ((w.alloc (.cells #[.int .i64 0, .int .i64 0, .int .i64 0, .slice none 0 0] 26)).alloc (.cells #[.int .i64 g.rows, .int .i64 g.columns, .int .i64 g.size, .slice g.heightsA g.heightsN g.heightsC] 26)).heap.size = w.heap.size + 2 := by simp
  rw [hsz] at hG
  have HOX1 := Lib.hid (HOX.out.below' hb1)
  have HOR1 := Lib.hid (HOR.out.below' hb1)
  have HW1 := Lib.hid hown
  have HB1 := Lib.hid (HB.out.trans (hb1.mono HB.out.size))
  obtain ⟨R, hX⟩ : ∃ R, w.heap.size = R := ⟨_, rfl⟩
  have HXX := Lib.hid hX
  rw [hX] at hG HOX1 HOR1 ⊢
  have dX := HOX1.out.frozen
  have lX := HOX1.out.lt
  have dR := HOR1.out.frozen
  have lR := HOR1.out.lt
  have dG := HW1.out.frozen
  have cG := HW1.out.cellAt HY.out
  have x0 := HOX1.out.cell 0
  have x1 := HOX1.out.cell 1
  have x2 := HOX1.out.cell 2
  have x3 := HOX1.out.cell 3
  have r0 := HOR1.out.cell 0
  have r1 := HOR1.out.cell 1
  have r2 := HOR1.out.cell 2
  have r3 := HOR1.out.cell 3
  simp at x0 x1 x2 x3 r0 r1 r2 r3
  have n1 : G ≠ R + 1 := by omega
  have n2 : R + 1 ≠ G := by omega
  have n3 : G ≠ R := by omega
  have n4 : R ≠ G := by omega
  clear hown hb1 hsz HS HOX HOR hX
  go_wp2_with fail
  obtain ⟨wf, hwf⟩ : ∃ wf, (((((w1.setCell ⟨R + 1, 3, none⟩ (.slice (some ⟨G, 0, none⟩) g.heightsN cap)).setCell ⟨G, c, none⟩ (.int .i64 (y + b))).setCell ⟨R, 0, none⟩ (.int .i64 g.rows)).setCell ⟨R, 1, none⟩ (.int .i64 g.columns)).setCell ⟨R, 2, none⟩ (.int .i64 g.size)).setCell ⟨R, 3, none⟩ (.slice (some ⟨G, 0, none⟩) g.heightsN cap) = wf := ⟨_, rfl⟩
  obtain ⟨ho, hw, hb⟩ := raise_end (w := w) (X := R + 1) (R := R) (by have := HXX.out; omega) (by have := HXX.out; omega) (by have := HXX.out; omega) n1 n3 (by omega) HOR1.out HW1.out HB1.out hwf
  rw [hwf]
  have f0 := ho.cell 0
  have f1 := ho.cell 1
  have f2 := ho.cell 2
  have f3 := ho.cell 3
  simp at f0 f1 f2 f3
  refine bodyPost_ret (v := .agg #[.int .i64 g.rows, .int .i64 g.columns, .int .i64 g.size, .slice (some ⟨G, 0, none⟩) g.heightsN cap]) (by simp [results, Try.results50, go_sem, f0, f1, f2, f3]) rfl ⟨⟨g.rows, g.columns, g.size, some ⟨G, 0, none⟩, g.heightsN, cap, g.heights.set c (y + b)⟩, rfl, GridR.in_of hw, hw.rebase (by have := HXX.out; simp; omega), raise_val HY.out _ _ _, hb⟩

end Go.Proofs.Ythlgfmdlecdchaa
