/- A further layer on a profile: the reference's function, at a profile that is not empty. -/
import Derived.Test.YtmfghgoboibjdaaStabE
import Derived.Test.YtmfghgoboibjdaaOwn2
import Derived.Deep.AppendLies
import Derived.Deep.RegionLaw
import Derived.BigRegion
namespace Go.Proofs.Ytmfghgoboibjdaa
open Go.RowKit

theorem addr_addN (g o n : Nat) : (⟨g, o, none⟩ : Addr).add n = ⟨g, o + n, none⟩ := by
  unfold Addr.add
  split
  · simp only [Addr.mk.injEq, true_and, and_true]; omega
  · simp
/-- 'append(s, xs...)' to a slice of one's own, as one step of a region that draws. -/
theorem step_pushS {α : Type} {P : Program} {ops : Array Oper} {o : Oper} {a : Act} {w : World} {K : Act → World → Prop} {Q : Exit → Act → World → Prop} {E : Prop} (hgd : o.guard = none) (s x : Operand) (t : TypeId)
    (ho : o.op = .call { callee := .builtin .append, args := #[s, x], argTypes := #[t, t] })
    (base : Nat) (e : TypeId) {z : Value} (sz : Nat) {bytes : Nat} (ht : P.underlying t = some (.slice e)) (hinfo : (P.info? e).map (fun i => (i.zero, i.size, i.bytes)) = some (some z, sz, bytes)) (hzs : z.cells.size = sz) (hsz : 0 < sz)
    (cells : α → List Value) (hcl : ∀ y, (cells y).length = sz) (hc1 : ∀ y, ∀ u ∈ cells y, u.oneCell' = true)
    (v : Value) (xs ys : List α) (hs : a.eval s = v) (hown : OwnsL w base e sz cells v xs) (b off m c : Nat) (hx : a.eval x = .slice (some ⟨b, off, none⟩) m c) (hsl : SliceOf w sz cells (some ⟨b, off, none⟩) m ys) (hm : 0 < m)
    (hlen : xs.length + m ≤ 1048577) (hby : bytes ≤ 1024) (hbase : base ≤ w.heap.size)
    (h : ∀ g cap w', OwnsL w' base e sz cells (.slice (some ⟨g, 0, none⟩) (xs.length + m) cap) (xs ++ ys) → Below base w w' → (∀ b, b < w.heap.size → some b ≠ v.ownBlock → w'.heap[b]? = w.heap[b]?) → K (a.put o.dst (.slice (some ⟨g, 0, none⟩) (xs.length + m) cap)) w') :
    if Region.wanted o (yielded ops a.tmps) = true then Oper.wp P o a w K Q else E := by
  obtain ⟨i, hi, hz, hsize, hbytes⟩ := info_parts hinfo
  have hl := hsl.len
  obtain ⟨b', off', hA, hlt, hc⟩ := hsl.base_ hm
  injection hA with hA
  injection hA with e1 e2 _
  subst e1 e2
  refine step_append_lies w hgd s x t ho base e i z sz bytes ht hi hz hsize hbytes hzs hsz v xs.length (xs.flatMap cells) hs hown ⟨b, off, none⟩ m c (ys.flatMap cells) hx (by rw [flat_len hcl, hl]) ?_ ?_ hm (by unfold maxLen; omega) ?_ hbase _ rfl ?_
  · intro j u hu
    have hj : j < ys.length * sz := by rw [← flat_len hcl]; exact (List.getElem?_eq_some_iff.1 hu).1
    obtain ⟨q, r, hr, hq, rfl⟩ : ∃ q r, r < sz ∧ q < ys.length ∧ q * sz + r = j := ⟨j / sz, j % sz, Nat.mod_lt _ hsz, Nat.div_lt_of_lt_mul (by rw [Nat.mul_comm]; exact hj), by rw [Nat.mul_comm]; exact Nat.div_add_mod j sz⟩
    obtain ⟨y, hy⟩ : ∃ y, ys[q]? = some y := ⟨_, List.getElem?_eq_getElem hq⟩
    have hr2 : r < (cells y).length := by rw [hcl]; exact hr
    have h2 := flat_get hcl ys q r y _ hy (List.getElem?_eq_getElem hr2)
    rw [h2] at hu
    injection hu with hu
    subst hu
    have := hc q y r _ hy (List.getElem?_eq_getElem hr2)
    rw [Nat.add_assoc] at this
    rw [addr_addN]; exact this
  · intro u hu
    obtain ⟨y, _, hy⟩ := List.mem_flatMap.1 hu
    exact hc1 y u hy
  · have : (xs.length + m) * bytes ≤ 1048577 * 1024 := Nat.mul_le_mul (by omega) hby
    omega
  · intro g cap w' h1 h2 _ _
    have hrow := World.ownsRow.lt hown
    exact h g cap w' (by unfold OwnsL; rw [List.flatMap_append, List.length_append, hl]; exact h1) ((Below.refl base w).grown h2 hbase (fun k hk => (hrow k hk).1)) (fun b hb hne => h2.block b hb hne)
theorem own_one {x : Layer} {w : World} {q : Nat} (h : Own w q 30 #[.int .i64 x.form, .int .i64 x.ice, .int .i64 x.water, .int .i64 x.density, .int .i64 x.degrees, .int .i64 x.hardness, .int .i64 x.age]) : SliceOf w 7 Layer.cells (some ⟨q, 0, none⟩) 1 [x] :=
  ⟨rfl, by decide, fun _ => ⟨q, 0, rfl, h.lt, fun i y j v hy hv => by
    cases i with
    | succ i => simp at hy
    | zero =>
      simp at hy
      subst hy
      have h2 := h.cell j
      rw [show 0 + 0 * 7 + j = j by omega, h2]
      simpa [Layer.cells] using hv⟩⟩
theorem OwnsL.drew {α : Type} {w : World} {base sz : Nat} {e : TypeId} {cells : α → List Value} {v : Value} {xs : List α} (h : OwnsL w base e sz cells v xs) : OwnsL w.drew base e sz cells v xs := h
theorem SliceOf.drew {α : Type} {w : World} {sz n : Nat} {cells : α → List Value} {A : Option Addr} {xs : List α} (h : SliceOf w sz cells A n xs) : SliceOf w.drew sz cells A n xs := h
set_option maxHeartbeats 1000000 in
theorem addLayer_ok (b o n c : Nat) (xs : List Layer) (x : Layer) (w : World) (hx : SliceOf w 7 Layer.cells (some ⟨b, o, none⟩) n xs) (hv : profB xs = true) (hn : 0 < n) (hn2 : n < 16) (ho : x.oneB = true) :
    Calls Try.prog 15 #[.slice (some ⟨b, o, none⟩) n c, .agg #[.int .i64 x.form, .int .i64 x.ice, .int .i64 x.water, .int .i64 x.density, .int .i64 x.degrees, .int .i64 x.hardness, .int .i64 x.age]] w (fun e w' => ∃ (v : Value), e = .returned (.tuple #[v, .int .i64 0]) ∧ OwnsL w' w.heap.size 30 7 Layer.cells v (xs ++ [x]) ∧ Below w.heap.size w w') := by
  obtain ⟨w1, hw1⟩ : ∃ w1, w.alloc (.cells #[.int .i64 x.form, .int .i64 x.ice, .int .i64 x.water, .int .i64 x.density, .int .i64 x.degrees, .int .i64 x.hardness, .int .i64 x.age] 30) = w1 := ⟨_, rfl⟩
  obtain ⟨X, hX⟩ : ∃ X, w.heap.size = X := ⟨_, rfl⟩
  have hb1 : Below w.heap.size w w1 := by rw [← hw1]; exact (Below.refl _ _).alloc (Nat.le_refl _) _
  have HO1 : Hid (Own w1 X 30 #[.int .i64 x.form, .int .i64 x.ice, .int .i64 x.water, .int .i64 x.density, .int .i64 x.degrees, .int .i64 x.hardness, .int .i64 x.age]) := by rw [Hid, ← hw1, ← hX]; exact Own.new _ _ _
  have HX1 := Lib.hid (hx.below hb1)
  have HB1 := Lib.hid hb1
  have HV := Lib.hid hv
  have HO := Lib.hid ho
  have hne : ((n : Int) == 16) = false := by simp; omega
  have y0 := HO1.out.cell 0
  have y1 := HO1.out.cell 1
  have y2 := HO1.out.cell 2
  have y3 := HO1.out.cell 3
  have y4 := HO1.out.cell 4
  have y5 := HO1.out.cell 5
  have y6 := HO1.out.cell 6
  have ly := HO1.out.lt
  simp at y0 y1 y2 y3 y4 y5 y6
  have z0 : w1.cell? ⟨X, 0 + 1, none⟩ = some (.int .i64 x.ice) := y1
  clear hx hv hb1 ho
  go_enter Try.func15, Try.ntmps15
  go_wp2_with (first | (go_at_call 40; refine (specProfile_ok _ n c xs _ HX1.out HV.out).mono ?_; rintro e w' ⟨rfl, rfl⟩) | (go_at_call 41; refine (specLayer_ok x X 0 w1 y0 z0 y2 y3 y4 y5 y6 HO.out).mono ?_; rintro e w' ⟨rfl, rfl⟩))
  clear z0
  have hW : Hid (w.heap.size ≤ w1.heap.size) := HB1.out.size
  obtain ⟨N, hN⟩ : ∃ N, w1.heap.size = N := ⟨_, rfl⟩
  have aE : Below w1.heap.size w1 (w1.alloc (.cells #[] 30)) := (Below.refl _ _).alloc (Nat.le_refl _) _
  have aX : Below w1.heap.size w1 (w1.alloc (.cells #[.int .i64 x.form, .int .i64 x.ice, .int .i64 x.water, .int .i64 x.density, .int .i64 x.degrees, .int .i64 x.hardness, .int .i64 x.age] 30)) := (Below.refl _ _).alloc (Nat.le_refl _) _
  have aEX : Below w1.heap.size w1 ((w1.alloc (.cells #[] 30)).alloc (.cells #[.int .i64 x.form, .int .i64 x.ice, .int .i64 x.water, .int .i64 x.density, .int .i64 x.degrees, .int .i64 x.hardness, .int .i64 x.age] 30)) := aE.alloc aE.size _
  have aXE : Below w1.heap.size w1 ((w1.alloc (.cells #[.int .i64 x.form, .int .i64 x.ice, .int .i64 x.water, .int .i64 x.density, .int .i64 x.degrees, .int .i64 x.hardness, .int .i64 x.age] 30)).alloc (.cells #[] 30)) := aX.alloc aX.size _
  have HA := Lib.hid (OwnsL.made w1 w.heap.size 30 7 Layer.cells hW.out)
  have HB := Lib.hid (HA.out.alloc (.cells #[.int .i64 x.form, .int .i64 x.ice, .int .i64 x.water, .int .i64 x.density, .int .i64 x.degrees, .int .i64 x.hardness, .int .i64 x.age] 30))
  have HC : Hid (OwnsL ((w1.alloc (.cells #[.int .i64 x.form, .int .i64 x.ice, .int .i64 x.water, .int .i64 x.density, .int .i64 x.degrees, .int .i64 x.hardness, .int .i64 x.age] 30)).alloc (.cells #[] 30)) w.heap.size 30 7 Layer.cells (.slice (some ⟨w1.heap.size + 1, 0, none⟩) 0 0) []) := by
    have := OwnsL.made (w1.alloc (.cells #[.int .i64 x.form, .int .i64 x.ice, .int .i64 x.water, .int .i64 x.density, .int .i64 x.degrees, .int .i64 x.hardness, .int .i64 x.age] 30)) w.heap.size 30 7 Layer.cells (by simp; have := hW.out; omega)
    rw [Hid]; simpa using this
  have HBX : Hid (Own ((w1.alloc (.cells #[] 30)).alloc (.cells #[.int .i64 x.form, .int .i64 x.ice, .int .i64 x.water, .int .i64 x.density, .int .i64 x.degrees, .int .i64 x.hardness, .int .i64 x.age] 30)) (w1.heap.size + 1) 30 #[.int .i64 x.form, .int .i64 x.ice, .int .i64 x.water, .int .i64 x.density, .int .i64 x.degrees, .int .i64 x.hardness, .int .i64 x.age]) := by
    have := Own.new (w1.alloc (.cells #[] 30)) 30 #[.int .i64 x.form, .int .i64 x.ice, .int .i64 x.water, .int .i64 x.density, .int .i64 x.degrees, .int .i64 x.hardness, .int .i64 x.age]
    rw [Hid]; simpa using this
  have HCX : Hid (Own ((w1.alloc (.cells #[.int .i64 x.form, .int .i64 x.ice, .int .i64 x.water, .int .i64 x.density, .int .i64 x.degrees, .int .i64 x.hardness, .int .i64 x.age] 30)).alloc (.cells #[] 30)) w1.heap.size 30 #[.int .i64 x.form, .int .i64 x.ice, .int .i64 x.water, .int .i64 x.density, .int .i64 x.degrees, .int .i64 x.hardness, .int .i64 x.age]) := (Own.new w1 30 #[.int .i64 x.form, .int .i64 x.ice, .int .i64 x.water, .int .i64 x.density, .int .i64 x.degrees, .int .i64 x.hardness, .int .i64 x.age]).alloc _
  have SA := Lib.hid (HX1.out.below aE)
  have SB := Lib.hid (HX1.out.below aEX)
  have SC := Lib.hid (HX1.out.below aXE)
  have BA : Hid (Below w.heap.size w (w1.alloc (.cells #[] 30))) := HB1.out.trans (aE.mono hW.out)
  have BB : Hid (Below w.heap.size w ((w1.alloc (.cells #[] 30)).alloc (.cells #[.int .i64 x.form, .int .i64 x.ice, .int .i64 x.water, .int .i64 x.density, .int .i64 x.degrees, .int .i64 x.hardness, .int .i64 x.age] 30))) := HB1.out.trans (aEX.mono hW.out)
  have BC : Hid (Below w.heap.size w ((w1.alloc (.cells #[.int .i64 x.form, .int .i64 x.ice, .int .i64 x.water, .int .i64 x.density, .int .i64 x.degrees, .int .i64 x.hardness, .int .i64 x.age] 30)).alloc (.cells #[] 30))) := HB1.out.trans (aXE.mono hW.out)
  have OA := Lib.hid (HO1.out.below' aE)
  have OB := Lib.hid (HO1.out.below' aEX)
  have OC := Lib.hid (HO1.out.below' aXE)
  have LX := Lib.hid HO1.out.lt
  clear aE aX aEX aXE hN
  have HXL : Hid (xs.length = n) := HX1.out.len
  go_region_law (first | (refine step_pushS (by rfl) (.tmp 16) (.tmp 17) 24 (by rfl) w.heap.size 30 7 Try.underlying24 infoLayerE (by rfl) (by decide) Layer.cells Layer.cells_len Layer.cells_one _ [] xs (by rfl) HA.out.drew b o n c (by rfl) SA.out.drew hn (by simp; omega) (by decide) (by have := hW.out; simp; omega) ?_; intro g cap w2 hown hb2 hk2; simp only [List.length_nil, Nat.zero_add, List.nil_append] at hown; simp only [List.length_nil, Nat.zero_add]; have HW2 := Lib.hid hown; have HB2 : Hid (Below w.heap.size w w2) := (BA.out.drew).trans (hb2.mono (Nat.le_refl _)); have HX2 : Hid (Own w2 X 30 #[.int .i64 x.form, .int .i64 x.ice, .int .i64 x.water, .int .i64 x.density, .int .i64 x.degrees, .int .i64 x.hardness, .int .i64 x.age]) := (hk2 X (by have := LX.out; simp; omega) (by have := LX.out; simp [Value.ownBlock]; omega)).trans OA.out.drew; have x0 := HX2.out.cell 0; have x1 := HX2.out.cell 1; have x2 := HX2.out.cell 2; have x3 := HX2.out.cell 3; have x4 := HX2.out.cell 4; have x5 := HX2.out.cell 5; have x6 := HX2.out.cell 6; have lx := HX2.out.lt; simp at x0 x1 x2 x3 x4 x5 x6; clear hown hb2 hk2) | (refine step_pushS (by rfl) (.tmp 16) (.tmp 17) 24 (by rfl) w.heap.size 30 7 Try.underlying24 infoLayerE (by rfl) (by decide) Layer.cells Layer.cells_len Layer.cells_one _ [] xs (by rfl) HB.out.drew b o n c (by rfl) SB.out.drew hn (by simp; omega) (by decide) (by have := hW.out; simp; omega) ?_; intro g cap w2 hown hb2 hk2; simp only [List.length_nil, Nat.zero_add, List.nil_append] at hown; simp only [List.length_nil, Nat.zero_add]; have HW2 := Lib.hid hown; have HB2 : Hid (Below w.heap.size w w2) := (BB.out.drew).trans (hb2.mono (Nat.le_refl _)); have HX2 : Hid (Own w2 X 30 #[.int .i64 x.form, .int .i64 x.ice, .int .i64 x.water, .int .i64 x.density, .int .i64 x.degrees, .int .i64 x.hardness, .int .i64 x.age]) := (hk2 X (by have := LX.out; simp; omega) (by have := LX.out; simp [Value.ownBlock]; omega)).trans OB.out.drew; have x0 := HX2.out.cell 0; have x1 := HX2.out.cell 1; have x2 := HX2.out.cell 2; have x3 := HX2.out.cell 3; have x4 := HX2.out.cell 4; have x5 := HX2.out.cell 5; have x6 := HX2.out.cell 6; have lx := HX2.out.lt; simp at x0 x1 x2 x3 x4 x5 x6; have HQ : Hid (Own w2 (w1.heap.size + 1) 30 #[.int .i64 x.form, .int .i64 x.ice, .int .i64 x.water, .int .i64 x.density, .int .i64 x.degrees, .int .i64 x.hardness, .int .i64 x.age]) := (hk2 (w1.heap.size + 1) (by first | (simp; done) | (simp; omega)) (by simp [Value.ownBlock])).trans HBX.out.drew; clear hown hb2 hk2) | (refine step_pushS (by rfl) (.tmp 16) (.tmp 17) 24 (by rfl) w.heap.size 30 7 Try.underlying24 infoLayerE (by rfl) (by decide) Layer.cells Layer.cells_len Layer.cells_one _ [] xs (by rfl) HC.out.drew b o n c (by rfl) SC.out.drew hn (by simp; omega) (by decide) (by have := hW.out; simp; omega) ?_; intro g cap w2 hown hb2 hk2; simp only [List.length_nil, Nat.zero_add, List.nil_append] at hown; simp only [List.length_nil, Nat.zero_add]; have HW2 := Lib.hid hown; have HB2 : Hid (Below w.heap.size w w2) := (BC.out.drew).trans (hb2.mono (Nat.le_refl _)); have HX2 : Hid (Own w2 X 30 #[.int .i64 x.form, .int .i64 x.ice, .int .i64 x.water, .int .i64 x.density, .int .i64 x.degrees, .int .i64 x.hardness, .int .i64 x.age]) := (hk2 X (by have := LX.out; simp; omega) (by have := LX.out; simp [Value.ownBlock]; omega)).trans OC.out.drew; have x0 := HX2.out.cell 0; have x1 := HX2.out.cell 1; have x2 := HX2.out.cell 2; have x3 := HX2.out.cell 3; have x4 := HX2.out.cell 4; have x5 := HX2.out.cell 5; have x6 := HX2.out.cell 6; have lx := HX2.out.lt; simp at x0 x1 x2 x3 x4 x5 x6; have HQ : Hid (Own w2 (w1.heap.size) 30 #[.int .i64 x.form, .int .i64 x.ice, .int .i64 x.water, .int .i64 x.density, .int .i64 x.degrees, .int .i64 x.hardness, .int .i64 x.age]) := (hk2 (w1.heap.size) (by first | (simp; done) | (simp; omega)) (by simp [Value.ownBlock])).trans HCX.out.drew; clear hown hb2 hk2) | (refine step_pushS (by rfl) (.tmp 18) (.tmp 20) 24 (by rfl) w.heap.size 30 7 Try.underlying24 infoLayerE (by rfl) (by decide) Layer.cells Layer.cells_len Layer.cells_one _ xs [x] (by rfl) (HW2.out.alloc _) (w2.heap.size) 0 1 1 (by rfl) (own_one (Own.new w2 30 #[.int .i64 x.form, .int .i64 x.ice, .int .i64 x.water, .int .i64 x.density, .int .i64 x.degrees, .int .i64 x.hardness, .int .i64 x.age])) (by decide) (by have := HXL.out; omega) (by decide) (by have := HB2.out.size; first | exact this | (simp; omega)) ?_; intro g3 cap3 w3 hown3 hb3 hk3; have HF := Lib.hid hown3; have HBF : Hid (Below w.heap.size w w3) := (HB2.out.alloc HB2.out.size _).trans (hb3.mono (Nat.le_refl _)); clear hown3 hb3 hk3) | (refine step_pushS (by rfl) (.tmp 18) (.tmp 20) 24 (by rfl) w.heap.size 30 7 Try.underlying24 infoLayerE (by rfl) (by decide) Layer.cells Layer.cells_len Layer.cells_one _ xs [x] (by rfl) HW2.out (w1.heap.size + 1) 0 1 1 (by rfl) (own_one HQ.out) (by decide) (by have := HXL.out; omega) (by decide) (by have := HB2.out.size; first | exact this | (simp; omega)) ?_; intro g3 cap3 w3 hown3 hb3 hk3; have HF := Lib.hid hown3; have HBF : Hid (Below w.heap.size w w3) := HB2.out.trans (hb3.mono (Nat.le_refl _)); clear hown3 hb3 hk3) | (refine step_pushS (by rfl) (.tmp 18) (.tmp 20) 24 (by rfl) w.heap.size 30 7 Try.underlying24 infoLayerE (by rfl) (by decide) Layer.cells Layer.cells_len Layer.cells_one _ xs [x] (by rfl) HW2.out (w1.heap.size) 0 1 1 (by rfl) (own_one HQ.out) (by decide) (by have := HXL.out; omega) (by decide) (by have := HB2.out.size; first | exact this | (simp; omega)) ?_; intro g3 cap3 w3 hown3 hb3 hk3; have HF := Lib.hid hown3; have HBF : Hid (Below w.heap.size w w3) := HB2.out.trans (hb3.mono (Nat.le_refl _)); clear hown3 hb3 hk3))
  all_goals
    go_wp2
    go_ret2
    exact ⟨_, rfl, HF.out, HBF.out⟩

end Go.Proofs.Ytmfghgoboibjdaa
