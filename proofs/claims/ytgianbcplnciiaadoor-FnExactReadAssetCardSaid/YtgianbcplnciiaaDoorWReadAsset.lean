/- The law FnExactReadAsset. -/
import Derived.Test.YtgianbcplnciiaaDoorRAsset
import Derived.Deep.RegionHeld3
namespace Go.Proofs.YtgianbcplnciiaaDoor
open Go.RowKit

theorem AssetOut.len {s : ByteArray} {w w' : World} {p : AssetR} {r : Option Asset} (h : AssetOut s w w' p r) : p.spots.length ≤ 64 := by
  have hv := h.val
  cases r with
  | none =>
    have : p.spots = [] := congrArg Asset.spots hv
    rw [this]; decide
  | some x =>
    have h1 : p.spots = x.spots := congrArg Asset.spots hv
    rw [h1]
    exact (assetOk (h.reads.yes x rfl).1).len
def MarkedA (v : Value) (w w' : World) : Prop := ∀ lo hi, (∀ k, v.ownBlock = some k → lo ≤ k ∧ k < hi) → Span lo hi w w'
set_option maxHeartbeats 1000000 in
theorem markAsset_any (base : Nat) (p : AssetR) (k : Int) (w : World) (h : OwnsL w base 2 1 i64cells (.slice p.spotsA p.spotsN p.spotsC) p.spots) (h0 : 0 ≤ k) (h1 : k ≤ 10000000000000) (hle : p.spots.length ≤ 1048576) :
    Calls Tryd.prog 20 #[.agg #[.string p.id, .slice p.spotsA p.spotsN p.spotsC, .int .i64 p.worth], .int .i64 k] w (fun e w' => e = .returned (.int .i64 (k + p.spots.length)) ∧ MarkedA (.slice p.spotsA p.spotsN p.spotsC) w w' ∧ OwnsL w' base 2 1 i64cells (.slice p.spotsA p.spotsN p.spotsC) (countL k p.spots.length)) := by
  have hB : Below w.heap.size w (w.alloc (.cells #[.string p.id, .slice p.spotsA p.spotsN p.spotsC, .int .i64 p.worth] 33)) := (Below.refl _ _).alloc (Nat.le_refl _) _
  have HB := Lib.hid hB
  have h' := h.below' hB
  clear h hB
  go_enter Tryd.func20, Tryd.ntmps20
  go_wp2_with fail
  refine (markInt64S_any base _ p.spots k _ h' h0 h1 hle).mono ?_
  rintro e w1 ⟨rfl, om, mk⟩
  have HM : Hid (MarkedA (.slice p.spotsA p.spotsN p.spotsC) w w1) := fun lo hi hk => Span.trans ⟨HB.out.os, HB.out.tape, HB.out.output, HB.out.size, fun k hk _ => HB.out.block k hk⟩ (mk.span hk)
  have HO := Lib.hid om
  clear om mk
  go_wp2
  go_ret
  exact ⟨rfl, HM.out, HO.out⟩
set_option maxHeartbeats 1000000 in
theorem heldAsset_any (base : Nat) (p : AssetR) (n : Nat) (k : Int) (w : World) (h : OwnsL w base 2 1 i64cells (.slice p.spotsA p.spotsN p.spotsC) (countL k n)) (h0 : 0 ≤ k) (h1 : k ≤ 10000000000000) (hle : n ≤ 1048576) :
    Calls Tryd.prog 21 #[.agg #[.string p.id, .slice p.spotsA p.spotsN p.spotsC, .int .i64 p.worth], .int .i64 k] w (Ret (.int .i64 (k + n)) w) := by
  have hB : Below w.heap.size w (w.alloc (.cells #[.string p.id, .slice p.spotsA p.spotsN p.spotsC, .int .i64 p.worth] 33)) := (Below.refl _ _).alloc (Nat.le_refl _) _
  have HB := Lib.hid hB
  have h' := h.below' hB
  clear h hB
  have hneg : decide (k + (n : Int) < 0) = false := decide_eq_false (by omega)
  go_enter Tryd.func21, Tryd.ntmps21
  go_wp2_with fail
  refine (heldInt64S_any base _ n k _ h' h0 h1 hle).mono ?_
  rintro e w1 ⟨rfl, rfl⟩
  go_wp2
  all_goals (go_ret; exact Ret.mk rfl HB.out)
set_option maxRecDepth 100000 in
set_option maxHeartbeats 4000000 in
theorem walk_FnExactReadAsset (s : ByteArray) (w : World) (ht : LibAt w.heap.size w) : Calls Tryd.prog 6 #[.string s] w (Ret (.bool true) w) := by
  by_cases hs : 1048576 < s.size
  · go_enter Tryd.func6, Tryd.ntmps6
    go_wp2
    all_goals (go_ret; exact Ret.b rfl (Below.refl _ _))
  have hs2 : s.size ≤ 1048576 := by omega
  have hs3 : decide ((1048576 : Int) < (s.size : Int)) = false := decide_eq_false (by omega)
  have HT := Lib.hid ht
  clear ht hs
  go_enter Tryd.func6, Tryd.ntmps6
  go_wp2_with fail
  refine (specReadAsset_any s w hs2).mono ?_
  rintro e w1 ⟨p, r, rfl, ho1⟩
  have HO1 := Lib.hid ho1
  obtain ⟨bl, hbl⟩ : ∃ bl, r.isSome = bl := ⟨_, rfl⟩
  rw [hbl]
  have HBL := Lib.hid hbl
  obtain ⟨X, hX⟩ : ∃ X, w1.heap.size = X := ⟨_, rfl⟩
  obtain ⟨w2, hw2⟩ : ∃ w2, w1.alloc (.cells #[.string p.id, .slice p.spotsA p.spotsN p.spotsC, .int .i64 p.worth] 33) = w2 := ⟨_, rfl⟩
  have hb2 : Below w1.heap.size w1 w2 := by rw [← hw2]; exact (Below.refl _ _).alloc (Nat.le_refl _) _
  have HX2 : Hid (Own w2 X 33 #[.string p.id, .slice p.spotsA p.spotsN p.spotsC, .int .i64 p.worth]) := by rw [Hid, ← hw2, ← hX]; exact Own.new _ _ _
  have HP2 := Lib.hid (ho1.own.below' hb2)
  have HPB : Hid (∀ k, (Value.slice p.spotsA p.spotsN p.spotsC).ownBlock = some k → k < w2.heap.size) := fun k hk => Nat.lt_of_lt_of_le (ho1.own.lt k hk).2 hb2.size
  have HB2 := Lib.hid (ho1.below.trans (hb2.mono ho1.below.size))
  have HT2 := Lib.hid ((HT.out.on HB2.out).up HB2.out.size)
  have HW2 := Lib.hid hw2
  have HXX := Lib.hid hX
  clear ho1 hbl hX hw2 hb2
  go_wp2_with fail
  rw [HW2.out, HXX.out]
  refine (implReadAsset_any s w2 hs2 HT2.out).mono ?_
  rintro e w3 ⟨q, r2, rfl, ho3⟩
  obtain rfl : r2 = r := ho3.reads.uniq HO1.out.reads
  rw [HBL.out]
  have HEQ : Hid (Asset.eqB q.val p.val = true) := by rw [Hid, ho3.val, HO1.out.val]; exact Asset.eqB_self _
  have HO3 := Lib.hid ho3
  have HQN := Lib.hid ho3.len
  obtain ⟨Y, hY⟩ : ∃ Y, w3.heap.size = Y := ⟨_, rfl⟩
  obtain ⟨w4, hw4⟩ : ∃ w4, w3.alloc (.cells #[.string q.id, .slice q.spotsA q.spotsN q.spotsC, .int .i64 q.worth] 33) = w4 := ⟨_, rfl⟩
  have hb4 : Below w3.heap.size w3 w4 := by rw [← hw4]; exact (Below.refl _ _).alloc (Nat.le_refl _) _
  have HY4 : Hid (Own w4 Y 33 #[.string q.id, .slice q.spotsA q.spotsN q.spotsC, .int .i64 q.worth]) := by rw [Hid, ← hw4, ← hY]; exact Own.new _ _ _
  have HX4 := Lib.hid ((HX2.out.below' ho3.below).below' hb4)
  have HP4 := Lib.hid ((HP2.out.below' ho3.below).below' hb4)
  have HQ4 := Lib.hid (ho3.own.below' hb4)
  have HQB : Hid (∀ k, (Value.slice q.spotsA q.spotsN q.spotsC).ownBlock = some k → w2.heap.size ≤ k ∧ k < Y) := fun k hk => by rw [← hY]; exact ho3.own.lt k hk
  have HB4 := Lib.hid ((HB2.out.trans (ho3.below.mono HB2.out.size)).trans (hb4.mono (HB2.out.trans (ho3.below.mono HB2.out.size)).size))
  have HXY : Hid (X < w2.heap.size) := HX2.out.lt
  have HW4 := Lib.hid hw4
  have HYY := Lib.hid hY
  clear ho3 hY hw4 hb4
  have x0 := HX4.out.cell 0
  have x1 := HX4.out.cell 1
  have x2 := HX4.out.cell 2
  have lx := HX4.out.lt
  have y0 := HY4.out.cell 0
  have y1 := HY4.out.cell 1
  have y2 := HY4.out.cell 2
  have ly := HY4.out.lt
  simp at x0 x1 x2 y0 y1 y2
  go_upto_region 5 with fail
  rw [HW4.out, HYY.out]
  go_wp2_with fail
  refine (eqAsset_any q p w4 (AssetR.in_of HQ4.out) (AssetR.in_of HP4.out)).mono ?_
  rintro e w5 ⟨rfl, hb5⟩
  rw [HEQ.out]
  have HX5 := Lib.hid (HX4.out.below' hb5)
  have HY5 := Lib.hid (HY4.out.below' hb5)
  have HP5 := Lib.hid (HP4.out.below' hb5)
  have HQ5 := Lib.hid (HQ4.out.below' hb5)
  have HB5 := Lib.hid (HB4.out.trans (hb5.mono HB4.out.size))
  have HYS : Hid (Y < w5.heap.size) := HY5.out.lt
  have HW2S : Hid (w2.heap.size ≤ w5.heap.size ∧ w.heap.size ≤ w2.heap.size) := ⟨by have := HXX.out; have h1 := HO3.out.below.size; have h2 := HYS.out; have h3 := HYY.out; omega, HB2.out.size⟩
  clear hb5 x0 x1 x2 lx y0 y1 y2 ly
  have y0 := HY5.out.cell 0
  have y1 := HY5.out.cell 1
  have y2 := HY5.out.cell 2
  have ly := HY5.out.lt
  simp at y0 y1 y2
  have hbb : (bl != bl) = false := by cases bl <;> rfl
  go_upto_region 8 with fail
  go_wp2_with fail
  refine (markAsset_any w2.heap.size q 1 w5 HQ5.out (by decide) (by decide) (by have := HQN.out; omega)).mono ?_
  rintro e w6 ⟨rfl, hmk, hq6⟩
  have hsp : Span w2.heap.size Y w5 w6 := hmk _ _ HQB.out
  have HX6 : Hid (Own w6 X 33 #[.string p.id, .slice p.spotsA p.spotsN p.spotsC, .int .i64 p.worth]) := (hsp.block X HX5.out.lt (.inl HXY.out)).trans HX5.out
  have HY6 : Hid (Own w6 Y 33 #[.string q.id, .slice q.spotsA q.spotsN q.spotsC, .int .i64 q.worth]) := (hsp.block Y HY5.out.lt (.inr (Nat.le_refl _))).trans HY5.out
  have HP6 := Lib.hid (HP5.out.span hsp (fun k hk => .inl (HPB.out k hk)))
  have HQ6 := Lib.hid hq6
  have HB6 := Lib.hid (Below.span HB5.out hsp HB5.out.size HW2S.out.2)
  clear hmk hq6 hsp y0 y1 y2 ly
  have y0 := HY6.out.cell 0
  have y1 := HY6.out.cell 1
  have y2 := HY6.out.cell 2
  have ly := HY6.out.lt
  simp at y0 y1 y2
  have hqn := HQN.out
  obtain ⟨n, hn⟩ : ∃ n, q.spots.length = n := ⟨_, rfl⟩
  rw [hn] at HQ6 hqn ⊢
  clear hn
  have hneg : decide (1 + (n : Int) < 0) = false := decide_eq_false (by omega)
  go_wp2_with fail
  refine (heldAsset_any w2.heap.size q n 1 w6 HQ6.out (by decide) (by decide) (by omega)).mono ?_
  rintro e w7 ⟨rfl, hb7⟩
  have HX7 := Lib.hid (HX6.out.below' hb7)
  have HY7 := Lib.hid (HY6.out.below' hb7)
  have HP7 := Lib.hid (HP6.out.below' hb7)
  have HQ7 := Lib.hid (HQ6.out.below' hb7)
  have HB7 := Lib.hid (HB6.out.trans (hb7.mono HB6.out.size))
  have HT7 := Lib.hid ((HT.out.on HB7.out).up HB7.out.size)
  clear hb7 y0 y1 y2 ly
  go_wp2_with fail
  refine (implReadAsset_any s w7 hs2 HT7.out).mono ?_
  rintro e w8 ⟨t, r3, rfl, ho8⟩
  obtain rfl : r3 = r2 := ho8.reads.uniq HO1.out.reads
  rw [HBL.out]
  have HEQ2 : Hid (Asset.eqB t.val p.val = true) := by rw [Hid, ho8.val, HO1.out.val]; exact Asset.eqB_self _
  obtain ⟨Z, hZ⟩ : ∃ Z, w8.heap.size = Z := ⟨_, rfl⟩
  obtain ⟨w9, hw9⟩ : ∃ w9, w8.alloc (.cells #[.string t.id, .slice t.spotsA t.spotsN t.spotsC, .int .i64 t.worth] 33) = w9 := ⟨_, rfl⟩
  have hb9 : Below w8.heap.size w8 w9 := by rw [← hw9]; exact (Below.refl _ _).alloc (Nat.le_refl _) _
  have HZ9 : Hid (Own w9 Z 33 #[.string t.id, .slice t.spotsA t.spotsN t.spotsC, .int .i64 t.worth]) := by rw [Hid, ← hw9, ← hZ]; exact Own.new _ _ _
  have HX9 := Lib.hid ((HX7.out.below' ho8.below).below' hb9)
  have HY9 := Lib.hid ((HY7.out.below' ho8.below).below' hb9)
  have HP9 := Lib.hid ((HP7.out.below' ho8.below).below' hb9)
  have HQ9 := Lib.hid ((HQ7.out.below' ho8.below).below' hb9)
  have HU9 := Lib.hid (ho8.own.below' hb9)
  have HB9 := Lib.hid ((HB7.out.trans (ho8.below.mono HB7.out.size)).trans (hb9.mono (HB7.out.trans (ho8.below.mono HB7.out.size)).size))
  have HW9 := Lib.hid hw9
  have HZZ := Lib.hid hZ
  clear ho8 hZ hw9 hb9
  have x0 := HX9.out.cell 0
  have x1 := HX9.out.cell 1
  have x2 := HX9.out.cell 2
  have lx := HX9.out.lt
  have y0 := HZ9.out.cell 0
  have y1 := HZ9.out.cell 1
  have y2 := HZ9.out.cell 2
  have ly := HZ9.out.lt
  simp at x0 x1 x2 y0 y1 y2
  go_upto_region 16 with fail
  rw [HW9.out, HZZ.out]
  go_wp2_with fail
  refine (eqAsset_any t p w9 (AssetR.in_of HU9.out) (AssetR.in_of HP9.out)).mono ?_
  rintro e w10 ⟨rfl, hb10⟩
  rw [HEQ2.out]
  have HY10 := Lib.hid (HY9.out.below' hb10)
  have HQ10 := Lib.hid (HQ9.out.below' hb10)
  have HB10 := Lib.hid (HB9.out.trans (hb10.mono HB9.out.size))
  clear hb10 x0 x1 x2 lx y0 y1 y2 ly
  have y0 := HY10.out.cell 0
  have y1 := HY10.out.cell 1
  have y2 := HY10.out.cell 2
  have ly := HY10.out.lt
  simp at y0 y1 y2
  go_wp2_with fail
  refine (heldAsset_any w2.heap.size q n 1 w10 HQ10.out (by decide) (by decide) (by omega)).mono ?_
  rintro e w11 ⟨rfl, hb11⟩
  have HB11 := Lib.hid (HB10.out.trans (hb11.mono HB10.out.size))
  clear hb11 y0 y1 y2 ly
  go_wp2
  go_ret
  exact Ret.b rfl HB11.out

end Go.Proofs.YtgianbcplnciiaaDoor
