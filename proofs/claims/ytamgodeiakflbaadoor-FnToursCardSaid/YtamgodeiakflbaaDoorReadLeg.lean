/- ReadLeg of the program, through the library's cutting of texts. -/
import Derived.Test.YtamgodeiakflbaaDoorLegP
import Derived.Test.YtamgodeiakflbaaDoorReadDec
namespace Go.Proofs.YtamgodeiakflbaaDoor
open Go.RowKit

def rdLeg (r : Option Leg) : Value := match r with | some x => .agg #[.int .i64 x.from_, .int .i64 x.to_, .int .i64 x.minutes, .int .i64 x.exposure] | none => .agg #[.int .i64 0, .int .i64 0, .int .i64 0, .int .i64 0]
/-- The result's own block and the block of the four numbers. -/
structure FourAt (R N : Nat) (cs : Array Value) (w w' : World) : Prop where
  res : Own w' R 32 #[.int .i64 0, .int .i64 0, .int .i64 0, .int .i64 0]
  arr : Own w' N 51 cs
  below : Below w.heap.size w w'
  hR : w.heap.size ≤ R
  hN : R < N
theorem FourAt.grow {R N : Nat} {cs : Array Value} {w w' w2 : World} (h : FourAt R N cs w w') (hb : Below w'.heap.size w' w2) : FourAt R N cs w w2 := ⟨h.res.below' hb, h.arr.below' hb, h.below.trans (hb.mono h.below.size), h.hR, h.hN⟩
theorem FourAt.put {R N : Nat} {cs cs' : Array Value} {w w' : World} (h : FourAt R N cs w w') (i : Nat) (v : Value) (he : cs.setIfInBounds i v = cs') : FourAt R N cs' w (w'.setCell ⟨N, i, none⟩ v) :=
  ⟨h.res.far (p := ⟨N, i, none⟩) (by have := h.hN; simp only; omega) v, by have := h.arr.put i v; rwa [he] at this, h.below.setCell (p := ⟨N, i, none⟩) (by have := h.hN; have := h.hR; simp only; omega) v, h.hR, h.hN⟩
theorem size_list (l : List UInt8) : (⟨l.toArray⟩ : ByteArray).size = l.length := by show l.toArray.size = _; simp
theorem cut_any (s : ByteArray) (c : UInt8) (w : World) (hs : s.size < 4294967281) (ht : LibAt w.heap.size w) : Calls Tryd.prog 24 #[.string s, .string ⟨#[c]⟩] w (fun e w' => ∃ q, e = .returned (.tuple #[.string ⟨(Lib.cut s.data.toList [c]).1.toArray⟩, .string ⟨(Lib.cut s.data.toList [c]).2.1.toArray⟩, .bool q]) ∧ Below w.heap.size w w') := by
  obtain ⟨m, hm⟩ := ht.max w (Below.refl _ _)
  refine (Tryd.strings_Cut s ⟨#[c]⟩ m w hs hm).mono ?_
  rintro e w' ⟨rfl, n, rfl⟩
  exact ⟨_, rfl, below_drewN (Below.refl _ _) n⟩
set_option maxRecDepth 100000 in
set_option maxHeartbeats 4000000 in
theorem implReadLeg_any (s : ByteArray) (w : World) (hs : s.size ≤ 1048576) (ht : LibAt w.heap.size w) : Calls Tryd.prog 8 #[.string s] w (fun e w' => ∃ r : Option Leg, e = .returned (.tuple #[rdLeg r, .bool r.isSome]) ∧ ReadsLeg s r ∧ Below w.heap.size w w') := by
  obtain ⟨R, hR⟩ : ∃ R, w.heap.size = R := ⟨_, rfl⟩
  obtain ⟨w0, hw0⟩ : ∃ w0, w.alloc (.cells #[.int .i64 0, .int .i64 0, .int .i64 0, .int .i64 0] 32) = w0 := ⟨_, rfl⟩
  have hb0 : Below w.heap.size w w0 := by rw [← hw0]; exact (Below.refl _ _).alloc (Nat.le_refl _) _
  have HR0 : Hid (Own w0 R 32 #[.int .i64 0, .int .i64 0, .int .i64 0, .int .i64 0]) := by rw [Hid, ← hw0, ← hR]; exact Own.new _ _ _
  have HB0 := Lib.hid hb0
  have HTW := Lib.hid ht
  have HT0 := Lib.hid (ht.grow hb0)
  have HWR := Lib.hid hw0
  have HR := Lib.hid hR
  have hsl : s.data.toList.length = s.size := by rw [Array.length_toList]; rfl
  have l1 := cut_len s.data.toList [32]
  obtain ⟨E, hE⟩ : ∃ E, (⟨(Lib.cut s.data.toList [32]).1.toArray⟩ : ByteArray) = E := ⟨_, rfl⟩
  obtain ⟨F, hF⟩ : ∃ F, (⟨(Lib.cut s.data.toList [32]).2.1.toArray⟩ : ByteArray) = F := ⟨_, rfl⟩
  have hEl : E.data.toList = (Lib.cut s.data.toList [32]).1 := by rw [← hE]
  have hFl : F.data.toList = (Lib.cut s.data.toList [32]).2.1 := by rw [← hF]
  have l2 := cut_len E.data.toList [45]
  have l3 := cut_len F.data.toList [33]
  obtain ⟨a, ha⟩ : ∃ a, (⟨(Lib.cut E.data.toList [45]).1.toArray⟩ : ByteArray) = a := ⟨_, rfl⟩
  obtain ⟨b, hb⟩ : ∃ b, (⟨(Lib.cut E.data.toList [45]).2.1.toArray⟩ : ByteArray) = b := ⟨_, rfl⟩
  obtain ⟨c, hc⟩ : ∃ c, (⟨(Lib.cut F.data.toList [33]).1.toArray⟩ : ByteArray) = c := ⟨_, rfl⟩
  obtain ⟨d, hd⟩ : ∃ d, (⟨(Lib.cut F.data.toList [33]).2.1.toArray⟩ : ByteArray) = d := ⟨_, rfl⟩
  have hEs : E.size ≤ 1048576 := by rw [← hE, size_list]; omega
  have hFs : F.size ≤ 1048576 := by rw [← hF, size_list]; omega
  have HSZ : Hid (a.size ≤ 281474976710656 ∧ b.size ≤ 281474976710656 ∧ c.size ≤ 281474976710656 ∧ d.size ≤ 281474976710656) := by
    rw [Hid, ← ha, ← hb, ← hc, ← hd, size_list, size_list, size_list, size_list]
    rw [hEl] at l2 ⊢
    rw [hFl] at l3 ⊢
    omega
  have HPT : Hid (∀ x : Leg, x.oneB 12 = true → s = legText x → a = dec x.from_ ∧ b = dec x.to_ ∧ c = dec x.minutes ∧ d = dec x.exposure) := by
    intro x hx he
    obtain ⟨p1, p2, p3⟩ := parts_leg hx
    rw [← he] at p1
    rw [← ha, ← hb, ← hc, ← hd, hEl, hFl, p1]
    refine ⟨dec_of_list ?_, dec_of_list ?_, dec_of_list ?_, dec_of_list ?_⟩
    · rw [p2]
    · rw [p2]
    · rw [p3]
    · rw [p3]
  have HNE : Hid (s = ⟨#[]⟩ → a = ⟨#[]⟩) := by
    intro he
    rw [← ha, hEl, he]
    rfl
  have HA := Lib.hid (show ((⟨(Lib.cut s.data.toList [32]).1.toArray⟩ : ByteArray) = E ∧ (⟨(Lib.cut s.data.toList [32]).2.1.toArray⟩ : ByteArray) = F) ∧ ((⟨(Lib.cut E.data.toList [45]).1.toArray⟩ : ByteArray) = a ∧ (⟨(Lib.cut E.data.toList [45]).2.1.toArray⟩ : ByteArray) = b) ∧ ((⟨(Lib.cut F.data.toList [33]).1.toArray⟩ : ByteArray) = c ∧ (⟨(Lib.cut F.data.toList [33]).2.1.toArray⟩ : ByteArray) = d) from ⟨⟨hE, hF⟩, ⟨ha, hb⟩, hc, hd⟩)
  have i0 : ∀ w, (Instr.index 52 (.agg #[.string a, .string b, .string c, .string d]) (.int .i64 0)).run Tryd.prog w = .ok (.string a) w := fun _ => by kernel_rfl
  have i1 : ∀ w, (Instr.index 52 (.agg #[.string a, .string b, .string c, .string d]) (.int .i64 1)).run Tryd.prog w = .ok (.string b) w := fun _ => by kernel_rfl
  have i2 : ∀ w, (Instr.index 52 (.agg #[.string a, .string b, .string c, .string d]) (.int .i64 2)).run Tryd.prog w = .ok (.string c) w := fun _ => by kernel_rfl
  have i3 : ∀ w, (Instr.index 52 (.agg #[.string a, .string b, .string c, .string d]) (.int .i64 3)).run Tryd.prog w = .ok (.string d) w := fun _ => by kernel_rfl
  clear ht hb0 hw0 hR hsl l1 hE hF hEl hFl l2 l3 ha hb hc hd
  go_enter Tryd.func8, Tryd.ntmps8
  go_wp2_with fail
  rw [HWR.out, HR.out]
  refine (cut_any s 32 w0 (by omega) HT0.out).mono ?_
  rintro e w1 ⟨q1, rfl, hb⟩
  have HB1 := Lib.hid (HB0.out.trans (hb.mono HB0.out.size))
  have HT1 := Lib.hid (HT0.out.grow hb)
  have HR1 := Lib.hid (HR0.out.below' hb)
  clear hb
  rw [HA.out.1.1, HA.out.1.2]
  go_wp2_with fail
  refine (cut_any E 45 w1 (by omega) HT1.out).mono ?_
  rintro e w2 ⟨q2, rfl, hb⟩
  have HB2 := Lib.hid (HB1.out.trans (hb.mono HB1.out.size))
  have HT2 := Lib.hid (HT1.out.grow hb)
  have HR2 := Lib.hid (HR1.out.below' hb)
  clear hb
  rw [HA.out.2.1.1, HA.out.2.1.2]
  go_wp2_with fail
  refine (cut_any F 33 w2 (by omega) HT2.out).mono ?_
  rintro e w3 ⟨q3, rfl, hb⟩
  have HB3 := Lib.hid (HB2.out.trans (hb.mono HB2.out.size))
  have HT3 := Lib.hid (HT2.out.grow hb)
  have HR3 := Lib.hid (HR2.out.below' hb)
  clear hb
  rw [HA.out.2.2.1, HA.out.2.2.2]
  obtain ⟨N, hN⟩ : ∃ N, w3.heap.size = N := ⟨_, rfl⟩
  obtain ⟨w4, hw4⟩ : ∃ w4, w3.alloc (.cells #[.int .i64 0, .int .i64 0, .int .i64 0, .int .i64 0] 51) = w4 := ⟨_, rfl⟩
  have hb4 : Below w3.heap.size w3 w4 := by rw [← hw4]; exact (Below.refl _ _).alloc (Nat.le_refl _) _
  have HF4 : Hid (FourAt R N #[.int .i64 0, .int .i64 0, .int .i64 0, .int .i64 0] w w4) := ⟨HR3.out.below' hb4, by rw [← hw4, ← hN]; exact Own.new _ _ _, HB3.out.trans (hb4.mono HB3.out.size), Nat.le_of_eq HR.out, by have := HR3.out.lt; omega⟩
  have HT4 := Lib.hid (HT3.out.grow hb4)
  have HW4 := Lib.hid hw4
  have HN := Lib.hid hN
  clear hb4 hw4 hN
  go_wp2
  rw [HW4.out, HN.out]
  refine wp_loop_rounds 5 ?_
  rw [rounds_succ]
  go_wp2_with fail
  refine (readDecimal_any a w4 HSZ.out.1 HT4.out).mono ?_
  rintro e v0 ⟨r0, rfl, hr, hb⟩
  have HG0 := Lib.hid (HF4.out.grow hb)
  have HU0 := Lib.hid (HT4.out.grow hb)
  have HQ0 := Lib.hid hr
  clear hr hb
  cases r0
  · have HNO : Hid (ReadsLeg s none) := ⟨fun x e => (by cases e), fun _ x hx he => HQ0.out.no rfl _ (Leg.one_parts hx).2.2.2.2.1 (HPT.out x hx he).1⟩
    have HFn : Hid (FourAt R N #[.int .i64 0, .int .i64 0, .int .i64 0, .int .i64 0] w (v0.setCell ⟨N, 0, none⟩ (.int .i64 0))) := HG0.out.put 0 (.int .i64 0) (by simp)
    obtain ⟨uf, huf⟩ : ∃ uf, ((((v0.setCell ⟨N, 0, none⟩ (.int .i64 0)).setCell ⟨R, 0, none⟩ (.int .i64 0)).setCell ⟨R, 1, none⟩ (.int .i64 0)).setCell ⟨R, 2, none⟩ (.int .i64 0)).setCell ⟨R, 3, none⟩ (.int .i64 0) = uf := ⟨_, rfl⟩
    have HOF : Hid (Own uf R 32 #[.int .i64 0, .int .i64 0, .int .i64 0, .int .i64 0]) := by
      rw [Hid, ← huf]
      simpa using ((((HFn.out.res.put 0 (.int .i64 0)).put 1 (.int .i64 0)).put 2 (.int .i64 0)).put 3 (.int .i64 0))
    have HBF : Hid (Below w.heap.size w uf) := by
      have hr := HFn.out.hR
      rw [Hid, ← huf]
      exact (((HFn.out.below.setCell (p := ⟨R, 0, none⟩) hr _).setCell (p := ⟨R, 1, none⟩) hr _).setCell (p := ⟨R, 2, none⟩) hr _).setCell (p := ⟨R, 3, none⟩) hr _
    have HUF := Lib.hid huf
    clear huf
    have y0 := HG0.out.arr.cell 0
    have y1 := HG0.out.arr.cell 1
    have y2 := HG0.out.arr.cell 2
    have y3 := HG0.out.arr.cell 3
    have fy := HG0.out.arr.frozen
    have ly := HG0.out.arr.lt
    have z0 := HG0.out.res.cell 0
    have z1 := HG0.out.res.cell 1
    have z2 := HG0.out.res.cell 2
    have z3 := HG0.out.res.cell 3
    have fz := HG0.out.res.frozen
    have lz := HG0.out.res.lt
    have hne : R ≠ N := by have := HG0.out.hN; omega
    simp at y0 y1 y2 y3 z0 z1 z2 z3
    go_wp2
    rw [HUF.out]
    have f0 := HOF.out.cell 0
    have f1 := HOF.out.cell 1
    have f2 := HOF.out.cell 2
    have f3 := HOF.out.cell 3
    simp at f0 f1 f2 f3
    exact bodyPost_ret (v := .tuple #[.agg #[.int .i64 0, .int .i64 0, .int .i64 0, .int .i64 0], .bool false]) (by simp [results, Tryd.results8, go_sem, f0, f1, f2, f3]) rfl ⟨none, rfl, HNO.out, HBF.out⟩
  rename_i n0
  obtain ⟨w5, hw⟩ : ∃ u, v0.setCell ⟨N, 0, none⟩ (.int .i64 n0) = u := ⟨_, rfl⟩
  have HF5 : Hid (FourAt R N #[.int .i64 n0, .int .i64 0, .int .i64 0, .int .i64 0] w w5) := by rw [Hid, ← hw]; exact HG0.out.put 0 (.int .i64 n0) (by simp)
  have HT5 : Hid (LibAt w5.heap.size w5) := by
    have hb : Below w.heap.size w w5 := HF5.out.below
    exact (HTW.out.on hb).up hb.size
  have HW5 := Lib.hid hw
  clear hw
  have y0 := HG0.out.arr.cell 0
  have y1 := HG0.out.arr.cell 1
  have y2 := HG0.out.arr.cell 2
  have y3 := HG0.out.arr.cell 3
  have fy := HG0.out.arr.frozen
  have ly := HG0.out.arr.lt
  have z0 := HG0.out.res.cell 0
  have z1 := HG0.out.res.cell 1
  have z2 := HG0.out.res.cell 2
  have z3 := HG0.out.res.cell 3
  have fz := HG0.out.res.frozen
  have lz := HG0.out.res.lt
  have hne : R ≠ N := by have := HG0.out.hN; omega
  simp at y0 y1 y2 y3 z0 z1 z2 z3
  go_wp2
  rw [HW5.out]
  clear y0 y1 y2 y3 fy ly z0 z1 z2 z3 fz lz hne
  rw [rounds_succ]
  go_wp2_with fail
  refine (readDecimal_any b w5 HSZ.out.2.1 HT5.out).mono ?_
  rintro e v1 ⟨r1, rfl, hr, hb⟩
  have HG1 := Lib.hid (HF5.out.grow hb)
  have HU1 := Lib.hid (HT5.out.grow hb)
  have HQ1 := Lib.hid hr
  clear hr hb
  cases r1
  · have HNO : Hid (ReadsLeg s none) := ⟨fun x e => (by cases e), fun _ x hx he => HQ1.out.no rfl _ (Leg.one_parts hx).2.2.2.2.2.1 (HPT.out x hx he).2.1⟩
    have HFn : Hid (FourAt R N #[.int .i64 n0, .int .i64 0, .int .i64 0, .int .i64 0] w (v1.setCell ⟨N, 1, none⟩ (.int .i64 0))) := HG1.out.put 1 (.int .i64 0) (by simp)
    obtain ⟨uf, huf⟩ : ∃ uf, ((((v1.setCell ⟨N, 1, none⟩ (.int .i64 0)).setCell ⟨R, 0, none⟩ (.int .i64 0)).setCell ⟨R, 1, none⟩ (.int .i64 0)).setCell ⟨R, 2, none⟩ (.int .i64 0)).setCell ⟨R, 3, none⟩ (.int .i64 0) = uf := ⟨_, rfl⟩
    have HOF : Hid (Own uf R 32 #[.int .i64 0, .int .i64 0, .int .i64 0, .int .i64 0]) := by
      rw [Hid, ← huf]
      simpa using ((((HFn.out.res.put 0 (.int .i64 0)).put 1 (.int .i64 0)).put 2 (.int .i64 0)).put 3 (.int .i64 0))
    have HBF : Hid (Below w.heap.size w uf) := by
      have hr := HFn.out.hR
      rw [Hid, ← huf]
      exact (((HFn.out.below.setCell (p := ⟨R, 0, none⟩) hr _).setCell (p := ⟨R, 1, none⟩) hr _).setCell (p := ⟨R, 2, none⟩) hr _).setCell (p := ⟨R, 3, none⟩) hr _
    have HUF := Lib.hid huf
    clear huf
    have y0 := HG1.out.arr.cell 0
    have y1 := HG1.out.arr.cell 1
    have y2 := HG1.out.arr.cell 2
    have y3 := HG1.out.arr.cell 3
    have fy := HG1.out.arr.frozen
    have ly := HG1.out.arr.lt
    have z0 := HG1.out.res.cell 0
    have z1 := HG1.out.res.cell 1
    have z2 := HG1.out.res.cell 2
    have z3 := HG1.out.res.cell 3
    have fz := HG1.out.res.frozen
    have lz := HG1.out.res.lt
    have hne : R ≠ N := by have := HG1.out.hN; omega
    simp at y0 y1 y2 y3 z0 z1 z2 z3
    go_wp2
    rw [HUF.out]
    have f0 := HOF.out.cell 0
    have f1 := HOF.out.cell 1
    have f2 := HOF.out.cell 2
    have f3 := HOF.out.cell 3
    simp at f0 f1 f2 f3
    exact bodyPost_ret (v := .tuple #[.agg #[.int .i64 0, .int .i64 0, .int .i64 0, .int .i64 0], .bool false]) (by simp [results, Tryd.results8, go_sem, f0, f1, f2, f3]) rfl ⟨none, rfl, HNO.out, HBF.out⟩
  rename_i n1
  obtain ⟨w6, hw⟩ : ∃ u, v1.setCell ⟨N, 1, none⟩ (.int .i64 n1) = u := ⟨_, rfl⟩
  have HF6 : Hid (FourAt R N #[.int .i64 n0, .int .i64 n1, .int .i64 0, .int .i64 0] w w6) := by rw [Hid, ← hw]; exact HG1.out.put 1 (.int .i64 n1) (by simp)
  have HT6 : Hid (LibAt w6.heap.size w6) := by
    have hb : Below w.heap.size w w6 := HF6.out.below
    exact (HTW.out.on hb).up hb.size
  have HW6 := Lib.hid hw
  clear hw
  have y0 := HG1.out.arr.cell 0
  have y1 := HG1.out.arr.cell 1
  have y2 := HG1.out.arr.cell 2
  have y3 := HG1.out.arr.cell 3
  have fy := HG1.out.arr.frozen
  have ly := HG1.out.arr.lt
  have z0 := HG1.out.res.cell 0
  have z1 := HG1.out.res.cell 1
  have z2 := HG1.out.res.cell 2
  have z3 := HG1.out.res.cell 3
  have fz := HG1.out.res.frozen
  have lz := HG1.out.res.lt
  have hne : R ≠ N := by have := HG1.out.hN; omega
  simp at y0 y1 y2 y3 z0 z1 z2 z3
  go_wp2
  rw [HW6.out]
  clear y0 y1 y2 y3 fy ly z0 z1 z2 z3 fz lz hne
  rw [rounds_succ]
  go_wp2_with fail
  refine (readDecimal_any c w6 HSZ.out.2.2.1 HT6.out).mono ?_
  rintro e v2 ⟨r2, rfl, hr, hb⟩
  have HG2 := Lib.hid (HF6.out.grow hb)
  have HU2 := Lib.hid (HT6.out.grow hb)
  have HQ2 := Lib.hid hr
  clear hr hb
  cases r2
  · have HNO : Hid (ReadsLeg s none) := ⟨fun x e => (by cases e), fun _ x hx he => HQ2.out.no rfl _ (Leg.one_parts hx).2.2.2.2.2.2.1 (HPT.out x hx he).2.2.1⟩
    have HFn : Hid (FourAt R N #[.int .i64 n0, .int .i64 n1, .int .i64 0, .int .i64 0] w (v2.setCell ⟨N, 2, none⟩ (.int .i64 0))) := HG2.out.put 2 (.int .i64 0) (by simp)
    obtain ⟨uf, huf⟩ : ∃ uf, ((((v2.setCell ⟨N, 2, none⟩ (.int .i64 0)).setCell ⟨R, 0, none⟩ (.int .i64 0)).setCell ⟨R, 1, none⟩ (.int .i64 0)).setCell ⟨R, 2, none⟩ (.int .i64 0)).setCell ⟨R, 3, none⟩ (.int .i64 0) = uf := ⟨_, rfl⟩
    have HOF : Hid (Own uf R 32 #[.int .i64 0, .int .i64 0, .int .i64 0, .int .i64 0]) := by
      rw [Hid, ← huf]
      simpa using ((((HFn.out.res.put 0 (.int .i64 0)).put 1 (.int .i64 0)).put 2 (.int .i64 0)).put 3 (.int .i64 0))
    have HBF : Hid (Below w.heap.size w uf) := by
      have hr := HFn.out.hR
      rw [Hid, ← huf]
      exact (((HFn.out.below.setCell (p := ⟨R, 0, none⟩) hr _).setCell (p := ⟨R, 1, none⟩) hr _).setCell (p := ⟨R, 2, none⟩) hr _).setCell (p := ⟨R, 3, none⟩) hr _
    have HUF := Lib.hid huf
    clear huf
    have y0 := HG2.out.arr.cell 0
    have y1 := HG2.out.arr.cell 1
    have y2 := HG2.out.arr.cell 2
    have y3 := HG2.out.arr.cell 3
    have fy := HG2.out.arr.frozen
    have ly := HG2.out.arr.lt
    have z0 := HG2.out.res.cell 0
    have z1 := HG2.out.res.cell 1
    have z2 := HG2.out.res.cell 2
    have z3 := HG2.out.res.cell 3
    have fz := HG2.out.res.frozen
    have lz := HG2.out.res.lt
    have hne : R ≠ N := by have := HG2.out.hN; omega
    simp at y0 y1 y2 y3 z0 z1 z2 z3
    go_wp2
    rw [HUF.out]
    have f0 := HOF.out.cell 0
    have f1 := HOF.out.cell 1
    have f2 := HOF.out.cell 2
    have f3 := HOF.out.cell 3
    simp at f0 f1 f2 f3
    exact bodyPost_ret (v := .tuple #[.agg #[.int .i64 0, .int .i64 0, .int .i64 0, .int .i64 0], .bool false]) (by simp [results, Tryd.results8, go_sem, f0, f1, f2, f3]) rfl ⟨none, rfl, HNO.out, HBF.out⟩
  rename_i n2
  obtain ⟨w7, hw⟩ : ∃ u, v2.setCell ⟨N, 2, none⟩ (.int .i64 n2) = u := ⟨_, rfl⟩
  have HF7 : Hid (FourAt R N #[.int .i64 n0, .int .i64 n1, .int .i64 n2, .int .i64 0] w w7) := by rw [Hid, ← hw]; exact HG2.out.put 2 (.int .i64 n2) (by simp)
  have HT7 : Hid (LibAt w7.heap.size w7) := by
    have hb : Below w.heap.size w w7 := HF7.out.below
    exact (HTW.out.on hb).up hb.size
  have HW7 := Lib.hid hw
  clear hw
  have y0 := HG2.out.arr.cell 0
  have y1 := HG2.out.arr.cell 1
  have y2 := HG2.out.arr.cell 2
  have y3 := HG2.out.arr.cell 3
  have fy := HG2.out.arr.frozen
  have ly := HG2.out.arr.lt
  have z0 := HG2.out.res.cell 0
  have z1 := HG2.out.res.cell 1
  have z2 := HG2.out.res.cell 2
  have z3 := HG2.out.res.cell 3
  have fz := HG2.out.res.frozen
  have lz := HG2.out.res.lt
  have hne : R ≠ N := by have := HG2.out.hN; omega
  simp at y0 y1 y2 y3 z0 z1 z2 z3
  go_wp2
  rw [HW7.out]
  clear y0 y1 y2 y3 fy ly z0 z1 z2 z3 fz lz hne
  rw [rounds_succ]
  go_wp2_with fail
  refine (readDecimal_any d w7 HSZ.out.2.2.2 HT7.out).mono ?_
  rintro e v3 ⟨r3, rfl, hr, hb⟩
  have HG3 := Lib.hid (HF7.out.grow hb)
  have HU3 := Lib.hid (HT7.out.grow hb)
  have HQ3 := Lib.hid hr
  clear hr hb
  cases r3
  · have HNO : Hid (ReadsLeg s none) := ⟨fun x e => (by cases e), fun _ x hx he => HQ3.out.no rfl _ (Leg.one_parts hx).2.2.2.2.2.2.2 (HPT.out x hx he).2.2.2⟩
    have HFn : Hid (FourAt R N #[.int .i64 n0, .int .i64 n1, .int .i64 n2, .int .i64 0] w (v3.setCell ⟨N, 3, none⟩ (.int .i64 0))) := HG3.out.put 3 (.int .i64 0) (by simp)
    obtain ⟨uf, huf⟩ : ∃ uf, ((((v3.setCell ⟨N, 3, none⟩ (.int .i64 0)).setCell ⟨R, 0, none⟩ (.int .i64 0)).setCell ⟨R, 1, none⟩ (.int .i64 0)).setCell ⟨R, 2, none⟩ (.int .i64 0)).setCell ⟨R, 3, none⟩ (.int .i64 0) = uf := ⟨_, rfl⟩
    have HOF : Hid (Own uf R 32 #[.int .i64 0, .int .i64 0, .int .i64 0, .int .i64 0]) := by
      rw [Hid, ← huf]
      simpa using ((((HFn.out.res.put 0 (.int .i64 0)).put 1 (.int .i64 0)).put 2 (.int .i64 0)).put 3 (.int .i64 0))
    have HBF : Hid (Below w.heap.size w uf) := by
      have hr := HFn.out.hR
      rw [Hid, ← huf]
      exact (((HFn.out.below.setCell (p := ⟨R, 0, none⟩) hr _).setCell (p := ⟨R, 1, none⟩) hr _).setCell (p := ⟨R, 2, none⟩) hr _).setCell (p := ⟨R, 3, none⟩) hr _
    have HUF := Lib.hid huf
    clear huf
    have y0 := HG3.out.arr.cell 0
    have y1 := HG3.out.arr.cell 1
    have y2 := HG3.out.arr.cell 2
    have y3 := HG3.out.arr.cell 3
    have fy := HG3.out.arr.frozen
    have ly := HG3.out.arr.lt
    have z0 := HG3.out.res.cell 0
    have z1 := HG3.out.res.cell 1
    have z2 := HG3.out.res.cell 2
    have z3 := HG3.out.res.cell 3
    have fz := HG3.out.res.frozen
    have lz := HG3.out.res.lt
    have hne : R ≠ N := by have := HG3.out.hN; omega
    simp at y0 y1 y2 y3 z0 z1 z2 z3
    go_wp2
    rw [HUF.out]
    have f0 := HOF.out.cell 0
    have f1 := HOF.out.cell 1
    have f2 := HOF.out.cell 2
    have f3 := HOF.out.cell 3
    simp at f0 f1 f2 f3
    exact bodyPost_ret (v := .tuple #[.agg #[.int .i64 0, .int .i64 0, .int .i64 0, .int .i64 0], .bool false]) (by simp [results, Tryd.results8, go_sem, f0, f1, f2, f3]) rfl ⟨none, rfl, HNO.out, HBF.out⟩
  rename_i n3
  obtain ⟨w8, hw⟩ : ∃ u, v3.setCell ⟨N, 3, none⟩ (.int .i64 n3) = u := ⟨_, rfl⟩
  have HF8 : Hid (FourAt R N #[.int .i64 n0, .int .i64 n1, .int .i64 n2, .int .i64 n3] w w8) := by rw [Hid, ← hw]; exact HG3.out.put 3 (.int .i64 n3) (by simp)
  have HT8 : Hid (LibAt w8.heap.size w8) := by
    have hb : Below w.heap.size w w8 := HF8.out.below
    exact (HTW.out.on hb).up hb.size
  have HW8 := Lib.hid hw
  clear hw
  have y0 := HG3.out.arr.cell 0
  have y1 := HG3.out.arr.cell 1
  have y2 := HG3.out.arr.cell 2
  have y3 := HG3.out.arr.cell 3
  have fy := HG3.out.arr.frozen
  have ly := HG3.out.arr.lt
  have z0 := HG3.out.res.cell 0
  have z1 := HG3.out.res.cell 1
  have z2 := HG3.out.res.cell 2
  have z3 := HG3.out.res.cell 3
  have fz := HG3.out.res.frozen
  have lz := HG3.out.res.lt
  have hne : R ≠ N := by have := HG3.out.hN; omega
  simp at y0 y1 y2 y3 z0 z1 z2 z3
  go_wp2
  rw [HW8.out]
  clear y0 y1 y2 y3 fy ly z0 z1 z2 z3 fz lz hne
  obtain ⟨X, hX⟩ : ∃ X, w8.heap.size = X := ⟨_, rfl⟩
  obtain ⟨wx, hwx⟩ : ∃ wx, w8.alloc (.cells #[.int .i64 n0, .int .i64 n1, .int .i64 n2, .int .i64 n3] 32) = wx := ⟨_, rfl⟩
  have hbx : Below w8.heap.size w8 wx := by rw [← hwx]; exact (Below.refl _ _).alloc (Nat.le_refl _) _
  have HX9 : Hid (Own wx X 32 #[.int .i64 n0, .int .i64 n1, .int .i64 n2, .int .i64 n3]) := by rw [Hid, ← hwx, ← hX]; exact Own.new _ _ _
  have HF9 := Lib.hid (HF8.out.grow hbx)
  have HT9 := Lib.hid (HT8.out.grow hbx)
  have HXW := Lib.hid hwx
  have HXX := Lib.hid hX
  clear hbx hwx hX
  have y0 := HF8.out.arr.cell 0
  have y1 := HF8.out.arr.cell 1
  have y2 := HF8.out.arr.cell 2
  have y3 := HF8.out.arr.cell 3
  have fy := HF8.out.arr.frozen
  have ly := HF8.out.arr.lt
  have z0 := HF8.out.res.cell 0
  have z1 := HF8.out.res.cell 1
  have z2 := HF8.out.res.cell 2
  have z3 := HF8.out.res.cell 3
  have fz := HF8.out.res.frozen
  have lz := HF8.out.res.lt
  have hne : R ≠ N := by have := HF8.out.hN; omega
  simp at y0 y1 y2 y3 z0 z1 z2 z3
  rw [rounds_succ]
  go_wp2_with fail
  rw [HXW.out, HXX.out]
  clear y0 y1 y2 y3 fy ly z0 z1 z2 z3 fz lz hne
  have hI : I64 n0 ∧ I64 n1 ∧ I64 n2 ∧ I64 n3 := ⟨(HQ0.out.yes n0 rfl).1.i64, (HQ1.out.yes n1 rfl).1.i64, (HQ2.out.yes n2 rfl).1.i64, (HQ3.out.yes n3 rfl).1.i64⟩
  have HI := Lib.hid hI
  clear hI
  refine (implLegText_any ⟨n0, n1, n2, n3⟩ wx HT9.out.tab).mono ?_
  rintro e wz ⟨rfl, hbz⟩
  have HFz := Lib.hid (HF9.out.grow hbz)
  have HXz := Lib.hid (HX9.out.below' hbz)
  clear hbz
  have x0 := HXz.out.cell 0
  have x1 := HXz.out.cell 1
  have x2 := HXz.out.cell 2
  have x3 := HXz.out.cell 3
  have lx := HXz.out.lt
  have fx := HXz.out.frozen
  simp at x0 x1 x2 x3
  by_cases heq : legTextA ⟨n0, n1, n2, n3⟩ = s
  · have hone : Leg.oneB 12 ⟨n0, n1, n2, n3⟩ = true := by
      cases ho : Leg.oneB 12 ⟨n0, n1, n2, n3⟩ with
      | true => rfl
      | false =>
        exfalso
        have h1 : legTextA ⟨n0, n1, n2, n3⟩ = ⟨#[]⟩ := by unfold legTextA; rw [ho]; simp
        rw [h1] at heq
        exact dec_ne_nil n0 ((HQ0.out.yes n0 rfl).2.symm.trans (HNE.out heq.symm))
    have hlt : legTextA ⟨n0, n1, n2, n3⟩ = legText ⟨n0, n1, n2, n3⟩ := by unfold legTextA; rw [if_pos hone]
    have HRL : Hid (ReadsLeg s (some ⟨n0, n1, n2, n3⟩)) := by rw [Hid, ← heq, hlt]; exact ReadsLeg.of hone
    obtain ⟨uf, huf⟩ : ∃ uf, (((wz.setCell ⟨R, 0, none⟩ (.int .i64 n0)).setCell ⟨R, 1, none⟩ (.int .i64 n1)).setCell ⟨R, 2, none⟩ (.int .i64 n2)).setCell ⟨R, 3, none⟩ (.int .i64 n3) = uf := ⟨_, rfl⟩
    have HOF : Hid (Own uf R 32 #[.int .i64 n0, .int .i64 n1, .int .i64 n2, .int .i64 n3]) := by
      rw [Hid, ← huf]
      simpa using ((((HFz.out.res.put 0 (.int .i64 n0)).put 1 (.int .i64 n1)).put 2 (.int .i64 n2)).put 3 (.int .i64 n3))
    have HBF : Hid (Below w.heap.size w uf) := by
      have hr := HFz.out.hR
      rw [Hid, ← huf]
      exact (((HFz.out.below.setCell (p := ⟨R, 0, none⟩) hr _).setCell (p := ⟨R, 1, none⟩) hr _).setCell (p := ⟨R, 2, none⟩) hr _).setCell (p := ⟨R, 3, none⟩) hr _
    have HUF := Lib.hid huf
    have hnx : R ≠ X := by have h1 := HF8.out.hN; have h2 := HF8.out.arr.lt; have h3 := HXX.out; omega
    have y0 := HFz.out.arr.cell 0
    have y1 := HFz.out.arr.cell 1
    have y2 := HFz.out.arr.cell 2
    have y3 := HFz.out.arr.cell 3
    have fy := HFz.out.arr.frozen
    have ly := HFz.out.arr.lt
    have z0 := HFz.out.res.cell 0
    have z1 := HFz.out.res.cell 1
    have z2 := HFz.out.res.cell 2
    have z3 := HFz.out.res.cell 3
    have fz := HFz.out.res.frozen
    have lz := HFz.out.res.lt
    have hne : R ≠ N := by have := HFz.out.hN; omega
    simp at y0 y1 y2 y3 z0 z1 z2 z3
    rw [heq]
    clear huf hone hlt heq
    go_wp2
    rw [HUF.out]
    have f0 := HOF.out.cell 0
    have f1 := HOF.out.cell 1
    have f2 := HOF.out.cell 2
    have f3 := HOF.out.cell 3
    simp at f0 f1 f2 f3
    exact bodyPost_ret (v := .tuple #[.agg #[.int .i64 n0, .int .i64 n1, .int .i64 n2, .int .i64 n3], .bool true]) (by simp [results, Tryd.results8, go_sem, f0, f1, f2, f3]) rfl ⟨some ⟨n0, n1, n2, n3⟩, rfl, HRL.out, HBF.out⟩
  · have HNO : Hid (ReadsLeg s none) := ⟨fun x e => (by cases e), fun _ y hy he => by
      have hp := HPT.out y hy he
      have hb := Leg.one_bd hy
      have e0 := dec_inj HI.out.1 hb.1 ((HQ0.out.yes n0 rfl).2.symm.trans hp.1)
      have e1 := dec_inj HI.out.2.1 hb.2.1 ((HQ1.out.yes n1 rfl).2.symm.trans hp.2.1)
      have e2 := dec_inj HI.out.2.2.1 hb.2.2.1 ((HQ2.out.yes n2 rfl).2.symm.trans hp.2.2.1)
      have e3 := dec_inj HI.out.2.2.2 hb.2.2.2 ((HQ3.out.yes n3 rfl).2.symm.trans hp.2.2.2)
      refine heq ?_
      rw [he, e0, e1, e2, e3]
      show legTextA y = legText y
      unfold legTextA
      rw [if_pos hy]⟩
    have hnes : ((legTextA ⟨n0, n1, n2, n3⟩).toList == s.toList) = false := by
      rw [beq_eq_false_iff_ne]; intro h; exact heq ((bytes_inj _ _).1 h)
    obtain ⟨tx, htx⟩ : ∃ tx, legTextA ⟨n0, n1, n2, n3⟩ = tx := ⟨_, rfl⟩
    rw [htx] at hnes ⊢
    obtain ⟨uf, huf⟩ : ∃ uf, ((((wz).setCell ⟨R, 0, none⟩ (.int .i64 0)).setCell ⟨R, 1, none⟩ (.int .i64 0)).setCell ⟨R, 2, none⟩ (.int .i64 0)).setCell ⟨R, 3, none⟩ (.int .i64 0) = uf := ⟨_, rfl⟩
    have HOF : Hid (Own uf R 32 #[.int .i64 0, .int .i64 0, .int .i64 0, .int .i64 0]) := by
      rw [Hid, ← huf]
      simpa using ((((HFz.out.res.put 0 (.int .i64 0)).put 1 (.int .i64 0)).put 2 (.int .i64 0)).put 3 (.int .i64 0))
    have HBF : Hid (Below w.heap.size w uf) := by
      have hr := HFz.out.hR
      rw [Hid, ← huf]
      exact (((HFz.out.below.setCell (p := ⟨R, 0, none⟩) hr _).setCell (p := ⟨R, 1, none⟩) hr _).setCell (p := ⟨R, 2, none⟩) hr _).setCell (p := ⟨R, 3, none⟩) hr _
    have HUF := Lib.hid huf
    clear huf
    have y0 := HFz.out.arr.cell 0
    have y1 := HFz.out.arr.cell 1
    have y2 := HFz.out.arr.cell 2
    have y3 := HFz.out.arr.cell 3
    have fy := HFz.out.arr.frozen
    have ly := HFz.out.arr.lt
    have z0 := HFz.out.res.cell 0
    have z1 := HFz.out.res.cell 1
    have z2 := HFz.out.res.cell 2
    have z3 := HFz.out.res.cell 3
    have fz := HFz.out.res.frozen
    have lz := HFz.out.res.lt
    have hne : R ≠ N := by have := HFz.out.hN; omega
    simp at y0 y1 y2 y3 z0 z1 z2 z3
    clear htx heq
    go_wp2
    rw [HUF.out]
    have f0 := HOF.out.cell 0
    have f1 := HOF.out.cell 1
    have f2 := HOF.out.cell 2
    have f3 := HOF.out.cell 3
    simp at f0 f1 f2 f3
    exact bodyPost_ret (v := .tuple #[.agg #[.int .i64 0, .int .i64 0, .int .i64 0, .int .i64 0], .bool false]) (by simp [results, Tryd.results8, go_sem, f0, f1, f2, f3]) rfl ⟨none, rfl, HNO.out, HBF.out⟩

end Go.Proofs.YtamgodeiakflbaaDoor
