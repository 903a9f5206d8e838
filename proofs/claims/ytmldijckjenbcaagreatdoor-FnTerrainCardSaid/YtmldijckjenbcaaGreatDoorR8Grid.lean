/- The terrain that the laws of the routing draw. UNDER WAY: does not build yet. -/
import Derived.Test.YtmldijckjenbcaaGreatDoorBase
import Derived.Test.YtmldijckjenbcaaGreatDoorMem
import Derived.Test.YtmldijckjenbcaaGreatDoorTInt64
import Derived.Test.YtmldijckjenbcaaGreatDoorTGrid
import Derived.Test.YtmldijckjenbcaaGreatDoorGrids
import Derived.Test.YtmldijckjenbcaaGreatDoorPush2
import Derived.Test.YtmldijckjenbcaaGreatDoorSrc
import Derived.Test.YtmldijckjenbcaaGreatDoorSrcK
import Derived.Test.YtmldijckjenbcaaGreatDoorR8Mass
import Derived.Test.YtmldijckjenbcaaGreatDoorArr2
import Derived.Deep.RegionHeld3
import Derived.Deep.RegionLaw
import Derived.Deep.AppendLies
namespace Go.Proofs.YtmldijckjenbcaaGreatDoor
open Go.RowKit

/-- 'append(out, y)' of one element, as a step of a region that draws its order. -/
theorem step_push {α : Type} {P : Program} {ops : Array Oper} {o : Oper} {a : Act} {K : Act → World → Prop} {Q : Exit → Act → World → Prop} {E : Prop} {w : World} (hgd : o.guard = none) (s x : Operand) (t : TypeId)
    (ho : o.op = .call { callee := .builtin .append, args := #[s, x], argTypes := #[t, t] })
    (base : Nat) (e : TypeId) {z : Value} (sz : Nat) {bytes : Nat} (ht : P.underlying t = some (.slice e)) (hinfo : (P.info? e).map (fun i => (i.zero, i.size, i.bytes)) = some (some z, sz, bytes)) (hzs : z.cells.size = sz) (hsz : 0 < sz)
    (cells : α → List Value) (hcl : ∀ y, (cells y).length = sz) (hc1 : ∀ y, ∀ u ∈ cells y, u.oneCell' = true) (cs : Array Value)
    (v : Value) (xs : List α) (y : α) (hcs : cs.toList = cells y) (hs : a.eval s = v) (hown : OwnsL w base e sz cells v xs) (hx : a.eval x = .slice (some ⟨w.heap.size, 0, none⟩) 1 1)
    (hlen : xs.length ≤ 1048576) (hby : bytes ≤ 1024) (hbase : base ≤ w.heap.size)
    (h : ∀ g cap w', OwnsL w' base e sz cells (.slice (some ⟨g, 0, none⟩) (xs.length + 1) cap) (xs ++ [y]) → Below base w w' → (∀ b, b < w.heap.size → some b ≠ v.ownBlock → w'.heap[b]? = w.heap[b]?) → K (a.put o.dst (.slice (some ⟨g, 0, none⟩) (xs.length + 1) cap)) w') :
    if Region.wanted o (yielded ops a.tmps) = true then Oper.wp P o a (w.alloc (.cells cs e)) K Q else E := by
  obtain ⟨i, hi, hz, hsize, hbytes⟩ := info_parts hinfo
  refine step_append_lies (w := w.alloc (.cells cs e)) hgd s x t ho base e i z sz bytes ht hi hz hsize hbytes hzs hsz v xs.length (xs.flatMap cells) hs (World.ownsRow.alloc hown _) ⟨w.heap.size, 0, none⟩ 1 1 (cells y) hx (by rw [hcl]; omega) ?_ (hc1 y) (by omega) ?_ ?_ ?_ _ rfl ?_
  · intro j u hu
    rw [← hcs] at hu
    rw [addr_add0, World.cell?_alloc_new]
    simpa using hu
  · simp [maxLen]; omega
  · have : (xs.length + 1) * bytes ≤ 1048577 * 1024 := Nat.mul_le_mul (by omega) hby
    omega
  · simp; omega
  · intro g cap w' h1 h2 _ _
    have hrow := World.ownsRow.lt hown
    refine h g cap w' (by unfold OwnsL; simpa using h1) (((Below.refl base w).alloc hbase _).grown h2 (by simp; omega) (fun k hk => (hrow k hk).1)) (fun b hb hne => ?_)
    rw [h2.block b (by simp; omega) hne]
    exact Below.heap_alloc w _ b hb
set_option maxRecDepth 100000 in
set_option maxHeartbeats 1000000 in
theorem l09Draw_any (A : Option Addr) (n c : Nat) (ds : List Int) (bs k0 : Nat) (w0 w : World) (h : SrcAt A n c ds bs k0 w0 w) (hk0 : k0 ≤ 1000) :
    Calls Tryz.prog 21 #[.pointer (some ⟨bs, 0, none⟩)] w (fun e w' => ∃ g : GridR, e = .returned (.agg #[.int .i64 g.rows, .int .i64 g.columns, .int .i64 g.size, .slice g.heightsA g.heightsN g.heightsC]) ∧ OwnsL w' w.heap.size 2 1 i64cells (.slice g.heightsA g.heightsN g.heightsC) g.heights ∧ gridB g.val = true ∧ Below w0.heap.size w0 w' ∧ ∀ y ∈ g.heights, y ≤ 1600) := by
  have H := Lib.hid h
  have hbs := h.lt
  clear h
  go_enter Tryz.func21, Tryz.ntmps21
  go_wp2_with fail
  refine (srcPick_any A n c ds bs k0 4 w0 _ (H.out.grow ((Below.refl _ _).alloc (Nat.le_refl _) _)) (by omega) (by omega) (by omega)).mono ?_
  rintro e w1 ⟨R, k1, rfl, hR, hk1, hs1, ha1⟩
  have HO1 := Lib.hid ((Own.new w 26 #[.int .i64 0, .int .i64 0, .int .i64 0, .slice none 0 0]).span ha1 (.inr (by omega)))
  have HS1 := Lib.hid hs1
  clear hs1 ha1
  go_wp2_with fail
  refine (srcPick_any A n c ds bs k1 3 w0 _ (HS1.out.grow ((Below.refl _ _).alloc (Nat.le_refl _) _)) (by omega) (by omega) (by omega)).mono ?_
  rintro e w2 ⟨C, k2, rfl, hC, hk2, hs2, ha2⟩
  have HO2 := Lib.hid ((Own.new w1 26 #[.int .i64 (2 + R), .int .i64 2, .int .i64 10, .slice none 0 0]).span ha2 (.inr (by have := HO1.out.lt; omega)))
  have HZ2 := Lib.hid (((HO1.out.alloc (.cells #[.int .i64 (2 + R), .int .i64 2, .int .i64 10, .slice none 0 0] 26))).span ha2 (.inr (by omega)))
  have HS2 := Lib.hid hs2
  have hb3 : w.heap.size < w1.heap.size := HO1.out.lt
  obtain ⟨b3, hb3e⟩ : ∃ b3, w1.heap.size = b3 := ⟨_, rfl⟩
  rw [hb3e] at HO2 hb3
  have HB3 : Hid (w.heap.size < b3) := hb3
  have h0b := HS2.out.base
  rw [hb3e]
  clear hs2 ha2 HS1 HO1 hb3e
  have d2 := HO2.out.frozen
  have l2 := HO2.out.lt
  have c2 := HO2.out.cell 1
  go_wp2_with fail
  have HS3 := Lib.hid (HS2.out.put (p := ⟨b3, 1, none⟩) (by simp only; omega) (by simp only; omega) (.int .i64 (2 + C)))
  have HO3 : Hid (Own (w2.setCell ⟨b3, 1, none⟩ (.int .i64 (2 + C))) b3 26 #[.int .i64 (2 + R), .int .i64 (2 + C), .int .i64 10, .slice none 0 0]) := HO2.out.put 1 _
  have HZ3 : Hid (Own (w2.setCell ⟨b3, 1, none⟩ (.int .i64 (2 + C))) w.heap.size 26 #[.int .i64 0, .int .i64 0, .int .i64 0, .slice none 0 0]) := HZ2.out.far (by simp only; omega) _
  obtain ⟨w3, hw3⟩ : ∃ w3, w2.setCell ⟨b3, 1, none⟩ (.int .i64 (2 + C)) = w3 := ⟨_, rfl⟩
  rw [hw3] at HS3 HO3 HZ3 ⊢
  clear hw3 d2 l2 c2
  refine (srcPick_any A n c ds bs k2 14 w0 _ HS3.out (by omega) (by omega) (by omega)).mono ?_
  rintro e w4 ⟨T, k3, rfl, hT, hk3, hs4, ha4⟩
  have eR : (2 : Int) + (R : Int) = ((R + 2 : Nat) : Int) := by omega
  have eC : (2 : Int) + (C : Int) = ((C + 2 : Nat) : Int) := by omega
  obtain ⟨RR, hRR⟩ : ∃ RR, R + 2 = RR := ⟨_, rfl⟩
  obtain ⟨CC, hCC⟩ : ∃ CC, C + 2 = CC := ⟨_, rfl⟩
  rw [hRR] at eR
  rw [hCC] at eC
  rw [eR, eC] at HO3
  rw [eR, eC]
  have hR2 : 2 ≤ RR ∧ RR ≤ 5 := by omega
  have hC2 : 2 ≤ CC ∧ CC ≤ 4 := by omega
  have HO4 := Lib.hid (HO3.out.span ha4 (.inr (by omega)))
  have HZ4 := Lib.hid (HZ3.out.span ha4 (.inr (by omega)))
  have HS4 := Lib.hid hs4
  have hk3b : k3 ≤ 1006 := by omega
  clear hs4 ha4 HS3 HO3 HZ3 HS2 HO2 HZ2 eR eC hRR hCC hk1 hk2 hk3 hR hC
  have HL4 : Hid (b3 + 1 ≤ w4.heap.size) := HO4.out.lt
  go_wp2
  go_loopg [5] RR (fun gk i wr => ∃ (r kk : Nat) (v : Value) (hs : List Int), r ≤ RR ∧ gk = RR - r ∧ i = .int .i64 r ∧ kk ≤ 1006 + 2 * (r * CC) ∧ SrcAt A n c ds bs kk w0 wr ∧ Own wr w.heap.size 26 #[.int .i64 0, .int .i64 0, .int .i64 0, .slice none 0 0] ∧ Own wr b3 26 #[.int .i64 RR, .int .i64 CC, .int .i64 10, v] ∧ OwnsL wr (b3 + 1) 2 1 i64cells v hs ∧ hs.length = r * CC ∧ ∀ y ∈ hs, 1448 ≤ y ∧ y ≤ 1506)
  case atStart => exact ⟨0, k3, _, [], Nat.zero_le _, rfl, rfl, by omega, HS4.out, HZ4.out, HO4.out, OwnsL.nil_ _ _ _ _ _, by simp, by simp⟩
  case round =>
    obtain ⟨r, kk, v, hs, hr, hgr, rfl, hkk, hsr, hz, ho, hown, hhl, hhb⟩ := hrel
    have HGR := Lib.hid hgr
    have HSR := Lib.hid hsr
    have HZR := Lib.hid hz
    have HOR := Lib.hid ho
    have HOW := Lib.hid hown
    have HHL := Lib.hid hhl
    have HHB := Lib.hid hhb
    have HKK := Lib.hid hkk
    have HRC : Hid ((r + 1) * CC = r * CC + CC) := Nat.succ_mul r CC
    have HRB : Hid (r * CC ≤ 20) := by have := Nat.mul_le_mul (show r ≤ 5 by omega) hC2.2; rw [Hid]; omega
    have c0 := ho.cell 0
    clear hgr hsr hz ho hown hhl hhb hkk
    by_cases hlt : r < RR
    · go_wp2
      clear c0
      go_loopg [6] CC (fun gk i wx => ∃ (j kj : Nat) (v : Value) (hs : List Int), j ≤ CC ∧ gk = CC - j ∧ i = .int .i64 j ∧ kj ≤ 1006 + 2 * (r * CC + j) ∧ SrcAt A n c ds bs kj w0 wx ∧ Own wx w.heap.size 26 #[.int .i64 0, .int .i64 0, .int .i64 0, .slice none 0 0] ∧ Own wx b3 26 #[.int .i64 RR, .int .i64 CC, .int .i64 10, v] ∧ OwnsL wx (b3 + 1) 2 1 i64cells v hs ∧ hs.length = r * CC + j ∧ ∀ y ∈ hs, 1448 ≤ y ∧ y ≤ 1506)
      case atStart => exact ⟨0, kk, v, hs, Nat.zero_le _, rfl, rfl, HKK.out, HSR.out, HZR.out, HOR.out, HOW.out, HHL.out, HHB.out⟩
      case round =>
        obtain ⟨j, kj, vj, hj2, hj, hgj, rfl, hkj, hsr, hz, ho, hown, hhl, hhb⟩ := hrel
        have HGJ := Lib.hid hgj
        have HSJ := Lib.hid hsr
        have HZJ := Lib.hid hz
        have HOJ := Lib.hid ho
        have HWJ := Lib.hid hown
        have HLJ := Lib.hid hhl
        have HBJ := Lib.hid hhb
        have HKJ := Lib.hid hkj
        have c1 := ho.cell 1
        clear hgj hsr hz ho hown hhl hhb hkj
        by_cases hjc : j < CC
        · have c3 := HOJ.out.cell 3
          have db := HOJ.out.frozen
          have lb := HOJ.out.lt
          obtain ⟨P, hP⟩ : ∃ P, (T : Int) * (r : Int) = P := ⟨_, rfl⟩
          have hP0 : 0 ≤ P ∧ P ≤ 52 := by
            have h1 := Int.mul_nonneg (show (0 : Int) ≤ T by omega) (show (0 : Int) ≤ r by omega)
            have h2 := Int.mul_le_mul (show (T : Int) ≤ 13 by omega) (show (r : Int) ≤ 4 by omega) (by omega) (by omega)
            omega
          have hPw : IntKind.i64.wrap ((T : Int) * (r : Int)) = P := by rw [hP]; exact IntWalk.i64_in _ (by omega)
          have HP0 := Lib.hid hP0
          have HSD := Lib.hid HSJ.out.drew
          have HB3L : Hid (bs < b3) := by rw [Hid]; have := HB3.out; omega
          have hkjb : kj ≤ 1048570000 := by have := HKJ.out; have := HRB.out; omega
          have hjl : hs.length = hs.length := rfl
          clear hP
          go_wp2_with fail
          have HHV : Hid (∀ k, vj.ownBlock = some k → k ≠ b3) := fun k hk => by have := (HWJ.out.lt k hk).1; omega
          go_region_law (first | (go_simp; go_at_call 40; refine (srcPick_any A n c ds bs kj 7 w0 _ (by first | exact HSJ.out | exact HSD.out) hkjb (by omega) (by omega)).mono ?_; rintro e w6 ⟨q, k6, rfl, hq, hk6, hs6, ha6⟩; have HS6 := Lib.hid hs6; have HO6 := Lib.hid ((HOJ.out.drew).span ha6 (.inr (by have := HB3L.out; omega))); have HZ6 := Lib.hid ((HZJ.out.drew).span ha6 (.inr (by omega))); have HW6 : Hid (OwnsL w6 (b3 + 1) 2 1 i64cells vj hj2) := OwnsL.span (w := wr.drew) HWJ.out ha6 (fun b hb => .inr (by have := (HWJ.out.lt b hb).1; have := HB3L.out; omega)); have HL6 : Hid (b3 + 1 ≤ w6.heap.size) := HO6.out.lt; have c6 := HO6.out.cell 3; have d6 := HO6.out.frozen; have l6 := HO6.out.lt; clear hs6 ha6) | (refine step_push (by rfl) (.tmp 30) (.tmp 38) 24 (by rfl) (b3 + 1) 2 1 Tryz.underlying24 infoI64 (by rfl) (by decide) i64cells i64cells_len i64cells_one _ vj _ (IntKind.i64.wrap (IntKind.i64.wrap (1500 - P) + (q : Int))) (by rfl) (by rfl) HW6.out (by first | rfl | simp [go_sem]) (by have := HLJ.out; have := HRB.out; omega) (by decide) HL6.out ?_; intro g7 cap7 w7 hw7 hb7 _; have hpb := HP0.out; have hyq : IntKind.i64.wrap (IntKind.i64.wrap (1500 - P) + (q : Int)) = 1500 - P + (q : Int) := by { rw [IntWalk.i64_in (1500 - P) (by omega), IntWalk.i64_in _ (by omega)] }; rw [hyq] at hw7; have HW7 := Lib.hid hw7; have HB7 := Lib.hid hb7; have HO7 := Lib.hid (HO6.out.below hb7 (Nat.lt_succ_self _)); have c7 := HO7.out.cell 3; have d7 := HO7.out.frozen; have l7 := HO7.out.lt; clear hw7 hb7 hyq hpb))
          all_goals
            clear c6 d6 l6 c7 d7 l7 c3 db lb
            obtain ⟨w8, hw8⟩ : ∃ w8, w7.setCell ⟨b3, 3, none⟩ (.slice (some ⟨g7, 0, none⟩) (hj2.length + 1) cap7) = w8 := ⟨_, rfl⟩
            have HS8 : Hid (SrcAt A n c ds bs k6 w0 w8) := by
              obtain ⟨s, ho⟩ := HS6.out.own
              have hb := HB3L.out
              have hb0 := HS6.out.base
              have h7 : SrcAt A n c ds bs k6 w0 w7 := ⟨HS6.out.sl, HS6.out.by_, HS6.out.below.trans (HB7.out.mono (by omega)), HS6.out.base, s, ho.below HB7.out (by omega)⟩
              rw [Hid, ← hw8]
              exact h7.put (p := ⟨b3, 3, none⟩) (by simp only; omega) (by simp only; omega) _
            have HO8 : Hid (Own w8 b3 26 #[.int .i64 RR, .int .i64 CC, .int .i64 10, .slice (some ⟨g7, 0, none⟩) (hj2.length + 1) cap7]) := by rw [Hid, ← hw8]; simpa using HO7.out.put 3 (.slice (some ⟨g7, 0, none⟩) (hj2.length + 1) cap7)
            have HW8 : Hid (OwnsL w8 (b3 + 1) 2 1 i64cells (.slice (some ⟨g7, 0, none⟩) (hj2.length + 1) cap7) (hj2 ++ [1500 - P + (q : Int)])) := by
              rw [Hid, ← hw8]
              exact HW7.out.kept (fun k hk => Below.heap_setCell w7 ⟨b3, 3, none⟩ _ k (by have := (HW7.out.lt k hk).1; simp only; omega))
            have HZ8 : Hid (Own w8 w.heap.size 26 #[.int .i64 0, .int .i64 0, .int .i64 0, .slice none 0 0]) := by
              have hb := HB3.out
              rw [Hid, ← hw8]
              exact (HZ6.out.below HB7.out (by omega)).far (by simp only; omega) _
            rw [hw8]
            clear hw8
            go_wp2
            go_roundg (CC - (j + 1))
            case measure => have := HGJ.out; omega
            case rel => exact ⟨j + 1, k6, _, hj2 ++ [1500 - P + (q : Int)], by omega, rfl, by go_num, by have := HKJ.out; omega, HS8.out, HZ8.out, HO8.out, HW8.out, by rw [List.length_append, HLJ.out]; simp; omega, fun y hy => by
              rcases List.mem_append.1 hy with h | h
              · exact HBJ.out y h
              · simp at h; have := HP0.out; omega⟩
        · have hjj : j = CC := by omega
          subst hjj
          go_wp2
          go_roundg (RR - (r + 1))
          case measure => have := HGR.out; omega
          case rel => exact ⟨r + 1, kj, vj, hj2, by omega, rfl, by go_num, by rw [HRC.out]; exact HKJ.out, HSJ.out, HZJ.out, HOJ.out, HWJ.out, by rw [HRC.out]; exact HLJ.out, HBJ.out⟩
    · have hrr : r = RR := by omega
      subst hrr
      obtain ⟨VA, vc, rfl, hvc, hvm, hvs⟩ := HOW.out.slice i64cells_len
      obtain ⟨m, hm⟩ : ∃ m, hs.length = m := ⟨_, rfl⟩
      have hown := HOW.out
      simp only [hm] at hvs hvc hown ⊢
      have HOM := Lib.hid hown
      clear hown
      have c1 := HOR.out.cell 1
      have c2 := HOR.out.cell 2
      have c3 := HOR.out.cell 3
      have z0 := HZR.out.cell 0
      have z1 := HZR.out.cell 1
      have z2 := HZR.out.cell 2
      have z3 := HZR.out.cell 3
      have dz := HZR.out.frozen
      have lz := HZR.out.lt
      go_wp2_with fail
      obtain ⟨w5, hw5⟩ : ∃ w5, (((wr.setCell ⟨w.heap.size, 0, none⟩ (.int .i64 r)).setCell ⟨w.heap.size, 1, none⟩ (.int .i64 CC)).setCell ⟨w.heap.size, 2, none⟩ (.int .i64 10)).setCell ⟨w.heap.size, 3, none⟩ (.slice VA m vc) = w5 := ⟨_, rfl⟩
      have HO5 : Hid (Own w5 w.heap.size 26 #[.int .i64 r, .int .i64 CC, .int .i64 10, .slice VA m vc]) := by rw [Hid, ← hw5]; exact (((HZR.out.put 0 _).put 1 _).put 2 _).put 3 _
      have HW5 : Hid (OwnsL w5 (b3 + 1) 2 1 i64cells (.slice VA m vc) hs) := by
        rw [Hid, ← hw5]
        refine HOM.out.kept (fun b hb => ?_)
        have hne : b ≠ w.heap.size := by have := (HOM.out.lt b hb).1; have := HB3.out; omega
        exact (Below.heap_setCell _ ⟨w.heap.size, 3, none⟩ _ b hne).trans ((Below.heap_setCell _ ⟨w.heap.size, 2, none⟩ _ b hne).trans ((Below.heap_setCell _ ⟨w.heap.size, 1, none⟩ _ b hne).trans (Below.heap_setCell _ ⟨w.heap.size, 0, none⟩ _ b hne)))
      have HB5 : Hid (Below w0.heap.size w0 w5) := by
        have hle : w0.heap.size ≤ w.heap.size := by have := h0b; omega
        rw [Hid, ← hw5]
        exact (((HSR.out.below.setCell hle _).setCell hle _).setCell hle _).setCell hle _
      rw [hw5]
      have f0 := HO5.out.cell 0
      have f1 := HO5.out.cell 1
      have f2 := HO5.out.cell 2
      have f3 := HO5.out.cell 3
      have hlen : ((m : Nat) : Int) = (r : Int) * (CC : Int) := by rw [← hm, HHL.out, Int.natCast_mul]
      clear hw5 c0 c1 c2 c3 z0 z1 z2 z3 dz lz
      refine bodyPost_ret (v := .agg #[.int .i64 r, .int .i64 CC, .int .i64 10, .slice VA m vc]) (by simp [results, Tryz.results21, go_sem, f0, f1, f2, f3]) rfl ⟨⟨r, CC, 10, VA, m, vc, hs⟩, rfl, HW5.out.rebase (by have := HB3.out; omega), ?_, HB5.out, fun y hy => by have := HHB.out y hy; omega⟩
      rw [gridB_iff]
      refine ⟨inB_iff.2 (by simp only [GridR.val]; omega), inB_iff.2 (by simp only [GridR.val]; omega), inB_iff.2 (by simp only [GridR.val]; omega), decide_eq_true ?_, List.all_eq_true.2 (fun y hy => inB_iff.2 ?_)⟩
      · show ((hs.length : Nat) : Int) = (r : Int) * (CC : Int)
        rw [hm]; exact hlen
      · have := HHB.out y hy
        omega
set_option maxHeartbeats 1000000 in
theorem r8Grid_any (A : Option Addr) (n c : Nat) (ds : List Int) (w : World) (hs : SliceOf w 1 u8cells A n ds) (hb : ∀ x ∈ ds, 0 ≤ x ∧ x ≤ 255) :
    Calls Tryz.prog 5 #[.slice A n c] w (fun e w' => ∃ g : GridR, e = .returned (.agg #[.int .i64 g.rows, .int .i64 g.columns, .int .i64 g.size, .slice g.heightsA g.heightsN g.heightsC]) ∧ g.In w' ∧ gridB g.val = true ∧ Below w.heap.size w w' ∧ ∀ y ∈ g.heights, y ≤ 1600) := by
  have HS := Lib.hid hs
  have HY := Lib.hid hb
  have hB : Below w.heap.size w (w.alloc (.cells #[.int .i64 0, .int .i64 0, .int .i64 0, .slice none 0 0] 26)) := (Below.refl _ _).alloc (Nat.le_refl _) _
  have HB := Lib.hid hB
  have HS0 := Lib.hid (hs.below hB)
  have HO0 := Lib.hid (Own.new w 26 #[.int .i64 0, .int .i64 0, .int .i64 0, .slice none 0 0])
  clear hs hb hB
  go_enter Tryz.func5, Tryz.ntmps5
  go_wp2_with fail
  refine (srcFrom_any A n c ds _ HS0.out HY.out).mono ?_
  rintro e w2 ⟨bs, rfl, hsrc, hb2⟩
  have HO2 := Lib.hid (HO0.out.below' hb2)
  have HSZ2 : Hid (w.heap.size + 1 ≤ w2.heap.size) := by have := hb2.size; simp at this; rw [Hid]; omega
  go_wp2_with fail
  refine (l09Draw_any A n c ds bs 0 _ w2 hsrc (by omega)).mono ?_
  rintro e w3 ⟨g, rfl, hgi, hgb, hb3, hlow⟩
  have HLOW := Lib.hid hlow
  clear hlow
  have HO3 := Lib.hid (HO0.out.below' hb3)
  have HGI := Lib.hid hgi
  have HGB := Lib.hid hgb
  have HB3 := Lib.hid (HB.out.trans (hb3.mono HB.out.size))
  clear hsrc hb2 hgi hgb hb3
  have z0 := HO3.out.cell 0
  have z1 := HO3.out.cell 1
  have z2 := HO3.out.cell 2
  have z3 := HO3.out.cell 3
  have dz := HO3.out.frozen
  have lz := HO3.out.lt
  simp at z0 z1 z2 z3
  go_wp2
  obtain ⟨w5, hw5⟩ : ∃ w5, (((w3.setCell ⟨w.heap.size, 0, none⟩ (.int .i64 g.rows)).setCell ⟨w.heap.size, 1, none⟩ (.int .i64 g.columns)).setCell ⟨w.heap.size, 2, none⟩ (.int .i64 g.size)).setCell ⟨w.heap.size, 3, none⟩ (.slice g.heightsA g.heightsN g.heightsC) = w5 := ⟨_, rfl⟩
  have HO5 : Hid (Own w5 w.heap.size 26 #[.int .i64 g.rows, .int .i64 g.columns, .int .i64 g.size, .slice g.heightsA g.heightsN g.heightsC]) := by rw [Hid, ← hw5]; exact (((HO3.out.put 0 _).put 1 _).put 2 _).put 3 _
  have HW5 : Hid (OwnsL w5 (w.heap.size + 1) 2 1 i64cells (.slice g.heightsA g.heightsN g.heightsC) g.heights) := by
    rw [Hid, ← hw5]
    refine OwnsL.kept (HGI.out.rebase HSZ2.out) (fun b hb => ?_)
    have hne : b ≠ w.heap.size := by have h1 := (HGI.out.lt b hb).1; have h2 := HSZ2.out; omega
    exact (Below.heap_setCell _ ⟨w.heap.size, 3, none⟩ _ b hne).trans ((Below.heap_setCell _ ⟨w.heap.size, 2, none⟩ _ b hne).trans ((Below.heap_setCell _ ⟨w.heap.size, 1, none⟩ _ b hne).trans (Below.heap_setCell _ ⟨w.heap.size, 0, none⟩ _ b hne)))
  have HB5 : Hid (Below w.heap.size w w5) := by
    have hle := Nat.le_refl w.heap.size
    rw [Hid, ← hw5]
    exact (((HB3.out.setCell hle _).setCell hle _).setCell hle _).setCell hle _
  rw [hw5]
  clear hw5 z0 z1 z2 z3 dz lz
  have f0 := HO5.out.cell 0
  have f1 := HO5.out.cell 1
  have f2 := HO5.out.cell 2
  have f3 := HO5.out.cell 3
  simp at f0 f1 f2 f3
  exact bodyPost_ret (v := .agg #[.int .i64 g.rows, .int .i64 g.columns, .int .i64 g.size, .slice g.heightsA g.heightsN g.heightsC]) (by simp [results, Tryz.results5, go_sem, f0, f1, f2, f3]) rfl ⟨g, rfl, GridR.in_of HW5.out, HGB.out, HB5.out, HLOW.out⟩

end Go.Proofs.YtmldijckjenbcaaGreatDoor
