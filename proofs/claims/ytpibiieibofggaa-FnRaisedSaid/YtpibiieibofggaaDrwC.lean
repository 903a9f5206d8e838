/- The reference draws regions that are valid, mostly. -/
import Derived.Test.YtpibiieibofggaaDrwB
import Derived.Test.YtpibiieibofggaaDecS
import Derived.Deep.RegionHeld3
import Derived.Deep.RegionLaw
namespace Go.Proofs.Ytpibiieibofggaa
open Go.RowKit

theorem sliceAll {α : Type} {w : World} {g : Nat} {e : TypeId} {sz n : Nat} {cells : α → List Value} {xs : List α} {cs : Array Value} (hcl : ∀ x, (cells x).length = sz) (h : Own w g e cs) (hcs : cs.toList = xs.flatMap cells) (hn : xs.length = n) (hle : n ≤ 9223372036854775807) : SliceOf w sz cells (some ⟨g, 0, none⟩) n xs :=
  ⟨hn, hle, fun _ => ⟨g, 0, rfl, h.lt, fun i x j v hx hv => by
    rw [Nat.zero_add]
    refine (h.cell (i * sz + j)).trans ?_
    rw [← Array.getElem?_toList, hcs]
    exact flat_get hcl xs i j x v hx hv⟩⟩
theorem DrawnR.level {m b : Nat} {L : List Region} (h : DrawnR m b L) {y : Int} (hy : I64 y) (r : Nat) : DrawnR m b (withLv L ((L.map Region.level).set r y)) := by
  have hl : ((L.map Region.level).set r y).length = L.length := by simp
  refine ⟨by rw [withLv_len hl]; exact h.len, fun x hx => ?_⟩
  obtain ⟨i, hi⟩ := List.getElem?_of_mem hx
  obtain ⟨x', l, hx', hl', rfl⟩ := withLv_of hi
  have hg := h.good x' (List.mem_of_getElem? hx')
  refine ⟨⟨?_, hg.1.2⟩, hg.2⟩
  rcases set_at hl' with ⟨_, rfl⟩ | ⟨_, h2⟩
  · exact hy
  · rw [List.getElem?_map, hx'] at h2
    injection h2 with h2
    subst h2
    exact hg.1.1
theorem OwnsL.head {w : World} {base P vc : Nat} {VA : Option Addr} {L : List Region} (h : Region.Own w base (.slice VA P vc) L) (hL : L.length = P) (hP : 0 < P) : ∃ g, VA = some ⟨g, 0, none⟩ ∧ base ≤ g := by
  obtain ⟨ps, hp1, _, _, hp4⟩ := h
  have hpl : ps.length = P := by have h1 := congrArg List.length hp4; rw [List.length_map] at h1; rw [← h1]; exact hL
  obtain ⟨g, cap, hv, hg0, _⟩ := hp1.block (by intro e; rw [e] at hpl; simp at hpl; omega)
  injection hv with e1 _ _
  exact ⟨g, e1, hg0⟩
def DrawOut (A : Option Addr) (n c : Nat) (ds : List Int) (bs k0 : Nat) (w0 w : World) (e : Ending) (w' : World) : Prop := ∃ (v : Value) (L : List Region) (k' : Nat), e = .returned v ∧ k' ≤ k0 + 300 ∧ SrcAt A n c ds bs k' w0 w' ∧ Region.Own w' w.heap.size v L ∧ DrawnR 9 200 L ∧ w.heap.size ≤ w'.heap.size
set_option maxRecDepth 100000 in
set_option maxHeartbeats 4000000 in
theorem l18Draw_any (A : Option Addr) (n c : Nat) (ds : List Int) (bs k0 : Nat) (w0 w : World) (h : SrcAt A n c ds bs k0 w0 w) (hk0 : k0 ≤ 700) :
    Calls Try.prog 24 #[.pointer (some ⟨bs, 0, none⟩)] w (DrawOut A n c ds bs k0 w0 w) := by
  have HLT := Lib.hid h.lt
  have HW0 : Hid (w0.heap.size ≤ w.heap.size) := h.below.size
  go_enter Try.func24, Try.ntmps24
  go_wp2_with fail
  refine (l18DrawOk_any A n c ds bs k0 w0 w h (by omega)).mono ?_
  rintro e w1 ⟨v1, L, k1, rfl, hk1, hs1, ho1, hd1, hz1⟩
  have HS1 := Lib.hid hs1
  have HD1 := Lib.hid hd1
  obtain ⟨VA, vc, rfl, hv1, hv2, _⟩ := ho1.slice
  obtain ⟨P, hP⟩ : ∃ P, L.length = P := ⟨_, rfl⟩
  have hP6 : P ≤ 6 := by rw [← hP]; exact hd1.len
  rw [hP] at ho1 ⊢
  have HPL := Lib.hid hP
  have HO1 := Lib.hid ho1
  clear h hs1 hd1 ho1 hv1 hv2 hP
  go_wp2_with fail
  refine (srcPick_any A n c ds bs k1 20 w0 w1 HS1.out (by omega) (by omega) (by omega)).mono ?_
  rintro e w2 ⟨q, k2, rfl, hq, hk2, hs2, ha2⟩
  have HS2 := Lib.hid hs2
  have HO2 : Hid (Region.Own w2 w.heap.size (.slice VA P vc) L) := HO1.out.span ha2 (by have := HLT.out; omega)
  have HZ2 : Hid (w.heap.size ≤ w2.heap.size) := Nat.le_trans hz1 ha2.size
  clear hs2 ha2 hz1 HS1 HO1
  have HEND : Hid (DrawOut A n c ds bs k0 w0 w (.returned (.slice VA P vc)) w2) := ⟨_, L, k2, rfl, by omega, HS2.out, HO2.out, HD1.out.mono (by omega) (by omega), HZ2.out⟩
  by_cases hq0 : q = 0
  · subst hq0
    by_cases hP0 : P = 0
    · subst hP0
      go_wp2
      go_ret
      exact HEND.out
    obtain ⟨g, rfl, hg0⟩ := OwnsL.head HO2.out HPL.out (by omega)
    clear HEND
    go_wp2_with fail
    refine (srcPick_any A n c ds bs k2 P w0 w2 HS2.out (by omega) (by omega) (by omega)).mono ?_
    rintro e w3 ⟨r, k3, rfl, hr, hk3, hs3, ha3⟩
    have HO3 : Hid (Region.Own w3 w.heap.size (.slice (some ⟨g, 0, none⟩) P vc) L) := HO2.out.span ha3 (by have := HLT.out; omega)
    have HZ3 : Hid (w.heap.size ≤ w3.heap.size) := Nat.le_trans HZ2.out ha3.size
    have HB3 : Hid (Below w3.heap.size w3 (w3.alloc (.cells #[.int .i64 0, .int .i64 5, .int .i64 6] 2))) := (Below.refl _ _).alloc (Nat.le_refl _) _
    have HX3 := Lib.hid (sliceAll (xs := [0, 5, 6]) (cells := i64cells) i64cells_len (Own.new w3 2 #[.int .i64 0, .int .i64 5, .int .i64 6]) rfl rfl (by decide))
    have HS4 := Lib.hid (hs3.grow HB3.out)
    have HO4 := Lib.hid (HO3.out.below' HB3.out)
    clear hs3 ha3
    go_wp2_with fail
    refine (srcAmong_any A n c ds bs k3 3 3 w3.heap.size 0 [0, 5, 6] w0 _ HS4.out (by omega) (by omega) (by omega) HX3.out (by have := HLT.out; have := HZ3.out; omega)).mono ?_
    rintro e w5 ⟨y, k5, rfl, hy, hk5, hs5, ha5⟩
    have hy6 : 0 ≤ y ∧ y ≤ 6 := by simp at hy; omega
    have HO5 : Hid (Region.Own w5 w.heap.size (.slice (some ⟨g, 0, none⟩) P vc) L) := HO4.out.span ha5 (by have := HLT.out; omega)
    have HZ5 : Hid (w.heap.size ≤ w5.heap.size) := Nat.le_trans HZ3.out (Nat.le_trans HB3.out.size ha5.size)
    have HS5 := Lib.hid hs5
    obtain ⟨ps, hp1, hp2, hp3, hp4⟩ := HO5.out
    have hpl : ps.length = P := by have h1 := congrArg List.length hp4; rw [List.length_map] at h1; rw [← h1]; exact HPL.out
    obtain ⟨p, hp⟩ : ∃ p, ps[r]? = some p := ⟨_, List.getElem?_eq_getElem (by omega)⟩
    have z1 := (hp1.rcell hp).2.1
    have fr := hp1.frozen
    have lg := (hp1.lt g rfl).2
    have HOL := Lib.hid (HO5.out.level r y)
    have HSP : Hid (SrcAt A n c ds bs k5 w0 (w5.setCell ⟨g, r * 3 + 1, none⟩ (.int .i64 y))) := HS5.out.put (by have := HLT.out; simp only; omega) (by have := HW0.out; simp only; omega) _
    clear hs5 ha5 hp1 hp2 hp3 hp4 hpl hp hy
    go_wp2
    go_ret
    exact ⟨_, _, k5, rfl, by omega, HSP.out, HOL.out, (HD1.out.level ⟨by omega, by omega⟩ r).mono (by omega) (by omega), by simpa using HZ5.out⟩
  by_cases hq1 : q = 1
  · subst hq1
    by_cases hP0 : P = 0
    · subst hP0
      go_wp2
      go_ret
      exact HEND.out
    obtain ⟨g, rfl, hg0⟩ := OwnsL.head HO2.out HPL.out (by omega)
    clear HEND
    obtain ⟨ps, hp1, hp2, hp3, hp4⟩ := HO2.out
    have hpl : ps.length = P := by have h1 := congrArg List.length hp4; rw [List.length_map] at h1; rw [← h1]; exact HPL.out
    have HP4 := Lib.hid hp4
    have HP3 := Lib.hid hp3
    obtain ⟨⟨xi, xl, NA, NN, NC, nr⟩, hpi⟩ : ∃ p, ps[0]? = some p := ⟨_, List.getElem?_eq_getElem (by omega)⟩
    have HPI := Lib.hid hpi
    have hgi := HD1.out.good _ (by rw [hp4]; exact List.mem_map.2 ⟨_, List.mem_of_getElem? hpi, rfl⟩)
    have hnl : nr.length ≤ 140 := by have h1 := hgi.2; simp only [RegionR.val] at h1; omega
    obtain ⟨wd, hwd⟩ : ∃ wd, w2.drew = wd := ⟨_, rfl⟩
    have hbd : Below w2.heap.size w2 wd := by rw [← hwd]; exact (Below.refl _ _).drew
    have HL := Lib.hid (hp1.below' hbd)
    have HN : Hid (∀ p ∈ ps, OwnsL wd w.heap.size 9 1 strcells (.slice p.nearA p.nearN p.nearC) p.near) := fun p hp => (hp2 p hp).below' hbd
    have HSd := Lib.hid (HS2.out.grow hbd)
    have HZd : Hid (w.heap.size ≤ wd.heap.size) := Nat.le_trans HZ2.out hbd.size
    have HBM : Hid (Below wd.heap.size wd (wd.alloc (.cells #[.string ⟨#[122, 122]⟩, .string ⟨#[101, 97, 115, 116]⟩, .string ⟨#[119, 101, 115, 116]⟩] 9))) := (Below.refl _ _).alloc (Nat.le_refl _) _
    have HXL := Lib.hid (sliceAll (n := 3) (xs := [(⟨#[122, 122]⟩ : ByteArray), (⟨#[101, 97, 115, 116]⟩ : ByteArray), (⟨#[119, 101, 115, 116]⟩ : ByteArray)]) (cells := strcells) strcells_len (Own.new wd 9 #[.string ⟨#[122, 122]⟩, .string ⟨#[101, 97, 115, 116]⟩, .string ⟨#[119, 101, 115, 116]⟩]) rfl rfl (by decide))
    have HSe := Lib.hid (HSd.out.grow HBM.out)
    have HLe := Lib.hid (HL.out.below' HBM.out)
    have HNe : Hid (∀ p ∈ ps, OwnsL (wd.alloc (.cells #[.string ⟨#[122, 122]⟩, .string ⟨#[101, 97, 115, 116]⟩, .string ⟨#[119, 101, 115, 116]⟩] 9)) w.heap.size 9 1 strcells (.slice p.nearA p.nearN p.nearC) p.near) := fun p hp => (HN.out p hp).below' HBM.out
    have HZe : Hid (w.heap.size ≤ (wd.alloc (.cells #[.string ⟨#[122, 122]⟩, .string ⟨#[101, 97, 115, 116]⟩, .string ⟨#[119, 101, 115, 116]⟩] 9)).heap.size) := Nat.le_trans HZd.out HBM.out.size
    clear hp1 hp2 hp3 hp4 hpi hgi
    go_wp2_with fail
    refine wp_region_held_drew (S := (fun _ => True)) (by kernel_rfl) (trivial) (fun hHeld => ?_)
    simp only [List.size_toArray, List.length_cons, List.length_nil, Nat.zero_add, Nat.reduceAdd]
    rw [hwd]
    clear hwd hbd hHeld
    have hHeld : True := trivial
    refine wpAnyH_take (i := 0) (oi := _) (v := ?_) rfl (by kernel_rfl) (by kernel_rfl) (by kernel_rfl) (fun _ _ _ h => h) (Or.inl ⟨by rfl, ?_⟩) (by assumption) ?_
    rotate_left
    · intro w hSw; (try dsimp only at hSw); go_simp; (try with_reducible rfl)
    simp only [List.getElem_toArray, List.getElem_cons_zero, Act.put, List.setIfInBounds_toArray, List.set_cons_zero, List.set_cons_succ]
    refine wpAnyH_take (i := 1) (oi := _) (v := ?_) rfl (by kernel_rfl) (by kernel_rfl) (by kernel_rfl) (fun _ _ _ h => h) (Or.inl ⟨by rfl, ?_⟩) (by assumption) ?_
    rotate_left
    · intro w hSw; (try dsimp only at hSw); go_simp; (try with_reducible rfl)
    simp only [List.getElem_toArray, List.getElem_cons_zero, List.getElem_cons_succ, Act.put, List.setIfInBounds_toArray, List.set_cons_zero, List.set_cons_succ]
    refine wpAnyH_take (i := 2) (oi := _) (v := ?_) rfl (by kernel_rfl) (by kernel_rfl) (by kernel_rfl) (fun _ _ _ h => h) (Or.inl ⟨by rfl, ?_⟩) (by assumption) ?_
    rotate_left
    · intro w hSw; (try dsimp only at hSw); go_simp; (try with_reducible rfl)
    simp only [List.getElem_toArray, List.getElem_cons_zero, List.getElem_cons_succ, Act.put, List.setIfInBounds_toArray, List.set_cons_zero, List.set_cons_succ]
    refine wpAnyH_take (i := 3) (oi := _) (v := ?_) rfl (by kernel_rfl) (by kernel_rfl) (by kernel_rfl) (fun _ _ _ h => h) (Or.inl ⟨by rfl, ?_⟩) (by assumption) ?_
    rotate_left
    · intro w hSw; (try dsimp only at hSw); go_simp; (try with_reducible rfl)
    simp only [List.getElem_toArray, List.getElem_cons_zero, List.getElem_cons_succ, Act.put, List.setIfInBounds_toArray, List.set_cons_zero, List.set_cons_succ]
    refine wpAnyH_take (i := 5) (oi := _) (v := ?_) rfl (by kernel_rfl) (by kernel_rfl) (by kernel_rfl) (fun _ _ _ h => h) (Or.inl ⟨by rfl, ?_⟩) (by assumption) ?_
    rotate_left
    · intro w hSw; (try dsimp only at hSw); go_simp; (try with_reducible rfl)
    simp only [List.getElem_toArray, List.getElem_cons_zero, List.getElem_cons_succ, Act.put, List.setIfInBounds_toArray, List.set_cons_zero, List.set_cons_succ]
    refine wpAnyH_ready (rs := [4, 6]) (by kernel_rfl) (by simp) ?_
    refine AllReadyH.cons (o := _) rfl (fun K hK => ?_) (AllReadyH.cons (o := _) rfl (fun K hK => ?_) AllReadyH.nil)
    · simp only [List.getElem_toArray, List.getElem_cons_zero, List.getElem_cons_succ]
      have z2 := (HL.out.rcell HPI.out).2.2
      rw [Nat.zero_mul, Nat.zero_add] at z2
      go_simp
      refine hK.out _ _ trivial (fun _ => ?_)
      clear hK K
      try simp only [List.getElem_toArray, List.getElem_cons_zero, List.getElem_cons_succ, Act.put, List.setIfInBounds_toArray, List.set_cons_zero, List.set_cons_succ]
      clear z2
      refine wpAnyH_ready (rs := [6]) (by kernel_rfl) (by simp) ?_
      refine AllReadyH.cons (o := _) rfl (fun K hK => ?_) AllReadyH.nil
      simp only [List.getElem_toArray, List.getElem_cons_zero, List.getElem_cons_succ]
      go_simp
      refine hK.out _ _ (trivial) (fun hHeld2 => ?_)
      clear hK K
      try simp only [List.getElem_toArray, List.getElem_cons_zero, List.getElem_cons_succ, Act.put, List.setIfInBounds_toArray, List.set_cons_zero, List.set_cons_succ]
      try clear hHeld2
      refine wpAnyH_ready (rs := [7]) (by kernel_rfl) (by simp) ?_
      refine AllReadyH.cons (o := _) rfl (fun K hK => ?_) AllReadyH.nil
      simp only [List.getElem_toArray, List.getElem_cons_zero, List.getElem_cons_succ]
      go_simp
      (go_at_call 49; (with_reducible refine Calls.mono (srcText_any A n c ds bs k2 3 3 wd.heap.size 0 [(⟨#[122, 122]⟩ : ByteArray), (⟨#[101, 97, 115, 116]⟩ : ByteArray), (⟨#[119, 101, 115, 116]⟩ : ByteArray)] w0 (wd.alloc (.cells #[.string ⟨#[122, 122]⟩, .string ⟨#[101, 97, 115, 116]⟩, .string ⟨#[119, 101, 115, 116]⟩] 9)) HSe.out (by omega) (by omega) (by omega) HXL.out (by have := HLT.out; have := HZd.out; omega)) ?_); rintro e w5 ⟨t, k5, rfl, hy, hk5, hs5, ha5⟩)
      refine hK.out _ _ (trivial) (fun hHeld2 => ?_)
      clear hK K
      try simp only [List.getElem_toArray, List.getElem_cons_zero, List.getElem_cons_succ, Act.put, List.setIfInBounds_toArray, List.set_cons_zero, List.set_cons_succ]
      try clear hHeld2
      have HS5 := Lib.hid hs5
      have HL5 := Lib.hid (HLe.out.span ha5 (fun b hb => .inr (by have := (HLe.out.lt b hb).1; have := HLT.out; omega)))
      have HN5 : Hid (∀ p ∈ ps, OwnsL w5 w.heap.size 9 1 strcells (.slice p.nearA p.nearN p.nearC) p.near) := fun p hp => (HNe.out p hp).span ha5 (fun b hb => .inr (by have := ((HNe.out p hp).lt b hb).1; have := HLT.out; omega))
      have HZ5 : Hid (w.heap.size ≤ w5.heap.size) := Nat.le_trans HZe.out ha5.size
      have hty : t.size ≤ maxLen := by simp at hy; rcases hy with rfl | rfl | rfl <;> decide
      have HB6 : Hid (Below w5.heap.size w5 (w5.alloc (.cells #[.string t] 9))) := (Below.refl _ _).alloc (Nat.le_refl _) _
      have HOX := Lib.hid (Own.new w5 9 #[.string t])
      clear hs5 ha5 hy
      refine wpAnyH_ready (rs := [8]) (by kernel_rfl) (by simp) ?_
      refine AllReadyH.cons (o := _) rfl (fun K hK => ?_) AllReadyH.nil
      simp only [List.getElem_toArray, List.getElem_cons_zero, List.getElem_cons_succ]
      go_simp
      refine hK.out _ _ (trivial) (fun hHeld2 => ?_)
      clear hK K
      try simp only [List.getElem_toArray, List.getElem_cons_zero, List.getElem_cons_succ, Act.put, List.setIfInBounds_toArray, List.set_cons_zero, List.set_cons_succ]
      try clear hHeld2
      obtain ⟨gx, hgx⟩ : ∃ gx, w5.heap.size = gx := ⟨_, rfl⟩
      obtain ⟨w6, hw6⟩ : ∃ w6, w5.alloc (.cells #[.string t] 9) = w6 := ⟨_, rfl⟩
      rw [hw6] at HB6 HOX ⊢
      have HSZ6 := Lib.hid HB6.out.size
      have HZX := Lib.hid HZ5.out
      rw [hgx] at HOX HZX ⊢
      clear hw6
      refine wpAnyH_ready (rs := [9]) (by kernel_rfl) (by simp) ?_
      refine AllReadyH.cons (o := _) rfl (fun K hK => ?_) AllReadyH.nil
      (refine step_pushAll (by rfl) (.tmp 34) (.tmp 38) 32 (by rfl) w.heap.size 9 1 Try.underlying32 infoStr (by rfl) (by decide) strcells strcells_len strcells_one (.slice NA NN NC) nr [t] gx 0 1 1 (by rfl) ((HN5.out _ (List.mem_of_getElem? HPI.out)).below' HB6.out) (by rfl) (sliceOne HOX.out) (by decide) (by omega) (by decide) (by have := HSZ6.out; have := HZ5.out; omega) ?_; intro G cap w7 hown' hb' hkp hob; have HK7 : Hid (∀ b, b < w5.heap.size → some b ≠ (⟨xi, xl, NA, NN, NC, nr⟩ : RegionR).own → w7.heap[b]? = w5.heap[b]?) := (fun b h1 h2 => (hkp b (by have := HSZ6.out; omega) h2).trans (HB6.out.block b h1)); have HL7 : Hid (OwnsL w7 w.heap.size 34 3 RegionR.cells (.slice (some ⟨g, 0, none⟩) P vc) ps) := HL5.out.kept (fun b hb => HK7.out b (HL5.out.lt b hb).2 (fun e => HP3.out.1 _ (List.mem_of_getElem? HPI.out) b e.symm hb)))
      refine hK.out _ _ (trivial) (fun hHeld2 => ?_)
      clear hK K
      try simp only [List.getElem_toArray, List.getElem_cons_zero, List.getElem_cons_succ, Act.put, List.setIfInBounds_toArray, List.set_cons_zero, List.set_cons_succ]
      refine wpAnyH_take (i := 10) (oi := _) (v := ?_) rfl (by kernel_rfl) (by kernel_rfl) (by kernel_rfl) (fun _ _ _ h => h) (Or.inl ⟨by rfl, ?_⟩) (by assumption) ?_
      rotate_left
      · intro w hSw; (try dsimp only at hSw); go_simp; (try with_reducible rfl)
      simp only [List.getElem_toArray, List.getElem_cons_zero, List.getElem_cons_succ, Act.put, List.setIfInBounds_toArray, List.set_cons_zero, List.set_cons_succ]
      refine wpAnyH_take (i := 11) (oi := _) (v := ?_) rfl (by kernel_rfl) (by kernel_rfl) (by kernel_rfl) (fun _ _ _ h => h) (Or.inl ⟨by rfl, ?_⟩) (by assumption) ?_
      rotate_left
      · intro w hSw; (try dsimp only at hSw); go_simp; (try with_reducible rfl)
      simp only [List.getElem_toArray, List.getElem_cons_zero, List.getElem_cons_succ, Act.put, List.setIfInBounds_toArray, List.set_cons_zero, List.set_cons_succ]
      have HSN : Hid (Region.Own (w7.setCell ⟨g, 0 * 3 + 2, none⟩ (.slice (some ⟨G, 0, none⟩) (nr.length + 1) cap)) w.heap.size (.slice (some ⟨g, 0, none⟩) P vc) (L.set 0 ⟨xi, xl, nr ++ [t]⟩)) := by
        have h := Region.Own.setNear HL5.out HN5.out HP3.out HPI.out HK7.out hown' (fun b hb => by
          have e1 : G = b := by simpa [Value.ownBlock] using hb
          rcases hob with e | e
          · exact .inl (e1 ▸ e)
          · exact .inr (by have := HSZ6.out; omega))
        rw [← HP4.out] at h
        exact h
      have HDN : Hid (DrawnR 6 (140 + 1) (L.set 0 ⟨xi, xl, nr ++ [t]⟩)) := by
        have h1 : L[0]? = some ⟨xi, xl, nr⟩ := by rw [HP4.out, List.getElem?_map, HPI.out]; rfl
        exact HD1.out.near h1 hty
      have HSR : Hid (SrcAt A n c ds bs k5 w0 (w7.setCell ⟨g, 0 * 3 + 2, none⟩ (.slice (some ⟨G, 0, none⟩) (nr.length + 1) cap))) := ((HS5.out.grow HB6.out).grow2 hb' HLT.out).put (by have := HLT.out; simp only; omega) (by have := HW0.out; simp only; omega) _
      have HZN : Hid (w.heap.size ≤ (w7.setCell ⟨g, 0 * 3 + 2, none⟩ (.slice (some ⟨G, 0, none⟩) (nr.length + 1) cap)).heap.size) := by have h1 := hb'.size; have := HSZ6.out; have := HZ5.out; rw [Hid]; simp; omega
      have z2 := (HL7.out.rcell HPI.out).2.2
      rw [Nat.zero_mul, Nat.zero_add] at z2
      rw [Nat.zero_mul, Nat.zero_add] at HSN HSR HZN
      have fr := HL7.out.frozen
      have lg := (HL7.out.lt g rfl).2
      refine wpAnyH_ready (rs := [12]) (by kernel_rfl) (by simp) ?_
      refine AllReadyH.cons (o := _) rfl (fun K hK => ?_) AllReadyH.nil
      simp only [List.getElem_toArray, List.getElem_cons_zero, List.getElem_cons_succ]
      go_simp
      refine hK.out _ _ (trivial) (fun hHeld2 => ?_)
      clear hK K
      try simp only [List.getElem_toArray, List.getElem_cons_zero, List.getElem_cons_succ, Act.put, List.setIfInBounds_toArray, List.set_cons_zero, List.set_cons_succ]
      refine wpAnyH_done (by kernel_rfl) ?_ _
      clear hown' hb' hkp hob z2 fr lg
      try clear hHeld2
      go_wp2
      go_ret
      exact ⟨_, _, k5, rfl, by omega, HSR.out, HSN.out, HDN.out.mono (by omega) (by omega), HZN.out⟩
    · simp only [List.getElem_toArray, List.getElem_cons_zero, List.getElem_cons_succ]
      go_simp
      refine hK.out _ _ trivial (fun _ => ?_)
      clear hK K
      try simp only [List.getElem_toArray, List.getElem_cons_zero, List.getElem_cons_succ, Act.put, List.setIfInBounds_toArray, List.set_cons_zero, List.set_cons_succ]
      refine wpAnyH_ready (rs := [4, 7]) (by kernel_rfl) (by simp) ?_
      refine AllReadyH.cons (o := _) rfl (fun K hK => ?_) (AllReadyH.cons (o := _) rfl (fun K hK => ?_) AllReadyH.nil)
      · simp only [List.getElem_toArray, List.getElem_cons_zero, List.getElem_cons_succ]
        have z2 := (HLe.out.rcell HPI.out).2.2
        rw [Nat.zero_mul, Nat.zero_add] at z2
        go_simp
        refine hK.out _ _ trivial (fun _ => ?_)
        clear hK K
        try simp only [List.getElem_toArray, List.getElem_cons_zero, List.getElem_cons_succ, Act.put, List.setIfInBounds_toArray, List.set_cons_zero, List.set_cons_succ]
        clear z2
        refine wpAnyH_ready (rs := [7]) (by kernel_rfl) (by simp) ?_
        refine AllReadyH.cons (o := _) rfl (fun K hK => ?_) AllReadyH.nil
        simp only [List.getElem_toArray, List.getElem_cons_zero, List.getElem_cons_succ]
        go_simp
        (go_at_call 49; (with_reducible refine Calls.mono (srcText_any A n c ds bs k2 3 3 wd.heap.size 0 [(⟨#[122, 122]⟩ : ByteArray), (⟨#[101, 97, 115, 116]⟩ : ByteArray), (⟨#[119, 101, 115, 116]⟩ : ByteArray)] w0 (wd.alloc (.cells #[.string ⟨#[122, 122]⟩, .string ⟨#[101, 97, 115, 116]⟩, .string ⟨#[119, 101, 115, 116]⟩] 9)) HSe.out (by omega) (by omega) (by omega) HXL.out (by have := HLT.out; have := HZd.out; omega)) ?_); rintro e w5 ⟨t, k5, rfl, hy, hk5, hs5, ha5⟩)
        refine hK.out _ _ (trivial) (fun hHeld2 => ?_)
        clear hK K
        try simp only [List.getElem_toArray, List.getElem_cons_zero, List.getElem_cons_succ, Act.put, List.setIfInBounds_toArray, List.set_cons_zero, List.set_cons_succ]
        try clear hHeld2
        have HS5 := Lib.hid hs5
        have HL5 := Lib.hid (HLe.out.span ha5 (fun b hb => .inr (by have := (HLe.out.lt b hb).1; have := HLT.out; omega)))
        have HN5 : Hid (∀ p ∈ ps, OwnsL w5 w.heap.size 9 1 strcells (.slice p.nearA p.nearN p.nearC) p.near) := fun p hp => (HNe.out p hp).span ha5 (fun b hb => .inr (by have := ((HNe.out p hp).lt b hb).1; have := HLT.out; omega))
        have HZ5 : Hid (w.heap.size ≤ w5.heap.size) := Nat.le_trans HZe.out ha5.size
        have hty : t.size ≤ maxLen := by simp at hy; rcases hy with rfl | rfl | rfl <;> decide
        have HB6 : Hid (Below w5.heap.size w5 (w5.alloc (.cells #[.string t] 9))) := (Below.refl _ _).alloc (Nat.le_refl _) _
        have HOX := Lib.hid (Own.new w5 9 #[.string t])
        clear hs5 ha5 hy
        refine wpAnyH_ready (rs := [8]) (by kernel_rfl) (by simp) ?_
        refine AllReadyH.cons (o := _) rfl (fun K hK => ?_) AllReadyH.nil
        simp only [List.getElem_toArray, List.getElem_cons_zero, List.getElem_cons_succ]
        go_simp
        refine hK.out _ _ (trivial) (fun hHeld2 => ?_)
        clear hK K
        try simp only [List.getElem_toArray, List.getElem_cons_zero, List.getElem_cons_succ, Act.put, List.setIfInBounds_toArray, List.set_cons_zero, List.set_cons_succ]
        try clear hHeld2
        obtain ⟨gx, hgx⟩ : ∃ gx, w5.heap.size = gx := ⟨_, rfl⟩
        obtain ⟨w6, hw6⟩ : ∃ w6, w5.alloc (.cells #[.string t] 9) = w6 := ⟨_, rfl⟩
        rw [hw6] at HB6 HOX ⊢
        have HSZ6 := Lib.hid HB6.out.size
        have HZX := Lib.hid HZ5.out
        rw [hgx] at HOX HZX ⊢
        clear hw6
        refine wpAnyH_ready (rs := [9]) (by kernel_rfl) (by simp) ?_
        refine AllReadyH.cons (o := _) rfl (fun K hK => ?_) AllReadyH.nil
        (refine step_pushAll (by rfl) (.tmp 34) (.tmp 38) 32 (by rfl) w.heap.size 9 1 Try.underlying32 infoStr (by rfl) (by decide) strcells strcells_len strcells_one (.slice NA NN NC) nr [t] gx 0 1 1 (by rfl) ((HN5.out _ (List.mem_of_getElem? HPI.out)).below' HB6.out) (by rfl) (sliceOne HOX.out) (by decide) (by omega) (by decide) (by have := HSZ6.out; have := HZ5.out; omega) ?_; intro G cap w7 hown' hb' hkp hob; have HK7 : Hid (∀ b, b < w5.heap.size → some b ≠ (⟨xi, xl, NA, NN, NC, nr⟩ : RegionR).own → w7.heap[b]? = w5.heap[b]?) := (fun b h1 h2 => (hkp b (by have := HSZ6.out; omega) h2).trans (HB6.out.block b h1)); have HL7 : Hid (OwnsL w7 w.heap.size 34 3 RegionR.cells (.slice (some ⟨g, 0, none⟩) P vc) ps) := HL5.out.kept (fun b hb => HK7.out b (HL5.out.lt b hb).2 (fun e => HP3.out.1 _ (List.mem_of_getElem? HPI.out) b e.symm hb)))
        refine hK.out _ _ (trivial) (fun hHeld2 => ?_)
        clear hK K
        try simp only [List.getElem_toArray, List.getElem_cons_zero, List.getElem_cons_succ, Act.put, List.setIfInBounds_toArray, List.set_cons_zero, List.set_cons_succ]
        refine wpAnyH_take (i := 10) (oi := _) (v := ?_) rfl (by kernel_rfl) (by kernel_rfl) (by kernel_rfl) (fun _ _ _ h => h) (Or.inl ⟨by rfl, ?_⟩) (by assumption) ?_
        rotate_left
        · intro w hSw; (try dsimp only at hSw); go_simp; (try with_reducible rfl)
        simp only [List.getElem_toArray, List.getElem_cons_zero, List.getElem_cons_succ, Act.put, List.setIfInBounds_toArray, List.set_cons_zero, List.set_cons_succ]
        refine wpAnyH_take (i := 11) (oi := _) (v := ?_) rfl (by kernel_rfl) (by kernel_rfl) (by kernel_rfl) (fun _ _ _ h => h) (Or.inl ⟨by rfl, ?_⟩) (by assumption) ?_
        rotate_left
        · intro w hSw; (try dsimp only at hSw); go_simp; (try with_reducible rfl)
        simp only [List.getElem_toArray, List.getElem_cons_zero, List.getElem_cons_succ, Act.put, List.setIfInBounds_toArray, List.set_cons_zero, List.set_cons_succ]
        have HSN : Hid (Region.Own (w7.setCell ⟨g, 0 * 3 + 2, none⟩ (.slice (some ⟨G, 0, none⟩) (nr.length + 1) cap)) w.heap.size (.slice (some ⟨g, 0, none⟩) P vc) (L.set 0 ⟨xi, xl, nr ++ [t]⟩)) := by
          have h := Region.Own.setNear HL5.out HN5.out HP3.out HPI.out HK7.out hown' (fun b hb => by
            have e1 : G = b := by simpa [Value.ownBlock] using hb
            rcases hob with e | e
            · exact .inl (e1 ▸ e)
            · exact .inr (by have := HSZ6.out; omega))
          rw [← HP4.out] at h
          exact h
        have HDN : Hid (DrawnR 6 (140 + 1) (L.set 0 ⟨xi, xl, nr ++ [t]⟩)) := by
          have h1 : L[0]? = some ⟨xi, xl, nr⟩ := by rw [HP4.out, List.getElem?_map, HPI.out]; rfl
          exact HD1.out.near h1 hty
        have HSR : Hid (SrcAt A n c ds bs k5 w0 (w7.setCell ⟨g, 0 * 3 + 2, none⟩ (.slice (some ⟨G, 0, none⟩) (nr.length + 1) cap))) := ((HS5.out.grow HB6.out).grow2 hb' HLT.out).put (by have := HLT.out; simp only; omega) (by have := HW0.out; simp only; omega) _
        have HZN : Hid (w.heap.size ≤ (w7.setCell ⟨g, 0 * 3 + 2, none⟩ (.slice (some ⟨G, 0, none⟩) (nr.length + 1) cap)).heap.size) := by have h1 := hb'.size; have := HSZ6.out; have := HZ5.out; rw [Hid]; simp; omega
        have z2 := (HL7.out.rcell HPI.out).2.2
        rw [Nat.zero_mul, Nat.zero_add] at z2
        rw [Nat.zero_mul, Nat.zero_add] at HSN HSR HZN
        have fr := HL7.out.frozen
        have lg := (HL7.out.lt g rfl).2
        refine wpAnyH_ready (rs := [12]) (by kernel_rfl) (by simp) ?_
        refine AllReadyH.cons (o := _) rfl (fun K hK => ?_) AllReadyH.nil
        simp only [List.getElem_toArray, List.getElem_cons_zero, List.getElem_cons_succ]
        go_simp
        refine hK.out _ _ (trivial) (fun hHeld2 => ?_)
        clear hK K
        try simp only [List.getElem_toArray, List.getElem_cons_zero, List.getElem_cons_succ, Act.put, List.setIfInBounds_toArray, List.set_cons_zero, List.set_cons_succ]
        refine wpAnyH_done (by kernel_rfl) ?_ _
        clear hown' hb' hkp hob z2 fr lg
        try clear hHeld2
        go_wp2
        go_ret
        exact ⟨_, _, k5, rfl, by omega, HSR.out, HSN.out, HDN.out.mono (by omega) (by omega), HZN.out⟩
      · simp only [List.getElem_toArray, List.getElem_cons_zero, List.getElem_cons_succ]
        go_simp
        (go_at_call 49; (with_reducible refine Calls.mono (srcText_any A n c ds bs k2 3 3 wd.heap.size 0 [(⟨#[122, 122]⟩ : ByteArray), (⟨#[101, 97, 115, 116]⟩ : ByteArray), (⟨#[119, 101, 115, 116]⟩ : ByteArray)] w0 (wd.alloc (.cells #[.string ⟨#[122, 122]⟩, .string ⟨#[101, 97, 115, 116]⟩, .string ⟨#[119, 101, 115, 116]⟩] 9)) HSe.out (by omega) (by omega) (by omega) HXL.out (by have := HLT.out; have := HZd.out; omega)) ?_); rintro e w5 ⟨t, k5, rfl, hy, hk5, hs5, ha5⟩)
        refine hK.out _ _ trivial (fun _ => ?_)
        clear hK K
        try simp only [List.getElem_toArray, List.getElem_cons_zero, List.getElem_cons_succ, Act.put, List.setIfInBounds_toArray, List.set_cons_zero, List.set_cons_succ]
        have HS5 := Lib.hid hs5
        have HL5 := Lib.hid (HLe.out.span ha5 (fun b hb => .inr (by have := (HLe.out.lt b hb).1; have := HLT.out; omega)))
        have HN5 : Hid (∀ p ∈ ps, OwnsL w5 w.heap.size 9 1 strcells (.slice p.nearA p.nearN p.nearC) p.near) := fun p hp => (HNe.out p hp).span ha5 (fun b hb => .inr (by have := ((HNe.out p hp).lt b hb).1; have := HLT.out; omega))
        have HZ5 : Hid (w.heap.size ≤ w5.heap.size) := Nat.le_trans HZe.out ha5.size
        have hty : t.size ≤ maxLen := by simp at hy; rcases hy with rfl | rfl | rfl <;> decide
        have HB6 : Hid (Below w5.heap.size w5 (w5.alloc (.cells #[.string t] 9))) := (Below.refl _ _).alloc (Nat.le_refl _) _
        have HOX := Lib.hid (Own.new w5 9 #[.string t])
        clear hs5 ha5 hy
        refine wpAnyH_ready (rs := [4, 8]) (by kernel_rfl) (by simp) ?_
        refine AllReadyH.cons (o := _) rfl (fun K hK => ?_) (AllReadyH.cons (o := _) rfl (fun K hK => ?_) AllReadyH.nil)
        · simp only [List.getElem_toArray, List.getElem_cons_zero, List.getElem_cons_succ]
          have z2 := (HL5.out.rcell HPI.out).2.2
          rw [Nat.zero_mul, Nat.zero_add] at z2
          go_simp
          refine hK.out _ _ trivial (fun _ => ?_)
          clear hK K
          try simp only [List.getElem_toArray, List.getElem_cons_zero, List.getElem_cons_succ, Act.put, List.setIfInBounds_toArray, List.set_cons_zero, List.set_cons_succ]
          clear z2
          refine wpAnyH_ready (rs := [8]) (by kernel_rfl) (by simp) ?_
          refine AllReadyH.cons (o := _) rfl (fun K hK => ?_) AllReadyH.nil
          simp only [List.getElem_toArray, List.getElem_cons_zero, List.getElem_cons_succ]
          go_simp
          refine hK.out _ _ (trivial) (fun hHeld2 => ?_)
          clear hK K
          try simp only [List.getElem_toArray, List.getElem_cons_zero, List.getElem_cons_succ, Act.put, List.setIfInBounds_toArray, List.set_cons_zero, List.set_cons_succ]
          try clear hHeld2
          obtain ⟨gx, hgx⟩ : ∃ gx, w5.heap.size = gx := ⟨_, rfl⟩
          obtain ⟨w6, hw6⟩ : ∃ w6, w5.alloc (.cells #[.string t] 9) = w6 := ⟨_, rfl⟩
          rw [hw6] at HB6 HOX ⊢
          have HSZ6 := Lib.hid HB6.out.size
          have HZX := Lib.hid HZ5.out
          rw [hgx] at HOX HZX ⊢
          clear hw6
          refine wpAnyH_ready (rs := [9]) (by kernel_rfl) (by simp) ?_
          refine AllReadyH.cons (o := _) rfl (fun K hK => ?_) AllReadyH.nil
          (refine step_pushAll (by rfl) (.tmp 34) (.tmp 38) 32 (by rfl) w.heap.size 9 1 Try.underlying32 infoStr (by rfl) (by decide) strcells strcells_len strcells_one (.slice NA NN NC) nr [t] gx 0 1 1 (by rfl) ((HN5.out _ (List.mem_of_getElem? HPI.out)).below' HB6.out) (by rfl) (sliceOne HOX.out) (by decide) (by omega) (by decide) (by have := HSZ6.out; have := HZ5.out; omega) ?_; intro G cap w7 hown' hb' hkp hob; have HK7 : Hid (∀ b, b < w5.heap.size → some b ≠ (⟨xi, xl, NA, NN, NC, nr⟩ : RegionR).own → w7.heap[b]? = w5.heap[b]?) := (fun b h1 h2 => (hkp b (by have := HSZ6.out; omega) h2).trans (HB6.out.block b h1)); have HL7 : Hid (OwnsL w7 w.heap.size 34 3 RegionR.cells (.slice (some ⟨g, 0, none⟩) P vc) ps) := HL5.out.kept (fun b hb => HK7.out b (HL5.out.lt b hb).2 (fun e => HP3.out.1 _ (List.mem_of_getElem? HPI.out) b e.symm hb)))
          refine hK.out _ _ (trivial) (fun hHeld2 => ?_)
          clear hK K
          try simp only [List.getElem_toArray, List.getElem_cons_zero, List.getElem_cons_succ, Act.put, List.setIfInBounds_toArray, List.set_cons_zero, List.set_cons_succ]
          refine wpAnyH_take (i := 10) (oi := _) (v := ?_) rfl (by kernel_rfl) (by kernel_rfl) (by kernel_rfl) (fun _ _ _ h => h) (Or.inl ⟨by rfl, ?_⟩) (by assumption) ?_
          rotate_left
          · intro w hSw; (try dsimp only at hSw); go_simp; (try with_reducible rfl)
          simp only [List.getElem_toArray, List.getElem_cons_zero, List.getElem_cons_succ, Act.put, List.setIfInBounds_toArray, List.set_cons_zero, List.set_cons_succ]
          refine wpAnyH_take (i := 11) (oi := _) (v := ?_) rfl (by kernel_rfl) (by kernel_rfl) (by kernel_rfl) (fun _ _ _ h => h) (Or.inl ⟨by rfl, ?_⟩) (by assumption) ?_
          rotate_left
          · intro w hSw; (try dsimp only at hSw); go_simp; (try with_reducible rfl)
          simp only [List.getElem_toArray, List.getElem_cons_zero, List.getElem_cons_succ, Act.put, List.setIfInBounds_toArray, List.set_cons_zero, List.set_cons_succ]
          have HSN : Hid (Region.Own (w7.setCell ⟨g, 0 * 3 + 2, none⟩ (.slice (some ⟨G, 0, none⟩) (nr.length + 1) cap)) w.heap.size (.slice (some ⟨g, 0, none⟩) P vc) (L.set 0 ⟨xi, xl, nr ++ [t]⟩)) := by
            have h := Region.Own.setNear HL5.out HN5.out HP3.out HPI.out HK7.out hown' (fun b hb => by
              have e1 : G = b := by simpa [Value.ownBlock] using hb
              rcases hob with e | e
              · exact .inl (e1 ▸ e)
              · exact .inr (by have := HSZ6.out; omega))
            rw [← HP4.out] at h
            exact h
          have HDN : Hid (DrawnR 6 (140 + 1) (L.set 0 ⟨xi, xl, nr ++ [t]⟩)) := by
            have h1 : L[0]? = some ⟨xi, xl, nr⟩ := by rw [HP4.out, List.getElem?_map, HPI.out]; rfl
            exact HD1.out.near h1 hty
          have HSR : Hid (SrcAt A n c ds bs k5 w0 (w7.setCell ⟨g, 0 * 3 + 2, none⟩ (.slice (some ⟨G, 0, none⟩) (nr.length + 1) cap))) := ((HS5.out.grow HB6.out).grow2 hb' HLT.out).put (by have := HLT.out; simp only; omega) (by have := HW0.out; simp only; omega) _
          have HZN : Hid (w.heap.size ≤ (w7.setCell ⟨g, 0 * 3 + 2, none⟩ (.slice (some ⟨G, 0, none⟩) (nr.length + 1) cap)).heap.size) := by have h1 := hb'.size; have := HSZ6.out; have := HZ5.out; rw [Hid]; simp; omega
          have z2 := (HL7.out.rcell HPI.out).2.2
          rw [Nat.zero_mul, Nat.zero_add] at z2
          rw [Nat.zero_mul, Nat.zero_add] at HSN HSR HZN
          have fr := HL7.out.frozen
          have lg := (HL7.out.lt g rfl).2
          refine wpAnyH_ready (rs := [12]) (by kernel_rfl) (by simp) ?_
          refine AllReadyH.cons (o := _) rfl (fun K hK => ?_) AllReadyH.nil
          simp only [List.getElem_toArray, List.getElem_cons_zero, List.getElem_cons_succ]
          go_simp
          refine hK.out _ _ (trivial) (fun hHeld2 => ?_)
          clear hK K
          try simp only [List.getElem_toArray, List.getElem_cons_zero, List.getElem_cons_succ, Act.put, List.setIfInBounds_toArray, List.set_cons_zero, List.set_cons_succ]
          refine wpAnyH_done (by kernel_rfl) ?_ _
          clear hown' hb' hkp hob z2 fr lg
          try clear hHeld2
          go_wp2
          go_ret
          exact ⟨_, _, k5, rfl, by omega, HSR.out, HSN.out, HDN.out.mono (by omega) (by omega), HZN.out⟩
        · simp only [List.getElem_toArray, List.getElem_cons_zero, List.getElem_cons_succ]
          go_simp
          refine hK.out _ _ trivial (fun _ => ?_)
          clear hK K
          try simp only [List.getElem_toArray, List.getElem_cons_zero, List.getElem_cons_succ, Act.put, List.setIfInBounds_toArray, List.set_cons_zero, List.set_cons_succ]
          have z2 := ((HL5.out.below' HB6.out).rcell HPI.out).2.2
          rw [Nat.zero_mul, Nat.zero_add] at z2
          refine wpAnyH_ready (rs := [4]) (by kernel_rfl) (by simp) ?_
          refine AllReadyH.cons (o := _) rfl (fun K hK => ?_) AllReadyH.nil
          simp only [List.getElem_toArray, List.getElem_cons_zero, List.getElem_cons_succ]
          go_simp
          refine hK.out _ _ (trivial) (fun hHeld2 => ?_)
          clear hK K
          try simp only [List.getElem_toArray, List.getElem_cons_zero, List.getElem_cons_succ, Act.put, List.setIfInBounds_toArray, List.set_cons_zero, List.set_cons_succ]
          try clear hHeld2
          clear z2
          obtain ⟨gx, hgx⟩ : ∃ gx, w5.heap.size = gx := ⟨_, rfl⟩
          obtain ⟨w6, hw6⟩ : ∃ w6, w5.alloc (.cells #[.string t] 9) = w6 := ⟨_, rfl⟩
          rw [hw6] at HB6 HOX ⊢
          have HSZ6 := Lib.hid HB6.out.size
          have HZX := Lib.hid HZ5.out
          rw [hgx] at HOX HZX ⊢
          clear hw6
          refine wpAnyH_ready (rs := [9]) (by kernel_rfl) (by simp) ?_
          refine AllReadyH.cons (o := _) rfl (fun K hK => ?_) AllReadyH.nil
          (refine step_pushAll (by rfl) (.tmp 34) (.tmp 38) 32 (by rfl) w.heap.size 9 1 Try.underlying32 infoStr (by rfl) (by decide) strcells strcells_len strcells_one (.slice NA NN NC) nr [t] gx 0 1 1 (by rfl) ((HN5.out _ (List.mem_of_getElem? HPI.out)).below' HB6.out) (by rfl) (sliceOne HOX.out) (by decide) (by omega) (by decide) (by have := HSZ6.out; have := HZ5.out; omega) ?_; intro G cap w7 hown' hb' hkp hob; have HK7 : Hid (∀ b, b < w5.heap.size → some b ≠ (⟨xi, xl, NA, NN, NC, nr⟩ : RegionR).own → w7.heap[b]? = w5.heap[b]?) := (fun b h1 h2 => (hkp b (by have := HSZ6.out; omega) h2).trans (HB6.out.block b h1)); have HL7 : Hid (OwnsL w7 w.heap.size 34 3 RegionR.cells (.slice (some ⟨g, 0, none⟩) P vc) ps) := HL5.out.kept (fun b hb => HK7.out b (HL5.out.lt b hb).2 (fun e => HP3.out.1 _ (List.mem_of_getElem? HPI.out) b e.symm hb)))
          refine hK.out _ _ (trivial) (fun hHeld2 => ?_)
          clear hK K
          try simp only [List.getElem_toArray, List.getElem_cons_zero, List.getElem_cons_succ, Act.put, List.setIfInBounds_toArray, List.set_cons_zero, List.set_cons_succ]
          refine wpAnyH_take (i := 10) (oi := _) (v := ?_) rfl (by kernel_rfl) (by kernel_rfl) (by kernel_rfl) (fun _ _ _ h => h) (Or.inl ⟨by rfl, ?_⟩) (by assumption) ?_
          rotate_left
          · intro w hSw; (try dsimp only at hSw); go_simp; (try with_reducible rfl)
          simp only [List.getElem_toArray, List.getElem_cons_zero, List.getElem_cons_succ, Act.put, List.setIfInBounds_toArray, List.set_cons_zero, List.set_cons_succ]
          refine wpAnyH_take (i := 11) (oi := _) (v := ?_) rfl (by kernel_rfl) (by kernel_rfl) (by kernel_rfl) (fun _ _ _ h => h) (Or.inl ⟨by rfl, ?_⟩) (by assumption) ?_
          rotate_left
          · intro w hSw; (try dsimp only at hSw); go_simp; (try with_reducible rfl)
          simp only [List.getElem_toArray, List.getElem_cons_zero, List.getElem_cons_succ, Act.put, List.setIfInBounds_toArray, List.set_cons_zero, List.set_cons_succ]
          have HSN : Hid (Region.Own (w7.setCell ⟨g, 0 * 3 + 2, none⟩ (.slice (some ⟨G, 0, none⟩) (nr.length + 1) cap)) w.heap.size (.slice (some ⟨g, 0, none⟩) P vc) (L.set 0 ⟨xi, xl, nr ++ [t]⟩)) := by
            have h := Region.Own.setNear HL5.out HN5.out HP3.out HPI.out HK7.out hown' (fun b hb => by
              have e1 : G = b := by simpa [Value.ownBlock] using hb
              rcases hob with e | e
              · exact .inl (e1 ▸ e)
              · exact .inr (by have := HSZ6.out; omega))
            rw [← HP4.out] at h
            exact h
          have HDN : Hid (DrawnR 6 (140 + 1) (L.set 0 ⟨xi, xl, nr ++ [t]⟩)) := by
            have h1 : L[0]? = some ⟨xi, xl, nr⟩ := by rw [HP4.out, List.getElem?_map, HPI.out]; rfl
            exact HD1.out.near h1 hty
          have HSR : Hid (SrcAt A n c ds bs k5 w0 (w7.setCell ⟨g, 0 * 3 + 2, none⟩ (.slice (some ⟨G, 0, none⟩) (nr.length + 1) cap))) := ((HS5.out.grow HB6.out).grow2 hb' HLT.out).put (by have := HLT.out; simp only; omega) (by have := HW0.out; simp only; omega) _
          have HZN : Hid (w.heap.size ≤ (w7.setCell ⟨g, 0 * 3 + 2, none⟩ (.slice (some ⟨G, 0, none⟩) (nr.length + 1) cap)).heap.size) := by have h1 := hb'.size; have := HSZ6.out; have := HZ5.out; rw [Hid]; simp; omega
          have z2 := (HL7.out.rcell HPI.out).2.2
          rw [Nat.zero_mul, Nat.zero_add] at z2
          rw [Nat.zero_mul, Nat.zero_add] at HSN HSR HZN
          have fr := HL7.out.frozen
          have lg := (HL7.out.lt g rfl).2
          refine wpAnyH_ready (rs := [12]) (by kernel_rfl) (by simp) ?_
          refine AllReadyH.cons (o := _) rfl (fun K hK => ?_) AllReadyH.nil
          simp only [List.getElem_toArray, List.getElem_cons_zero, List.getElem_cons_succ]
          go_simp
          refine hK.out _ _ (trivial) (fun hHeld2 => ?_)
          clear hK K
          try simp only [List.getElem_toArray, List.getElem_cons_zero, List.getElem_cons_succ, Act.put, List.setIfInBounds_toArray, List.set_cons_zero, List.set_cons_succ]
          refine wpAnyH_done (by kernel_rfl) ?_ _
          clear hown' hb' hkp hob z2 fr lg
          try clear hHeld2
          go_wp2
          go_ret
          exact ⟨_, _, k5, rfl, by omega, HSR.out, HSN.out, HDN.out.mono (by omega) (by omega), HZN.out⟩
  by_cases hq2 : q = 2
  · subst hq2
    clear HEND
    have HB3 : Hid (Below w2.heap.size w2 (w2.alloc (.cells #[.int .i64 8, .int .i64 9] 2))) := (Below.refl _ _).alloc (Nat.le_refl _) _
    have HX3 := Lib.hid (sliceAll (xs := [8, 9]) (cells := i64cells) i64cells_len (Own.new w2 2 #[.int .i64 8, .int .i64 9]) rfl rfl (by decide))
    have HS3 := Lib.hid (HS2.out.grow HB3.out)
    go_wp2_with fail
    refine (srcAmong_any A n c ds bs k2 2 2 w2.heap.size 0 [8, 9] w0 _ HS3.out (by omega) (by omega) (by omega) HX3.out (by have := HLT.out; have := HZ2.out; omega)).mono ?_
    rintro e w4 ⟨y, k4, rfl, hy, hk4, hs4, ha4⟩
    obtain ⟨Y, rfl, hY⟩ : ∃ Y : Nat, y = (Y : Int) ∧ Y ≤ 9 := by
      simp at hy
      rcases hy with rfl | rfl
      · exact ⟨8, rfl, by omega⟩
      · exact ⟨9, rfl, by omega⟩
    have HZ4 : Hid (w.heap.size ≤ w4.heap.size) := Nat.le_trans HZ2.out (Nat.le_trans HB3.out.size ha4.size)
    have HB5 : Hid (Below w4.heap.size w4 (w4.alloc (.cells #[] 34))) := (Below.refl _ _).alloc (Nat.le_refl _) _
    have HS5 := Lib.hid (hs4.grow HB5.out)
    have HOM := Lib.hid (OwnsL.made w4 w.heap.size 34 3 RegionR.cells HZ4.out)
    have HZ5 : Hid (w.heap.size ≤ (w4.alloc (.cells #[] 34)).heap.size) := Nat.le_trans HZ4.out HB5.out.size
    clear hs4 ha4 hy HS2 HO2 HZ2 HS3 HX3 HB3
    go_wp2
    go_loopg [3, 6] Y (fun gk s3 s6 wr => ∃ (k : Nat) (v : Value) (L : List Region), k ≤ Y ∧ gk = Y - k ∧ s6 = .int .i64 k ∧ v = s3 ∧ DrawnR k 0 L ∧ SrcAt A n c ds bs k4 w0 wr ∧ Region.Own wr w.heap.size v L ∧ w.heap.size ≤ wr.heap.size)
    case atStart => exact ⟨0, _, [], Nat.zero_le _, rfl, rfl, rfl, DrawnR.nil, HS5.out, ⟨[], HOM.out, by simp, ⟨by simp, List.Pairwise.nil⟩, rfl⟩, HZ5.out⟩
    case round =>
      obtain ⟨k, v, L, hk, hgk, rfl, rfl, hdr, hsr, hown, hsz⟩ := hrel
      have Hgk := Lib.hid hgk
      have HDR := Lib.hid hdr
      have HSR := Lib.hid hsr
      have HOWN := Lib.hid hown
      have HSZ := Lib.hid hsz
      clear hgk hdr hsr hown hsz
      by_cases hlt : k < Y
      rotate_left
      · obtain rfl : k = Y := by omega
        go_wp2
        go_ret
        exact ⟨_, L, k4, rfl, by omega, HSR.out, HOWN.out, HDR.out.mono (by omega) (by omega), HSZ.out⟩
      obtain ⟨ps, hp1, hp2, hp3, hp4⟩ := HOWN.out
      have HP1 := Lib.hid hp1
      have HP2 := Lib.hid hp2
      have HP3 := Lib.hid hp3
      have HP4 := Lib.hid hp4
      have hpl : ps.length ≤ 9 := by have h1 := HDR.out.len; rw [hp4, List.length_map] at h1; omega
      clear hp1 hp2 hp3 hp4
      obtain ⟨R, hR, hR4⟩ : ∃ R : Nat, ((k : Int)).tmod 5 = (R : Int) ∧ R ≤ 4 := ⟨k % 5, by have := tmod_nat (k : Int) 5 (by omega); simpa using this, by omega⟩
      have hwR : IntKind.i64.wrap (R : Int) = (R : Int) := IntWalk.i64_in _ ⟨by omega, by omega⟩
      have hki : I64 (k : Int) := ⟨by omega, by omega⟩
      have hds := dec_size hki
      go_wp2_with fail
      refine (l01Dec_any (k : Int) wr hki).mono ?_
      rintro e w6 ⟨rfl, hb6⟩
      obtain ⟨D, hD⟩ : ∃ D, dec (k : Int) = D := ⟨_, rfl⟩
      rw [hD] at hds ⊢
      have HP6 := Lib.hid (HP1.out.below' hb6)
      have HI6 : Hid (∀ p ∈ ps, OwnsL w6 w.heap.size 9 1 strcells (.slice p.nearA p.nearN p.nearC) p.near) := fun p hp => (HP2.out p hp).below' hb6
      have HS6 := Lib.hid (HSR.out.grow hb6)
      have HZ6 : Hid (w.heap.size ≤ w6.heap.size) := Nat.le_trans HSZ.out hb6.size
      clear hb6 hD hki
      go_wp2_with (at_builtin; refine wpList_push2 (by rfl) (.tmp 53) (.tmp 61) 24 (by rfl) w.heap.size 34 3 Try.underlying24 infoRegion (by rfl) (by decide) RegionR.cells RegionR.cells_len RegionR.cells_one _ v ps ⟨⟨#[110]⟩ ++ D, 1 + (R : Int), none, 0, 0, []⟩ (by rfl) (by rfl) HP6.out (by first | rfl | simp [go_sem]) (by omega) (by decide) HZ6.out ?_)
      intro v' w7 hown' hb' hkp hob
      obtain ⟨G, cap, rfl, _, _⟩ := hown'.block (by simp)
      have hob2 : v.ownBlock = some G ∨ w6.heap.size ≤ G := by
        rcases hob with e | e
        · exact .inl e.symm
        · right
          have e1 : G = w6.heap.size + 1 := by simpa [Value.ownBlock] using e
          omega
      have HR : Hid (Region.Own w7 w.heap.size (.slice (some ⟨G, 0, none⟩) (ps ++ [(⟨⟨#[110]⟩ ++ D, 1 + (R : Int), none, 0, 0, []⟩ : RegionR)]).length cap) (L ++ [⟨⟨#[110]⟩ ++ D, 1 + (R : Int), []⟩])) :=
        Region.Own.push2 (q := ⟨⟨#[110]⟩ ++ D, 1 + (R : Int), none, 0, 0, []⟩) HI6.out HP3.out HP4.out (OwnsL.nil_ _ _ _ _ _) (fun b hb => by simp [RegionR.own, Value.ownBlock] at hb) (fun p _ b _ e => by simp [RegionR.own, Value.ownBlock] at e) hown' hkp hob2
      have HS7 : Hid (SrcAt A n c ds bs k4 w0 w7) := HS6.out.grow2 hb' HLT.out
      have HZ7 : Hid (w.heap.size ≤ w7.heap.size) := Nat.le_trans HZ6.out hb'.size
      have HG : Hid ((⟨⟨#[110]⟩ ++ D, 1 + (R : Int), []⟩ : Region).Good) := ⟨⟨by show (-9223372036854775808 : Int) ≤ 1 + (R : Int); omega, by show (1 + (R : Int) : Int) ≤ 9223372036854775807; omega⟩, by show ((⟨#[110]⟩ : ByteArray) ++ D).size ≤ maxLen; rw [ByteArray.size_append]; have h1 : (⟨#[110]⟩ : ByteArray).size = 1 := rfl; simp [maxLen]; omega, by simp⟩
      have HD7 : Hid (DrawnR (k + 1) 0 (L ++ [⟨⟨#[110]⟩ ++ D, 1 + (R : Int), []⟩])) := HDR.out.snoc HG.out (by simp)
      clear hown' hb' hkp hob hob2
      go_wp2
      go_roundg (Y - (k + 1))
      case measure => have := Hgk.out; omega
      case rel => exact ⟨k + 1, _, _, by omega, rfl, by go_num, rfl, HD7.out, HS7.out, HR.out, HZ7.out⟩

  · have e0 : ((q : Int) == 0) = false := by simp; omega
    have e1 : ((q : Int) == 1) = false := by simp; omega
    have e2 : ((q : Int) == 2) = false := by simp; omega
    clear hq0 hq1 hq2
    go_wp2
    go_ret
    exact HEND.out

end Go.Proofs.Ytpibiieibofggaa
