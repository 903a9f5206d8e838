/- The assets that the laws of the runout draw. -/
import Derived.Test.YthlgfmdlecdchaaDrawP
import Derived.Test.YthlgfmdlecdchaaPut
import Derived.Test.YthlgfmdlecdchaaDamI
import Derived.Test.YthlgfmdlecdchaaSrcK
import Derived.Test.YthlgfmdlecdchaaSrc
import Derived.Test.YthlgfmdlecdchaaR8Grid
import Derived.Deep.RegionHeld3
import Derived.Deep.RegionLaw
import Derived.Deep.AppendLies
namespace Go.Proofs.Ythlgfmdlecdchaa
open Go.RowKit

set_option maxHeartbeats 1000000 in
theorem srcOne_any (A : Option Addr) (n c : Nat) (ds : List Int) (bs k m : Nat) (w0 w : World) (h : SrcAt A n c ds bs k w0 w) (hk : k ≤ 1048570000) (hm : 1 ≤ m) (hm2 : m ≤ 1048576) :
    Calls Try.prog 78 #[.pointer (some ⟨bs, 0, none⟩), .int .i64 m] w (fun e w' => ∃ (b : Bool) (k' : Nat), e = .returned (.bool b) ∧ k' ≤ k + 2 ∧ SrcAt A n c ds bs k' w0 w' ∧ Span bs (bs + 1) w w') := by
  have H := Lib.hid h
  clear h
  go_enter Try.func78, Try.ntmps78
  go_wp2_with fail
  refine (srcPick_any A n c ds bs k m w0 w H.out hk hm hm2).mono ?_
  rintro e w1 ⟨r, k', rfl, hr, hk', hs, ha⟩
  have HS := Lib.hid hs
  have HA := Lib.hid ha
  clear hs ha
  go_wp2
  go_ret
  exact ⟨_, k', rfl, hk', HS.out, HA.out⟩
theorem nameA_size : ∀ j, (nameA j).size ≤ maxLen
  | 0 => by decide +kernel
  | 1 => by decide +kernel
  | 2 => by decide +kernel
  | _ + 3 => by show shedB.size ≤ maxLen; decide +kernel
theorem DrawnA.allGood {N k : Nat} {xs : List Asset} (h : DrawnA N k xs) (hN : N ≤ 64) : ∀ x ∈ xs, x.Good := fun x hx => by
  obtain ⟨j, hj⟩ := List.mem_iff_getElem?.1 hx
  have h1 := (h.good (j + 1) j x (by omega) hj).1
  obtain ⟨i, _, hi⟩ := h.before x hx
  unfold Asset.fitsB at h1
  rw [cellsB_eq] at h1
  simp only [Bool.and_eq_true, List.all_eq_true] at h1
  refine ⟨?_, by rw [hi]; exact nameA_size i, fun y hy => ?_⟩
  · have := inB_iff.1 h1.2
    unfold I64; omega
  · have := inB_iff.1 (h1.1.2.2 y hy)
    unfold I64; omega
theorem names_cell {w : World} {nb k : Nat} {t : TypeId} (h : Own w nb t #[.string { data := #[114, 111, 97, 100] }, .string { data := #[114, 111, 111, 102] }, .string { data := #[114, 111, 112, 101] }, .string { data := #[115, 104, 101, 100] }]) (hk : k < 4) : w.cell? ⟨nb, k, none⟩ = some (.string (nameA k)) := by
  rw [h.cell]
  match k, hk with
  | 0, _ => rfl
  | 1, _ => rfl
  | 2, _ => rfl
  | 3, _ => rfl
theorem Own.newAt {w : World} {g : Nat} {t : TypeId} {cs : Array Value} (h : g = w.heap.size) : Own (w.alloc (.cells cs t)) g t cs := h ▸ Own.new w t cs
theorem Own.put3 {w : World} {g : Nat} {t : TypeId} {a b c : Value} (h : Own w g t #[a, b, c]) (x y z : Value) : Own (((w.setCell ⟨g, 0, none⟩ x).setCell ⟨g, 1, none⟩ y).setCell ⟨g, 2, none⟩ z) g t #[x, y, z] := by
  simpa using ((h.put 0 x).put 1 y).put 2 z
theorem Own.far3 {w : World} {g X : Nat} {t : TypeId} {cs : Array Value} (h : Own w g t cs) (hne : g ≠ X) (x y z : Value) : Own (((w.setCell ⟨X, 0, none⟩ x).setCell ⟨X, 1, none⟩ y).setCell ⟨X, 2, none⟩ z) g t cs := ((h.far (p := ⟨X, 0, none⟩) hne x).far (p := ⟨X, 1, none⟩) hne y).far (p := ⟨X, 2, none⟩) hne z
theorem SrcAt.alc {A : Option Addr} {n c : Nat} {ds : List Int} {bs k : Nat} {w0 w : World} (h : SrcAt A n c ds bs k w0 w) (o : Obj) : SrcAt A n c ds bs k w0 (w.alloc o) := h.grow ((Below.refl _ _).alloc (Nat.le_refl _) _)
theorem SrcAt.put3 {A : Option Addr} {n c : Nat} {ds : List Int} {bs k X : Nat} {w0 w : World} (h : SrcAt A n c ds bs k w0 w) (h1 : w0.heap.size ≤ X) (h2 : X ≠ bs) (x y z : Value) : SrcAt A n c ds bs k w0 (((w.setCell ⟨X, 0, none⟩ x).setCell ⟨X, 1, none⟩ y).setCell ⟨X, 2, none⟩ z) := ((h.put (p := ⟨X, 0, none⟩) (Ne.symm h2) h1 x).put (p := ⟨X, 1, none⟩) (Ne.symm h2) h1 y).put (p := ⟨X, 2, none⟩) (Ne.symm h2) h1 z
/-- What lay ahead is as it was, but for one block. -/
def KeptBut (L bs : Nat) (w w' : World) : Prop := ∀ b, b < L → b ≠ bs → w'.heap[b]? = w.heap[b]?
theorem KeptBut.of {L bs : Nat} {w wp w' : World} (hb : Below L w wp) (hs : Span bs (bs + 1) wp w') (hl : L ≤ wp.heap.size) : KeptBut L bs w w' := fun b h1 h2 => (hs.block b (by omega) (by omega)).trans (hb.block b h1)
theorem KeptBut.trans {L bs : Nat} {a b c : World} (h : KeptBut L bs a b) (k : KeptBut L bs b c) : KeptBut L bs a c := fun x h1 h2 => (k x h1 h2).trans (h x h1 h2)
theorem KeptBut.span {L bs : Nat} {a b c : World} (h : KeptBut L bs a b) (hs : Span bs (bs + 1) b c) (hl : L ≤ b.heap.size) : KeptBut L bs a c := h.trans (fun x h1 h2 => hs.block x (by omega) (by omega))
theorem KeptBut.below {L bs : Nat} {a b c : World} (h : KeptBut L bs a b) (hb : Below b.heap.size b c) (hl : L ≤ b.heap.size) : KeptBut L bs a c := h.trans (fun x h1 _ => hb.block x (by omega))
theorem KeptBut.alc {L bs : Nat} {a b : World} (h : KeptBut L bs a b) (hl : L ≤ b.heap.size) (o : Obj) : KeptBut L bs a (b.alloc o) := h.trans (fun x h1 _ => Below.heap_alloc _ _ _ (by omega))
theorem KeptBut.put {L bs X i : Nat} {a b : World} (h : KeptBut L bs a b) (hX : L ≤ X) (u : Value) : KeptBut L bs a (b.setCell ⟨X, i, none⟩ u) := h.trans (fun x h1 _ => Below.heap_setCell _ _ _ _ (by show x ≠ X; omega))
theorem KeptBut.put3 {L bs X : Nat} {a b : World} (h : KeptBut L bs a b) (hX : L ≤ X) (x y z : Value) : KeptBut L bs a (((b.setCell ⟨X, 0, none⟩ x).setCell ⟨X, 1, none⟩ y).setCell ⟨X, 2, none⟩ z) := ((h.put hX x).put hX y).put hX z
set_option maxRecDepth 100000 in
set_option maxHeartbeats 1000000 in
theorem l15Draw_any (A : Option Addr) (n c : Nat) (ds : List Int) (bs bg : Nat) (g : GridR) (w0 w : World) (h : SrcAt A n c ds bs 0 w0 w) (hg : BoxD bg g w) (h1N : 1 ≤ g.heightsN) (h64 : g.heightsN ≤ 64) :
    Calls Try.prog 57 #[.pointer (some ⟨bs, 0, none⟩), .pointer (some ⟨bg, 0, none⟩)] w (fun e w' => ∃ (v : Value) (xs : List Asset), e = .returned v ∧ Asset.validB (g.heightsN : Int) xs = true ∧ (∀ x ∈ xs, x.Good) ∧ (∃ (B : Option Addr) (cc : Nat), v = .slice B xs.length cc ∧ Asset.Sl w' B xs.length xs) ∧ Below w0.heap.size w0 w') := by
  have hB : Below w.heap.size w ((w.alloc (.cells #[.string { data := #[114, 111, 97, 100] }, .string { data := #[114, 111, 111, 102] }, .string { data := #[114, 111, 112, 101] }, .string { data := #[115, 104, 101, 100] }] 9)).alloc (.cells #[] 82)) := ((Below.refl _ _).alloc (Nat.le_refl _) _).alloc (by simp) _
  have HLT := Lib.hid h.lt
  have hS := h.grow hB
  have hN : Own ((w.alloc (.cells #[.string { data := #[114, 111, 97, 100] }, .string { data := #[114, 111, 111, 102] }, .string { data := #[114, 111, 112, 101] }, .string { data := #[115, 104, 101, 100] }] 9)).alloc (.cells #[] 82)) w.heap.size 9 #[.string { data := #[114, 111, 97, 100] }, .string { data := #[114, 111, 111, 102] }, .string { data := #[114, 111, 112, 101] }, .string { data := #[115, 104, 101, 100] }] := (Own.new w 9 #[.string { data := #[114, 111, 97, 100] }, .string { data := #[114, 111, 111, 102] }, .string { data := #[114, 111, 112, 101] }, .string { data := #[115, 104, 101, 100] }]).alloc _
  have hOA : OwnsL ((w.alloc (.cells #[.string { data := #[114, 111, 97, 100] }, .string { data := #[114, 111, 111, 102] }, .string { data := #[114, 111, 112, 101] }, .string { data := #[115, 104, 101, 100] }] 9)).alloc (.cells #[] 82)) (w.heap.size + 1) 82 3 AssetR.cells (.slice (some ⟨w.heap.size + 1, 0, none⟩) 0 0) [] := by
    have := OwnsL.made (w.alloc (.cells #[.string { data := #[114, 111, 97, 100] }, .string { data := #[114, 111, 111, 102] }, .string { data := #[114, 111, 112, 101] }, .string { data := #[115, 104, 101, 100] }] 9)) (w.heap.size + 1) 82 3 AssetR.cells (by simp)
    simpa using this
  have hY := (hg.grow hB).cells
  obtain ⟨N, hNN⟩ : ∃ N, g.heightsN = N := ⟨_, rfl⟩
  obtain ⟨nb, hnb⟩ : ∃ nb, w.heap.size = nb := ⟨_, rfl⟩
  have HNB := Lib.hid hnb
  obtain ⟨w1, hw1⟩ : ∃ w1, ((w.alloc (.cells #[.string { data := #[114, 111, 97, 100] }, .string { data := #[114, 111, 111, 102] }, .string { data := #[114, 111, 112, 101] }, .string { data := #[115, 104, 101, 100] }] 9)).alloc (.cells #[] 82)) = w1 := ⟨_, rfl⟩
  rw [hw1] at hB hS hN hOA hY
  rw [hnb] at hN hOA
  have HN := Lib.hid hN
  have HS := Lib.hid hS
  have HOA := Lib.hid hOA
  have HZ1 : Hid (nb + 2 ≤ w1.heap.size) := by rw [Hid, ← hw1, ← hnb]; simp
  rw [hNN] at hY h1N h64 ⊢
  obtain ⟨y0, y1, y2, y3, ly⟩ := hY
  clear h hg hB hS hN hOA hNN
  go_enter Try.func57, Try.ntmps57
  go_wp2
  clear y0 y1 y2 y3 ly hw1 hnb
  go_loopg [6, 8] 4 (fun gk s6 s8 wr => ∃ (k kk : Nat) (v : Value) (ps : List AssetR), k ≤ 4 ∧ gk = 4 - k ∧ s8 = .int .i64 k ∧ v = s6 ∧ kk ≤ 20 * k ∧ DrawnA N k (ps.map AssetR.val) ∧ SrcAt A n c ds bs kk w0 wr ∧ Own wr nb 9 #[.string { data := #[114, 111, 97, 100] }, .string { data := #[114, 111, 111, 102] }, .string { data := #[114, 111, 112, 101] }, .string { data := #[115, 104, 101, 100] }] ∧ OwnsL wr (nb + 1) 82 3 AssetR.cells v ps ∧ (∀ p ∈ ps, OwnsL wr (nb + 1) 2 1 i64cells (.slice p.spotsA p.spotsN p.spotsC) p.spots) ∧ nb + 2 ≤ wr.heap.size ∧ (∀ p ∈ ps, ∀ b, (Value.slice p.spotsA p.spotsN p.spotsC).ownBlock = some b → v.ownBlock ≠ some b))
  case atStart => exact ⟨0, 0, _, [], Nat.zero_le _, rfl, rfl, rfl, by omega, DrawnA.nil N, HS.out, HN.out, HOA.out, by simp, HZ1.out, by simp⟩
  case round =>
    obtain ⟨k, kk, v, ps, hk, hgk, rfl, rfl, hkk, hdr, hsr, hnm, hown, hps, hsz, hap⟩ := hrel
    have HAP := Lib.hid hap
    have Hgk := Lib.hid hgk
    have HKK := Lib.hid hkk
    have HDR := Lib.hid hdr
    have HSR := Lib.hid hsr
    have HNM := Lib.hid hnm
    have HOW := Lib.hid hown
    have HPS := Lib.hid hps
    have HSZ := Lib.hid hsz
    have hkkb : kk ≤ 100 := by omega
    clear hgk hkk hdr hsr hnm hown hps hsz hap
    by_cases hk4 : k < 4
    rotate_left
    · obtain ⟨BA, bc, rfl, _, _, hsl⟩ := HOW.out.slice AssetR.cells_len
      have HSL := Lib.hid hsl
      clear hsl
      obtain ⟨m, hm⟩ : ∃ m, ps.length = m := ⟨_, rfl⟩
      rw [hm] at HSL ⊢
      have HML := Lib.hid hm
      clear hm
      have hke : k = 4 := by omega
      subst hke
      go_wp2
      go_ret
      exact ⟨.slice BA m bc, ps.map AssetR.val, rfl, HDR.out.ok (by omega), HDR.out.allGood h64, ⟨BA, bc, by rw [List.length_map, HML.out], by rw [List.length_map, HML.out]; exact ⟨ps, HSL.out, fun p hp => AssetR.in_of (HPS.out p hp), rfl⟩⟩, HSR.out.below⟩
    go_wp2_with fail
    refine (srcOne_any A n c ds bs kk 3 w0 wr HSR.out (by omega) (by omega) (by omega)).mono ?_
    rintro e w2 ⟨yes, k2, rfl, hk2, hs2, ha2⟩
    have HS2 := Lib.hid hs2
    have HN2 := Lib.hid (HNM.out.span ha2 (.inr (by have := HLT.out; have := HNB.out; omega)))
    have HO2 := Lib.hid (HOW.out.span ha2 (fun k hk => .inr (by have := (HOW.out.lt k hk).1; have := HLT.out; have := HNB.out; omega)))
    have HP2 : Hid (∀ p ∈ ps, OwnsL w2 (nb + 1) 2 1 i64cells (.slice p.spotsA p.spotsN p.spotsC) p.spots) := fun p hp => (HPS.out p hp).span ha2 (fun k hk => .inr (by have := ((HPS.out p hp).lt k hk).1; have := HLT.out; have := HNB.out; omega))
    have HZ2 := Lib.hid (Nat.le_trans HSZ.out ha2.size)
    clear hs2 ha2
    cases yes
    rotate_left
    · go_wp2
      go_roundg (4 - (k + 1))
      case measure => have := Hgk.out; omega
      case rel => exact ⟨k + 1, k2, v, ps, by omega, rfl, by go_num, rfl, by have := HKK.out; omega, HDR.out.skip, HS2.out, HN2.out, HO2.out, HP2.out, HZ2.out, HAP.out⟩
    have hname := names_cell HN2.out hk4
    have hnlt := HN2.out.lt
    go_wp2_with fail
    have hb2 := HS2.out.lt
    have hgr : Below w2.heap.size w2 ((w2.alloc (.cells #[] 2)).alloc (.cells #[.string { data := #[] }, .slice none 0 0, .int .i64 0] 82)) := ((Below.refl _ _).alloc (Nat.le_refl _) _).alloc (by simp) _
    have HBX : Hid (Own ((w2.alloc (.cells #[] 2)).alloc (.cells #[.string { data := #[] }, .slice none 0 0, .int .i64 0] 82)) (w2.heap.size + 1) 82 #[.string { data := #[] }, .slice none 0 0, .int .i64 0]) := Own.newAt (by simp)
    have HSX : Hid (Own ((w2.alloc (.cells #[] 2)).alloc (.cells #[.string { data := #[] }, .slice none 0 0, .int .i64 0] 82)) w2.heap.size 2 #[]) := (Own.new w2 2 #[]).alloc _
    have HS3 := Lib.hid (HS2.out.grow hgr)
    clear hgr
    have HSB1 := Lib.hid (Own.new w2 2 #[])
    have HSB := Lib.hid (HS2.out.grow ((Below.refl _ w2).alloc (Nat.le_refl _) (.cells #[] 2)))
    have HXD := Lib.hid (Own.new w2 82 #[.string { data := #[] }, .slice none 0 0, .int .i64 0])
    have HSD := Lib.hid (HS2.out.grow ((Below.refl _ w2).alloc (Nat.le_refl _) (.cells #[.string { data := #[] }, .slice none 0 0, .int .i64 0] 82)))
    have HSE := Lib.hid (HS2.out.grow (((Below.refl _ w2).alloc (Nat.le_refl _) (.cells #[.string { data := #[] }, .slice none 0 0, .int .i64 0] 82)).alloc (by simp) (.cells #[] 2)))
    have HXE := Lib.hid (HXD.out.alloc (.cells #[] 2))
    have HSE1 : Hid (Own ((w2.alloc (.cells #[.string { data := #[] }, .slice none 0 0, .int .i64 0] 82)).alloc (.cells #[] 2)) (w2.heap.size + 1) 2 #[]) := Own.newAt (by simp)
    go_cut [9] from 26 to 34 (fun p wx => ∃ X S qq kx : Nat, p = .pointer (some ⟨X, 0, none⟩) ∧ Own wx X 82 #[.string (nameA k), .slice (some ⟨S, 0, none⟩) 0 0, .int .i64 (10 * (qq : Int))] ∧ Own wx S 2 #[] ∧ X ≠ S ∧ w2.heap.size ≤ X ∧ w2.heap.size ≤ S ∧ qq < 90 ∧ kx ≤ k2 + 2 ∧ SrcAt A n c ds bs kx w0 wx ∧ KeptBut w2.heap.size bs w2 wx)
    case first =>
      go_region_law (go_simp; go_at_call 61; first | (refine (srcPick_any A n c ds bs k2 90 w0 _ (HS3.out.drew) (by omega) (by omega) (by omega)).mono ?_; rintro e w3 ⟨q, k3, rfl, hq, hk3, hs3, ha3⟩; have HS3p := Lib.hid hs3; have HKP := Lib.hid (KeptBut.of (w := w2) (L := w2.heap.size) (bs := bs) (by repeat (first | exact Below.refl _ _ | (with_reducible refine Below.drew ?_) | (with_reducible refine Below.alloc ?_ (by first | exact Nat.le_refl _ | (simp; done) | (simp; omega)) _))) ha3 (by first | (simp; done) | (simp; omega))); have hz3 := ha3.size; simp at hz3; have HZ3 := Lib.hid hz3; have hw10 : IntKind.i64.wrap (10 * (q : Int)) = 10 * (q : Int) := IntWalk.i64_in _ (by omega); have HN3 := Lib.hid ((Own.drew (Own.alloc (Own.alloc HN2.out _) _)).span ha3 (.inr (by have := HLT.out; have := HNB.out; omega))); have hname3 := names_cell HN3.out hk4; have hnlt3 := HN3.out.lt; have HX3 := Lib.hid (HBX.out.drew.span ha3 (.inr (by omega))); have x0 := HX3.out.cell 0; have x1 := HX3.out.cell 1; have x2 := HX3.out.cell 2; have dx := HX3.out.frozen; have lx := HX3.out.lt; simp at x0 x1 x2; have HL3 := Lib.hid (HSX.out.drew.span ha3 (.inr (by omega))); clear hs3 ha3 hz3) | (refine (srcPick_any A n c ds bs k2 90 w0 _ (HSB.out.drew) (by omega) (by omega) (by omega)).mono ?_; rintro e w3 ⟨q, k3, rfl, hq, hk3, hs3, ha3⟩; have HS3p := Lib.hid hs3; have HKP := Lib.hid (KeptBut.of (w := w2) (L := w2.heap.size) (bs := bs) (by repeat (first | exact Below.refl _ _ | (with_reducible refine Below.drew ?_) | (with_reducible refine Below.alloc ?_ (by first | exact Nat.le_refl _ | (simp; done) | (simp; omega)) _))) ha3 (by first | (simp; done) | (simp; omega))); have hz3 := ha3.size; simp at hz3; have HZ3 := Lib.hid hz3; have hw10 : IntKind.i64.wrap (10 * (q : Int)) = 10 * (q : Int) := IntWalk.i64_in _ (by omega); have HN3 := Lib.hid ((Own.drew (Own.alloc HN2.out _)).span ha3 (.inr (by have := HLT.out; have := HNB.out; omega))); have hname3 := names_cell HN3.out hk4; have hnlt3 := HN3.out.lt; have HL3 := Lib.hid (HSB1.out.drew.span ha3 (.inr (by omega))); clear hs3 ha3 hz3) | (refine (srcPick_any A n c ds bs k2 90 w0 _ (HSD.out.drew) (by omega) (by omega) (by omega)).mono ?_; rintro e w3 ⟨q, k3, rfl, hq, hk3, hs3, ha3⟩; have HS3p := Lib.hid hs3; have HKP := Lib.hid (KeptBut.of (w := w2) (L := w2.heap.size) (bs := bs) (by repeat (first | exact Below.refl _ _ | (with_reducible refine Below.drew ?_) | (with_reducible refine Below.alloc ?_ (by first | exact Nat.le_refl _ | (simp; done) | (simp; omega)) _))) ha3 (by first | (simp; done) | (simp; omega))); have hz3 := ha3.size; simp at hz3; have HZ3 := Lib.hid hz3; have hw10 : IntKind.i64.wrap (10 * (q : Int)) = 10 * (q : Int) := IntWalk.i64_in _ (by omega); have HN3 := Lib.hid ((Own.drew (Own.alloc HN2.out _)).span ha3 (.inr (by have := HLT.out; have := HNB.out; omega))); have hname3 := names_cell HN3.out hk4; have hnlt3 := HN3.out.lt; have HX3 := Lib.hid (HXD.out.drew.span ha3 (.inr (by omega))); have x0 := HX3.out.cell 0; have x1 := HX3.out.cell 1; have x2 := HX3.out.cell 2; have dx := HX3.out.frozen; have lx := HX3.out.lt; simp at x0 x1 x2; clear hs3 ha3 hz3) | (refine (srcPick_any A n c ds bs k2 90 w0 _ (HS2.out.drew) (by omega) (by omega) (by omega)).mono ?_; rintro e w3 ⟨q, k3, rfl, hq, hk3, hs3, ha3⟩; have HS3p := Lib.hid hs3; have HKP := Lib.hid (KeptBut.of (w := w2) (L := w2.heap.size) (bs := bs) (by repeat (first | exact Below.refl _ _ | (with_reducible refine Below.drew ?_) | (with_reducible refine Below.alloc ?_ (by first | exact Nat.le_refl _ | (simp; done) | (simp; omega)) _))) ha3 (by first | (simp; done) | (simp; omega))); have hz3 := ha3.size; simp at hz3; have HZ3 := Lib.hid hz3; have hw10 : IntKind.i64.wrap (10 * (q : Int)) = 10 * (q : Int) := IntWalk.i64_in _ (by omega); have HN3 := Lib.hid ((Own.drew (HN2.out)).span ha3 (.inr (by have := HLT.out; have := HNB.out; omega))); have hname3 := names_cell HN3.out hk4; have hnlt3 := HN3.out.lt; clear hs3 ha3 hz3) | (refine (srcPick_any A n c ds bs k2 90 w0 _ (HSE.out.drew) (by omega) (by omega) (by omega)).mono ?_; rintro e w3 ⟨q, k3, rfl, hq, hk3, hs3, ha3⟩; have HS3p := Lib.hid hs3; have HKP := Lib.hid (KeptBut.of (w := w2) (L := w2.heap.size) (bs := bs) (by repeat (first | exact Below.refl _ _ | (with_reducible refine Below.drew ?_) | (with_reducible refine Below.alloc ?_ (by first | exact Nat.le_refl _ | (simp; done) | (simp; omega)) _))) ha3 (by first | (simp; done) | (simp; omega))); have hz3 := ha3.size; simp at hz3; have HZ3 := Lib.hid hz3; have hw10 : IntKind.i64.wrap (10 * (q : Int)) = 10 * (q : Int) := IntWalk.i64_in _ (by omega); have HN3 := Lib.hid ((Own.drew (Own.alloc (Own.alloc HN2.out _) _)).span ha3 (.inr (by have := HLT.out; have := HNB.out; omega))); have hname3 := names_cell HN3.out hk4; have hnlt3 := HN3.out.lt; have HX3 := Lib.hid (HXE.out.drew.span ha3 (.inr (by omega))); have x0 := HX3.out.cell 0; have x1 := HX3.out.cell 1; have x2 := HX3.out.cell 2; have dx := HX3.out.frozen; have lx := HX3.out.lt; simp at x0 x1 x2; have HL3 := Lib.hid (HSE1.out.drew.span ha3 (.inr (by omega))); clear hs3 ha3 hz3))
      all_goals (go_wp2_with fail; go_meet)
      all_goals
        have hz3 := HZ3.out
        have hb0 := HS2.out.below.size
        refine ⟨_, ?_, q, k3, rfl, ?_, ?_, ?_, ?_, ?_, hq, hk3, ?_, ?_⟩
        rotate_left
        · first | (with_reducible exact Own.new _ _ _) | (with_reducible exact (Own.new _ _ _).alloc _) | (with_reducible exact HX3.out.put3 _ _ _) | (with_reducible exact (HX3.out.put3 _ _ _).alloc _) | ((with_reducible refine Own.newAt ?_); simp; done)
        · first | (with_reducible exact HL3.out.alloc _) | ((with_reducible refine HL3.out.far3 ?_ _ _ _); omega) | (with_reducible exact (Own.new _ _ _).alloc _) | ((with_reducible refine Own.newAt ?_); simp; done)
        · omega
        · omega
        · omega
        · first | (with_reducible exact HS3p.out.alc _) | (with_reducible exact (HS3p.out.alc _).alc _) | ((with_reducible refine HS3p.out.put3 ?_ ?_ _ _ _) <;> omega) | ((with_reducible refine (HS3p.out.put3 ?_ ?_ _ _ _).alc _) <;> omega)
        · first | ((with_reducible refine HKP.out.alc ?_ _); omega) | ((with_reducible refine (HKP.out.alc ?_ _).alc ?_ _) <;> (first | omega | (simp; done) | (simp; omega))) | ((with_reducible refine HKP.out.put3 ?_ _ _ _); omega) | ((with_reducible refine (HKP.out.put3 ?_ _ _ _).alc ?_ _) <;> (first | omega | (simp; done) | (simp; omega)))
    case rest =>
      obtain ⟨X, S, qq, kx, rfl, hX, hS, hXS, hLX, hLS, hqq, hkx, hsr, hkp⟩ := hcut
      have HX4 := Lib.hid hX
      have HSL4 := Lib.hid hS
      have HSR4 := Lib.hid hsr
      have HKP4 := Lib.hid hkp
      have HL2 := Lib.hid HO2.out.lt
      have HXZ : Hid (w2.heap.size ≤ wc.heap.size) := Nat.le_trans hLX (Nat.le_of_lt hX.lt)
      clear hX hS hsr hkp HBX HSX HS3 HSB1 HSB HXD HSD HSE HXE HSE1 hname hnlt
      go_wp2_with fail
      refine (srcPick_any A n c ds bs kx 3 w0 _ HSR4.out (by omega) (by omega) (by omega)).mono ?_
      rintro e w4 ⟨q4, k4, rfl, hq4, hk4d, hs4, ha4⟩
      have HX5 := Lib.hid (HX4.out.span ha4 (.inr (by omega)))
      have HS5 := Lib.hid (HSL4.out.span ha4 (.inr (by omega)))
      have HK5 := Lib.hid (HKP4.out.span ha4 HXZ.out)
      have HR5 := Lib.hid hs4
      have HZ5 := Lib.hid (Nat.le_trans HXZ.out ha4.size)
      have HE5 : Hid (OwnsL w4 w2.heap.size 2 1 i64cells (.slice (some ⟨S, 0, none⟩) 0 0) []) := HS5.out.ownsL i64cells_len hLS rfl (by simp) (by omega) FilledTo.zero
      clear hs4 ha4 HX4 HSL4 HSR4 HKP4 HXZ
      obtain ⟨J, hJ⟩ : ∃ J, 1 + q4 = J := ⟨_, rfl⟩
      have hJ1 : 1 ≤ J ∧ J ≤ 3 := by omega
      have hJc : (1 : Int) + (q4 : Int) = (J : Int) := by omega
      have hk4b : k4 ≤ kk + 6 := by omega
      clear hJ
      go_wp2
      clear hJc
      go_loopg [10] J (fun gk i wr => ∃ (j R kj : Nat) (vc : Value) (o : List Int), R + j = J ∧ gk = R ∧ i = .int .i64 R ∧ kj ≤ k4 + 2 * j ∧ SrcAt A n c ds bs kj w0 wr ∧ Own wr X 82 #[.string (nameA k), vc, .int .i64 (10 * (qq : Int))] ∧ OwnsL wr w2.heap.size 2 1 i64cells vc o ∧ (∀ b, vc.ownBlock = some b → b ≠ X) ∧ CellsD N j o ∧ KeptBut w2.heap.size bs w2 wr)
      case atStart => exact ⟨0, J, k4, _, [], rfl, rfl, rfl, by omega, HR5.out, HX5.out, HE5.out, fun b hb => by simp [Value.ownBlock] at hb; omega, CellsD.nil N, HK5.out⟩
      case round =>
        obtain ⟨j, R, kj, vc, o, hj, hgj, rfl, hkj, hsr, hbx, hvc, hvx, hcd, hkp⟩ := hrel
        have HGJ := Lib.hid hgj
        have HJ := Lib.hid hj
        have HSR := Lib.hid hsr
        have HBXJ := Lib.hid hbx
        have HVX := Lib.hid hvx
        have HCD := Lib.hid hcd
        have HKP := Lib.hid hkp
        have HKJ := Lib.hid hkj
        have hR3 : R ≤ 3 := by omega
        have hj3 : j ≤ 3 := by omega
        have hkjb : kj ≤ 1048570000 := by omega
        have HXL : Hid (w2.heap.size ≤ wr.heap.size) := Nat.le_trans hLX (Nat.le_of_lt hbx.lt)
        obtain ⟨BA, cc, rfl, hcc, hmm, _⟩ := hvc.slice i64cells_len
        obtain ⟨m, hm⟩ : ∃ m, o.length = m := ⟨_, rfl⟩
        have hmj : m ≤ j := by rw [← hm]; exact hcd.len
        rw [hm] at hvc HBXJ HVX hcc
        have HM := Lib.hid hm
        have HVC := Lib.hid hvc
        have x0 := HBXJ.out.cell 0
        have x1 := HBXJ.out.cell 1
        have x2 := HBXJ.out.cell 2
        have dx := HBXJ.out.frozen
        have lx := HBXJ.out.lt
        simp at x0 x1 x2
        clear hgj hj hsr hbx hvc hvx hcd hkp hm hcc hmm hkj
        by_cases hlt : 0 < R
        · have hmx : max (1 : Int) (N : Int) = (N : Int) := by omega
          have HSD := Lib.hid HSR.out.drew
          have hne5 : bs < w2.heap.size := hb2
          go_wp2_with fail
          go_region_law (first | (go_simp; go_at_call 80; refine (l00Max_any 1 (N : Int) _).mono ?_; rintro e w' ⟨rfl, rfl⟩; rw [hmx]) | (go_simp; go_at_call 61; refine (srcPick_any A n c ds bs kj N w0 _ (by first | exact HSR.out | exact HSD.out) hkjb h1N (by omega)).mono ?_; rintro e w5 ⟨r, k5, rfl, hr, hk5, hs5, ha5⟩; have HX5 := Lib.hid ((HBXJ.out.drew).span ha5 (.inr (by omega))); have HV5 : Hid (OwnsL w5 w2.heap.size 2 1 i64cells (.slice BA m cc) o) := OwnsL.span (w := wr.drew) HVC.out ha5 (fun b hb => .inr (by have := (HVC.out.lt b hb).1; omega)); have HK5 : Hid (KeptBut w2.heap.size bs w2 w5) := KeptBut.span (b := wr.drew) HKP.out ha5 HXL.out; have HS5 := Lib.hid hs5; have x5 := HX5.out.cell 1; have d5 := HX5.out.frozen; have l5 := HX5.out.lt; simp at x5; clear hs5 ha5) | (go_simp; go_at_call 79; refine (l00Put_any BA m cc o (r : Int) _ (HV5.out.sl i64cells_len) HCD.out.pw (by omega)).mono ?_; rintro e w6 ⟨v6, o6, rfl, hv6, hp6, hb6⟩; obtain ⟨G6, cap6, rfl, _, _⟩ := hv6.block (by intro h; have := hp6.pos; rw [h] at this; simp at this); have HX6 := Lib.hid (HX5.out.below' hb6); have HK6 := Lib.hid (HK5.out.below hb6 (Nat.le_trans hLX (Nat.le_of_lt HX5.out.lt))); have HS6 := Lib.hid (HS5.out.grow hb6); have HV6 := Lib.hid hv6; have HP6 := Lib.hid hp6; have HW5 := Lib.hid HX5.out.lt; have x6 := HX6.out.cell 1; have d6 := HX6.out.frozen; have l6 := HX6.out.lt; simp at x6; clear hv6 hp6 hb6))
          all_goals
            clear x0 x1 x2 dx lx x5 d5 l5 x6 d6 l6
            obtain ⟨w7, hw7⟩ : ∃ w7, w6.setCell ⟨X, 1, none⟩ (.slice (some ⟨G6, 0, none⟩) o6.length cap6) = w7 := ⟨_, rfl⟩
            have HX7 : Hid (Own w7 X 82 #[.string (nameA k), .slice (some ⟨G6, 0, none⟩) o6.length cap6, .int .i64 (10 * (qq : Int))]) := by rw [Hid, ← hw7]; simpa using HX6.out.put 1 (.slice (some ⟨G6, 0, none⟩) o6.length cap6)
            have HG6 : Hid (∀ b, (Value.slice (some ⟨G6, 0, none⟩) o6.length cap6).ownBlock = some b → b ≠ X) := fun b hb => by have h1 := (HV6.out.lt b hb).1; have h2 := HW5.out; omega
            have HV7 : Hid (OwnsL w7 w2.heap.size 2 1 i64cells (.slice (some ⟨G6, 0, none⟩) o6.length cap6) o6) := by
              rw [Hid, ← hw7]
              exact (HV6.out.rebase (by have h2 := HW5.out; omega)).kept (fun b hb => Below.heap_setCell w6 ⟨X, 1, none⟩ _ b (HG6.out b hb))
            have HK7 : Hid (KeptBut w2.heap.size bs w2 w7) := by rw [Hid, ← hw7]; exact HK6.out.put hLX _
            have HS7 : Hid (SrcAt A n c ds bs k5 w0 w7) := by
              rw [Hid, ← hw7]
              have hb0 := HS2.out.below.size
              exact HS6.out.put (p := ⟨X, 1, none⟩) (by simp only; omega) (by simp only; omega) _
            rw [hw7]
            clear hw7
            go_wp2
            go_roundg (R - 1)
            case measure => have := HGJ.out; omega
            case rel => exact ⟨j + 1, R - 1, k5, _, o6, by have := HJ.out; omega, rfl, by (first | go_num | (congr 1; omega)), by have := HKJ.out; omega, HS7.out, HX7.out, HV7.out, HG6.out, HCD.out.put ⟨by omega, by omega⟩ HP6.out, HK7.out⟩
        · have hR0 : R = 0 := by omega
          subst hR0
          have HOWR : Hid (OwnsL wr (nb + 1) 82 3 AssetR.cells v ps) := HO2.out.kept (fun b hb => HKP.out b (HL2.out b hb).2 (by have h1 := (HL2.out b hb).1; have := HLT.out; have := HNB.out; omega))
          have HPR : Hid (∀ p ∈ ps, OwnsL wr (nb + 1) 2 1 i64cells (.slice p.spotsA p.spotsN p.spotsC) p.spots) := fun p hp => (HP2.out p hp).kept (fun b hb => HKP.out b ((HP2.out p hp).lt b hb).2 (by have h1 := ((HP2.out p hp).lt b hb).1; have := HLT.out; have := HNB.out; omega))
          have HNR : Hid (Own wr nb 9 #[.string { data := #[114, 111, 97, 100] }, .string { data := #[114, 111, 111, 102] }, .string { data := #[114, 111, 112, 101] }, .string { data := #[115, 104, 101, 100] }]) := (HKP.out nb HN2.out.lt (by have := HLT.out; have := HNB.out; omega)).trans HN2.out
          have hpl : ps.length ≤ 4 := by have := HDR.out.len; rw [List.length_map] at this; omega
          have HSZR : Hid (nb + 1 ≤ wr.heap.size) := by have := HXL.out; have := HZ2.out; rw [Hid]; omega
          go_wp2_with (at_builtin; refine wpList_push2 (by rfl) (.tmp 50) (.tmp 52) 43 (by rfl) (nb + 1) 82 3 Try.underlying43 infoAsset (by rfl) (by decide) AssetR.cells AssetR.cells_len AssetR.cells_one _ v ps ⟨nameA k, BA, m, cc, o, 10 * (qq : Int)⟩ (by rfl) (by rfl) HOWR.out (by first | rfl | simp [go_sem]) (by omega) (by decide) HSZR.out ?_)
          intro v' w' hown' hb' hkp' hob
          have HONN := Lib.hid hown'
          have HNNN := Lib.hid (HNR.out.below hb' (Nat.lt_succ_self _))
          have HVB : Hid (∀ b, (Value.slice BA m cc).ownBlock = some b → some b ≠ v.ownBlock ∧ b < wr.heap.size ∧ w2.heap.size ≤ b) := fun b hb => ⟨fun e => by have h1 := (HL2.out b e.symm).2; have h2 := (HVC.out.lt b hb).1; omega, (HVC.out.lt b hb).2, (HVC.out.lt b hb).1⟩
          have HPNN : Hid (∀ p ∈ ps ++ [(⟨nameA k, BA, m, cc, o, 10 * (qq : Int)⟩ : AssetR)], OwnsL w' (nb + 1) 2 1 i64cells (.slice p.spotsA p.spotsN p.spotsC) p.spots) := fun p hp => by
            rcases List.mem_append.1 hp with h | h
            · exact (HPR.out p h).kept (fun b hb => hkp' b ((HPR.out p h).lt b hb).2 (fun e => HAP.out p h b hb e.symm))
            · simp at h
              subst h
              exact (HVC.out.rebase (by have := HZ2.out; omega)).kept (fun b hb => hkp' b (HVB.out b hb).2.1 (HVB.out b hb).1)
          have HANN : Hid (∀ p ∈ ps ++ [(⟨nameA k, BA, m, cc, o, 10 * (qq : Int)⟩ : AssetR)], ∀ b, (Value.slice p.spotsA p.spotsN p.spotsC).ownBlock = some b → v'.ownBlock ≠ some b) := fun p hp b hb e => by
            rcases List.mem_append.1 hp with h | h
            · rcases hob with e1 | e1
              · exact HAP.out p h b hb (e1 ▸ e)
              · rw [e1] at e; injection e with e; have := ((HPR.out p h).lt b hb).2; omega
            · simp at h
              subst h
              rcases hob with e1 | e1
              · exact (HVB.out b hb).1 (e1 ▸ e).symm
              · rw [e1] at e; injection e with e; have := (HVB.out b hb).2.1; omega
          have HSNN : Hid (SrcAt A n c ds bs kj w0 w') := by
            obtain ⟨s, ho⟩ := HSR.out.own
            have h1 := HLT.out
            have h2 := HNB.out
            exact ⟨HSR.out.sl, HSR.out.by_, HSR.out.below.trans (hb'.mono (by have := HSR.out.base; omega)), HSR.out.base, s, ho.below hb' (by omega)⟩
          have HDNN : Hid (DrawnA N (k + 1) ((ps ++ [(⟨nameA k, BA, m, cc, o, 10 * (qq : Int)⟩ : AssetR)]).map AssetR.val)) := by
            rw [Hid, List.map_append]
            exact HDR.out.add (m := 10 * (qq : Int)) hk4 HCD.out (by have := HJ.out; omega) ⟨by omega, by omega⟩
          have HZNN : Hid (nb + 2 ≤ w'.heap.size) := by have h1 := hb'.size; have h2 := HXL.out; have h3 := HZ2.out; rw [Hid]; omega
          clear hown' hb' hkp' hob x0 x1 x2 dx lx
          go_wp2
          go_roundg (4 - (k + 1))
          case measure => have := Hgk.out; omega
          case rel => exact ⟨k + 1, kj, v', _, by omega, rfl, by go_num, rfl, by have h1 := HKK.out; have h2 := HKJ.out; have h3 := HJ.out; omega, HDNN.out, HSNN.out, HNNN.out, HONN.out, HPNN.out, HZNN.out, HANN.out⟩

end Go.Proofs.Ythlgfmdlecdchaa
