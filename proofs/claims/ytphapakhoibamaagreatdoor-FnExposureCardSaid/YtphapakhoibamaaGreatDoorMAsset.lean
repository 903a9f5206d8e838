/- When one asset is valid, in a seat with grids. The text of an asset: both sides, and the law FnExactAssetText. What a text reads as, as an asset: the plain law. ReadAsset: both sides. The law FnExactReadAsset. -/
import Derived.Test.YtphapakhoibamaaGreatDoorAssets
import Derived.Test.YtphapakhoibamaaGreatDoorBuriedP
import Derived.Test.YtphapakhoibamaaGreatDoorMText
import Derived.Deep.RegionHeld3
namespace Go.Proofs.YtphapakhoibamaaGreatDoor
open Go.RowKit

theorem assetFits_any (x : AssetR) (cells : Int) (w : World) (hin : x.In w) (hs : x.id.size ≤ 9223372036854775807) (hc0 : 0 ≤ cells) (hc1 : cells ≤ 9223372036854775807) :
    Calls Tryz.prog 40 #[.agg #[.string x.id, .slice x.spotsA x.spotsN x.spotsC, .int .i64 x.worth], .int .i64 cells] w (Ret (.bool (Asset.fitsB cells x.val)) w) := fits_any x cells w hin hs hc0 hc1

end Go.Proofs.YtphapakhoibamaaGreatDoor

namespace Go.Proofs.YtphapakhoibamaaGreatDoor
open Go.RowKit

def assetText (x : Asset) : ByteArray := (((x.id ++ ⟨#[32]⟩) ++ dec x.worth) ++ ⟨#[32]⟩) ++ textList x.spots
def assetTextA (x : Asset) : ByteArray := if x.fitsB 64 = true then assetText x else ⟨#[]⟩
theorem name_size {s : ByteArray} (h : isNameB s = true) : s.size ≤ 10 := by
  obtain ⟨_, h1, _⟩ := (nameL_iff _).1 (show nameL s.data.toList = true from h)
  rw [Array.length_toList] at h1
  exact h1
theorem textList_size {xs : List Int} (h : ∀ y, y ∈ xs → I64 y) : (textList xs).size ≤ 22 * xs.length + 1 := by
  unfold textList
  by_cases e : xs = []
  · rw [if_pos e]
    have : (⟨#[45]⟩ : ByteArray).size = 1 := rfl
    omega
  · rw [if_neg e]
    have := accText_size xs h
    omega
/-- What a valid asset's text wants to know. -/
structure AssetOk (x : Asset) : Prop where
  id : x.id.size ≤ 10
  len : x.spots.length ≤ 64
  in_ : ∀ y, y ∈ x.spots → -1000000000000 ≤ y ∧ y ≤ 1000000000000
  i64 : ∀ y, y ∈ x.spots → I64 y
  worth : I64 x.worth
theorem assetOk {x : Asset} (h : x.fitsB 64 = true) : AssetOk x := by
  have hn : isNameB x.id = true := by unfold Asset.fitsB at h; simp only [Bool.and_eq_true] at h; exact h.1.1.1
  obtain ⟨h0, hr, hb, hw⟩ := fitsB_parts h
  have hl := rises_len hr hb (by decide)
  exact ⟨name_size hn, by omega, fun y hy => by have := hb y hy; omega, fun y hy => by have := hb y hy; unfold I64; omega, by unfold I64; omega⟩
set_option maxRecDepth 100000 in
set_option maxHeartbeats 2000000 in
theorem implAssetText_any (x : AssetR) (w : World) (hin : x.In w) (hs : x.id.size ≤ 9223372036854775807) (ht : TabAt w.heap.size w) : Calls Tryz.prog 20 #[.agg #[.string x.id, .slice x.spotsA x.spotsN x.spotsC, .int .i64 x.worth]] w (Ret (.string (assetTextA x.val)) w) := by
  obtain ⟨w1, hw1⟩ : ∃ w1, w.alloc (.cells #[.string x.id, .slice x.spotsA x.spotsN x.spotsC, .int .i64 x.worth] 45) = w1 := ⟨_, rfl⟩
  obtain ⟨X, hX⟩ : ∃ X, w.heap.size = X := ⟨_, rfl⟩
  have hb1 : Below w.heap.size w w1 := by rw [← hw1]; exact (Below.refl _ _).alloc (Nat.le_refl _) _
  have HO1 : Hid (Own w1 X 45 #[.string x.id, .slice x.spotsA x.spotsN x.spotsC, .int .i64 x.worth]) := by rw [Hid, ← hw1, ← hX]; exact Own.new _ _ _
  have HB1 := Lib.hid hb1
  have HT := Lib.hid (ht.grow hb1)
  have HI1 := Lib.hid (hin.below hb1)
  have y0 := HO1.out.cell 0
  have y1 := HO1.out.cell 1
  have y2 := HO1.out.cell 2
  have ly := HO1.out.lt
  simp at y0 y1 y2
  clear ht hb1 hin
  cases ho : x.val.fitsB 64
  · have HA : Hid (assetTextA x.val = ⟨#[]⟩) := by rw [Hid]; unfold assetTextA; simp [ho]
    go_enter Tryz.func20, Tryz.ntmps20
    go_wp2_with fail
    refine (assetFits_any x 64 _ HI1.out hs (by decide) (by decide)).mono ?_
    rintro e w2 ⟨rfl, hb2⟩
    rw [ho]
    have HB2 := Lib.hid (HB1.out.trans (hb2.mono HB1.out.size))
    clear hb2 y0 y1 y2 ly hw1 ho
    go_wp2
    go_ret
    exact Ret.mk (by rw [HA.out]; rfl) HB2.out
  have HA : Hid (assetTextA x.val = assetText x.val) := by rw [Hid]; unfold assetTextA; simp [ho]
  have HOK := Lib.hid (assetOk ho)
  have hz0 : x.id.size ≤ 10 := HOK.out.id
  have hz1 := dec_size HOK.out.worth
  have hz2 := textList_size HOK.out.i64
  have hz3 := HOK.out.len
  have HLN := Lib.hid HI1.out.1.len
  have hz4 : x.spotsN ≤ 64 := by rw [← HLN.out]; exact hz3
  have hz5 : (textList x.spots).size ≤ 2000 := by
    have e : x.val.spots = x.spots := rfl
    rw [e] at hz2 hz3
    omega
  have hz6 : (dec x.worth).size ≤ 21 := hz1
  clear hz1 hz2 hz3
  go_enter Tryz.func20, Tryz.ntmps20
  go_wp2_with fail
  refine (assetFits_any x 64 _ HI1.out hs (by decide) (by decide)).mono ?_
  rintro e w2 ⟨rfl, hb2⟩
  rw [ho]
  have HB2 := Lib.hid (HB1.out.trans (hb2.mono HB1.out.size))
  have HO2 := Lib.hid (HO1.out.below' hb2)
  have HT2 := Lib.hid (HT.out.grow hb2)
  have HI2 := Lib.hid (HI1.out.below hb2)
  clear hb2 y0 y1 y2 ly hw1 ho
  have y0 := HO2.out.cell 0
  have y1 := HO2.out.cell 1
  have y2 := HO2.out.cell 2
  have ly := HO2.out.lt
  simp at y0 y1 y2
  have hsub := fun (g : Sub w2) b o (h : b < w2.heap.size) => g.cell b o h
  go_wp2_with fail
  refine wp_region_sub (by kernel_rfl) (by kernel_rfl) ?_
  repeat (go_big_quiet_step (first | exact Calls.sub_of (implDecimal_any _ _ HOK.out.worth (HT2.out.grow (Sub.below _))) | exact Calls.sub_of (implListText_any _ _ _ _ _ (HI2.out.1.below (Sub.below _)) hz4 HOK.out.in_ (HT2.out.grow (Sub.below _)))))
  refine wpQuiet_nil ?_
  intro wg hg
  have HB3 := Lib.hid (HB2.out.trans (hg.mono HB2.out.size))
  clear hg hsub y0 y1 y2 ly
  go_wp2
  go_ret
  exact Ret.mk (by rw [HA.out]; rfl) HB3.out

end Go.Proofs.YtphapakhoibamaaGreatDoor

namespace Go.Proofs.YtphapakhoibamaaGreatDoor
open Go.RowKit

theorem name_no32 {s : ByteArray} (h : isNameB s = true) : (32 : UInt8) ∉ s.data.toList := fun hm => by
  obtain ⟨_, _, _, h3⟩ := (nameL_iff _).1 (show nameL s.data.toList = true from h)
  obtain ⟨k, hk, he⟩ := List.getElem_of_mem hm
  have := h3 k hk
  rw [he] at this
  exact absurd this (by decide)
theorem itoa_no32 (n : Int) : (32 : UInt8) ∉ Lib.itoa n := fun h => by
  rcases itoa_mem h with h | h
  · exact absurd h (by decide)
  · exact absurd h.1 (by decide)
theorem joinE_no32 : ∀ (ys : List Int), (32 : UInt8) ∉ joinE 44 (ys.map dec)
  | [] => by simp [joinE]
  | y :: ys => fun h => by
    rw [List.map_cons, joinE_cons, dec_list] at h
    rcases List.mem_append.1 h with h | h
    · exact itoa_no32 y h
    · rcases List.mem_cons.1 h with h | h
      · exact absurd h (by decide)
      · exact joinE_no32 ys h
theorem text_no32 (xs : List Int) : (32 : UInt8) ∉ (textList xs).data.toList := fun h => by
  rw [textList] at h
  split at h
  · revert h; decide
  · rename_i hne
    rcases List.eq_nil_or_concat xs with e | ⟨ys, z, e⟩
    · exact hne e
    · rw [List.concat_eq_append] at e
      subst e
      rw [(pieces_list ys z).all, dec_list] at h
      rcases List.mem_append.1 h with h | h
      · exact joinE_no32 ys h
      · exact itoa_no32 z h
theorem assetText_list (x : Asset) : (assetText x).data.toList = joinE 32 [x.id, dec x.worth] ++ (textList x.spots).data.toList := by
  unfold assetText joinE
  simp [ByteArray.data_append]
theorem pieces_asset {x : Asset} (h : x.fitsB 64 = true) : Pieces 32 (assetText x).data.toList [x.id, dec x.worth] (textList x.spots) := by
  have hn : isNameB x.id = true := by unfold Asset.fitsB at h; simp only [Bool.and_eq_true] at h; exact h.1.1.1
  refine ⟨assetText_list x, fun p hp => ?_, text_no32 _⟩
  rcases List.mem_cons.1 hp with rfl | hp
  · exact name_no32 hn
  · rw [List.mem_singleton.1 hp, dec_list]; exact itoa_no32 _
theorem fits_valid {x : Asset} (h : x.fitsB 64 = true) : ValidList x.spots := ⟨(assetOk h).len, (assetOk h).in_⟩
theorem fits_small {x : Asset} (h : x.fitsB 64 = true) : Small x.worth := by obtain ⟨_, _, _, hw⟩ := fitsB_parts h; unfold Small; omega
/-- What a text reads as, as an asset. -/
structure ReadsAsset (s : ByteArray) (r : Option Asset) : Prop where
  yes : ∀ x, r = some x → x.fitsB 64 = true ∧ s = assetText x
  no : r = none → ∀ x : Asset, x.fitsB 64 = true → s ≠ assetText x
theorem assetText_inj {x y : Asset} (hx : x.fitsB 64 = true) (hy : y.fitsB 64 = true) (h : assetText x = assetText y) : x = y := by
  have p := pieces_asset hx
  rw [h] at p
  obtain ⟨h1, h2⟩ := p.uniq (pieces_asset hy)
  injection h1 with e1 h1
  injection h1 with e2 _
  have e3 := textList_inj (fits_valid hx) (fits_valid hy) h2
  have e4 := dec_inj (fits_small hx).i64 (fits_small hy).i64 e2
  cases x; cases y
  simp only at e1 e3 e4
  subst e1 e3 e4
  rfl
theorem ReadsAsset.uniq {s : ByteArray} {r q : Option Asset} (h : ReadsAsset s r) (k : ReadsAsset s q) : r = q := by
  cases r with
  | none =>
    cases q with
    | none => rfl
    | some m => have := k.yes m rfl; exact absurd this.2 (h.no rfl m this.1)
  | some n =>
    have h1 := h.yes n rfl
    cases q with
    | none => exact absurd h1.2 (k.no rfl n h1.1)
    | some m =>
      have h2 := k.yes m rfl
      rw [assetText_inj h1.1 h2.1 (h1.2.symm.trans h2.2)]
section
variable {s : ByteArray} {P : List ByteArray} (hf : ∀ x : Asset, x.fitsB 64 = true → s = assetText x → P = [x.id, dec x.worth, textList x.spots])
include hf
theorem noAsset_len (h : P.length ≠ 3) : ReadsAsset s none := ⟨fun _ e => (by cases e), fun _ x hx he => by rw [hf x hx he] at h; exact h rfl⟩
theorem noAsset_num {a b c : ByteArray} (hP : P = [a, b, c]) (h : ReadsDec b none) : ReadsAsset s none := ⟨fun _ e => (by cases e), fun _ x hx he => by
  have := (hP.symm.trans (hf x hx he))
  injection this with _ this
  injection this with h1 _
  exact h.no rfl _ (fits_small hx) h1⟩
theorem noAsset_list {a b c : ByteArray} (hP : P = [a, b, c]) (h : ReadsList c none) : ReadsAsset s none := ⟨fun _ e => (by cases e), fun _ x hx he => by
  have := (hP.symm.trans (hf x hx he))
  injection this with _ this
  injection this with _ this
  injection this with h1 _
  exact h.no rfl _ (fits_valid hx) h1⟩
theorem noAsset_bad {a b c : ByteArray} {q : Int} {xs : List Int} (hP : P = [a, b, c]) (h1 : ReadsDec b (some q)) (h2 : ReadsList c (some xs)) (h : (⟨a, xs, q⟩ : Asset).fitsB 64 = true → s ≠ assetText ⟨a, xs, q⟩) : ReadsAsset s none := ⟨fun _ e => (by cases e), fun _ x hx he => by
  have := (hP.symm.trans (hf x hx he))
  injection this with e1 this
  injection this with e2 this
  injection this with e3 _
  have f1 := h1.yes q rfl
  have f2 := h2.yes xs rfl
  have g1 := dec_inj f1.1.i64 (fits_small hx).i64 (f1.2.symm.trans e2)
  have g2 := textList_inj f2.1 (fits_valid hx) (f2.2.symm.trans e3)
  cases x
  simp only at e1 g1 g2
  subst e1 g1 g2
  exact h hx he⟩
end
theorem ReadsAsset.ok {s : ByteArray} {x : Asset} (h : x.fitsB 64 = true) (he : s = assetText x) : ReadsAsset s (some x) := ⟨fun _ e => by injection e with e; subst e; exact ⟨h, he⟩, fun e => (by cases e)⟩
theorem asset_of_pieces {s a b c : ByteArray} {q : Int} {xs : List Int} (h : Pieces 32 s.data.toList [a, b] c) (h1 : ReadsDec b (some q)) (h2 : ReadsList c (some xs)) : s = assetText ⟨a, xs, q⟩ := by
  refine data_ext ?_
  rw [h.all, assetText_list, (h1.yes q rfl).2, (h2.yes xs rfl).2]
theorem piece_sizes {s : ByteArray} {c : UInt8} {ps : List ByteArray} {last : ByteArray} (hp : Pieces c s.data.toList ps last) : ∀ p, p ∈ ps ++ [last] → p.size ≤ s.size := fun p hm => by
  have e1 : ∀ q : ByteArray, q.data.toList.length = q.size := fun q => by rw [Array.length_toList]; rfl
  rw [← e1, ← e1, hp.all, List.length_append]
  rcases List.mem_append.1 hm with h | h
  · obtain ⟨xs, ys, rfl⟩ := List.append_of_mem h
    unfold joinE
    rw [List.flatMap_append, List.flatMap_cons]
    simp only [List.length_append]
    omega
  · rw [List.mem_singleton.1 h]; omega
/-- What ReadAsset hands back. -/
structure AssetOut (s : ByteArray) (w w' : World) (p : AssetR) (r : Option Asset) : Prop where
  reads : ReadsAsset s r
  val : p.val = r.getD ⟨⟨#[]⟩, [], 0⟩
  own : OwnsL w' w.heap.size 2 1 i64cells (.slice p.spotsA p.spotsN p.spotsC) p.spots
  below : Below w.heap.size w w'
def zeroAsset : AssetR := ⟨⟨#[]⟩, none, 0, 0, [], 0⟩
theorem AssetOut.none {s : ByteArray} {w w' : World} (h : ReadsAsset s none) (hb : Below w.heap.size w w') : AssetOut s w w' zeroAsset none := ⟨h, rfl, OwnsL.nil_ _ _ _ _ _, hb⟩
theorem put3 {T : TypeId} {R : Nat} {w v : World} {p q r : Value} (h : Own v R T #[p, q, r]) (a b c : Value) (hb : Below w.heap.size w v) (hR : w.heap.size ≤ R) : Own (((v.setCell ⟨R, 0, none⟩ a).setCell ⟨R, 1, none⟩ b).setCell ⟨R, 2, none⟩ c) R T #[a, b, c] ∧ Below w.heap.size w (((v.setCell ⟨R, 0, none⟩ a).setCell ⟨R, 1, none⟩ b).setCell ⟨R, 2, none⟩ c) ∧ Span R (R + 1) v (((v.setCell ⟨R, 0, none⟩ a).setCell ⟨R, 1, none⟩ b).setCell ⟨R, 2, none⟩ c) :=
  ⟨by simpa using (((h.put 0 a).put 1 b).put 2 c), ((hb.setCell (p := ⟨R, 0, none⟩) hR _).setCell (p := ⟨R, 1, none⟩) hR _).setCell (p := ⟨R, 2, none⟩) hR _, (((Span.refl _ _ _).setCell (p := ⟨R, 0, none⟩) (Nat.le_refl _) (Nat.lt_succ_self _) _).setCell (p := ⟨R, 1, none⟩) (Nat.le_refl _) (Nat.lt_succ_self _) _).setCell (p := ⟨R, 2, none⟩) (Nat.le_refl _) (Nat.lt_succ_self _) _⟩

end Go.Proofs.YtphapakhoibamaaGreatDoor

namespace Go.Proofs.YtphapakhoibamaaGreatDoor
open Go.RowKit

set_option maxRecDepth 100000 in
set_option maxHeartbeats 4000000 in
theorem implReadAsset_any (s : ByteArray) (w : World) (hs : s.size ≤ 1048576) (ht : LibAt w.heap.size w) : Calls Tryz.prog 19 #[.string s] w (fun e w' => ∃ (p : AssetR) (r : Option Asset), e = .returned (.tuple #[.agg #[.string p.id, .slice p.spotsA p.spotsN p.spotsC, .int .i64 p.worth], .bool r.isSome]) ∧ AssetOut s w w' p r) := by
  obtain ⟨R, hR⟩ : ∃ R, w.heap.size = R := ⟨_, rfl⟩
  obtain ⟨w0, hw0⟩ : ∃ w0, w.alloc (.cells #[.string ⟨#[]⟩, .slice none 0 0, .int .i64 0] 45) = w0 := ⟨_, rfl⟩
  have hb0 : Below w.heap.size w w0 := by rw [← hw0]; exact (Below.refl _ _).alloc (Nat.le_refl _) _
  have HR0 : Hid (Own w0 R 45 #[.string ⟨#[]⟩, .slice none 0 0, .int .i64 0]) := by rw [Hid, ← hw0, ← hR]; exact Own.new _ _ _
  have HB0 := Lib.hid hb0
  have HRW : Hid (w.heap.size ≤ R) := Nat.le_of_eq hR
  have HWR := Lib.hid hw0
  have HR := Lib.hid hR
  have HT0 := Lib.hid (ht.grow hb0)
  obtain ⟨m, hm⟩ := HT0.out.max w0 (Below.refl _ _)
  obtain ⟨P, hP⟩ : ∃ P, Lib.splitB ⟨#[32]⟩ 0 (Lib.countB s ⟨#[32]⟩) s = P := ⟨_, rfl⟩
  obtain ⟨wS, hw1⟩ : ∃ wS, w0.alloc (.cells (P.map Value.string).toArray 9) = wS := ⟨_, rfl⟩
  have hPl : P.length = Lib.countB s ⟨#[32]⟩ + 1 := by rw [← hP]; exact Lib.splitB_all _ (by decide) 0 _ s rfl
  have HC : Hid (Calls Tryz.prog 43 #[.string s, .string ⟨#[32]⟩] w0 fun e w' => e = .returned (.slice (some ⟨w0.heap.size, 0, none⟩) P.length P.length) ∧ w' = wS) := by
    have h := Tryz.strings_Split s ⟨#[32]⟩ m w0 (by omega) hm (by decide)
    rw [hP, hw1, ← hPl] at h
    exact h
  have hcb : Lib.countB s ⟨#[32]⟩ ≤ s.size := Lib.countB_le ⟨#[32]⟩ (by decide) s.size s (Nat.le_refl _)
  have hb1 : Below w0.heap.size w0 wS := by rw [← hw1]; exact (Below.refl _ _).alloc (Nat.le_refl _) _
  have hown : OwnsL wS w0.heap.size 9 1 strcells (.slice (some ⟨w0.heap.size, 0, none⟩) P.length P.length) P := by
    have h := own_cells w0 P P.length (Nat.le_refl _) (by simp [maxLen]; omega)
    rw [Lib.cellsOf_full, hw1] at h
    exact h
  have HSZ : Hid (∀ p, p ∈ P → p.size ≤ s.size) := fun p hp => by rw [← hP] at hp; exact splitB_size _ _ _ hp
  have HF : Hid (∀ x : Asset, x.fitsB 64 = true → s = assetText x → P = [x.id, dec x.worth, textList x.spots]) := fun x hx he => by
    have hp := pieces_asset hx
    rw [← he] at hp
    rw [← hP, countB_pieces hp, splitB_pieces _ _ _ _ hp (Nat.le_refl _)]
    rfl
  have HNIL : Hid (s = ⟨#[]⟩ → P.length ≠ 3) := fun he => by
    have hp : Pieces 32 s.data.toList [] s := ⟨by simp [joinE], fun _ h => (by cases h), by rw [he]; decide⟩
    rw [hPl, countB_pieces hp]
    decide
  have HT1 := Lib.hid (HT0.out.grow hb1)
  have HB1 := Lib.hid (HB0.out.trans (hb1.mono HB0.out.size))
  have HR1 := Lib.hid (HR0.out.below' hb1)
  have hsl := hown.sl strcells_len
  clear ht hm hP hw1 hPl hcb hb1 hown hb0 hw0 hR
  go_enter Tryz.func19, Tryz.ntmps19
  go_wp2_with fail
  rw [HWR.out, HR.out]
  refine HC.out.mono ?_
  rintro e w1 ⟨rfl, rfl⟩
  clear HC
  obtain ⟨L, hL⟩ : ∃ L, P.length = L := ⟨_, rfl⟩
  rw [hL] at hsl ⊢
  have HSL := Lib.hid hsl
  have hLm := hsl.le
  clear hsl
  by_cases h3 : L ≠ 3
  · have HNO := Lib.hid (noAsset_len HF.out (by rw [hL]; exact h3))
    have hne : ((L : Int) != 3) = true := by simp; omega
    clear h3 hL
    obtain ⟨uf, huf⟩ : ∃ uf, ((w1.setCell ⟨R, 0, none⟩ (.string ⟨#[]⟩)).setCell ⟨R, 1, none⟩ (.slice none 0 0)).setCell ⟨R, 2, none⟩ (.int .i64 0) = uf := ⟨_, rfl⟩
    have HOF := Lib.hid (put3 HR1.out (.string ⟨#[]⟩) (.slice none 0 0) (.int .i64 0) HB1.out HRW.out)
    rw [huf] at HOF
    have HUF := Lib.hid huf
    clear huf
    have z0 := HR1.out.cell 0
    have z1 := HR1.out.cell 1
    have z2 := HR1.out.cell 2
    have fz := HR1.out.frozen
    have lz := HR1.out.lt
    simp at z0 z1 z2
    go_wp2
    rw [HUF.out]
    have f0 := HOF.out.1.cell 0
    have f1 := HOF.out.1.cell 1
    have f2 := HOF.out.1.cell 2
    simp at f0 f1 f2
    exact bodyPost_ret (v := .tuple #[.agg #[.string ⟨#[]⟩, .slice none 0 0, .int .i64 0], .bool false]) (by simp [results, Tryz.results19, go_sem, f0, f1, f2]) rfl ⟨zeroAsset, none, rfl, AssetOut.none HNO.out HOF.out.2.1⟩
  obtain rfl : L = 3 := by omega
  obtain ⟨a, b, c, hPe⟩ : ∃ a b c, P = [a, b, c] := by
    cases P with
    | nil => simp at hL
    | cons a r => cases r with
      | nil => simp at hL
      | cons b r => cases r with
        | nil => simp at hL
        | cons c r => cases r with
          | nil => exact ⟨a, b, c, rfl⟩
          | cons _ _ => simp at hL
  subst hPe
  have HSA := Lib.hid (HSZ.out a (by simp))
  have HSB := Lib.hid (HSZ.out b (by simp))
  have HSC := Lib.hid (HSZ.out c (by simp))
  obtain ⟨b0, o0, y0, he, lb, hy0, x0⟩ := strs_at HSL.out (k := 0) (by decide)
  injection he with he
  injection he with he1 he2
  subst he1 he2
  obtain ⟨b1, o1, y1, he, _, hy1, x1⟩ := strs_at HSL.out (k := 1) (by decide)
  injection he with he
  injection he with he1 he2
  subst he1 he2
  obtain ⟨b2, o2, y2, he, _, hy2, x2⟩ := strs_at HSL.out (k := 2) (by decide)
  injection he with he
  injection he with he1 he2
  subst he1 he2
  simp at hy0 hy1 hy2
  subst hy0 hy1 hy2
  simp only [Nat.zero_add] at x0 x1 x2
  have HX0 := Lib.hid x0
  have HX1 := Lib.hid x1
  have HX2 := Lib.hid x2
  have HLB := Lib.hid lb
  clear hL h3
  go_wp2_with fail
  refine (readDecimal_any b w1 (by have := HSB.out; omega) HT1.out).mono ?_
  rintro e w2 ⟨r0, rfl, hr0, hb2⟩
  have HQ0 := Lib.hid hr0
  have HB2 := Lib.hid (HB1.out.trans (hb2.mono HB1.out.size))
  have HR2 := Lib.hid (HR1.out.below' hb2)
  have HT2 := Lib.hid (HT1.out.grow hb2)
  have x0' : w2.cell? ⟨w0.heap.size, 0, none⟩ = some (.string a) := (hb2.cell (p := ⟨w0.heap.size, 0, none⟩) HLB.out).trans HX0.out
  have x2' : w2.cell? ⟨w0.heap.size, 2, none⟩ = some (.string c) := (hb2.cell (p := ⟨w0.heap.size, 2, none⟩) HLB.out).trans HX2.out
  have lb' : w0.heap.size < w2.heap.size := Nat.lt_of_lt_of_le HLB.out hb2.size
  have HX0' := Lib.hid x0'
  have HLB' := Lib.hid lb'
  clear hr0 hb2 x0 x1 x2 lb x0'
  go_wp2_with fail
  refine (implReadList_any c w2 (by have := HSC.out; omega) HT2.out).mono ?_
  rintro e w3 ⟨v, r1, rfl, hl⟩
  have HLO := Lib.hid hl
  have HB3 := Lib.hid (HB2.out.trans (hl.below.mono HB2.out.size))
  have HR3 := Lib.hid (HR2.out.below' hl.below)
  have HT3 := Lib.hid (HT2.out.grow hl.below)
  have x0 : w3.cell? ⟨w0.heap.size, 0, none⟩ = some (.string a) := (hl.below.cell (p := ⟨w0.heap.size, 0, none⟩) HLB'.out).trans HX0'.out
  have lb : w0.heap.size < w3.heap.size := Nat.lt_of_lt_of_le HLB'.out hl.below.size
  have hRl : R < w2.heap.size := HR2.out.lt
  have HRL := Lib.hid hRl
  clear hl hRl x2' lb'
  obtain ⟨q0, hq0⟩ : ∃ q0, r0.getD 0 = q0 := ⟨_, rfl⟩
  rw [hq0]
  have HQG := Lib.hid hq0
  clear hq0
  obtain ⟨X, hX⟩ : ∃ X, w3.heap.size = X := ⟨_, rfl⟩
  have HXX := Lib.hid hX
  clear hX
  cases r1 with
  | none =>
    obtain rfl := HLO.out.nil rfl
    have HNO := Lib.hid (noAsset_list HF.out rfl HLO.out.reads)
    obtain ⟨w4, hw4⟩ : ∃ w4, w3.alloc (.cells #[.string a, .slice none 0 0, .int .i64 q0] 45) = w4 := ⟨_, rfl⟩
    have hb4 : Below w3.heap.size w3 w4 := by rw [← hw4]; exact (Below.refl _ _).alloc (Nat.le_refl _) _
    have HB4 := Lib.hid (HB3.out.trans (hb4.mono HB3.out.size))
    have HR4 := Lib.hid (HR3.out.below' hb4)
    have HW4 := Lib.hid hw4
    clear hb4 hw4
    cases r0
    all_goals
      go_upto_region 7 with fail
      rw [HW4.out, HXX.out]
      clear x0 lb
      obtain ⟨uf, huf⟩ : ∃ uf, ((w4.setCell ⟨R, 0, none⟩ (.string ⟨#[]⟩)).setCell ⟨R, 1, none⟩ (.slice none 0 0)).setCell ⟨R, 2, none⟩ (.int .i64 0) = uf := ⟨_, rfl⟩
      have HOF := Lib.hid (put3 HR4.out (.string ⟨#[]⟩) (.slice none 0 0) (.int .i64 0) HB4.out HRW.out)
      rw [huf] at HOF
      have HUF := Lib.hid huf
      clear huf
      have z0 := HR4.out.cell 0
      have z1 := HR4.out.cell 1
      have z2 := HR4.out.cell 2
      have fz := HR4.out.frozen
      have lz := HR4.out.lt
      simp at z0 z1 z2
      go_wp2
      rw [HUF.out]
      have f0 := HOF.out.1.cell 0
      have f1 := HOF.out.1.cell 1
      have f2 := HOF.out.1.cell 2
      simp at f0 f1 f2
      exact bodyPost_ret (v := .tuple #[.agg #[.string ⟨#[]⟩, .slice none 0 0, .int .i64 0], .bool false]) (by simp [results, Tryz.results19, go_sem, f0, f1, f2]) rfl ⟨zeroAsset, none, rfl, AssetOut.none HNO.out HOF.out.2.1⟩
  | some xs =>
    have hown := HLO.out.own xs rfl
    have hlr := HLO.out.reads
    have hlw := HLO.out.below.size
    clear HLO
    obtain ⟨A, cq, rfl, hnc, hcm, hsl⟩ := hown.slice (show ∀ x, (i64cells x).length = 1 from fun _ => rfl)
    obtain ⟨n, hn⟩ : ∃ n, xs.length = n := ⟨_, rfl⟩
    rw [hn] at hown hnc hsl ⊢
    obtain ⟨w4, hw4⟩ : ∃ w4, w3.alloc (.cells #[.string a, .slice A n cq, .int .i64 q0] 45) = w4 := ⟨_, rfl⟩
    have hb4 : Below w3.heap.size w3 w4 := by rw [← hw4]; exact (Below.refl _ _).alloc (Nat.le_refl _) _
    have HO4 : Hid (Own w4 X 45 #[.string a, .slice A n cq, .int .i64 q0]) := by rw [Hid, ← hw4, ← HXX.out]; exact Own.new _ _ _
    have HI4 : Hid ((⟨a, A, n, cq, xs, q0⟩ : AssetR).In w4) := ⟨hsl.below hb4, hnc, hcm⟩
    have HN4 := Lib.hid (hown.below' hb4)
    have HB4 := Lib.hid (HB3.out.trans (hb4.mono HB3.out.size))
    have HR4 := Lib.hid (HR3.out.below' hb4)
    have HT4 := Lib.hid (HT3.out.grow hb4)
    have HW4 := Lib.hid hw4
    have HLR := Lib.hid hlr
    have HWW : Hid (w.heap.size ≤ w2.heap.size) := HB2.out.size
    clear hown hlr hlw hb4 hw4 hsl hnc hcm hn
    cases r0 with
    | none =>
      have HNO := Lib.hid (noAsset_num HF.out rfl HQ0.out)
      go_upto_region 7 with fail
      rw [HW4.out, HXX.out]
      clear x0 lb
      obtain ⟨uf, huf⟩ : ∃ uf, ((w4.setCell ⟨R, 0, none⟩ (.string ⟨#[]⟩)).setCell ⟨R, 1, none⟩ (.slice none 0 0)).setCell ⟨R, 2, none⟩ (.int .i64 0) = uf := ⟨_, rfl⟩
      have HOF := Lib.hid (put3 HR4.out (.string ⟨#[]⟩) (.slice none 0 0) (.int .i64 0) HB4.out HRW.out)
      rw [huf] at HOF
      have HUF := Lib.hid huf
      clear huf
      have z0 := HR4.out.cell 0
      have z1 := HR4.out.cell 1
      have z2 := HR4.out.cell 2
      have fz := HR4.out.frozen
      have lz := HR4.out.lt
      simp at z0 z1 z2
      go_wp2
      rw [HUF.out]
      have f0 := HOF.out.1.cell 0
      have f1 := HOF.out.1.cell 1
      have f2 := HOF.out.1.cell 2
      simp at f0 f1 f2
      exact bodyPost_ret (v := .tuple #[.agg #[.string ⟨#[]⟩, .slice none 0 0, .int .i64 0], .bool false]) (by simp [results, Tryz.results19, go_sem, f0, f1, f2]) rfl ⟨zeroAsset, none, rfl, AssetOut.none HNO.out HOF.out.2.1⟩
    | some q =>
      obtain rfl : q = q0 := HQG.out
      have hsa : a.size ≤ 9223372036854775807 := by have := HSA.out; omega
      go_upto_region 7 with fail
      rw [HW4.out, HXX.out]
      clear x0 lb
      have y0 := HO4.out.cell 0
      have y1 := HO4.out.cell 1
      have y2 := HO4.out.cell 2
      have ly := HO4.out.lt
      simp at y0 y1 y2
      go_wp2_with fail
      refine (implAssetText_any (⟨a, A, n, cq, xs, q⟩ : AssetR) w4 HI4.out hsa HT4.out.tab).mono ?_
      rintro e w5 ⟨rfl, hb5⟩
      have HB5 := Lib.hid (HB4.out.trans (hb5.mono HB4.out.size))
      have HR5 := Lib.hid (HR4.out.below' hb5)
      have HO5 := Lib.hid (HO4.out.below' hb5)
      have HN5 := Lib.hid (HN4.out.below' hb5)
      clear hb5 y0 y1 y2 ly
      obtain ⟨tx, htx⟩ : ∃ tx, assetTextA (⟨a, A, n, cq, xs, q⟩ : AssetR).val = tx := ⟨_, rfl⟩
      rw [htx]
      by_cases hts : tx = s
      · subst hts
        have HYS : Hid (ReadsAsset tx (some (⟨a, A, n, cq, xs, q⟩ : AssetR).val)) := by
          unfold assetTextA at htx
          split at htx
          · rename_i hf; exact ReadsAsset.ok hf htx.symm
          · exact absurd rfl (HNIL.out htx.symm)
        have y0 := HO5.out.cell 0
        have y1 := HO5.out.cell 1
        have y2 := HO5.out.cell 2
        have ly := HO5.out.lt
        simp at y0 y1 y2
        clear htx
        obtain ⟨uf, huf⟩ : ∃ uf, ((w5.setCell ⟨R, 0, none⟩ (.string a)).setCell ⟨R, 1, none⟩ (.slice A n cq)).setCell ⟨R, 2, none⟩ (.int .i64 q) = uf := ⟨_, rfl⟩
        have HOF := Lib.hid (put3 HR5.out (.string a) (.slice A n cq) (.int .i64 q) HB5.out HRW.out)
        rw [huf] at HOF
        have HUF := Lib.hid huf
        clear huf
        have z0 := HR5.out.cell 0
        have z1 := HR5.out.cell 1
        have z2 := HR5.out.cell 2
        have fz := HR5.out.frozen
        have lz := HR5.out.lt
        simp at z0 z1 z2
        go_wp2
        rw [HUF.out]
        have f0 := HOF.out.1.cell 0
        have f1 := HOF.out.1.cell 1
        have f2 := HOF.out.1.cell 2
        simp at f0 f1 f2
        exact bodyPost_ret (v := .tuple #[.agg #[.string a, .slice A n cq, .int .i64 q], .bool true]) (by simp [results, Tryz.results19, go_sem, f0, f1, f2]) rfl ⟨(⟨a, A, n, cq, xs, q⟩ : AssetR), some (⟨a, A, n, cq, xs, q⟩ : AssetR).val, rfl, ⟨HYS.out, rfl, (HN5.out.span HOF.out.2.2 (fun k hk => .inr (by have := (HN5.out.lt k hk).1; have := HRL.out; omega))).rebase HWW.out, HOF.out.2.1⟩⟩
      · have hne : (tx.toList == s.toList) = false := by
          rw [beq_eq_false_iff_ne]; intro h; exact hts ((bytes_inj _ _).1 h)
        have HNO := Lib.hid (noAsset_bad HF.out rfl HQ0.out HLR.out (fun hf he => hts (by
          rw [← htx]; show assetTextA ⟨a, xs, q⟩ = s; rw [assetTextA, if_pos hf]; exact he.symm)))
        clear hts htx
        obtain ⟨uf, huf⟩ : ∃ uf, ((w5.setCell ⟨R, 0, none⟩ (.string ⟨#[]⟩)).setCell ⟨R, 1, none⟩ (.slice none 0 0)).setCell ⟨R, 2, none⟩ (.int .i64 0) = uf := ⟨_, rfl⟩
        have HOF := Lib.hid (put3 HR5.out (.string ⟨#[]⟩) (.slice none 0 0) (.int .i64 0) HB5.out HRW.out)
        rw [huf] at HOF
        have HUF := Lib.hid huf
        clear huf
        have z0 := HR5.out.cell 0
        have z1 := HR5.out.cell 1
        have z2 := HR5.out.cell 2
        have fz := HR5.out.frozen
        have lz := HR5.out.lt
        simp at z0 z1 z2
        go_wp2
        rw [HUF.out]
        have f0 := HOF.out.1.cell 0
        have f1 := HOF.out.1.cell 1
        have f2 := HOF.out.1.cell 2
        simp at f0 f1 f2
        exact bodyPost_ret (v := .tuple #[.agg #[.string ⟨#[]⟩, .slice none 0 0, .int .i64 0], .bool false]) (by simp [results, Tryz.results19, go_sem, f0, f1, f2]) rfl ⟨zeroAsset, none, rfl, AssetOut.none HNO.out HOF.out.2.1⟩

end Go.Proofs.YtphapakhoibamaaGreatDoor

namespace Go.Proofs.YtphapakhoibamaaGreatDoor
open Go.RowKit

theorem AssetOut.len {s : ByteArray} {w w' : World} {p : AssetR} {r : Option Asset} (h : AssetOut s w w' p r) : p.spots.length ≤ 64 := by
  have hv := h.val
  cases r with
  | none =>
    have : p.spots = [] := congrArg Asset.spots hv
    rw [this]; decide
  | some x =>
    have h1 : p.spots = x.spots := congrArg Asset.spots hv
    rw [h1]
    exact (assetOk (h.reads.yes x rfl).1).len
def MarkedA (v : Value) (w w' : World) : Prop := ∀ lo hi, (∀ k, v.ownBlock = some k → lo ≤ k ∧ k < hi) → Span lo hi w w'

end Go.Proofs.YtphapakhoibamaaGreatDoor
