/- What a text reads as, as an asset: the plain law. -/
import Derived.Test.YtgianbcplnciiaaDoorAssetText
import Derived.Test.YtgianbcplnciiaaDoorRList
namespace Go.Proofs.YtgianbcplnciiaaDoor
open Go.RowKit

theorem name_no32 {s : ByteArray} (h : isNameB s = true) : (32 : UInt8) ∉ s.data.toList := fun hm => by
  obtain ⟨_, _, _, h3⟩ := (nameL_iff _).1 (show nameL s.data.toList = true from h)
  obtain ⟨k, hk, he⟩ := List.getElem_of_mem hm
  have := h3 k hk
  rw [he] at this
  exact absurd this (by decide)
theorem itoa_no32 (n : Int) : (32 : UInt8) ∉ Lib.itoa n := fun h => by
  rcases itoa_mem h with h | h
  · exact absurd h (by decide)
  · exact absurd h.1 (by decide)
theorem joinE_no32 : ∀ (ys : List Int), (32 : UInt8) ∉ joinE 44 (ys.map dec)
  | [] => by simp [joinE]
  | y :: ys => fun h => by
    rw [List.map_cons, joinE_cons, dec_list] at h
    rcases List.mem_append.1 h with h | h
    · exact itoa_no32 y h
    · rcases List.mem_cons.1 h with h | h
      · exact absurd h (by decide)
      · exact joinE_no32 ys h
theorem text_no32 (xs : List Int) : (32 : UInt8) ∉ (textList xs).data.toList := fun h => by
  rw [textList] at h
  split at h
  · revert h; decide
  · rename_i hne
    rcases List.eq_nil_or_concat xs with e | ⟨ys, z, e⟩
    · exact hne e
    · rw [List.concat_eq_append] at e
      subst e
      rw [(pieces_list ys z).all, dec_list] at h
      rcases List.mem_append.1 h with h | h
      · exact joinE_no32 ys h
      · exact itoa_no32 z h
theorem assetText_list (x : Asset) : (assetText x).data.toList = joinE 32 [x.id, dec x.worth] ++ (textList x.spots).data.toList := by
  unfold assetText joinE
  simp [ByteArray.data_append]
theorem pieces_asset {x : Asset} (h : x.fitsB 64 = true) : Pieces 32 (assetText x).data.toList [x.id, dec x.worth] (textList x.spots) := by
  have hn : isNameB x.id = true := by unfold Asset.fitsB at h; simp only [Bool.and_eq_true] at h; exact h.1.1.1
  refine ⟨assetText_list x, fun p hp => ?_, text_no32 _⟩
  rcases List.mem_cons.1 hp with rfl | hp
  · exact name_no32 hn
  · rw [List.mem_singleton.1 hp, dec_list]; exact itoa_no32 _
theorem fits_valid {x : Asset} (h : x.fitsB 64 = true) : ValidList x.spots := ⟨(assetOk h).len, (assetOk h).in_⟩
theorem fits_small {x : Asset} (h : x.fitsB 64 = true) : Small x.worth := by obtain ⟨_, _, _, hw⟩ := fitsB_parts h; unfold Small; omega
/-- What a text reads as, as an asset. -/
structure ReadsAsset (s : ByteArray) (r : Option Asset) : Prop where
  yes : ∀ x, r = some x → x.fitsB 64 = true ∧ s = assetText x
  no : r = none → ∀ x : Asset, x.fitsB 64 = true → s ≠ assetText x
theorem assetText_inj {x y : Asset} (hx : x.fitsB 64 = true) (hy : y.fitsB 64 = true) (h : assetText x = assetText y) : x = y := by
  have p := pieces_asset hx
  rw [h] at p
  obtain ⟨h1, h2⟩ := p.uniq (pieces_asset hy)
  injection h1 with e1 h1
  injection h1 with e2 _
  have e3 := textList_inj (fits_valid hx) (fits_valid hy) h2
  have e4 := dec_inj (fits_small hx).i64 (fits_small hy).i64 e2
  cases x; cases y
  simp only at e1 e3 e4
  subst e1 e3 e4
  rfl
theorem ReadsAsset.uniq {s : ByteArray} {r q : Option Asset} (h : ReadsAsset s r) (k : ReadsAsset s q) : r = q := by
  cases r with
  | none =>
    cases q with
    | none => rfl
    | some m => have := k.yes m rfl; exact absurd this.2 (h.no rfl m this.1)
  | some n =>
    have h1 := h.yes n rfl
    cases q with
    | none => exact absurd h1.2 (k.no rfl n h1.1)
    | some m =>
      have h2 := k.yes m rfl
      rw [assetText_inj h1.1 h2.1 (h1.2.symm.trans h2.2)]
section
variable {s : ByteArray} {P : List ByteArray} (hf : ∀ x : Asset, x.fitsB 64 = true → s = assetText x → P = [x.id, dec x.worth, textList x.spots])
include hf
theorem noAsset_len (h : P.length ≠ 3) : ReadsAsset s none := ⟨fun _ e => (by cases e), fun _ x hx he => by rw [hf x hx he] at h; exact h rfl⟩
theorem noAsset_num {a b c : ByteArray} (hP : P = [a, b, c]) (h : ReadsDec b none) : ReadsAsset s none := ⟨fun _ e => (by cases e), fun _ x hx he => by
  have := (hP.symm.trans (hf x hx he))
  injection this with _ this
  injection this with h1 _
  exact h.no rfl _ (fits_small hx) h1⟩
theorem noAsset_list {a b c : ByteArray} (hP : P = [a, b, c]) (h : ReadsList c none) : ReadsAsset s none := ⟨fun _ e => (by cases e), fun _ x hx he => by
  have := (hP.symm.trans (hf x hx he))
  injection this with _ this
  injection this with _ this
  injection this with h1 _
  exact h.no rfl _ (fits_valid hx) h1⟩
theorem noAsset_bad {a b c : ByteArray} {q : Int} {xs : List Int} (hP : P = [a, b, c]) (h1 : ReadsDec b (some q)) (h2 : ReadsList c (some xs)) (h : (⟨a, xs, q⟩ : Asset).fitsB 64 = true → s ≠ assetText ⟨a, xs, q⟩) : ReadsAsset s none := ⟨fun _ e => (by cases e), fun _ x hx he => by
  have := (hP.symm.trans (hf x hx he))
  injection this with e1 this
  injection this with e2 this
  injection this with e3 _
  have f1 := h1.yes q rfl
  have f2 := h2.yes xs rfl
  have g1 := dec_inj f1.1.i64 (fits_small hx).i64 (f1.2.symm.trans e2)
  have g2 := textList_inj f2.1 (fits_valid hx) (f2.2.symm.trans e3)
  cases x
  simp only at e1 g1 g2
  subst e1 g1 g2
  exact h hx he⟩
end
theorem ReadsAsset.ok {s : ByteArray} {x : Asset} (h : x.fitsB 64 = true) (he : s = assetText x) : ReadsAsset s (some x) := ⟨fun _ e => by injection e with e; subst e; exact ⟨h, he⟩, fun e => (by cases e)⟩
theorem asset_of_pieces {s a b c : ByteArray} {q : Int} {xs : List Int} (h : Pieces 32 s.data.toList [a, b] c) (h1 : ReadsDec b (some q)) (h2 : ReadsList c (some xs)) : s = assetText ⟨a, xs, q⟩ := by
  refine data_ext ?_
  rw [h.all, assetText_list, (h1.yes q rfl).2, (h2.yes xs rfl).2]
theorem piece_sizes {s : ByteArray} {c : UInt8} {ps : List ByteArray} {last : ByteArray} (hp : Pieces c s.data.toList ps last) : ∀ p, p ∈ ps ++ [last] → p.size ≤ s.size := fun p hm => by
  have e1 : ∀ q : ByteArray, q.data.toList.length = q.size := fun q => by rw [Array.length_toList]; rfl
  rw [← e1, ← e1, hp.all, List.length_append]
  rcases List.mem_append.1 hm with h | h
  · obtain ⟨xs, ys, rfl⟩ := List.append_of_mem h
    unfold joinE
    rw [List.flatMap_append, List.flatMap_cons]
    simp only [List.length_append]
    omega
  · rw [List.mem_singleton.1 h]; omega
/-- What ReadAsset hands back. -/
structure AssetOut (s : ByteArray) (w w' : World) (p : AssetR) (r : Option Asset) : Prop where
  reads : ReadsAsset s r
  val : p.val = r.getD ⟨⟨#[]⟩, [], 0⟩
  own : OwnsL w' w.heap.size 2 1 i64cells (.slice p.spotsA p.spotsN p.spotsC) p.spots
  below : Below w.heap.size w w'
def zeroAsset : AssetR := ⟨⟨#[]⟩, none, 0, 0, [], 0⟩
theorem AssetOut.none {s : ByteArray} {w w' : World} (h : ReadsAsset s none) (hb : Below w.heap.size w w') : AssetOut s w w' zeroAsset none := ⟨h, rfl, OwnsL.nil_ _ _ _ _ _, hb⟩
theorem put3 {T : TypeId} {R : Nat} {w v : World} {p q r : Value} (h : Own v R T #[p, q, r]) (a b c : Value) (hb : Below w.heap.size w v) (hR : w.heap.size ≤ R) : Own (((v.setCell ⟨R, 0, none⟩ a).setCell ⟨R, 1, none⟩ b).setCell ⟨R, 2, none⟩ c) R T #[a, b, c] ∧ Below w.heap.size w (((v.setCell ⟨R, 0, none⟩ a).setCell ⟨R, 1, none⟩ b).setCell ⟨R, 2, none⟩ c) ∧ Span R (R + 1) v (((v.setCell ⟨R, 0, none⟩ a).setCell ⟨R, 1, none⟩ b).setCell ⟨R, 2, none⟩ c) :=
  ⟨by simpa using (((h.put 0 a).put 1 b).put 2 c), ((hb.setCell (p := ⟨R, 0, none⟩) hR _).setCell (p := ⟨R, 1, none⟩) hR _).setCell (p := ⟨R, 2, none⟩) hR _, (((Span.refl _ _ _).setCell (p := ⟨R, 0, none⟩) (Nat.le_refl _) (Nat.lt_succ_self _) _).setCell (p := ⟨R, 1, none⟩) (Nat.le_refl _) (Nat.lt_succ_self _) _).setCell (p := ⟨R, 2, none⟩) (Nat.le_refl _) (Nat.lt_succ_self _) _⟩

end Go.Proofs.YtgianbcplnciiaaDoor
