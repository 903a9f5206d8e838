/- What a text reads as, as a list of numbers: the plain law. -/
import Derived.Test.YtllchmacipacnaaGreatDoorListP
import Derived.Test.YtllchmacipacnaaGreatDoorSplitP
import Derived.Lib.SplitLaws
namespace Go.Proofs.YtllchmacipacnaaGreatDoor
open Go.RowKit

theorem itoa_mem {n : Int} {c : UInt8} (h : c ∈ Lib.itoa n) : c = 45 ∨ 48 ≤ c.toNat ∧ c.toNat ≤ 57 := by
  unfold Lib.itoa at h
  split at h
  · rcases List.mem_cons.1 h with h | h
    · exact .inl h
    · exact .inr (digit_dec c h)
  · exact .inr (digit_dec c h)
theorem itoa_no44 (n : Int) : (44 : UInt8) ∉ Lib.itoa n := fun h => by
  rcases itoa_mem h with h | h
  · exact absurd h (by decide)
  · exact absurd h.1 (by decide)
theorem itoa_ne45 (n : Int) : Lib.itoa n ≠ [45] := by
  obtain ⟨c, r, he, h1, _⟩ := decDigits_head n.natAbs
  unfold Lib.itoa
  split
  · rw [he]; intro h; injection h with _ h; cases h
  · rename_i hn
    rw [show n.toNat = n.natAbs by omega, he]
    intro h
    injection h with h _
    rw [h] at h1
    exact absurd h1 (by decide)
theorem joinE_text : ∀ (ys : List Int) (z : Int), joinE 44 (ys.map dec) ++ Lib.itoa z = Lib.join ((ys ++ [z]).map Lib.itoa) [44]
  | [], z => by simp [joinE, Lib.join_one]
  | y :: ys, z => by
    have ih := joinE_text ys z
    rw [List.map_cons, joinE_cons, List.append_assoc, List.cons_append, ih, List.cons_append, List.map_cons, dec_list]
    cases h : (ys ++ [z]).map Lib.itoa with
    | nil => simp at h
    | cons a r => rw [Lib.join_cons, Lib.join_cons]; simp [Lib.joinTail]
theorem pieces_list (ys : List Int) (z : Int) : Pieces 44 (accText (ys ++ [z])).data.toList (ys.map dec) (dec z) :=
  ⟨by rw [dec_list]; exact (joinE_text ys z).symm, fun p hp => by
    obtain ⟨y, _, rfl⟩ := List.mem_map.1 hp
    rw [dec_list]; exact itoa_no44 y, by rw [dec_list]; exact itoa_no44 z⟩
theorem text_of_pieces {s : ByteArray} {ps : List ByteArray} {last : ByteArray} {xs : List Int} (h : Pieces 44 s.data.toList ps last) (he : ps ++ [last] = xs.map dec) : xs ≠ [] ∧ s = textList xs := by
  have hne : xs ≠ [] := fun e => by rw [e] at he; simp at he
  refine ⟨hne, ?_⟩
  rw [textList, if_neg hne]
  rcases List.eq_nil_or_concat xs with e | ⟨ys, z, e⟩
  · exact absurd e hne
  · rw [List.concat_eq_append] at e
    subst e
    rw [List.map_append, List.map_cons, List.map_nil] at he
    obtain ⟨h1, h2⟩ := List.append_inj' he rfl
    injection h2 with h2 _
    refine data_ext ?_
    rw [h.all, h1, h2, dec_list]
    exact joinE_text ys z
theorem pieces_text {xs : List Int} (hne : xs ≠ []) {s : ByteArray} (hs : s = textList xs) {ps : List ByteArray} {last : ByteArray} (h : Pieces 44 s.data.toList ps last) : ps ++ [last] = xs.map dec := by
  rw [textList, if_neg hne] at hs
  rcases List.eq_nil_or_concat xs with e | ⟨ys, z, e⟩
  · exact absurd e hne
  · rw [List.concat_eq_append] at e
    subst e
    rw [hs] at h
    obtain ⟨h1, h2⟩ := h.uniq (pieces_list ys z)
    rw [h1, h2, List.map_append, List.map_cons, List.map_nil]
def ValidList (xs : List Int) : Prop := xs.length ≤ 64 ∧ ∀ y, y ∈ xs → -1000000000000 ≤ y ∧ y ≤ 1000000000000
theorem ValidList.small {xs : List Int} (h : ValidList xs) {y : Int} (hy : y ∈ xs) : Small y := by have := h.2 y hy; unfold Small; omega
theorem map_dec_inj : ∀ {xs ys : List Int}, (∀ y, y ∈ xs → Small y) → (∀ y, y ∈ ys → Small y) → xs.map dec = ys.map dec → xs = ys
  | [], [], _, _, _ => rfl
  | [], _ :: _, _, _, h => by cases h
  | _ :: _, [], _, _, h => by cases h
  | x :: xs, y :: ys, hx, hy, h => by
    injection h with h1 h2
    rw [dec_inj (hx x (by simp)).i64 (hy y (by simp)).i64 h1, map_dec_inj (fun z hz => hx z (by simp [hz])) (fun z hz => hy z (by simp [hz])) h2]
theorem bar_list : (⟨#[45]⟩ : ByteArray).data.toList = [45] := rfl
theorem text_ne_bar {xs : List Int} (h : xs ≠ []) : textList xs ≠ ⟨#[45]⟩ := fun e => by
  have hp : Pieces 44 (⟨#[45]⟩ : ByteArray).data.toList [] ⟨#[45]⟩ := ⟨by simp [joinE], fun _ h => (by cases h), by decide⟩
  have := pieces_text h e.symm hp
  cases xs with
  | nil => exact h rfl
  | cons a r =>
    cases r with
    | nil =>
      simp at this
      have h1 := congrArg (·.data.toList) this
      rw [dec_list] at h1
      exact itoa_ne45 a h1.symm
    | cons b r => simp at this
/-- What a text reads as, as a list. -/
structure ReadsList (s : ByteArray) (r : Option (List Int)) : Prop where
  yes : ∀ xs, r = some xs → ValidList xs ∧ s = textList xs
  no : r = none → ∀ xs, ValidList xs → s ≠ textList xs
theorem textList_inj {xs ys : List Int} (hx : ValidList xs) (hy : ValidList ys) (h : textList xs = textList ys) : xs = ys := by
  by_cases e : xs = []
  · subst e
    by_cases e2 : ys = []
    · exact e2.symm
    · exact absurd h.symm (text_ne_bar e2)
  · by_cases e2 : ys = []
    · subst e2; exact absurd h (text_ne_bar e)
    · rcases List.eq_nil_or_concat xs with e3 | ⟨zs, z, e3⟩
      · exact absurd e3 e
      · rw [List.concat_eq_append] at e3
        have hp : Pieces 44 (textList xs).data.toList (zs.map dec) (dec z) := by rw [textList, if_neg e, e3]; exact pieces_list zs z
        have h1 := pieces_text e rfl hp
        have h2 := pieces_text e2 h hp
        exact map_dec_inj (fun y hy => hx.small hy) (fun y h => hy.small h) (h1.symm.trans h2)
theorem ReadsList.uniq {s : ByteArray} {r q : Option (List Int)} (h : ReadsList s r) (k : ReadsList s q) : r = q := by
  cases r with
  | none =>
    cases q with
    | none => rfl
    | some m => have := k.yes m rfl; exact absurd this.2 (h.no rfl m this.1)
  | some n =>
    have h1 := h.yes n rfl
    cases q with
    | none => exact absurd h1.2 (k.no rfl n h1.1)
    | some m =>
      have h2 := k.yes m rfl
      rw [textList_inj h1.1 h2.1 (h1.2.symm.trans h2.2)]
/-- The library's pieces are these pieces. -/
theorem splitB_pieces {c : UInt8} : ∀ (ps : List ByteArray) (k : Nat) (s last : ByteArray), Pieces c s.data.toList ps last → ps.length ≤ k → Lib.splitB ⟨#[c]⟩ 0 k s = ps ++ [last]
  | [], k, s, last, h, _ => by
    have hs : s = last := data_ext (by rw [h.all]; simp [joinE])
    subst hs
    exact Lib.splitB_miss _ _ _ _ (index_miss _ h.nolast)
  | p :: ps, 0, s, last, _, hk => by simp at hk
  | p :: ps, k + 1, s, last, h, hk => by
    have hl : s.data.toList = p.data.toList ++ c :: (joinE c ps ++ last.data.toList) := by rw [h.all, joinE_cons]; simp
    have hix : Lib.indexB s ⟨#[c]⟩ = ((p.size : Nat) : Int) := by
      show Lib.index s.data.toList [c] = _
      rw [hl, index_hit _ _ (h.no p (List.mem_cons_self ..)), Array.length_toList]
      rfl
    have hps : p.data.toList.length = p.size := by rw [Array.length_toList]; rfl
    rw [Lib.splitB_hit _ _ _ _ _ hix]
    have e1 : s.extract 0 (p.size + 0) = p := data_ext (by rw [extract_list, hl, Nat.add_zero, ← hps, List.take_left]; rfl)
    have e2 : Pieces c (s.extract (p.size + (⟨#[c]⟩ : ByteArray).size) s.size).data.toList ps last := by
      refine ⟨?_, fun q hq => h.no q (List.mem_cons_of_mem _ hq), h.nolast⟩
      have hz : s.data.toList.length = s.size := by rw [Array.length_toList]; rfl
      rw [extract_list, List.take_of_length_le (by omega), hl]
      show List.drop (p.size + 1) _ = _
      rw [← hps, ← List.drop_drop, List.drop_left]
      rfl
    rw [e1, splitB_pieces ps k _ last e2 (by simpa using hk)]
    rfl
theorem count_joinE {c : UInt8} : ∀ (ps : List ByteArray), (∀ p, p ∈ ps → c ∉ p.data.toList) → (joinE c ps).count c = ps.length
  | [], _ => rfl
  | p :: ps, h => by
    rw [joinE_cons, List.count_append, List.count_cons_self, count_joinE ps (fun q hq => h q (List.mem_cons_of_mem _ hq)), List.count_eq_zero.2 (h p (List.mem_cons_self ..)), List.length_cons]
    omega
theorem countB_pieces {c : UInt8} {s : ByteArray} {ps : List ByteArray} {last : ByteArray} (h : Pieces c s.data.toList ps last) : Lib.countB s ⟨#[c]⟩ = ps.length := by
  show Lib.count s.data.toList [c] = _
  rw [Lib.count_one, h.all, List.count_append, count_joinE ps h.no, List.count_eq_zero.2 h.nolast]
  rfl
theorem pieces_len {c : UInt8} {l : List UInt8} {ps : List ByteArray} {last : ByteArray} (h : Pieces c l ps last) : ps.length ≤ l.length := by
  have h1 : l.count c = ps.length := by rw [h.all, List.count_append, count_joinE ps h.no, List.count_eq_zero.2 h.nolast]; rfl
  rw [← h1]
  exact List.count_le_length

end Go.Proofs.YtllchmacipacnaaGreatDoor
