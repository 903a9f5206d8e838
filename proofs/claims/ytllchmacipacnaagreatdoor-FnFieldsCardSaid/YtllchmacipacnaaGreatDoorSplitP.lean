/- A text in pieces at a byte: the plain law. -/
import Derived.Test.YtllchmacipacnaaGreatDoorNumP
namespace Go.Proofs.YtllchmacipacnaaGreatDoor
open Go.RowKit

def joinE (c : UInt8) (ps : List ByteArray) : List UInt8 := ps.flatMap (fun p => p.data.toList ++ [c])
theorem joinE_snoc (c : UInt8) (ps : List ByteArray) (p : ByteArray) : joinE c (ps ++ [p]) = joinE c ps ++ (p.data.toList ++ [c]) := by unfold joinE; rw [List.flatMap_append]; simp
theorem joinE_cons (c : UInt8) (ps : List ByteArray) (p : ByteArray) : joinE c (p :: ps) = p.data.toList ++ c :: joinE c ps := by unfold joinE; simp
/-- The pieces of a text at a byte. -/
structure Pieces (c : UInt8) (l : List UInt8) (ps : List ByteArray) (last : ByteArray) : Prop where
  all : l = joinE c ps ++ last.data.toList
  no : ∀ p, p ∈ ps → c ∉ p.data.toList
  nolast : c ∉ last.data.toList
theorem first_uniq {c : UInt8} : ∀ {a b x y : List UInt8}, c ∉ a → c ∉ b → a ++ c :: x = b ++ c :: y → a = b ∧ x = y
  | [], [], _, _, _, _, h => by injection h with _ h; exact ⟨rfl, h⟩
  | [], d :: b, _, _, _, hb, h => by
    injection h with h _
    exact absurd (by rw [h]; exact List.mem_cons_self ..) hb
  | d :: a, [], _, _, ha, _, h => by
    injection h with h _
    exact absurd (by rw [← h]; exact List.mem_cons_self ..) ha
  | d :: a, e :: b, _, _, ha, hb, h => by
    injection h with h1 h2
    obtain ⟨h3, h4⟩ := first_uniq (fun m => ha (List.mem_cons_of_mem _ m)) (fun m => hb (List.mem_cons_of_mem _ m)) h2
    exact ⟨by rw [h1, h3], h4⟩
theorem Pieces.uniq {c : UInt8} : ∀ {l : List UInt8} {ps qs : List ByteArray} {x y : ByteArray}, Pieces c l ps x → Pieces c l qs y → ps = qs ∧ x = y
  | l, [], [], x, y, h, k => ⟨rfl, data_ext (h.all.symm.trans k.all)⟩
  | l, [], q :: qs, x, y, h, k => by
    have e := h.all.symm.trans k.all
    rw [joinE_cons] at e
    exact absurd (show c ∈ x.data.toList by rw [show x.data.toList = _ from e]; simp) h.nolast
  | l, p :: ps, [], x, y, h, k => by
    have e := k.all.symm.trans h.all
    rw [joinE_cons] at e
    exact absurd (show c ∈ y.data.toList by rw [show y.data.toList = _ from e]; simp) k.nolast
  | l, p :: ps, q :: qs, x, y, h, k => by
    have e := h.all.symm.trans k.all
    rw [joinE_cons, joinE_cons, List.append_assoc, List.append_assoc, List.cons_append, List.cons_append] at e
    obtain ⟨e1, e2⟩ := first_uniq (h.no p (List.mem_cons_self ..)) (k.no q (List.mem_cons_self ..)) e
    obtain ⟨f1, f2⟩ := Pieces.uniq (l := joinE c ps ++ x.data.toList) ⟨rfl, fun p hp => h.no p (List.mem_cons_of_mem _ hp), h.nolast⟩ ⟨e2, fun p hp => k.no p (List.mem_cons_of_mem _ hp), k.nolast⟩
    exact ⟨by rw [data_ext e1, f1], f2⟩
/-- A text of two pieces. -/
theorem Pieces.two {c : UInt8} {l : List UInt8} {ps : List ByteArray} {x a b : ByteArray} (h : Pieces c l ps x) (hl : l = a.data.toList ++ c :: b.data.toList) (ha : c ∉ a.data.toList) (hb : c ∉ b.data.toList) : ps = [a] ∧ x = b :=
  h.uniq (qs := [a]) ⟨by rw [joinE_cons, hl]; simp [joinE], fun p hp => by rw [List.mem_singleton.1 hp]; exact ha, hb⟩
theorem extract_list (s : ByteArray) (a b : Nat) : (s.extract a b).data.toList = (s.data.toList.take b).drop a := by
  rw [ByteArray.data_extract, Array.toList_extract, List.extract_eq_take_drop, List.drop_take]
/-- What is known in the middle of the splitting: k bytes are read, the piece under way begins at f. -/
structure SplitSt (c : UInt8) (l : List UInt8) (k f : Nat) (ps : List ByteArray) : Prop where
  fk : f ≤ k
  pre : l.take f = joinE c ps
  no : ∀ p, p ∈ ps → c ∉ p.data.toList
  cur : c ∉ (l.take k).drop f
  len : ps.length ≤ k
theorem SplitSt.start (c : UInt8) (l : List UInt8) : SplitSt c l 0 0 [] := ⟨Nat.le_refl _, by simp [joinE], fun _ h => (by cases h), by simp, Nat.le_refl _⟩
theorem SplitSt.miss {c d : UInt8} {l : List UInt8} {k f : Nat} {ps : List ByteArray} (h : SplitSt c l k f ps) (hd : l[k]? = some d) (hne : d ≠ c) : SplitSt c l (k + 1) f ps := by
  obtain ⟨hk, he⟩ := List.getElem?_eq_some_iff.1 hd
  refine ⟨Nat.le_succ_of_le h.fk, h.pre, h.no, ?_, Nat.le_succ_of_le h.len⟩
  rw [List.take_succ_eq_append_getElem hk, List.drop_append_of_le_length (by rw [List.length_take]; have := h.fk; omega), he]
  intro hm
  rcases List.mem_append.1 hm with h1 | h1
  · exact h.cur h1
  · exact hne (List.mem_singleton.1 h1).symm
theorem SplitSt.hit {c : UInt8} {s : ByteArray} {k f : Nat} {ps : List ByteArray} (h : SplitSt c s.data.toList k f ps) (hd : s.data.toList[k]? = some c) : SplitSt c s.data.toList (k + 1) (k + 1) (ps ++ [s.extract f k]) := by
  obtain ⟨hk, he⟩ := List.getElem?_eq_some_iff.1 hd
  refine ⟨Nat.le_refl _, ?_, ?_, by rw [List.drop_of_length_le (by rw [List.length_take]; omega)]; simp, by rw [List.length_append, List.length_singleton]; have := h.len; omega⟩
  · rw [joinE_snoc, ← h.pre, extract_list, List.take_succ_eq_append_getElem hk, he, ← List.append_assoc]
    congr 1
    have e := List.take_append_drop f (s.data.toList.take k)
    rw [List.take_take, Nat.min_eq_left h.fk] at e
    exact e.symm
  · intro p hp
    rcases List.mem_append.1 hp with h1 | h1
    · exact h.no p h1
    · rw [List.mem_singleton.1 h1, extract_list]; exact h.cur
theorem SplitSt.done {c : UInt8} {s : ByteArray} {f : Nat} {ps : List ByteArray} (h : SplitSt c s.data.toList s.size f ps) : Pieces c s.data.toList ps (s.extract f s.size) := by
  have hl : s.data.toList.length = s.size := by rw [Array.length_toList]; rfl
  have ht : s.data.toList.take s.size = s.data.toList := List.take_of_length_le (by omega)
  have hc := h.cur
  rw [ht] at hc
  refine ⟨?_, h.no, by rw [extract_list, ht]; exact hc⟩
  rw [extract_list, ht, ← h.pre, List.take_append_drop]

end Go.Proofs.YtllchmacipacnaaGreatDoor
