/- The text of a list of numbers: the plain law. -/
import Derived.Test.YtllchmacipacnaaGreatDoorDecP
import Derived.Test.YtllchmacipacnaaGreatDoorItoaP
import Derived.Lib.Join
namespace Go.Proofs.YtllchmacipacnaaGreatDoor
open Go.RowKit

theorem list_size (l : List UInt8) : (⟨l.toArray⟩ : ByteArray).size = l.length := by show l.toArray.size = _; simp
def accText (xs : List Int) : ByteArray := ⟨(Lib.join (xs.map Lib.itoa) [44]).toArray⟩
def textList (xs : List Int) : ByteArray := if xs = [] then ⟨#[45]⟩ else accText xs
theorem join_snoc (l : List (List UInt8)) (y sep : List UInt8) (h : l ≠ []) : Lib.join (l ++ [y]) sep = Lib.join l sep ++ sep ++ y := by
  cases l with
  | nil => exact absurd rfl h
  | cons a r =>
    rw [List.cons_append, Lib.join_cons, Lib.join_cons]
    simp [Lib.joinTail, List.append_assoc]
theorem accText_nil : accText [] = ⟨#[]⟩ := rfl
theorem accText_one (x : Int) : accText [x] = dec x := by
  unfold accText
  rw [List.map_cons, List.map_nil, Lib.join_one]
  rfl
theorem accText_snoc (l : List Int) (y : Int) (h : l ≠ []) : accText (l ++ [y]) = (accText l ++ ⟨#[44]⟩) ++ dec y := by
  refine data_ext ?_
  unfold accText
  rw [List.map_append, List.map_cons, List.map_nil, join_snoc _ _ _ (by simpa using h)]
  simp [dec_list, ByteArray.data_append]
theorem accText_size : ∀ (l : List Int), (∀ y, y ∈ l → I64 y) → (accText l).size ≤ 22 * l.length := by
  intro l
  have key : ∀ m : List Int, (∀ y, y ∈ m.reverse → I64 y) → (accText m.reverse).size ≤ 22 * m.length := by
    intro m
    induction m with
    | nil => intro _; exact Nat.zero_le _
    | cons c m ih =>
      intro h
      rw [List.reverse_cons] at h ⊢
      have hc := dec_size (h c (by simp))
      have hm := ih (fun y hy => h y (List.mem_append.2 (.inl hy)))
      by_cases he : m.reverse = []
      · rw [he, List.nil_append, accText_one, List.length_cons]
        omega
      · rw [accText_snoc _ _ he, ByteArray.size_append, ByteArray.size_append, List.length_cons]
        have : (⟨#[44]⟩ : ByteArray).size = 1 := rfl
        omega
  intro h
  have := key l.reverse (by rwa [List.reverse_reverse])
  rwa [List.reverse_reverse, List.length_reverse] at this
theorem join_decs (xs : List Int) : (⟨(Lib.join ((xs.map dec).map (·.data.toList)) [44]).toArray⟩ : ByteArray) = accText xs := by
  unfold accText
  rw [List.map_map]
  congr 4
theorem take_snocL {xs : List Int} {k : Nat} {x : Int} (h : xs[k]? = some x) : xs.take (k + 1) = xs.take k ++ [x] := by
  obtain ⟨hk, he⟩ := List.getElem?_eq_some_iff.1 h
  rw [List.take_succ_eq_append_getElem hk, he]
theorem textList_size {xs : List Int} (h : ∀ y, y ∈ xs → I64 y) : (textList xs).size ≤ 22 * xs.length + 1 := by
  unfold textList
  by_cases e : xs = []
  · rw [if_pos e]
    have : (⟨#[45]⟩ : ByteArray).size = 1 := rfl
    omega
  · rw [if_neg e]
    have := accText_size xs h
    omega

end Go.Proofs.YtllchmacipacnaaGreatDoor
