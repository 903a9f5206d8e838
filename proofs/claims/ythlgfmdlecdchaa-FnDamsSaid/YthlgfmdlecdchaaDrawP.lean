/- The assets that the laws of the runout draw, in plain Lean. -/
import Derived.Test.YthlgfmdlecdchaaBase
import Derived.Test.YthlgfmdlecdchaaMem
import Derived.Test.YthlgfmdlecdchaaTInt64
import Derived.Test.YthlgfmdlecdchaaTAsset
import Derived.Test.YthlgfmdlecdchaaAssets
import Derived.Test.YthlgfmdlecdchaaPutP
import Derived.Test.YthlgfmdlecdchaaWithin
namespace Go.Proofs.Ythlgfmdlecdchaa
open Go.RowKit

def roadB : ByteArray := { data := #[114, 111, 97, 100] }
def roofB : ByteArray := { data := #[114, 111, 111, 102] }
def ropeB : ByteArray := { data := #[114, 111, 112, 101] }
def shedB : ByteArray := { data := #[115, 104, 101, 100] }
def nameA : Nat → ByteArray
  | 0 => roadB
  | 1 => roofB
  | 2 => ropeB
  | _ => shedB
theorem nameA_good (k : Nat) : isNameB (nameA k) = true := by
  match k with
  | 0 => exact (show isNameB roadB = true by decide +kernel)
  | 1 => exact (show isNameB roofB = true by decide +kernel)
  | 2 => exact (show isNameB ropeB = true by decide +kernel)
  | _ + 3 => exact (show isNameB shedB = true by decide +kernel)
theorem nameA_less : ∀ k, k < 4 → ∀ j, j < k → Go.Op.bytesLess (nameA j).toList (nameA k).toList = true := by decide +kernel
theorem nameA_rel {j k : Nat} (hjk : j < k) (hk : k < 4) (s t : List Int) (u v : Int) : Asset.rel ⟨nameA j, s, u⟩ ⟨nameA k, t, v⟩ = true := nameA_less k hk j hjk
/-- The cells that are drawn for one asset. -/
structure CellsD (N j : Nat) (o : List Int) : Prop where
  pw : o.Pairwise (· < ·)
  bd : ∀ y ∈ o, 0 ≤ y ∧ y ≤ (N : Int) - 1
  len : o.length ≤ j
  pos : 0 < j → 0 < o.length
theorem CellsD.nil (N : Nat) : CellsD N 0 [] := ⟨List.Pairwise.nil, by simp, by simp, fun h => absurd h (by omega)⟩
theorem CellsD.put {N j : Nat} {o o' : List Int} {x : Int} (h : CellsD N j o) (hx : 0 ≤ x ∧ x ≤ (N : Int) - 1) (hp : Put1 o x o') : CellsD N (j + 1) o' :=
  ⟨hp.pw, fun y hy => by
    rcases hp.mem y hy with e | hm
    · rw [e]; exact hx
    · exact h.bd y hm, by have := hp.len; have := h.len; omega, fun _ => hp.pos⟩
/-- The assets that are drawn ahead of name k. -/
structure DrawnA (N k : Nat) (xs : List Asset) : Prop where
  good : ∀ n, GoodTo (Asset.fitsB (N : Int)) Asset.rel xs n
  before : ∀ x ∈ xs, ∃ j : Nat, j < k ∧ x.id = nameA j
  len : xs.length ≤ k
theorem DrawnA.nil (N : Nat) : DrawnA N 0 [] := ⟨fun n k x _ h => by simp at h, by simp, by simp⟩
theorem DrawnA.skip {N k : Nat} {xs : List Asset} (h : DrawnA N k xs) : DrawnA N (k + 1) xs :=
  ⟨h.good, fun x hx => by obtain ⟨j, h1, h2⟩ := h.before x hx; exact ⟨j, by omega, h2⟩, by have := h.len; omega⟩
theorem goodA_snoc {α : Type} {one : α → Bool} {rel : α → α → Bool} {L : List α} {x : α} (h : ∀ n, GoodTo one rel L n) (h1 : one x = true) (h2 : ∀ y ∈ L, rel y x = true) : ∀ n, GoodTo one rel (L ++ [x]) n := by
  intro n k y hk hy
  rcases Nat.lt_trichotomy k L.length with hlt | heq | hgt
  · rw [List.getElem?_append_left hlt] at hy
    have := h n k y hk hy
    refine ⟨this.1, fun q hq hqy => ?_⟩
    rw [List.getElem?_append_left (by omega)] at hqy
    exact this.2 q hq hqy
  · subst heq
    rw [List.getElem?_append_right (Nat.le_refl _), Nat.sub_self] at hy
    injection hy with hy
    subst hy
    refine ⟨h1, fun q hq hqy => ?_⟩
    rw [List.getElem?_append_left (by omega)] at hqy
    exact h2 q (List.mem_of_getElem? hqy)
  · rw [List.getElem?_eq_none (by simp; omega)] at hy
    cases hy
theorem DrawnA.add {N k j : Nat} {xs : List Asset} {o : List Int} {m : Int} (h : DrawnA N k xs) (hk : k < 4) (hc : CellsD N j o) (hj : 0 < j) (hm : 0 ≤ m ∧ m ≤ 1000000) : DrawnA N (k + 1) (xs ++ [⟨nameA k, o, m⟩]) := by
  refine ⟨goodA_snoc h.good ?_ (fun y hy => ?_), fun x hx => ?_, by have := h.len; simp; omega⟩
  · unfold Asset.fitsB
    rw [cellsB_eq, nameA_good, risesB_of hc.pw, inB_iff.2 hm, decide_eq_true (hc.pos hj), List.all_eq_true.2 (fun y hy => inB_iff.2 (hc.bd y hy))]
    rfl
  · obtain ⟨i, hi, e⟩ := h.before y hy
    obtain ⟨yi, ys, yw⟩ := y
    simp only at e
    subst e
    exact nameA_rel hi hk _ _ _ _
  · rcases List.mem_append.1 hx with h' | h'
    · obtain ⟨i, hi, e⟩ := h.before x h'
      exact ⟨i, by omega, e⟩
    · simp at h'; subst h'; exact ⟨k, by omega, rfl⟩
theorem DrawnA.ok {N k : Nat} {xs : List Asset} (h : DrawnA N k xs) (hk : k ≤ 4) : Asset.validB (N : Int) xs = true := by
  unfold Asset.validB
  exact validL_spec.2 ⟨by have := h.len; omega, h.good⟩

end Go.Proofs.Ythlgfmdlecdchaa
