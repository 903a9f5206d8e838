/- A rising list of numbers with one more put in. The assets that the laws of the runout draw, in plain Lean. Boxes that hold a grid, and numbers of a slice whose address is known. A number put into a rising list of one's own. The assets that the laws of the runout draw. The assets that the laws draw from bytes. -/
import Derived.Test.YtphapakhoibamaaGreatDoorBase
import Derived.Test.YtphapakhoibamaaGreatDoorMem
import Derived.Test.YtphapakhoibamaaGreatDoorTInt64
import Derived.Test.YtphapakhoibamaaGreatDoorGrids
import Derived.Test.YtphapakhoibamaaGreatDoorTAsset
import Derived.Test.YtphapakhoibamaaGreatDoorAssets
import Derived.Test.YtphapakhoibamaaGreatDoorWithin
import Derived.Test.YtphapakhoibamaaGreatDoorTGrid
import Derived.Test.YtphapakhoibamaaGreatDoorSrcK
import Derived.Test.YtphapakhoibamaaGreatDoorSrc
import Derived.Test.YtphapakhoibamaaGreatDoorR8Grid
import Derived.Deep.RegionHeld3
import Derived.Deep.RegionLaw
import Derived.Deep.AppendLies
namespace Go.Proofs.YtphapakhoibamaaGreatDoor
open Go.RowKit

/-- What has been copied of xs behind i places, x put in where d is true. -/
structure PutInv (xs : List Int) (x : Int) (i : Nat) (o : List Int) (d : Bool) : Prop where
  pw : o.Pairwise (· < ·)
  mem : ∀ y ∈ o, y = x ∨ y ∈ xs
  lt : ∀ y ∈ o, ∀ j z, i ≤ j → xs[j]? = some z → y < z
  nd : d = false → ∀ y ∈ o, y < x
  len : o.length ≤ i + 1
  len0 : d = false → o.length ≤ i
theorem PutInv.zero (xs : List Int) (x : Int) : PutInv xs x 0 [] false := ⟨List.Pairwise.nil, by simp, by simp, by simp, by simp, by simp⟩
theorem pw_snoc {o : List Int} {y : Int} (h : o.Pairwise (· < ·)) (hy : ∀ z ∈ o, z < y) : (o ++ [y]).Pairwise (· < ·) := by
  rw [List.pairwise_append]
  exact ⟨h, List.pairwise_singleton _ _, fun a ha b hb => by simp at hb; rw [hb]; exact hy a ha⟩
theorem pw_at {xs : List Int} (h : xs.Pairwise (· < ·)) {i j : Nat} {y z : Int} (hi : xs[i]? = some y) (hj : xs[j]? = some z) (hij : i < j) : y < z := by
  obtain ⟨h1, e1⟩ := List.getElem?_eq_some_iff.1 hi
  obtain ⟨h2, e2⟩ := List.getElem?_eq_some_iff.1 hj
  rw [← e1, ← e2]
  exact List.pairwise_iff_getElem.1 h i j h1 h2 hij
/-- The next place is copied. -/
theorem PutInv.copy {xs : List Int} {x y : Int} {i : Nat} {o : List Int} {d : Bool} (h : PutInv xs x i o d) (hxs : xs.Pairwise (· < ·)) (hy : xs[i]? = some y) (hd : d = false → y < x) : PutInv xs x (i + 1) (o ++ [y]) d where
  pw := pw_snoc h.pw (fun z hz => h.lt z hz i y (Nat.le_refl _) hy)
  mem := fun z hz => by
    rcases List.mem_append.1 hz with hz | hz
    · exact h.mem z hz
    · simp at hz; rw [hz]; exact .inr (List.mem_of_getElem? hy)
  lt := fun z hz j u hj hu => by
    rcases List.mem_append.1 hz with hz | hz
    · exact h.lt z hz j u (by omega) hu
    · simp at hz; rw [hz]; exact pw_at hxs hy hu (by omega)
  nd := fun hd' z hz => by
    rcases List.mem_append.1 hz with hz | hz
    · exact h.nd hd' z hz
    · simp at hz; rw [hz]; exact hd hd'
  len := by have := h.len; simp; omega
  len0 := fun hd' => by have := h.len0 hd'; simp; omega
/-- The next place is x itself. -/
theorem PutInv.same {xs : List Int} {x : Int} {i : Nat} {o : List Int} (h : PutInv xs x i o false) (hxs : xs.Pairwise (· < ·)) (hy : xs[i]? = some x) : PutInv xs x (i + 1) (o ++ [x]) true where
  pw := pw_snoc h.pw (fun z hz => h.lt z hz i x (Nat.le_refl _) hy)
  mem := fun z hz => by
    rcases List.mem_append.1 hz with hz | hz
    · exact h.mem z hz
    · simp at hz; exact .inl hz
  lt := fun z hz j u hj hu => by
    rcases List.mem_append.1 hz with hz | hz
    · exact h.lt z hz j u (by omega) hu
    · simp at hz; rw [hz]; exact pw_at hxs hy hu (by omega)
  nd := by simp
  len := by have := h.len0 rfl; simp; omega
  len0 := by simp
/-- x is put in ahead of the next place. -/
theorem PutInv.put {xs : List Int} {x y : Int} {i : Nat} {o : List Int} (h : PutInv xs x i o false) (hxs : xs.Pairwise (· < ·)) (hy : xs[i]? = some y) (hlt : x < y) : PutInv xs x (i + 1) (o ++ [x] ++ [y]) true where
  pw := pw_snoc (pw_snoc h.pw (h.nd rfl)) (fun z hz => by
    rcases List.mem_append.1 hz with hz | hz
    · exact h.lt z hz i y (Nat.le_refl _) hy
    · simp at hz; rw [hz]; exact hlt)
  mem := fun z hz => by
    rcases List.mem_append.1 hz with hz | hz
    · rcases List.mem_append.1 hz with hz | hz
      · exact h.mem z hz
      · simp at hz; exact .inl hz
    · simp at hz; rw [hz]; exact .inr (List.mem_of_getElem? hy)
  lt := fun z hz j u hj hu => by
    have hyu := pw_at hxs hy hu (by omega)
    rcases List.mem_append.1 hz with hz | hz
    · rcases List.mem_append.1 hz with hz | hz
      · exact h.lt z hz j u (by omega) hu
      · simp at hz; rw [hz]; omega
    · simp at hz; rw [hz]; exact hyu
  nd := by simp
  len := by have := h.len0 rfl; simp; omega
  len0 := by simp
/-- What comes out. -/
structure Put1 (xs : List Int) (x : Int) (o : List Int) : Prop where
  pw : o.Pairwise (· < ·)
  mem : ∀ y ∈ o, y = x ∨ y ∈ xs
  len : o.length ≤ xs.length + 1
  pos : 0 < o.length
theorem PutInv.done {xs : List Int} {x : Int} {o : List Int} {n : Nat} (h : PutInv xs x n o true) (hn : xs.length = n) (hp : 0 < o.length) : Put1 xs x o := ⟨h.pw, h.mem, by have := h.len; omega, hp⟩
theorem PutInv.more {xs : List Int} {x : Int} {o : List Int} {n : Nat} (h : PutInv xs x n o false) (hn : xs.length = n) : Put1 xs x (o ++ [x]) :=
  ⟨pw_snoc h.pw (h.nd rfl), fun z hz => by
    rcases List.mem_append.1 hz with hz | hz
    · exact h.mem z hz
    · simp at hz; exact .inl hz, by have := h.len0 rfl; simp; omega, by simp⟩
/-- A rising list within bounds is good cells. -/
theorem rises_of {q : Option Int} : ∀ (xs : List Int), xs.Pairwise (· < ·) → (∀ p, q = some p → ∀ y ∈ xs, p < y) → goodFrom (fun _ => true) risesRel q xs = true
  | [], _, _ => by simp [goodFrom]
  | y :: ys, h, hq => by
    obtain ⟨h1, h2⟩ := List.pairwise_cons.1 h
    have ih := rises_of (q := some y) ys h2 (fun p hp z hz => by injection hp with hp; rw [← hp]; exact h1 z hz)
    cases q with
    | none => unfold goodFrom; simp [ih]
    | some p =>
      have := hq p rfl y (by simp)
      unfold goodFrom
      simp [ih, risesRel, this]
theorem risesB_of {xs : List Int} (h : xs.Pairwise (· < ·)) : risesB xs = true := rises_of xs h (by simp)

end Go.Proofs.YtphapakhoibamaaGreatDoor

namespace Go.Proofs.YtphapakhoibamaaGreatDoor
open Go.RowKit

def roadB : ByteArray := { data := #[114, 111, 97, 100] }
def roofB : ByteArray := { data := #[114, 111, 111, 102] }
def ropeB : ByteArray := { data := #[114, 111, 112, 101] }
def shedB : ByteArray := { data := #[115, 104, 101, 100] }
def nameA : Nat → ByteArray
  | 0 => roadB
  | 1 => roofB
  | 2 => ropeB
  | _ => shedB
theorem nameA_good (k : Nat) : isNameB (nameA k) = true := by
  match k with
  | 0 => exact (show isNameB roadB = true by decide +kernel)
  | 1 => exact (show isNameB roofB = true by decide +kernel)
  | 2 => exact (show isNameB ropeB = true by decide +kernel)
  | _ + 3 => exact (show isNameB shedB = true by decide +kernel)
theorem nameA_less : ∀ k, k < 4 → ∀ j, j < k → Go.Op.bytesLess (nameA j).toList (nameA k).toList = true := by decide +kernel
theorem nameA_rel {j k : Nat} (hjk : j < k) (hk : k < 4) (s t : List Int) (u v : Int) : Asset.rel ⟨nameA j, s, u⟩ ⟨nameA k, t, v⟩ = true := nameA_less k hk j hjk
/-- The cells that are drawn for one asset. -/
structure CellsD (N j : Nat) (o : List Int) : Prop where
  pw : o.Pairwise (· < ·)
  bd : ∀ y ∈ o, 0 ≤ y ∧ y ≤ (N : Int) - 1
  len : o.length ≤ j
  pos : 0 < j → 0 < o.length
theorem CellsD.nil (N : Nat) : CellsD N 0 [] := ⟨List.Pairwise.nil, by simp, by simp, fun h => absurd h (by omega)⟩
theorem CellsD.put {N j : Nat} {o o' : List Int} {x : Int} (h : CellsD N j o) (hx : 0 ≤ x ∧ x ≤ (N : Int) - 1) (hp : Put1 o x o') : CellsD N (j + 1) o' :=
  ⟨hp.pw, fun y hy => by
    rcases hp.mem y hy with e | hm
    · rw [e]; exact hx
    · exact h.bd y hm, by have := hp.len; have := h.len; omega, fun _ => hp.pos⟩
/-- The assets that are drawn ahead of name k. -/
structure DrawnA (N k : Nat) (xs : List Asset) : Prop where
  good : ∀ n, GoodTo (Asset.fitsB (N : Int)) Asset.rel xs n
  before : ∀ x ∈ xs, ∃ j : Nat, j < k ∧ x.id = nameA j
  len : xs.length ≤ k
theorem DrawnA.nil (N : Nat) : DrawnA N 0 [] := ⟨fun n k x _ h => by simp at h, by simp, by simp⟩
theorem DrawnA.skip {N k : Nat} {xs : List Asset} (h : DrawnA N k xs) : DrawnA N (k + 1) xs :=
  ⟨h.good, fun x hx => by obtain ⟨j, h1, h2⟩ := h.before x hx; exact ⟨j, by omega, h2⟩, by have := h.len; omega⟩
theorem goodA_snoc {α : Type} {one : α → Bool} {rel : α → α → Bool} {L : List α} {x : α} (h : ∀ n, GoodTo one rel L n) (h1 : one x = true) (h2 : ∀ y ∈ L, rel y x = true) : ∀ n, GoodTo one rel (L ++ [x]) n := by
  intro n k y hk hy
  rcases Nat.lt_trichotomy k L.length with hlt | heq | hgt
  · rw [List.getElem?_append_left hlt] at hy
    have := h n k y hk hy
    refine ⟨this.1, fun q hq hqy => ?_⟩
    rw [List.getElem?_append_left (by omega)] at hqy
    exact this.2 q hq hqy
  · subst heq
    rw [List.getElem?_append_right (Nat.le_refl _), Nat.sub_self] at hy
    injection hy with hy
    subst hy
    refine ⟨h1, fun q hq hqy => ?_⟩
    rw [List.getElem?_append_left (by omega)] at hqy
    exact h2 q (List.mem_of_getElem? hqy)
  · rw [List.getElem?_eq_none (by simp; omega)] at hy
    cases hy
theorem DrawnA.add {N k j : Nat} {xs : List Asset} {o : List Int} {m : Int} (h : DrawnA N k xs) (hk : k < 4) (hc : CellsD N j o) (hj : 0 < j) (hm : 0 ≤ m ∧ m ≤ 1000000) : DrawnA N (k + 1) (xs ++ [⟨nameA k, o, m⟩]) := by
  refine ⟨goodA_snoc h.good ?_ (fun y hy => ?_), fun x hx => ?_, by have := h.len; simp; omega⟩
  · unfold Asset.fitsB
    rw [cellsB_eq, nameA_good, risesB_of hc.pw, inB_iff.2 hm, decide_eq_true (hc.pos hj), List.all_eq_true.2 (fun y hy => inB_iff.2 (hc.bd y hy))]
    rfl
  · obtain ⟨i, hi, e⟩ := h.before y hy
    obtain ⟨yi, ys, yw⟩ := y
    simp only at e
    subst e
    exact nameA_rel hi hk _ _ _ _
  · rcases List.mem_append.1 hx with h' | h'
    · obtain ⟨i, hi, e⟩ := h.before x h'
      exact ⟨i, by omega, e⟩
    · simp at h'; subst h'; exact ⟨k, by omega, rfl⟩
theorem DrawnA.ok {N k : Nat} {xs : List Asset} (h : DrawnA N k xs) (hk : k ≤ 4) : Asset.validB (N : Int) xs = true := by
  unfold Asset.validB
  exact validL_spec.2 ⟨by have := h.len; omega, h.good⟩

end Go.Proofs.YtphapakhoibamaaGreatDoor

namespace Go.Proofs.YtphapakhoibamaaGreatDoor
open Go.RowKit

theorem intsD {w : World} {b o n : Nat} {xs : List Int} (h : SliceOf w 1 i64cells (some ⟨b, o, none⟩) n xs) {k : Nat} (hk : k < n) : ∃ x, xs[k]? = some x ∧ w.cell? ⟨b, o + k, none⟩ = some (.int .i64 x) ∧ b < w.heap.size := by
  obtain ⟨b', o', x, hA, hb, hx, hc⟩ := ints_at h hk
  injection hA with hA
  injection hA with e1 e2 _
  subst e1 e2
  exact ⟨x, hx, hc, hb⟩
structure BoxD (X : Nat) (g : GridR) (w : World) : Prop where
  own : Own w X 26 #[.int .i64 g.rows, .int .i64 g.columns, .int .i64 g.size, .slice g.heightsA g.heightsN g.heightsC]
  gi : g.In w
theorem BoxD.grow {X : Nat} {g : GridR} {w w' : World} (h : BoxD X g w) (hb : Below w.heap.size w w') : BoxD X g w' := ⟨h.own.below' hb, h.gi.below hb⟩
theorem BoxD.cells {X : Nat} {g : GridR} {w : World} (h : BoxD X g w) : w.cell? ⟨X, 0, none⟩ = some (.int .i64 g.rows) ∧ w.cell? ⟨X, 1, none⟩ = some (.int .i64 g.columns) ∧ w.cell? ⟨X, 2, none⟩ = some (.int .i64 g.size) ∧ w.cell? ⟨X, 3, none⟩ = some (.slice g.heightsA g.heightsN g.heightsC) ∧ X < w.heap.size :=
  ⟨h.own.cell 0, h.own.cell 1, h.own.cell 2, h.own.cell 3, h.own.lt⟩
theorem BoxD.ht {X : Nat} {g : GridR} {w : World} (h : BoxD X g w) {a o : Nat} (hA : g.heightsA = some ⟨a, o, none⟩) {k : Nat} (hk : k < g.heightsN) : ∃ y, g.heights[k]? = some y ∧ w.cell? ⟨a, o + k, none⟩ = some (.int .i64 y) ∧ a < w.heap.size := by
  have h1 := h.gi.1
  rw [hA] at h1
  exact intsD h1 hk

end Go.Proofs.YtphapakhoibamaaGreatDoor

namespace Go.Proofs.YtphapakhoibamaaGreatDoor
open Go.RowKit

set_option maxHeartbeats 2000000 in
theorem l00Put_any (A : Option Addr) (n c : Nat) (xs : List Int) (x : Int) (w : World) (hx : SliceOf w 1 i64cells A n xs) (hp : xs.Pairwise (· < ·)) (hn : n ≤ 1000) :
    Calls Tryz.prog 50 #[.slice A n c, .int .i64 x] w (fun e w' => ∃ (v : Value) (o : List Int), e = .returned v ∧ OwnsL w' w.heap.size 2 1 i64cells v o ∧ Put1 xs x o ∧ Below w.heap.size w w') := by
  have HX := Lib.hid hx
  have HP := Lib.hid hp
  have HL := Lib.hid hx.len
  clear hx hp
  go_enter Tryz.func50, Tryz.ntmps50
  go_wp2
  go_loopg [5, 6, 7] n (fun gk s d i wr => ∃ (k : Nat) (v : Value) (o : List Int) (dd : Bool), k ≤ n ∧ gk = n - k ∧ i = .int .i64 k ∧ v = s ∧ d = .bool dd ∧ PutInv xs x k o dd ∧ (dd = true → 0 < o.length) ∧ Below w.heap.size w wr ∧ OwnsL wr w.heap.size 2 1 i64cells v o)
  case atStart => exact ⟨0, _, [], false, Nat.zero_le _, rfl, rfl, rfl, rfl, PutInv.zero xs x, by simp, (Below.refl _ _).alloc (Nat.le_refl _) _, OwnsL.made _ _ _ _ _ (Nat.le_refl _)⟩
  case round =>
    obtain ⟨k, v, o, dd, hk, hgk, rfl, rfl, rfl, hinv, hpos, hb, hown⟩ := hrel
    have Hgk := Lib.hid hgk
    have Hown := Lib.hid hown
    have HI := Lib.hid hinv
    have HPO := Lib.hid hpos
    have hol := hinv.len
    clear hgk hown hinv hpos
    by_cases hlt : k < n
    rotate_left
    · have hkn : k = n := by omega
      subst hkn
      cases dd
      · go_wp2_with (at_builtin; refine wpList_push (by rfl) (.tmp 44) (.tmp 46) 24 (by rfl) w.heap.size 2 1 Tryz.underlying24 infoI64 (by rfl) (by decide) i64cells i64cells_len i64cells_one _ v o x (by rfl) (by rfl) Hown.out (by rfl) (by omega) (by decide) hb.size ?_)
        intro v' w' hown' hb' _
        have hbw := hb.trans hb'
        have HW := Lib.hid hown'
        clear hown'
        go_wp2
        go_ret
        exact ⟨v', _, rfl, HW.out, HI.out.more HL.out, hbw⟩
      · go_wp2
        go_ret
        exact ⟨v, rfl, o, Hown.out, HI.out.done HL.out (HPO.out (by simp)), hb⟩
    obtain ⟨b1, o1, y, rfl, hb1, hy, ycell⟩ := ints_at (HX.out.below hb) hlt
    have HY := Lib.hid hy
    clear hy
    cases dd
    · rcases Int.lt_trichotomy y x with hyx | hyx | hyx
      · have hge : decide (x ≤ y) = false := decide_eq_false (by omega)
        go_wp2_with (at_builtin; refine wpList_push (by rfl) (.tmp 35) (.tmp 40) 24 (by rfl) w.heap.size 2 1 Tryz.underlying24 infoI64 (by rfl) (by decide) i64cells i64cells_len i64cells_one _ v o y (by rfl) (by rfl) Hown.out (by rfl) (by omega) (by decide) hb.size ?_)
        intro v' w' hown' hb' _
        have hbw := hb.trans hb'
        have HW := Lib.hid hown'
        have HI2 := Lib.hid (HI.out.copy HP.out HY.out (fun _ => hyx))
        clear hown'
        go_wp2
        go_roundg (n - (k + 1))
        case measure => have := Hgk.out; omega
        case rel => exact ⟨k + 1, v', _, false, by omega, rfl, by go_num, rfl, rfl, HI2.out, by simp, hbw, HW.out⟩
      · subst hyx
        go_wp2_with (at_builtin; refine wpList_push (by rfl) (.tmp 35) (.tmp 40) 24 (by rfl) w.heap.size 2 1 Tryz.underlying24 infoI64 (by rfl) (by decide) i64cells i64cells_len i64cells_one _ v o y (by rfl) (by rfl) Hown.out (by rfl) (by omega) (by decide) hb.size ?_)
        intro v' w' hown' hb' _
        have hbw := hb.trans hb'
        have HW := Lib.hid hown'
        have HI2 := Lib.hid (HI.out.same HP.out HY.out)
        clear hown'
        go_wp2
        go_roundg (n - (k + 1))
        case measure => have := Hgk.out; omega
        case rel => exact ⟨k + 1, v', _, true, by omega, rfl, by go_num, rfl, rfl, HI2.out, by simp, hbw, HW.out⟩
      · have hge : decide (x ≤ y) = true := decide_eq_true (by omega)
        have hgt : decide (x < y) = true := decide_eq_true hyx
        have HI2 := Lib.hid (HI.out.put HP.out HY.out hyx)
        go_wp2_with (at_builtin; refine wpList_push (by rfl) (.tmp 31) (.tmp 33) 24 (by rfl) w.heap.size 2 1 Tryz.underlying24 infoI64 (by rfl) (by decide) i64cells i64cells_len i64cells_one _ v o x (by rfl) (by rfl) Hown.out (by rfl) (by omega) (by decide) hb.size ?_)
        intro v1 w1 hown1 hbq _
        have hb2 := hb.trans hbq
        have HW1 := Lib.hid hown1
        obtain ⟨b2, o2, y2, hA2, hblt2, hy2, ycell2⟩ := ints_at (HX.out.below hb2) hlt
        injection hA2 with hA2
        injection hA2 with e1 e2 _
        subst e1 e2
        rw [HY.out] at hy2
        injection hy2 with hy2
        subst hy2
        clear hown1 ycell
        go_wp2_with (at_builtin; refine wpList_push (by rfl) (.tmp 35) (.tmp 40) 24 (by rfl) w.heap.size 2 1 Tryz.underlying24 infoI64 (by rfl) (by decide) i64cells i64cells_len i64cells_one _ v1 (o ++ [x]) y (by rfl) (by rfl) HW1.out (by rfl) (by simp; omega) (by decide) hb2.size ?_)
        intro v' w' hown' hb' _
        have hbw := hb2.trans hb'
        have HW := Lib.hid hown'
        clear hown'
        go_wp2
        go_roundg (n - (k + 1))
        case measure => have := Hgk.out; omega
        case rel => exact ⟨k + 1, v', _, true, by omega, rfl, by go_num, rfl, rfl, HI2.out, by simp, hbw, by simpa using HW.out⟩
    · go_wp2_with (at_builtin; refine wpList_push (by rfl) (.tmp 35) (.tmp 40) 24 (by rfl) w.heap.size 2 1 Tryz.underlying24 infoI64 (by rfl) (by decide) i64cells i64cells_len i64cells_one _ v o y (by rfl) (by rfl) Hown.out (by rfl) (by omega) (by decide) hb.size ?_)
      intro v' w' hown' hb' _
      have hbw := hb.trans hb'
      have HW := Lib.hid hown'
      have HI2 := Lib.hid (HI.out.copy HP.out HY.out (by simp))
      clear hown'
      go_wp2
      go_roundg (n - (k + 1))
      case measure => have := Hgk.out; omega
      case rel => exact ⟨k + 1, v', _, true, by omega, rfl, by go_num, rfl, rfl, HI2.out, by simp, hbw, HW.out⟩

end Go.Proofs.YtphapakhoibamaaGreatDoor

namespace Go.Proofs.YtphapakhoibamaaGreatDoor
open Go.RowKit

set_option maxHeartbeats 1000000 in
theorem srcOne_any (A : Option Addr) (n c : Nat) (ds : List Int) (bs k m : Nat) (w0 w : World) (h : SrcAt A n c ds bs k w0 w) (hk : k ≤ 1048570000) (hm : 1 ≤ m) (hm2 : m ≤ 1048576) :
    Calls Tryz.prog 49 #[.pointer (some ⟨bs, 0, none⟩), .int .i64 m] w (fun e w' => ∃ (b : Bool) (k' : Nat), e = .returned (.bool b) ∧ k' ≤ k + 2 ∧ SrcAt A n c ds bs k' w0 w' ∧ Span bs (bs + 1) w w') := by
  have H := Lib.hid h
  clear h
  go_enter Tryz.func49, Tryz.ntmps49
  go_wp2_with fail
  refine (srcPick_any A n c ds bs k m w0 w H.out hk hm hm2).mono ?_
  rintro e w1 ⟨r, k', rfl, hr, hk', hs, ha⟩
  have HS := Lib.hid hs
  have HA := Lib.hid ha
  clear hs ha
  go_wp2
  go_ret
  exact ⟨_, k', rfl, hk', HS.out, HA.out⟩
theorem nameA_size : ∀ j, (nameA j).size ≤ maxLen
  | 0 => by decide +kernel
  | 1 => by decide +kernel
  | 2 => by decide +kernel
  | _ + 3 => by show shedB.size ≤ maxLen; decide +kernel
theorem DrawnA.allGood {N k : Nat} {xs : List Asset} (h : DrawnA N k xs) (hN : N ≤ 64) : ∀ x ∈ xs, x.Good := fun x hx => by
  obtain ⟨j, hj⟩ := List.mem_iff_getElem?.1 hx
  have h1 := (h.good (j + 1) j x (by omega) hj).1
  obtain ⟨i, _, hi⟩ := h.before x hx
  unfold Asset.fitsB at h1
  rw [cellsB_eq] at h1
  simp only [Bool.and_eq_true, List.all_eq_true] at h1
  refine ⟨?_, by rw [hi]; exact nameA_size i, fun y hy => ?_⟩
  · have := inB_iff.1 h1.2
    unfold I64; omega
  · have := inB_iff.1 (h1.1.2.2 y hy)
    unfold I64; omega
theorem names_cell {w : World} {nb k : Nat} {t : TypeId} (h : Own w nb t #[.string { data := #[114, 111, 97, 100] }, .string { data := #[114, 111, 111, 102] }, .string { data := #[114, 111, 112, 101] }, .string { data := #[115, 104, 101, 100] }]) (hk : k < 4) : w.cell? ⟨nb, k, none⟩ = some (.string (nameA k)) := by
  rw [h.cell]
  match k, hk with
  | 0, _ => rfl
  | 1, _ => rfl
  | 2, _ => rfl
  | 3, _ => rfl
theorem Own.newAt {w : World} {g : Nat} {t : TypeId} {cs : Array Value} (h : g = w.heap.size) : Own (w.alloc (.cells cs t)) g t cs := h ▸ Own.new w t cs
theorem Own.put3 {w : World} {g : Nat} {t : TypeId} {a b c : Value} (h : Own w g t #[a, b, c]) (x y z : Value) : Own (((w.setCell ⟨g, 0, none⟩ x).setCell ⟨g, 1, none⟩ y).setCell ⟨g, 2, none⟩ z) g t #[x, y, z] := by
  simpa using ((h.put 0 x).put 1 y).put 2 z
theorem Own.far3 {w : World} {g X : Nat} {t : TypeId} {cs : Array Value} (h : Own w g t cs) (hne : g ≠ X) (x y z : Value) : Own (((w.setCell ⟨X, 0, none⟩ x).setCell ⟨X, 1, none⟩ y).setCell ⟨X, 2, none⟩ z) g t cs := ((h.far (p := ⟨X, 0, none⟩) hne x).far (p := ⟨X, 1, none⟩) hne y).far (p := ⟨X, 2, none⟩) hne z
theorem SrcAt.alc {A : Option Addr} {n c : Nat} {ds : List Int} {bs k : Nat} {w0 w : World} (h : SrcAt A n c ds bs k w0 w) (o : Obj) : SrcAt A n c ds bs k w0 (w.alloc o) := h.grow ((Below.refl _ _).alloc (Nat.le_refl _) _)
theorem SrcAt.put3 {A : Option Addr} {n c : Nat} {ds : List Int} {bs k X : Nat} {w0 w : World} (h : SrcAt A n c ds bs k w0 w) (h1 : w0.heap.size ≤ X) (h2 : X ≠ bs) (x y z : Value) : SrcAt A n c ds bs k w0 (((w.setCell ⟨X, 0, none⟩ x).setCell ⟨X, 1, none⟩ y).setCell ⟨X, 2, none⟩ z) := ((h.put (p := ⟨X, 0, none⟩) (Ne.symm h2) h1 x).put (p := ⟨X, 1, none⟩) (Ne.symm h2) h1 y).put (p := ⟨X, 2, none⟩) (Ne.symm h2) h1 z
/-- What lay ahead is as it was, but for one block. -/
def KeptBut (L bs : Nat) (w w' : World) : Prop := ∀ b, b < L → b ≠ bs → w'.heap[b]? = w.heap[b]?
theorem KeptBut.of {L bs : Nat} {w wp w' : World} (hb : Below L w wp) (hs : Span bs (bs + 1) wp w') (hl : L ≤ wp.heap.size) : KeptBut L bs w w' := fun b h1 h2 => (hs.block b (by omega) (by omega)).trans (hb.block b h1)
theorem KeptBut.trans {L bs : Nat} {a b c : World} (h : KeptBut L bs a b) (k : KeptBut L bs b c) : KeptBut L bs a c := fun x h1 h2 => (k x h1 h2).trans (h x h1 h2)
theorem KeptBut.span {L bs : Nat} {a b c : World} (h : KeptBut L bs a b) (hs : Span bs (bs + 1) b c) (hl : L ≤ b.heap.size) : KeptBut L bs a c := h.trans (fun x h1 h2 => hs.block x (by omega) (by omega))
theorem KeptBut.below {L bs : Nat} {a b c : World} (h : KeptBut L bs a b) (hb : Below b.heap.size b c) (hl : L ≤ b.heap.size) : KeptBut L bs a c := h.trans (fun x h1 _ => hb.block x (by omega))
theorem KeptBut.alc {L bs : Nat} {a b : World} (h : KeptBut L bs a b) (hl : L ≤ b.heap.size) (o : Obj) : KeptBut L bs a (b.alloc o) := h.trans (fun x h1 _ => Below.heap_alloc _ _ _ (by omega))
theorem KeptBut.put {L bs X i : Nat} {a b : World} (h : KeptBut L bs a b) (hX : L ≤ X) (u : Value) : KeptBut L bs a (b.setCell ⟨X, i, none⟩ u) := h.trans (fun x h1 _ => Below.heap_setCell _ _ _ _ (by show x ≠ X; omega))
theorem KeptBut.put3 {L bs X : Nat} {a b : World} (h : KeptBut L bs a b) (hX : L ≤ X) (x y z : Value) : KeptBut L bs a (((b.setCell ⟨X, 0, none⟩ x).setCell ⟨X, 1, none⟩ y).setCell ⟨X, 2, none⟩ z) := ((h.put hX x).put hX y).put hX z
set_option maxRecDepth 100000 in
set_option maxHeartbeats 1000000 in
theorem l15Draw_any (A : Option Addr) (n c : Nat) (ds : List Int) (bs bg : Nat) (g : GridR) (w0 w : World) (h : SrcAt A n c ds bs 0 w0 w) (hg : BoxD bg g w) (h1N : 1 ≤ g.heightsN) (h64 : g.heightsN ≤ 64) :
    Calls Tryz.prog 25 #[.pointer (some ⟨bs, 0, none⟩), .pointer (some ⟨bg, 0, none⟩)] w (fun e w' => ∃ (v : Value) (xs : List Asset), e = .returned v ∧ Asset.validB (g.heightsN : Int) xs = true ∧ (∀ x ∈ xs, x.Good) ∧ (∃ (B : Option Addr) (cc : Nat), v = .slice B xs.length cc ∧ Asset.Sl w' B xs.length xs) ∧ Below w0.heap.size w0 w') := by
  have hB : Below w.heap.size w ((w.alloc (.cells #[.string { data := #[114, 111, 97, 100] }, .string { data := #[114, 111, 111, 102] }, .string { data := #[114, 111, 112, 101] }, .string { data := #[115, 104, 101, 100] }] 9)).alloc (.cells #[] 45)) := ((Below.refl _ _).alloc (Nat.le_refl _) _).alloc (by simp) _
  have HLT := Lib.hid h.lt
  have hS := h.grow hB
  have hN : Own ((w.alloc (.cells #[.string { data := #[114, 111, 97, 100] }, .string { data := #[114, 111, 111, 102] }, .string { data := #[114, 111, 112, 101] }, .string { data := #[115, 104, 101, 100] }] 9)).alloc (.cells #[] 45)) w.heap.size 9 #[.string { data := #[114, 111, 97, 100] }, .string { data := #[114, 111, 111, 102] }, .string { data := #[114, 111, 112, 101] }, .string { data := #[115, 104, 101, 100] }] := (Own.new w 9 #[.string { data := #[114, 111, 97, 100] }, .string { data := #[114, 111, 111, 102] }, .string { data := #[114, 111, 112, 101] }, .string { data := #[115, 104, 101, 100] }]).alloc _
  have hOA : OwnsL ((w.alloc (.cells #[.string { data := #[114, 111, 97, 100] }, .string { data := #[114, 111, 111, 102] }, .string { data := #[114, 111, 112, 101] }, .string { data := #[115, 104, 101, 100] }] 9)).alloc (.cells #[] 45)) (w.heap.size + 1) 45 3 AssetR.cells (.slice (some ⟨w.heap.size + 1, 0, none⟩) 0 0) [] := by
    have := OwnsL.made (w.alloc (.cells #[.string { data := #[114, 111, 97, 100] }, .string { data := #[114, 111, 111, 102] }, .string { data := #[114, 111, 112, 101] }, .string { data := #[115, 104, 101, 100] }] 9)) (w.heap.size + 1) 45 3 AssetR.cells (by simp)
    simpa using this
  have hY := (hg.grow hB).cells
  obtain ⟨N, hNN⟩ : ∃ N, g.heightsN = N := ⟨_, rfl⟩
  obtain ⟨nb, hnb⟩ : ∃ nb, w.heap.size = nb := ⟨_, rfl⟩
  have HNB := Lib.hid hnb
  obtain ⟨w1, hw1⟩ : ∃ w1, ((w.alloc (.cells #[.string { data := #[114, 111, 97, 100] }, .string { data := #[114, 111, 111, 102] }, .string { data := #[114, 111, 112, 101] }, .string { data := #[115, 104, 101, 100] }] 9)).alloc (.cells #[] 45)) = w1 := ⟨_, rfl⟩
  rw [hw1] at hB hS hN hOA hY
  rw [hnb] at hN hOA
  have HN := Lib.hid hN
  have HS := Lib.hid hS
  have HOA := Lib.hid hOA
  have HZ1 : Hid (nb + 2 ≤ w1.heap.size) := by rw [Hid, ← hw1, ← hnb]; simp
  rw [hNN] at hY h1N h64 ⊢
  obtain ⟨y0, y1, y2, y3, ly⟩ := hY
  clear h hg hB hS hN hOA hNN
  go_enter Tryz.func25, Tryz.ntmps25
  go_wp2
  clear y0 y1 y2 y3 ly hw1 hnb
  go_loopg [6, 8] 4 (fun gk s6 s8 wr => ∃ (k kk : Nat) (v : Value) (ps : List AssetR), k ≤ 4 ∧ gk = 4 - k ∧ s8 = .int .i64 k ∧ v = s6 ∧ kk ≤ 20 * k ∧ DrawnA N k (ps.map AssetR.val) ∧ SrcAt A n c ds bs kk w0 wr ∧ Own wr nb 9 #[.string { data := #[114, 111, 97, 100] }, .string { data := #[114, 111, 111, 102] }, .string { data := #[114, 111, 112, 101] }, .string { data := #[115, 104, 101, 100] }] ∧ OwnsL wr (nb + 1) 45 3 AssetR.cells v ps ∧ (∀ p ∈ ps, OwnsL wr (nb + 1) 2 1 i64cells (.slice p.spotsA p.spotsN p.spotsC) p.spots) ∧ nb + 2 ≤ wr.heap.size ∧ (∀ p ∈ ps, ∀ b, (Value.slice p.spotsA p.spotsN p.spotsC).ownBlock = some b → v.ownBlock ≠ some b))
  case atStart => exact ⟨0, 0, _, [], Nat.zero_le _, rfl, rfl, rfl, by omega, DrawnA.nil N, HS.out, HN.out, HOA.out, by simp, HZ1.out, by simp⟩
  case round =>
    obtain ⟨k, kk, v, ps, hk, hgk, rfl, rfl, hkk, hdr, hsr, hnm, hown, hps, hsz, hap⟩ := hrel
    have HAP := Lib.hid hap
    have Hgk := Lib.hid hgk
    have HKK := Lib.hid hkk
    have HDR := Lib.hid hdr
    have HSR := Lib.hid hsr
    have HNM := Lib.hid hnm
    have HOW := Lib.hid hown
    have HPS := Lib.hid hps
    have HSZ := Lib.hid hsz
    have hkkb : kk ≤ 100 := by omega
    clear hgk hkk hdr hsr hnm hown hps hsz hap
    by_cases hk4 : k < 4
    rotate_left
    · obtain ⟨BA, bc, rfl, _, _, hsl⟩ := HOW.out.slice AssetR.cells_len
      have HSL := Lib.hid hsl
      clear hsl
      obtain ⟨m, hm⟩ : ∃ m, ps.length = m := ⟨_, rfl⟩
      rw [hm] at HSL ⊢
      have HML := Lib.hid hm
      clear hm
      have hke : k = 4 := by omega
      subst hke
      go_wp2
      go_ret
      exact ⟨.slice BA m bc, ps.map AssetR.val, rfl, HDR.out.ok (by omega), HDR.out.allGood h64, ⟨BA, bc, by rw [List.length_map, HML.out], by rw [List.length_map, HML.out]; exact ⟨ps, HSL.out, fun p hp => AssetR.in_of (HPS.out p hp), rfl⟩⟩, HSR.out.below⟩
    go_wp2_with fail
    refine (srcOne_any A n c ds bs kk 3 w0 wr HSR.out (by omega) (by omega) (by omega)).mono ?_
    rintro e w2 ⟨yes, k2, rfl, hk2, hs2, ha2⟩
    have HS2 := Lib.hid hs2
    have HN2 := Lib.hid (HNM.out.span ha2 (.inr (by have := HLT.out; have := HNB.out; omega)))
    have HO2 := Lib.hid (HOW.out.span ha2 (fun k hk => .inr (by have := (HOW.out.lt k hk).1; have := HLT.out; have := HNB.out; omega)))
    have HP2 : Hid (∀ p ∈ ps, OwnsL w2 (nb + 1) 2 1 i64cells (.slice p.spotsA p.spotsN p.spotsC) p.spots) := fun p hp => (HPS.out p hp).span ha2 (fun k hk => .inr (by have := ((HPS.out p hp).lt k hk).1; have := HLT.out; have := HNB.out; omega))
    have HZ2 := Lib.hid (Nat.le_trans HSZ.out ha2.size)
    clear hs2 ha2
    cases yes
    rotate_left
    · go_wp2
      go_roundg (4 - (k + 1))
      case measure => have := Hgk.out; omega
      case rel => exact ⟨k + 1, k2, v, ps, by omega, rfl, by go_num, rfl, by have := HKK.out; omega, HDR.out.skip, HS2.out, HN2.out, HO2.out, HP2.out, HZ2.out, HAP.out⟩
    have hname := names_cell HN2.out hk4
    have hnlt := HN2.out.lt
    go_wp2_with fail
    have hb2 := HS2.out.lt
    have hgr : Below w2.heap.size w2 ((w2.alloc (.cells #[] 2)).alloc (.cells #[.string { data := #[] }, .slice none 0 0, .int .i64 0] 45)) := ((Below.refl _ _).alloc (Nat.le_refl _) _).alloc (by simp) _
    have HBX : Hid (Own ((w2.alloc (.cells #[] 2)).alloc (.cells #[.string { data := #[] }, .slice none 0 0, .int .i64 0] 45)) (w2.heap.size + 1) 45 #[.string { data := #[] }, .slice none 0 0, .int .i64 0]) := Own.newAt (by simp)
    have HSX : Hid (Own ((w2.alloc (.cells #[] 2)).alloc (.cells #[.string { data := #[] }, .slice none 0 0, .int .i64 0] 45)) w2.heap.size 2 #[]) := (Own.new w2 2 #[]).alloc _
    have HS3 := Lib.hid (HS2.out.grow hgr)
    clear hgr
    have HSB1 := Lib.hid (Own.new w2 2 #[])
    have HSB := Lib.hid (HS2.out.grow ((Below.refl _ w2).alloc (Nat.le_refl _) (.cells #[] 2)))
    have HXD := Lib.hid (Own.new w2 45 #[.string { data := #[] }, .slice none 0 0, .int .i64 0])
    have HSD := Lib.hid (HS2.out.grow ((Below.refl _ w2).alloc (Nat.le_refl _) (.cells #[.string { data := #[] }, .slice none 0 0, .int .i64 0] 45)))
    have HSE := Lib.hid (HS2.out.grow (((Below.refl _ w2).alloc (Nat.le_refl _) (.cells #[.string { data := #[] }, .slice none 0 0, .int .i64 0] 45)).alloc (by simp) (.cells #[] 2)))
    have HXE := Lib.hid (HXD.out.alloc (.cells #[] 2))
    have HSE1 : Hid (Own ((w2.alloc (.cells #[.string { data := #[] }, .slice none 0 0, .int .i64 0] 45)).alloc (.cells #[] 2)) (w2.heap.size + 1) 2 #[]) := Own.newAt (by simp)
    go_cut [9] from 26 to 34 (fun p wx => ∃ X S qq kx : Nat, p = .pointer (some ⟨X, 0, none⟩) ∧ Own wx X 45 #[.string (nameA k), .slice (some ⟨S, 0, none⟩) 0 0, .int .i64 (10 * (qq : Int))] ∧ Own wx S 2 #[] ∧ X ≠ S ∧ w2.heap.size ≤ X ∧ w2.heap.size ≤ S ∧ qq < 90 ∧ kx ≤ k2 + 2 ∧ SrcAt A n c ds bs kx w0 wx ∧ KeptBut w2.heap.size bs w2 wx)
    case first =>
      go_region_law (go_simp; go_at_call 48; first | (refine (srcPick_any A n c ds bs k2 90 w0 _ (HS3.out.drew) (by omega) (by omega) (by omega)).mono ?_; rintro e w3 ⟨q, k3, rfl, hq, hk3, hs3, ha3⟩; have HS3p := Lib.hid hs3; have HKP := Lib.hid (KeptBut.of (w := w2) (L := w2.heap.size) (bs := bs) (by repeat (first | exact Below.refl _ _ | (with_reducible refine Below.drew ?_) | (with_reducible refine Below.alloc ?_ (by first | exact Nat.le_refl _ | (simp; done) | (simp; omega)) _))) ha3 (by first | (simp; done) | (simp; omega))); have hz3 := ha3.size; simp at hz3; have HZ3 := Lib.hid hz3; have hw10 : IntKind.i64.wrap (10 * (q : Int)) = 10 * (q : Int) := IntWalk.i64_in _ (by omega); have HN3 := Lib.hid ((Own.drew (Own.alloc (Own.alloc HN2.out _) _)).span ha3 (.inr (by have := HLT.out; have := HNB.out; omega))); have hname3 := names_cell HN3.out hk4; have hnlt3 := HN3.out.lt; have HX3 := Lib.hid (HBX.out.drew.span ha3 (.inr (by omega))); have x0 := HX3.out.cell 0; have x1 := HX3.out.cell 1; have x2 := HX3.out.cell 2; have dx := HX3.out.frozen; have lx := HX3.out.lt; simp at x0 x1 x2; have HL3 := Lib.hid (HSX.out.drew.span ha3 (.inr (by omega))); clear hs3 ha3 hz3) | (refine (srcPick_any A n c ds bs k2 90 w0 _ (HSB.out.drew) (by omega) (by omega) (by omega)).mono ?_; rintro e w3 ⟨q, k3, rfl, hq, hk3, hs3, ha3⟩; have HS3p := Lib.hid hs3; have HKP := Lib.hid (KeptBut.of (w := w2) (L := w2.heap.size) (bs := bs) (by repeat (first | exact Below.refl _ _ | (with_reducible refine Below.drew ?_) | (with_reducible refine Below.alloc ?_ (by first | exact Nat.le_refl _ | (simp; done) | (simp; omega)) _))) ha3 (by first | (simp; done) | (simp; omega))); have hz3 := ha3.size; simp at hz3; have HZ3 := Lib.hid hz3; have hw10 : IntKind.i64.wrap (10 * (q : Int)) = 10 * (q : Int) := IntWalk.i64_in _ (by omega); have HN3 := Lib.hid ((Own.drew (Own.alloc HN2.out _)).span ha3 (.inr (by have := HLT.out; have := HNB.out; omega))); have hname3 := names_cell HN3.out hk4; have hnlt3 := HN3.out.lt; have HL3 := Lib.hid (HSB1.out.drew.span ha3 (.inr (by omega))); clear hs3 ha3 hz3) | (refine (srcPick_any A n c ds bs k2 90 w0 _ (HSD.out.drew) (by omega) (by omega) (by omega)).mono ?_; rintro e w3 ⟨q, k3, rfl, hq, hk3, hs3, ha3⟩; have HS3p := Lib.hid hs3; have HKP := Lib.hid (KeptBut.of (w := w2) (L := w2.heap.size) (bs := bs) (by repeat (first | exact Below.refl _ _ | (with_reducible refine Below.drew ?_) | (with_reducible refine Below.alloc ?_ (by first | exact Nat.le_refl _ | (simp; done) | (simp; omega)) _))) ha3 (by first | (simp; done) | (simp; omega))); have hz3 := ha3.size; simp at hz3; have HZ3 := Lib.hid hz3; have hw10 : IntKind.i64.wrap (10 * (q : Int)) = 10 * (q : Int) := IntWalk.i64_in _ (by omega); have HN3 := Lib.hid ((Own.drew (Own.alloc HN2.out _)).span ha3 (.inr (by have := HLT.out; have := HNB.out; omega))); have hname3 := names_cell HN3.out hk4; have hnlt3 := HN3.out.lt; have HX3 := Lib.hid (HXD.out.drew.span ha3 (.inr (by omega))); have x0 := HX3.out.cell 0; have x1 := HX3.out.cell 1; have x2 := HX3.out.cell 2; have dx := HX3.out.frozen; have lx := HX3.out.lt; simp at x0 x1 x2; clear hs3 ha3 hz3) | (refine (srcPick_any A n c ds bs k2 90 w0 _ (HS2.out.drew) (by omega) (by omega) (by omega)).mono ?_; rintro e w3 ⟨q, k3, rfl, hq, hk3, hs3, ha3⟩; have HS3p := Lib.hid hs3; have HKP := Lib.hid (KeptBut.of (w := w2) (L := w2.heap.size) (bs := bs) (by repeat (first | exact Below.refl _ _ | (with_reducible refine Below.drew ?_) | (with_reducible refine Below.alloc ?_ (by first | exact Nat.le_refl _ | (simp; done) | (simp; omega)) _))) ha3 (by first | (simp; done) | (simp; omega))); have hz3 := ha3.size; simp at hz3; have HZ3 := Lib.hid hz3; have hw10 : IntKind.i64.wrap (10 * (q : Int)) = 10 * (q : Int) := IntWalk.i64_in _ (by omega); have HN3 := Lib.hid ((Own.drew (HN2.out)).span ha3 (.inr (by have := HLT.out; have := HNB.out; omega))); have hname3 := names_cell HN3.out hk4; have hnlt3 := HN3.out.lt; clear hs3 ha3 hz3) | (refine (srcPick_any A n c ds bs k2 90 w0 _ (HSE.out.drew) (by omega) (by omega) (by omega)).mono ?_; rintro e w3 ⟨q, k3, rfl, hq, hk3, hs3, ha3⟩; have HS3p := Lib.hid hs3; have HKP := Lib.hid (KeptBut.of (w := w2) (L := w2.heap.size) (bs := bs) (by repeat (first | exact Below.refl _ _ | (with_reducible refine Below.drew ?_) | (with_reducible refine Below.alloc ?_ (by first | exact Nat.le_refl _ | (simp; done) | (simp; omega)) _))) ha3 (by first | (simp; done) | (simp; omega))); have hz3 := ha3.size; simp at hz3; have HZ3 := Lib.hid hz3; have hw10 : IntKind.i64.wrap (10 * (q : Int)) = 10 * (q : Int) := IntWalk.i64_in _ (by omega); have HN3 := Lib.hid ((Own.drew (Own.alloc (Own.alloc HN2.out _) _)).span ha3 (.inr (by have := HLT.out; have := HNB.out; omega))); have hname3 := names_cell HN3.out hk4; have hnlt3 := HN3.out.lt; have HX3 := Lib.hid (HXE.out.drew.span ha3 (.inr (by omega))); have x0 := HX3.out.cell 0; have x1 := HX3.out.cell 1; have x2 := HX3.out.cell 2; have dx := HX3.out.frozen; have lx := HX3.out.lt; simp at x0 x1 x2; have HL3 := Lib.hid (HSE1.out.drew.span ha3 (.inr (by omega))); clear hs3 ha3 hz3))
      all_goals (go_wp2_with fail; go_meet)
      all_goals
        have hz3 := HZ3.out
        have hb0 := HS2.out.below.size
        refine ⟨_, ?_, q, k3, rfl, ?_, ?_, ?_, ?_, ?_, hq, hk3, ?_, ?_⟩
        rotate_left
        · first | (with_reducible exact Own.new _ _ _) | (with_reducible exact (Own.new _ _ _).alloc _) | (with_reducible exact HX3.out.put3 _ _ _) | (with_reducible exact (HX3.out.put3 _ _ _).alloc _) | ((with_reducible refine Own.newAt ?_); simp; done)
        · first | (with_reducible exact HL3.out.alloc _) | ((with_reducible refine HL3.out.far3 ?_ _ _ _); omega) | (with_reducible exact (Own.new _ _ _).alloc _) | ((with_reducible refine Own.newAt ?_); simp; done)
        · omega
        · omega
        · omega
        · first | (with_reducible exact HS3p.out.alc _) | (with_reducible exact (HS3p.out.alc _).alc _) | ((with_reducible refine HS3p.out.put3 ?_ ?_ _ _ _) <;> omega) | ((with_reducible refine (HS3p.out.put3 ?_ ?_ _ _ _).alc _) <;> omega)
        · first | ((with_reducible refine HKP.out.alc ?_ _); omega) | ((with_reducible refine (HKP.out.alc ?_ _).alc ?_ _) <;> (first | omega | (simp; done) | (simp; omega))) | ((with_reducible refine HKP.out.put3 ?_ _ _ _); omega) | ((with_reducible refine (HKP.out.put3 ?_ _ _ _).alc ?_ _) <;> (first | omega | (simp; done) | (simp; omega)))
    case rest =>
      obtain ⟨X, S, qq, kx, rfl, hX, hS, hXS, hLX, hLS, hqq, hkx, hsr, hkp⟩ := hcut
      have HX4 := Lib.hid hX
      have HSL4 := Lib.hid hS
      have HSR4 := Lib.hid hsr
      have HKP4 := Lib.hid hkp
      have HL2 := Lib.hid HO2.out.lt
      have HXZ : Hid (w2.heap.size ≤ wc.heap.size) := Nat.le_trans hLX (Nat.le_of_lt hX.lt)
      clear hX hS hsr hkp HBX HSX HS3 HSB1 HSB HXD HSD HSE HXE HSE1 hname hnlt
      go_wp2_with fail
      refine (srcPick_any A n c ds bs kx 3 w0 _ HSR4.out (by omega) (by omega) (by omega)).mono ?_
      rintro e w4 ⟨q4, k4, rfl, hq4, hk4d, hs4, ha4⟩
      have HX5 := Lib.hid (HX4.out.span ha4 (.inr (by omega)))
      have HS5 := Lib.hid (HSL4.out.span ha4 (.inr (by omega)))
      have HK5 := Lib.hid (HKP4.out.span ha4 HXZ.out)
      have HR5 := Lib.hid hs4
      have HZ5 := Lib.hid (Nat.le_trans HXZ.out ha4.size)
      have HE5 : Hid (OwnsL w4 w2.heap.size 2 1 i64cells (.slice (some ⟨S, 0, none⟩) 0 0) []) := HS5.out.ownsL i64cells_len hLS rfl (by simp) (by omega) FilledTo.zero
      clear hs4 ha4 HX4 HSL4 HSR4 HKP4 HXZ
      obtain ⟨J, hJ⟩ : ∃ J, 1 + q4 = J := ⟨_, rfl⟩
      have hJ1 : 1 ≤ J ∧ J ≤ 3 := by omega
      have hJc : (1 : Int) + (q4 : Int) = (J : Int) := by omega
      have hk4b : k4 ≤ kk + 6 := by omega
      clear hJ
      go_wp2
      clear hJc
      go_loopg [10] J (fun gk i wr => ∃ (j R kj : Nat) (vc : Value) (o : List Int), R + j = J ∧ gk = R ∧ i = .int .i64 R ∧ kj ≤ k4 + 2 * j ∧ SrcAt A n c ds bs kj w0 wr ∧ Own wr X 45 #[.string (nameA k), vc, .int .i64 (10 * (qq : Int))] ∧ OwnsL wr w2.heap.size 2 1 i64cells vc o ∧ (∀ b, vc.ownBlock = some b → b ≠ X) ∧ CellsD N j o ∧ KeptBut w2.heap.size bs w2 wr)
      case atStart => exact ⟨0, J, k4, _, [], rfl, rfl, rfl, by omega, HR5.out, HX5.out, HE5.out, fun b hb => by simp [Value.ownBlock] at hb; omega, CellsD.nil N, HK5.out⟩
      case round =>
        obtain ⟨j, R, kj, vc, o, hj, hgj, rfl, hkj, hsr, hbx, hvc, hvx, hcd, hkp⟩ := hrel
        have HGJ := Lib.hid hgj
        have HJ := Lib.hid hj
        have HSR := Lib.hid hsr
        have HBXJ := Lib.hid hbx
        have HVX := Lib.hid hvx
        have HCD := Lib.hid hcd
        have HKP := Lib.hid hkp
        have HKJ := Lib.hid hkj
        have hR3 : R ≤ 3 := by omega
        have hj3 : j ≤ 3 := by omega
        have hkjb : kj ≤ 1048570000 := by omega
        have HXL : Hid (w2.heap.size ≤ wr.heap.size) := Nat.le_trans hLX (Nat.le_of_lt hbx.lt)
        obtain ⟨BA, cc, rfl, hcc, hmm, _⟩ := hvc.slice i64cells_len
        obtain ⟨m, hm⟩ : ∃ m, o.length = m := ⟨_, rfl⟩
        have hmj : m ≤ j := by rw [← hm]; exact hcd.len
        rw [hm] at hvc HBXJ HVX hcc
        have HM := Lib.hid hm
        have HVC := Lib.hid hvc
        have x0 := HBXJ.out.cell 0
        have x1 := HBXJ.out.cell 1
        have x2 := HBXJ.out.cell 2
        have dx := HBXJ.out.frozen
        have lx := HBXJ.out.lt
        simp at x0 x1 x2
        clear hgj hj hsr hbx hvc hvx hcd hkp hm hcc hmm hkj
        by_cases hlt : 0 < R
        · have hmx : max (1 : Int) (N : Int) = (N : Int) := by omega
          have HSD := Lib.hid HSR.out.drew
          have hne5 : bs < w2.heap.size := hb2
          go_wp2_with fail
          go_region_law (first | (go_simp; go_at_call 51; refine (l00Max_any 1 (N : Int) _).mono ?_; rintro e w' ⟨rfl, rfl⟩; rw [hmx]) | (go_simp; go_at_call 48; refine (srcPick_any A n c ds bs kj N w0 _ (by first | exact HSR.out | exact HSD.out) hkjb h1N (by omega)).mono ?_; rintro e w5 ⟨r, k5, rfl, hr, hk5, hs5, ha5⟩; have HX5 := Lib.hid ((HBXJ.out.drew).span ha5 (.inr (by omega))); have HV5 : Hid (OwnsL w5 w2.heap.size 2 1 i64cells (.slice BA m cc) o) := OwnsL.span (w := wr.drew) HVC.out ha5 (fun b hb => .inr (by have := (HVC.out.lt b hb).1; omega)); have HK5 : Hid (KeptBut w2.heap.size bs w2 w5) := KeptBut.span (b := wr.drew) HKP.out ha5 HXL.out; have HS5 := Lib.hid hs5; have x5 := HX5.out.cell 1; have d5 := HX5.out.frozen; have l5 := HX5.out.lt; simp at x5; clear hs5 ha5) | (go_simp; go_at_call 50; refine (l00Put_any BA m cc o (r : Int) _ (HV5.out.sl i64cells_len) HCD.out.pw (by omega)).mono ?_; rintro e w6 ⟨v6, o6, rfl, hv6, hp6, hb6⟩; obtain ⟨G6, cap6, rfl, _, _⟩ := hv6.block (by intro h; have := hp6.pos; rw [h] at this; simp at this); have HX6 := Lib.hid (HX5.out.below' hb6); have HK6 := Lib.hid (HK5.out.below hb6 (Nat.le_trans hLX (Nat.le_of_lt HX5.out.lt))); have HS6 := Lib.hid (HS5.out.grow hb6); have HV6 := Lib.hid hv6; have HP6 := Lib.hid hp6; have HW5 := Lib.hid HX5.out.lt; have x6 := HX6.out.cell 1; have d6 := HX6.out.frozen; have l6 := HX6.out.lt; simp at x6; clear hv6 hp6 hb6))
          all_goals
            clear x0 x1 x2 dx lx x5 d5 l5 x6 d6 l6
            obtain ⟨w7, hw7⟩ : ∃ w7, w6.setCell ⟨X, 1, none⟩ (.slice (some ⟨G6, 0, none⟩) o6.length cap6) = w7 := ⟨_, rfl⟩
            have HX7 : Hid (Own w7 X 45 #[.string (nameA k), .slice (some ⟨G6, 0, none⟩) o6.length cap6, .int .i64 (10 * (qq : Int))]) := by rw [Hid, ← hw7]; simpa using HX6.out.put 1 (.slice (some ⟨G6, 0, none⟩) o6.length cap6)
            have HG6 : Hid (∀ b, (Value.slice (some ⟨G6, 0, none⟩) o6.length cap6).ownBlock = some b → b ≠ X) := fun b hb => by have h1 := (HV6.out.lt b hb).1; have h2 := HW5.out; omega
            have HV7 : Hid (OwnsL w7 w2.heap.size 2 1 i64cells (.slice (some ⟨G6, 0, none⟩) o6.length cap6) o6) := by
              rw [Hid, ← hw7]
              exact (HV6.out.rebase (by have h2 := HW5.out; omega)).kept (fun b hb => Below.heap_setCell w6 ⟨X, 1, none⟩ _ b (HG6.out b hb))
            have HK7 : Hid (KeptBut w2.heap.size bs w2 w7) := by rw [Hid, ← hw7]; exact HK6.out.put hLX _
            have HS7 : Hid (SrcAt A n c ds bs k5 w0 w7) := by
              rw [Hid, ← hw7]
              have hb0 := HS2.out.below.size
              exact HS6.out.put (p := ⟨X, 1, none⟩) (by simp only; omega) (by simp only; omega) _
            rw [hw7]
            clear hw7
            go_wp2
            go_roundg (R - 1)
            case measure => have := HGJ.out; omega
            case rel => exact ⟨j + 1, R - 1, k5, _, o6, by have := HJ.out; omega, rfl, by (first | go_num | (congr 1; omega)), by have := HKJ.out; omega, HS7.out, HX7.out, HV7.out, HG6.out, HCD.out.put ⟨by omega, by omega⟩ HP6.out, HK7.out⟩
        · have hR0 : R = 0 := by omega
          subst hR0
          have HOWR : Hid (OwnsL wr (nb + 1) 45 3 AssetR.cells v ps) := HO2.out.kept (fun b hb => HKP.out b (HL2.out b hb).2 (by have h1 := (HL2.out b hb).1; have := HLT.out; have := HNB.out; omega))
          have HPR : Hid (∀ p ∈ ps, OwnsL wr (nb + 1) 2 1 i64cells (.slice p.spotsA p.spotsN p.spotsC) p.spots) := fun p hp => (HP2.out p hp).kept (fun b hb => HKP.out b ((HP2.out p hp).lt b hb).2 (by have h1 := ((HP2.out p hp).lt b hb).1; have := HLT.out; have := HNB.out; omega))
          have HNR : Hid (Own wr nb 9 #[.string { data := #[114, 111, 97, 100] }, .string { data := #[114, 111, 111, 102] }, .string { data := #[114, 111, 112, 101] }, .string { data := #[115, 104, 101, 100] }]) := (HKP.out nb HN2.out.lt (by have := HLT.out; have := HNB.out; omega)).trans HN2.out
          have hpl : ps.length ≤ 4 := by have := HDR.out.len; rw [List.length_map] at this; omega
          have HSZR : Hid (nb + 1 ≤ wr.heap.size) := by have := HXL.out; have := HZ2.out; rw [Hid]; omega
          go_wp2_with (at_builtin; refine wpList_push2 (by rfl) (.tmp 50) (.tmp 52) 29 (by rfl) (nb + 1) 45 3 Tryz.underlying29 infoAsset (by rfl) (by decide) AssetR.cells AssetR.cells_len AssetR.cells_one _ v ps ⟨nameA k, BA, m, cc, o, 10 * (qq : Int)⟩ (by rfl) (by rfl) HOWR.out (by first | rfl | simp [go_sem]) (by omega) (by decide) HSZR.out ?_)
          intro v' w' hown' hb' hkp' hob
          have HONN := Lib.hid hown'
          have HNNN := Lib.hid (HNR.out.below hb' (Nat.lt_succ_self _))
          have HVB : Hid (∀ b, (Value.slice BA m cc).ownBlock = some b → some b ≠ v.ownBlock ∧ b < wr.heap.size ∧ w2.heap.size ≤ b) := fun b hb => ⟨fun e => by have h1 := (HL2.out b e.symm).2; have h2 := (HVC.out.lt b hb).1; omega, (HVC.out.lt b hb).2, (HVC.out.lt b hb).1⟩
          have HPNN : Hid (∀ p ∈ ps ++ [(⟨nameA k, BA, m, cc, o, 10 * (qq : Int)⟩ : AssetR)], OwnsL w' (nb + 1) 2 1 i64cells (.slice p.spotsA p.spotsN p.spotsC) p.spots) := fun p hp => by
            rcases List.mem_append.1 hp with h | h
            · exact (HPR.out p h).kept (fun b hb => hkp' b ((HPR.out p h).lt b hb).2 (fun e => HAP.out p h b hb e.symm))
            · simp at h
              subst h
              exact (HVC.out.rebase (by have := HZ2.out; omega)).kept (fun b hb => hkp' b (HVB.out b hb).2.1 (HVB.out b hb).1)
          have HANN : Hid (∀ p ∈ ps ++ [(⟨nameA k, BA, m, cc, o, 10 * (qq : Int)⟩ : AssetR)], ∀ b, (Value.slice p.spotsA p.spotsN p.spotsC).ownBlock = some b → v'.ownBlock ≠ some b) := fun p hp b hb e => by
            rcases List.mem_append.1 hp with h | h
            · rcases hob with e1 | e1
              · exact HAP.out p h b hb (e1 ▸ e)
              · rw [e1] at e; injection e with e; have := ((HPR.out p h).lt b hb).2; omega
            · simp at h
              subst h
              rcases hob with e1 | e1
              · exact (HVB.out b hb).1 (e1 ▸ e).symm
              · rw [e1] at e; injection e with e; have := (HVB.out b hb).2.1; omega
          have HSNN : Hid (SrcAt A n c ds bs kj w0 w') := by
            obtain ⟨s, ho⟩ := HSR.out.own
            have h1 := HLT.out
            have h2 := HNB.out
            exact ⟨HSR.out.sl, HSR.out.by_, HSR.out.below.trans (hb'.mono (by have := HSR.out.base; omega)), HSR.out.base, s, ho.below hb' (by omega)⟩
          have HDNN : Hid (DrawnA N (k + 1) ((ps ++ [(⟨nameA k, BA, m, cc, o, 10 * (qq : Int)⟩ : AssetR)]).map AssetR.val)) := by
            rw [Hid, List.map_append]
            exact HDR.out.add (m := 10 * (qq : Int)) hk4 HCD.out (by have := HJ.out; omega) ⟨by omega, by omega⟩
          have HZNN : Hid (nb + 2 ≤ w'.heap.size) := by have h1 := hb'.size; have h2 := HXL.out; have h3 := HZ2.out; rw [Hid]; omega
          clear hown' hb' hkp' hob x0 x1 x2 dx lx
          go_wp2
          go_roundg (4 - (k + 1))
          case measure => have := Hgk.out; omega
          case rel => exact ⟨k + 1, kj, v', _, by omega, rfl, by go_num, rfl, by have h1 := HKK.out; have h2 := HKJ.out; have h3 := HJ.out; omega, HDNN.out, HSNN.out, HNNN.out, HONN.out, HPNN.out, HZNN.out, HANN.out⟩

end Go.Proofs.YtphapakhoibamaaGreatDoor

namespace Go.Proofs.YtphapakhoibamaaGreatDoor
open Go.RowKit

set_option maxHeartbeats 1000000 in
theorem r8Assets_any (A : Option Addr) (n c : Nat) (ds : List Int) (g : GridR) (w : World) (hs : SliceOf w 1 u8cells A n ds) (hb : ∀ x ∈ ds, 0 ≤ x ∧ x ≤ 255) (hgi : g.In w) (h1N : 1 ≤ g.heightsN) (h64 : g.heightsN ≤ 64) :
    Calls Tryz.prog 7 #[.slice A n c, .agg #[.int .i64 g.rows, .int .i64 g.columns, .int .i64 g.size, .slice g.heightsA g.heightsN g.heightsC]] w (fun e w' => ∃ (v : Value) (xs : List Asset), e = .returned v ∧ Asset.validB (g.heightsN : Int) xs = true ∧ (∀ x ∈ xs, x.Good) ∧ (∃ (B : Option Addr) (cc : Nat), v = .slice B xs.length cc ∧ Asset.Sl w' B xs.length xs) ∧ Below w.heap.size w w') := by
  have HY := Lib.hid hb
  have hB : Below w.heap.size w (w.alloc (.cells #[.int .i64 g.rows, .int .i64 g.columns, .int .i64 g.size, .slice g.heightsA g.heightsN g.heightsC] 26)) := (Below.refl _ _).alloc (Nat.le_refl _) _
  have HB := Lib.hid hB
  have HS0 := Lib.hid (hs.below hB)
  have HG0 : Hid (BoxD w.heap.size g (w.alloc (.cells #[.int .i64 g.rows, .int .i64 g.columns, .int .i64 g.size, .slice g.heightsA g.heightsN g.heightsC] 26))) := ⟨Own.new _ _ _, hgi.below hB⟩
  clear hs hb hB hgi
  go_enter Tryz.func7, Tryz.ntmps7
  go_wp2_with fail
  refine (srcFrom_any A n c ds _ HS0.out HY.out).mono ?_
  rintro e w2 ⟨bs, rfl, hsrc, hb2⟩
  have HG2 := Lib.hid (HG0.out.grow hb2)
  have HSRC := Lib.hid hsrc
  clear hb2 hsrc
  go_wp2_with fail
  refine (l15Draw_any A n c ds bs w.heap.size g _ w2 HSRC.out HG2.out h1N h64).mono ?_
  rintro e w3 ⟨v, xs, rfl, hv, hgd, ⟨B, cc, rfl, hsl⟩, hb3⟩
  have HV := Lib.hid hv
  have HGD := Lib.hid hgd
  have HSL := Lib.hid hsl
  have HB3 := Lib.hid (HB.out.trans (hb3.mono HB.out.size))
  clear hv hgd hsl hb3
  go_wp2
  go_ret
  exact ⟨_, xs, rfl, HV.out, HGD.out, ⟨B, cc, rfl, HSL.out⟩, HB3.out⟩

end Go.Proofs.YtphapakhoibamaaGreatDoor
