/- ReadList, and the text of any list: both sides. -/
import Derived.Test.YtllchmacipacnaaGreatDoorListT
import Derived.Test.YtllchmacipacnaaGreatDoorListQ
import Derived.Test.YtllchmacipacnaaGreatDoorReadDec
import Derived.Test.YtllchmacipacnaaGreatDoorShelfS
namespace Go.Proofs.YtllchmacipacnaaGreatDoor
open Go.RowKit

set_option maxRecDepth 100000 in
set_option maxHeartbeats 2000000 in
theorem implListText_all (A : Option Addr) (n c : Nat) (xs : List Int) (w : World) (hx : SliceOf w 1 i64cells A n xs) (ht : TabAt w.heap.size w) : Calls Tryz.prog 31 #[.slice A n c] w (fun e w' => ∃ t, e = .returned (.string t) ∧ (ValidList xs ∧ t = textList xs ∨ ¬ ValidList xs ∧ t = ⟨#[]⟩) ∧ Below w.heap.size w w') := by
  have hl := hx.len
  have hle := hx.le
  by_cases hnv : ValidList xs
  · refine (implListText_any A n c xs w hx (by rw [← hl]; exact hnv.1) hnv.2 ht).mono ?_
    rintro e w' ⟨rfl, hb⟩
    exact ⟨_, rfl, .inl ⟨hnv, rfl⟩, hb⟩
  have h0 : n ≠ 0 := fun e => hnv (by
    obtain rfl : xs = [] := List.eq_nil_of_length_eq_zero (by omega)
    exact ⟨Nat.zero_le _, fun y h => by cases h⟩)
  by_cases hn64 : 64 < n
  · have hgt : decide ((64 : Int) < (n : Int)) = true := decide_eq_true (by omega)
    have HNV := Lib.hid hnv
    clear hnv hx hl
    go_enter Tryz.func31, Tryz.ntmps31
    go_wp2
    all_goals (go_ret; exact ⟨_, rfl, .inr ⟨HNV.out, rfl⟩, Below.refl _ _⟩)
  have hn : n ≤ 64 := by omega
  clear hn64
  have hne : ((n : Int) == 0) = false := by simp; omega
  have hgt : decide ((64 : Int) < (n : Int)) = false := decide_eq_false (by omega)
  have HX := Lib.hid hx
  have HL := Lib.hid hl
  have HNV := Lib.hid hnv
  have HT := Lib.hid ht
  have hmk := make_0 (P := Tryz.prog) (t := 85) (n := n) Tryz.underlying85 infoStr (by omega) (by omega)
  have HOA := Lib.hid (own_made0 w (Value.string ⟨#[]⟩).cells (n * 1) 9 strcells (by simp [maxLen]; omega))
  rw [Nat.mul_one] at HOA
  have HBA := Lib.hid ((Below.refl w.heap.size w).alloc (Nat.le_refl _) (.cells (madeCells (Value.string ⟨#[]⟩).cells (n * 1)) 9))
  rw [Nat.mul_one] at HBA
  clear hx hl hnv ht
  go_enter Tryz.func31, Tryz.ntmps31
  go_wp2
  clear hmk
  go_loopg [3, 17] n (fun gk s3 s17 wr => ∃ (k : Nat) (x : Value), k ≤ n ∧ gk = n - k ∧ x = s3 ∧ s17 = .int .i64 (k : Int) ∧ OwnsL wr w.heap.size 9 1 strcells x ((xs.take k).map dec) ∧ Below w.heap.size w wr ∧ ∀ j y, j < k → xs[j]? = some y → -1000000000000 ≤ y ∧ y ≤ 1000000000000)
  case atStart => exact ⟨0, _, Nat.zero_le _, rfl, rfl, rfl, HOA.out, HBA.out, fun j _ h => absurd h (Nat.not_lt_zero j)⟩
  case round =>
    obtain ⟨k, x, hk, hgk, rfl, rfl, hown, hb, hall⟩ := hrel
    have HALL := Lib.hid hall
    clear hall
    have Hgk := Lib.hid hgk
    have HOW := Lib.hid hown
    have HB := Lib.hid hb
    have HTR := Lib.hid ((HT.out.on hb).up hb.size)
    have hxr := HX.out.below hb
    clear hgk hown hb
    by_cases hlt : k < n
    · obtain ⟨b, o, y, rfl, hbb, hyk, y0⟩ := ints_at hxr hlt
      have HYK := Lib.hid hyk
      cases hin : inB y (-1000000000000) 1000000000000
      · clear hyk hxr
        go_wp2_with (go_at_call 24; refine (within_any _ _ _ _).mono ?_; rintro e w' ⟨rfl, rfl⟩; rw [hin])
        go_ret
        exact ⟨_, rfl, .inr ⟨HNV.out, rfl⟩, HB.out⟩
      have hyb := inB_iff.1 hin
      have HYB := Lib.hid hyb
      have HSN : Hid ((xs.take (k + 1)).map dec = (xs.take k).map dec ++ [dec y]) := by rw [Hid, take_snocL HYK.out]; simp
      clear hyk hxr hyb
      go_wp2_with (first | (go_at_call 24; refine (within_any _ _ _ _).mono ?_; rintro e w' ⟨rfl, rfl⟩; rw [hin]) | (go_at_call 30; refine (implDecimal_any y wr (by have := HYB.out; unfold I64; omega) HTR.out).mono ?_; rintro e w5 ⟨rfl, hb5⟩; have HB5 := Lib.hid (HB.out.trans (hb5.mono HB.out.size)); have HO5 := Lib.hid (HOW.out.below' hb5); clear hb5 y0 hbb) | (at_builtin; refine wpList_push (by rfl) (.tmp 24) (.tmp 27) 85 (by rfl) w.heap.size 9 1 Tryz.underlying85 infoStr (by rfl) (by decide) strcells strcells_len strcells_one _ x ((xs.take k).map dec) (dec y) (by simp [strcells]) (by rfl) HO5.out (by first | rfl | simp [go_sem]) (by rw [List.length_map, List.length_take]; omega) (by decide) HB5.out.size ?_))
      intro v' w' hown' hb' _
      have HON := Lib.hid hown'
      have HBN := Lib.hid (HB5.out.trans (hb'.mono (Nat.le_refl _)))
      clear hown' hb'
      go_wp2
      go_roundg (n - (k + 1))
      case measure => have := Hgk.out; omega
      case rel => exact ⟨k + 1, v', by omega, rfl, rfl, by go_num, by rw [HSN.out, List.map_take]; exact HON.out, HBN.out, fun j z hj hz => by
        by_cases e : j = k
        · subst e; rw [HYK.out] at hz; injection hz with hz; subst hz; exact HYB.out
        · exact HALL.out j z (by omega) hz⟩
    · exact absurd ⟨by rw [HL.out]; omega, fun y hy => by
        obtain ⟨j, hj⟩ := List.getElem?_of_mem hy
        have := (List.getElem?_eq_some_iff.1 hj).1
        exact HALL.out j y (by have := HL.out; omega) hj⟩ HNV.out

end Go.Proofs.YtllchmacipacnaaGreatDoor
