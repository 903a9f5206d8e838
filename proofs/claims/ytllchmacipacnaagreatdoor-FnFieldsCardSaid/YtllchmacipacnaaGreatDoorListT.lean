/- The text of a list of numbers: both sides. -/
import Derived.Test.YtllchmacipacnaaGreatDoorListP
import Derived.Test.YtllchmacipacnaaGreatDoorSplit
import Derived.Test.YtllchmacipacnaaGreatDoorTInt64
import Derived.Test.YtllchmacipacnaaGreatDoorWithin
import Derived.Test.YtllchmacipacnaaGreatDoorShelfJ
namespace Go.Proofs.YtllchmacipacnaaGreatDoor
open Go.RowKit

theorem make_0 {P : Program} {t e : TypeId} {z : Value} {sz bytes n : Nat} (ht : P.underlying t = some (.slice e)) (hinfo : (P.info? e).map (fun i => (i.zero, i.size, i.bytes)) = some (some z, sz, bytes)) (hb : bytes * n ≤ 281474976710656) (hn : n ≤ 9223372036854775807) (w : World) :
    (Instr.makeSlice t (.int .i64 0) (.int .i64 (n : Int))).run P w = .ok (.slice (some ⟨w.heap.size, 0, none⟩) 0 n) (w.alloc (.cells (madeCells z.cells (n * sz)) e)) := by
  cases hi : P.info? e with
  | none => rw [hi] at hinfo; cases hinfo
  | some i =>
    rw [hi] at hinfo
    simp only [Option.map_some, Option.some.injEq, Prod.mk.injEq] at hinfo
    obtain ⟨h1, rfl, rfl⟩ := hinfo
    have h2 : ((i.bytes * n : Nat) : Int) ≤ 281474976710656 := by omega
    rw [Int.natCast_mul] at h2
    have h := run_make (P := P) w t e i z ht hi h1 .i64 .i64 0 (n : Int) (by omega) (by omega) h2 (by omega)
    simpa using h
theorem own_made0 {α : Type} (w : World) (z : Array Value) (n : Nat) (T : TypeId) (cells : α → List Value) (hn : n ≤ maxLen) : OwnsL (w.alloc (.cells (madeCells z n) T)) w.heap.size T 1 cells (.slice (some ⟨w.heap.size, 0, none⟩) 0 n) [] :=
  ⟨rfl, .inr ⟨w.heap.size, n, madeCells z n, rfl, Nat.le_refl _, Own.new w _ _, Nat.zero_le _, hn, by rw [size_madeCells, Nat.mul_one], by simp⟩⟩
set_option maxRecDepth 100000 in
set_option maxHeartbeats 2000000 in
theorem implListText_any (A : Option Addr) (n c : Nat) (xs : List Int) (w : World) (hx : SliceOf w 1 i64cells A n xs) (hn : n ≤ 64) (hb : ∀ y, y ∈ xs → -1000000000000 ≤ y ∧ y ≤ 1000000000000) (ht : TabAt w.heap.size w) : Calls Tryz.prog 31 #[.slice A n c] w (Ret (.string (textList xs)) w) := by
  have hl := hx.len
  by_cases h0 : n = 0
  · subst h0
    obtain rfl : xs = [] := List.eq_nil_of_length_eq_zero hl
    go_enter Tryz.func31, Tryz.ntmps31
    go_wp2
    go_ret
    exact Ret.mk rfl (Below.refl _ _)
  have hne : ((n : Int) == 0) = false := by simp; omega
  have hgt : decide ((64 : Int) < (n : Int)) = false := decide_eq_false (by omega)
  have HI64 : Hid (∀ y, y ∈ xs → I64 y) := fun y hy => by have := hb y hy; unfold I64; omega
  have HX := Lib.hid hx
  have HL := Lib.hid hl
  have HBD := Lib.hid hb
  have HT := Lib.hid ht
  have hmk := make_0 (P := Tryz.prog) (t := 85) (n := n) Tryz.underlying85 infoStr (by omega) (by omega)
  have HOA := Lib.hid (own_made0 w (Value.string ⟨#[]⟩).cells (n * 1) 9 strcells (by simp [maxLen]; omega))
  rw [Nat.mul_one] at HOA
  have HBA := Lib.hid ((Below.refl w.heap.size w).alloc (Nat.le_refl _) (.cells (madeCells (Value.string ⟨#[]⟩).cells (n * 1)) 9))
  rw [Nat.mul_one] at HBA
  clear hx hl hb ht
  go_enter Tryz.func31, Tryz.ntmps31
  go_wp2
  clear hmk
  go_loopg [3, 17] n (fun gk s3 s17 wr => ∃ (k : Nat) (x : Value), k ≤ n ∧ gk = n - k ∧ x = s3 ∧ s17 = .int .i64 (k : Int) ∧ OwnsL wr w.heap.size 9 1 strcells x ((xs.take k).map dec) ∧ Below w.heap.size w wr)
  case atStart => exact ⟨0, _, Nat.zero_le _, rfl, rfl, rfl, HOA.out, HBA.out⟩
  case round =>
    obtain ⟨k, x, hk, hgk, rfl, rfl, hown, hb⟩ := hrel
    have Hgk := Lib.hid hgk
    have HOW := Lib.hid hown
    have HB := Lib.hid hb
    have HTR := Lib.hid ((HT.out.on hb).up hb.size)
    have hxr := HX.out.below hb
    clear hgk hown hb
    by_cases hlt : k < n
    · obtain ⟨b, o, y, rfl, hbb, hyk, y0⟩ := ints_at hxr hlt
      have HYK := Lib.hid hyk
      have hyb := HBD.out y (List.mem_of_getElem? hyk)
      have hin : inB y (-1000000000000) 1000000000000 = true := inB_iff.2 hyb
      have HSN : Hid ((xs.take (k + 1)).map dec = (xs.take k).map dec ++ [dec y]) := by rw [Hid, take_snocL HYK.out]; simp
      clear hyk hxr
      go_wp2_with (first | (go_at_call 24; refine (within_any _ _ _ _).mono ?_; rintro e w' ⟨rfl, rfl⟩; rw [hin]) | (go_at_call 30; refine (implDecimal_any y wr (HI64.out y (List.mem_of_getElem? HYK.out)) HTR.out).mono ?_; rintro e w5 ⟨rfl, hb5⟩; have HB5 := Lib.hid (HB.out.trans (hb5.mono HB.out.size)); have HO5 := Lib.hid (HOW.out.below' hb5); clear hb5 y0 hbb) | (at_builtin; refine wpList_push (by rfl) (.tmp 24) (.tmp 27) 85 (by rfl) w.heap.size 9 1 Tryz.underlying85 infoStr (by rfl) (by decide) strcells strcells_len strcells_one _ x ((xs.take k).map dec) (dec y) (by simp [strcells]) (by rfl) HO5.out (by first | rfl | simp [go_sem]) (by rw [List.length_map, List.length_take]; omega) (by decide) HB5.out.size ?_))
      intro v' w' hown' hb' _
      have HON := Lib.hid hown'
      have HBN := Lib.hid (HB5.out.trans (hb'.mono (Nat.le_refl _)))
      clear hown' hb'
      go_wp2
      go_roundg (n - (k + 1))
      case measure => have := Hgk.out; omega
      case rel => exact ⟨k + 1, v', by omega, rfl, rfl, by go_num, by rw [HSN.out, List.map_take]; exact HON.out, HBN.out⟩
    · have hkn : k = n := by omega
      subst hkn
      have hfull : xs.take k = xs := List.take_of_length_le (by rw [HL.out]; exact Nat.le_refl _)
      have hown := HOW.out
      rw [hfull] at hown
      have hlen : (xs.map dec).length = k := by rw [List.length_map]; exact HL.out
      obtain ⟨C, cp, rfl, hcp, _, hsl⟩ := hown.slice strcells_len
      rw [hlen] at hcp hsl ⊢
      obtain ⟨bk, o, rfl, hbk, hcl⟩ := hsl.base_ (by omega)
      have hne2 : xs ≠ [] := fun e => by rw [e] at HL; have := HL.out; simp at this; omega
      have HJ := Lib.hid (Tryz.strings_Join bk o cp (xs.map dec) ⟨#[44]⟩ wr (fun j z hz => by have := hcl j z 0 _ hz rfl; simpa using this) hbk (by omega) (by omega) (by
        have e := join_decs xs
        have h1 := accText_size xs HI64.out
        have h2 := HL.out
        rw [← e] at h1
        have h3 : (Lib.join ((xs.map dec).map (·.data.toList)) [44]).length ≤ 22 * xs.length := by rw [list_size] at h1; exact h1
        have h4 : (⟨#[44]⟩ : ByteArray).data.toList = [44] := rfl
        rw [h4]
        omega))
      rw [hlen] at HJ
      have HE : Hid ((⟨(Lib.join ((xs.map dec).map (·.data.toList)) (⟨#[44]⟩ : ByteArray).data.toList).toArray⟩ : ByteArray) = textList xs) := by
        have h4 : (⟨#[44]⟩ : ByteArray).data.toList = [44] := rfl
        rw [Hid, h4, join_decs, textList, if_neg hne2]
      clear hfull hown hlen hcp hsl hbk hcl hne2 hxr hlt
      go_wp2_with fail
      refine HJ.out.mono ?_
      rintro e w6 ⟨rfl, hb6⟩
      rw [HE.out]
      have HB6 := Lib.hid (HB.out.trans (hb6.mono HB.out.size))
      clear hb6
      go_wp2
      go_ret
      exact Ret.mk rfl HB6.out

end Go.Proofs.YtllchmacipacnaaGreatDoor
