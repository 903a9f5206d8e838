/- The reference's splitting of a text. -/
import Derived.Test.YtgianbcplnciiaaDoorSplitP
import Derived.Test.YtgianbcplnciiaaDoorNumber
import Derived.Test.YtgianbcplnciiaaDoorBase
import Derived.Test.YtgianbcplnciiaaDoorMem
namespace Go.Proofs.YtgianbcplnciiaaDoor
open Go.RowKit

theorem strcells_len (p : ByteArray) : (strcells p).length = 1 := rfl
theorem strcells_one (p : ByteArray) : ∀ u ∈ strcells p, u.oneCell' = true := by intro u hu; simp [strcells] at hu; subst hu; rfl
theorem infoStr : (Tryd.prog.info? 9).map (fun i => (i.zero, i.size, i.bytes)) = some (some (.string ⟨#[]⟩), 1, 16) := by kernel_rfl
set_option maxRecDepth 100000 in
set_option maxHeartbeats 2000000 in
theorem l01Split_any (s : ByteArray) (c : UInt8) (w : World) (hs : s.size ≤ 1048576) : Calls Tryd.prog 33 #[.string s, .int .u8 (c.toNat : Int)] w (fun e w' => ∃ v ps last, e = .returned v ∧ OwnsL w' w.heap.size 9 1 strcells v (ps ++ [last]) ∧ Pieces c s.data.toList ps last ∧ Below w.heap.size w w') := by
  obtain ⟨l, hl⟩ : ∃ l, s.data.toList = l := ⟨_, rfl⟩
  have HAT : Hid (∀ k (h : k < s.size), l[k]? = some s[k]) := fun k h => by rw [← hl]; exact str_at h
  have HL := Lib.hid hl
  have HOA := Lib.hid (OwnsL.made w w.heap.size 9 1 strcells (Nat.le_refl _))
  have HBA := Lib.hid ((Below.refl w.heap.size w).alloc (Nat.le_refl _) (.cells #[] 9))
  clear hl
  go_enter Tryd.func33, Tryd.ntmps33
  go_wp2
  go_loopg [5, 6, 7] s.size (fun gk s5 s6 s7 wr => ∃ (k f : Nat) (x : Value) (ps : List ByteArray), k ≤ s.size ∧ gk = s.size - k ∧ x = s5 ∧ s6 = .int .i64 (f : Int) ∧ s7 = .int .i64 (k : Int) ∧ SplitSt c s.data.toList k f ps ∧ OwnsL wr w.heap.size 9 1 strcells x ps ∧ Below w.heap.size w wr)
  case atStart => exact ⟨0, 0, _, [], Nat.zero_le _, rfl, rfl, rfl, rfl, SplitSt.start _ _, HOA.out, HBA.out⟩
  case round =>
    obtain ⟨k, f, x, ps, hk, hgk, rfl, rfl, rfl, hst, hown, hb⟩ := hrel
    have hfk := hst.fk
    have Hgk := Lib.hid hgk
    have HST := Lib.hid hst
    have HOW := Lib.hid hown
    have HB := Lib.hid hb
    have hpl := hst.len
    have HPL := Lib.hid hpl
    clear hgk hst hown hb hpl
    by_cases hlt : k < s.size
    · have hbk : s.data.toList[k]? = some s[k] := str_at hlt
      by_cases hc : s[k] = c
      · have hceq : (((s[k].toNat : Nat) : Int) == ((c.toNat : Nat) : Int)) = true := by rw [hc]; simp
        rw [hc] at hbk
        have HHIT := Lib.hid (HST.out.hit hbk)
        clear hbk hc
        go_wp2_with (at_builtin; refine wpList_push (by rfl) (.tmp 20) (.tmp 25) 56 (by rfl) w.heap.size 9 1 Tryd.underlying56 infoStr (by rfl) (by decide) strcells strcells_len strcells_one _ x ps (s.extract f k) (by simp [strcells]) (by rfl) HOW.out (by first | rfl | simp [go_sem]) (by have := HPL.out; omega) (by decide) HB.out.size ?_)
        intro v' w' hown' hb' _
        have HON := Lib.hid hown'
        have HBN := Lib.hid (HB.out.trans (hb'.mono (Nat.le_refl _)))
        clear hown' hb'
        go_wp2
        go_roundg (s.size - (k + 1))
        case measure => have := Hgk.out; omega
        case rel => exact ⟨k + 1, k + 1, v', _, by omega, rfl, rfl, by go_num, by go_num, HHIT.out, HON.out, HBN.out⟩
      · have hceq : (((s[k].toNat : Nat) : Int) == ((c.toNat : Nat) : Int)) = false := by
          simp only [beq_eq_false_iff_ne]
          intro h
          exact hc (UInt8.toNat_inj.1 (by omega))
        have HMISS := Lib.hid (HST.out.miss hbk hc)
        clear hbk hc
        go_wp2
        go_roundg (s.size - (k + 1))
        case measure => have := Hgk.out; omega
        case rel => exact ⟨k + 1, f, x, _, by omega, rfl, rfl, rfl, by go_num, HMISS.out, HOW.out, HB.out⟩
    · have hkm : k = s.size := by omega
      subst hkm
      have HD := Lib.hid HST.out.done
      clear hlt
      go_wp2_with (at_builtin; refine wpList_push (by rfl) (.tmp 29) (.tmp 33) 56 (by rfl) w.heap.size 9 1 Tryd.underlying56 infoStr (by rfl) (by decide) strcells strcells_len strcells_one _ x ps (s.extract f s.size) (by simp [strcells]) (by rfl) HOW.out (by first | rfl | simp [go_sem]) (by have := HPL.out; omega) (by decide) HB.out.size ?_)
      intro v' w' hown' hb' _
      have HON := Lib.hid hown'
      have HBN := Lib.hid (HB.out.trans (hb'.mono (Nat.le_refl _)))
      clear hown' hb'
      go_wp2
      go_ret
      exact ⟨v', ps, _, rfl, HON.out, HD.out, HBN.out⟩

end Go.Proofs.YtgianbcplnciiaaDoor
