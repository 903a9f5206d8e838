/- ReadDecimal of the program: through the library's reading of a number. -/
import Derived.Test.YtllchmacipacnaaGreatDoorDecP
import Derived.Test.YtllchmacipacnaaGreatDoorShelfR
import Derived.Shelf.Strconv.ErrVarParseInt
namespace Go.Proofs.YtllchmacipacnaaGreatDoor
open Go.RowKit

/-- What the library's variables hold, whatever is done from block B on. -/
structure LibAt (B : Nat) (w : World) : Prop where
  tab : TabAt B w
  syn : ∀ w', Below B w w' → ∃ tp p, w'.var? Tryz.prog "strconv.ErrSyntax" = some #[.iface tp p]
  rng : ∀ w', Below B w w' → ∃ tp p, w'.var? Tryz.prog "strconv.ErrRange" = some #[.iface tp p]
  max : ∀ w', Below B w w' → ∃ m : Int, w'.cell? ⟨0, 0, none⟩ = some (.int .i64 m)
theorem LibAt.on {B : Nat} {w w' : World} (h : LibAt B w) (hb : Below B w w') : LibAt B w' := ⟨h.tab.on hb, fun w2 h2 => h.syn w2 (hb.trans h2), fun w2 h2 => h.rng w2 (hb.trans h2), fun w2 h2 => h.max w2 (hb.trans h2)⟩
theorem LibAt.up {B C : Nat} {w : World} (h : LibAt B w) (hc : B ≤ C) : LibAt C w := ⟨h.tab.up hc, fun w2 h2 => h.syn w2 (h2.mono hc), fun w2 h2 => h.rng w2 (h2.mono hc), fun w2 h2 => h.max w2 (h2.mono hc)⟩
theorem LibAt.grow {w w' : World} (h : LibAt w.heap.size w) (hb : Below w.heap.size w w') : LibAt w'.heap.size w' := (h.on hb).up hb.size
set_option maxHeartbeats 1000000 in
theorem readDecimal_any (s : ByteArray) (w : World) (hs : s.size ≤ 281474976710656) (ht : LibAt w.heap.size w) : Calls Tryz.prog 28 #[.string s] w (fun e w' => ∃ r : Option Int, e = .returned (.tuple #[.int .i64 (r.getD 0), .bool r.isSome]) ∧ ReadsDec s r ∧ Below w.heap.size w w') := by
  obtain ⟨tp, p, hsyn⟩ := ht.syn w (Below.refl _ _)
  obtain ⟨tq, q, hrng⟩ := ht.rng w (Below.refl _ _)
  have HT := Lib.hid ht
  cases hp : Lib.parseIntB 64 s.data.toList
  · rename_i n
    have HC := Lib.hid (Tryz.strconv_ParseInt_10_at64_ok s (by omega) n hp w)
    have hb64 : I64 n := parse_bd hp
    clear hsyn hrng ht
    go_enter Tryz.func28, Tryz.ntmps28
    go_wp2_with fail
    refine HC.out.mono ?_
    rintro e w1 ⟨rfl, hw1⟩
    have HB1 : Hid (Below w.heap.size w w1) := by
      rcases hw1 with rfl | ⟨t, rfl⟩
      · exact Below.refl _ _
      · exact Lib.bytesWorld_below _ _ _
    have HT1 := Lib.hid (HT.out.grow HB1.out)
    obtain ⟨T, hT⟩ : ∃ T : ByteArray, (⟨(Lib.trimPrefix s.data.toList [45]).toArray⟩ : ByteArray) = T := ⟨_, rfl⟩
    have HTL : Hid ((Lib.trimPrefix s.data.toList [45]).length = T.size) := by rw [Hid, ← hT]; show _ = (Lib.trimPrefix s.data.toList [45]).toArray.size; simp
    have HP := Lib.hid hp
    clear hw1 hp
    go_wp2_with fail
    refine (Tryz.strings_TrimPrefix s ⟨#[45]⟩ _).mono ?_
    rintro e w' ⟨rfl, rfl⟩
    have hT2 : (⟨(Lib.trimPrefix s.data.toList (⟨#[45]⟩ : ByteArray).data.toList).toArray⟩ : ByteArray) = T := hT
    rw [hT2]
    clear hT hT2
    by_cases h18 : 18 < T.size
    · have hno : ReadsDec s none := reads_no fun m hm hpm he hsm => by
        rw [HP.out] at hpm
        injection hpm with hpm
        subst hpm
        have h1 := HTL.out
        rw [he, dec_list, trim_itoa] at h1
        have h2 := small_digits.1 hsm
        omega
      have HNO := Lib.hid hno
      clear hno
      go_wp2
      go_ret2
      exact ⟨none, rfl, HNO.out, HB1.out⟩
    · go_wp2_with fail
      refine (implDecimal_any n _ hb64 HT1.out.tab).mono ?_
      rintro e w2 ⟨rfl, hb2⟩
      have HB2 := Lib.hid (HB1.out.trans (hb2.mono HB1.out.size))
      clear hb2
      by_cases hd : dec n = s
      · have hsm : Small n := small_digits.2 (by have h1 := HTL.out; rw [← hd, dec_list, trim_itoa] at h1; omega)
        have HSM := Lib.hid hsm
        subst hd
        clear hsm
        go_wp2
        go_ret2
        exact ⟨some n, rfl, ReadsDec.of HSM.out, HB2.out⟩
      · have hno : ReadsDec s none := reads_no fun m hm hpm he hsm => by
          rw [HP.out] at hpm
          injection hpm with hpm
          subst hpm
          exact hd he.symm
        have HNO := Lib.hid hno
        have hne : ((dec n).toList == s.toList) = false := by
          rw [beq_eq_false_iff_ne]; intro h; exact hd ((bytes_inj _ _).1 h)
        clear hno
        go_wp2
        go_ret2
        exact ⟨none, rfl, HNO.out, HB2.out⟩
  all_goals
    have hno : ReadsDec s none := reads_no fun m hm hpm he hsm => by rw [hp] at hpm; cases hpm
    have HNO := Lib.hid hno
    clear hno
  · have HC := Lib.hid (Any.strconv_ParseInt_10_at64_syntax_var Tryz.laysC174 s hs hp tp p w hsyn)
    clear hsyn hrng ht hp
    go_enter Tryz.func28, Tryz.ntmps28
    go_wp2_with fail
    refine HC.out.mono ?_
    rintro e w1 ⟨N, rfl, hN, _, hb1⟩
    have HB1 := Lib.hid hb1
    clear hb1
    go_wp2
    go_ret2
    exact ⟨none, rfl, HNO.out, HB1.out⟩
  · have HC := Lib.hid (Any.strconv_ParseInt_10_at64_range_var Tryz.laysC174 s hs hp tq q w hrng)
    clear hsyn hrng ht hp
    go_enter Tryz.func28, Tryz.ntmps28
    go_wp2_with fail
    refine HC.out.mono ?_
    rintro e w1 ⟨N, rfl, hN, _, hb1⟩
    have HB1 := Lib.hid hb1
    clear hb1
    go_wp2
    go_ret2
    exact ⟨none, rfl, HNO.out, HB1.out⟩

end Go.Proofs.YtllchmacipacnaaGreatDoor
