/- ReadList: both sides. -/
import Derived.Test.YtllchmacipacnaaGreatDoorReadList
namespace Go.Proofs.YtllchmacipacnaaGreatDoor
open Go.RowKit

theorem splitB_size {sep : ByteArray} : ∀ (k : Nat) (s p : ByteArray), p ∈ Lib.splitB sep 0 k s → p.size ≤ s.size
  | 0, s, p, h => by rw [Lib.splitB_zero, List.mem_singleton] at h; rw [h]; exact Nat.le_refl _
  | k + 1, s, p, h => by
    unfold Lib.splitB at h
    split at h
    · rw [List.mem_singleton] at h; rw [h]; exact Nat.le_refl _
    · rcases List.mem_cons.1 h with h | h
      · rw [h, ByteArray.size_extract]; omega
      · have := splitB_size k _ p h
        rw [ByteArray.size_extract] at this
        omega
theorem own_cells (w : World) (P : List ByteArray) (N : Nat) (h : P.length ≤ N) (hN : N ≤ maxLen) : OwnsL (w.alloc (.cells (Lib.cellsOf P N) 9)) w.heap.size 9 1 strcells (.slice (some ⟨w.heap.size, 0, none⟩) P.length N) P :=
  ⟨by rw [flat_len strcells_len], .inr ⟨w.heap.size, N, Lib.cellsOf P N, rfl, Nat.le_refl _, Own.new w _ _, h, hN, by rw [Lib.cellsOf_size h, Nat.mul_one], by
    have e : P.flatMap strcells = P.map Value.string := by
      induction P with
      | nil => rfl
      | cons a r ih => rw [List.flatMap_cons, ih (by simp at h; omega)]; rfl
    rw [e]
    unfold Lib.cellsOf
    rw [Nat.mul_one]
    show List.take P.length (P.map Value.string ++ _) = _
    rw [List.take_left' (by simp)]⟩⟩
/-- What ReadList hands back. -/
structure ListOut (s : ByteArray) (w w' : World) (v : Value) (r : Option (List Int)) : Prop where
  reads : ReadsList s r
  own : ∀ xs, r = some xs → OwnsL w' w.heap.size 2 1 i64cells v xs
  nil : r = none → v = .slice none 0 0
  below : Below w.heap.size w w'
theorem ListOut.none {s : ByteArray} {w w' : World} (h : ReadsList s none) (hb : Below w.heap.size w w') : ListOut s w w' (.slice none 0 0) none := ⟨h, fun _ e => (by cases e), fun _ => rfl, hb⟩
theorem ListOut.some {s : ByteArray} {w w' : World} {v : Value} {xs : List Int} (hv : ValidList xs) (hs : s = textList xs) (ho : OwnsL w' w.heap.size 2 1 i64cells v xs) (hb : Below w.heap.size w w') : ListOut s w w' v (some xs) :=
  ⟨⟨fun _ e => by injection e with e; subst e; exact ⟨hv, hs⟩, fun e => (by cases e)⟩, fun _ e => by injection e with e; subst e; exact ho, fun e => (by cases e), hb⟩
theorem reads_bad_piece {s : ByteArray} {P : List ByteArray} (hf : ∀ xs, ValidList xs → s = textList xs → P = xs.map dec) {k : Nat} {p : ByteArray} (hp : P[k]? = some p) (hr : ReadsDec p none) : ReadsList s none :=
  ⟨fun _ e => (by cases e), fun _ xs hv hs => by
    rw [hf xs hv hs, List.getElem?_map] at hp
    obtain ⟨y, hy, rfl⟩ := Option.map_eq_some_iff.1 hp
    exact hr.no rfl y (hv.small (List.mem_of_getElem? hy)) rfl⟩
theorem reads_other {s : ByteArray} {P : List ByteArray} (hf : ∀ xs, ValidList xs → s = textList xs → P = xs.map dec) {nums : List Int} (hP : P = nums.map dec) (hsm : ∀ y, y ∈ nums → Small y) (hno : ValidList nums → s ≠ textList nums) : ReadsList s none :=
  ⟨fun _ e => (by cases e), fun _ xs hv hs => by
    have e := map_dec_inj (fun y hy => hv.small hy) hsm ((hf xs hv hs).symm.trans hP)
    subst e
    exact hno hv hs⟩
theorem take_piece {P : List ByteArray} {nums : List Int} {k : Nat} {m : Int} (h : P.take k = nums.map dec) (hp : P[k]? = some (dec m)) : P.take (k + 1) = (nums ++ [m]).map dec := by
  obtain ⟨hk, he⟩ := List.getElem?_eq_some_iff.1 hp
  rw [List.take_succ_eq_append_getElem hk, he, h]
  simp
set_option maxRecDepth 100000 in
set_option maxHeartbeats 4000000 in
theorem implReadList_any (s : ByteArray) (w : World) (hs : s.size ≤ 1048576) (ht : LibAt w.heap.size w) : Calls Tryz.prog 29 #[.string s] w (fun e w' => ∃ v r, e = .returned (.tuple #[v, .bool r.isSome]) ∧ ListOut s w w' v r) := by
  by_cases hbar : s = ⟨#[45]⟩
  · subst hbar
    have HO : Hid (ListOut ⟨#[45]⟩ w w (.slice none 0 0) (some [])) := ListOut.some ⟨Nat.zero_le _, fun _ h => (by cases h)⟩ rfl (OwnsL.nil_ _ _ _ _ _) (Below.refl _ _)
    clear ht
    go_enter Tryz.func29, Tryz.ntmps29
    go_wp2
    go_ret2
    exact ⟨_, _, rfl, HO.out⟩
  have hnb : (s.toList == (⟨#[45]⟩ : ByteArray).toList) = false := by
    rw [beq_eq_false_iff_ne]; intro h; exact hbar ((bytes_inj _ _).1 h)
  have hnb2 : (s.toList == [45]) = false := by simp only [ByteArray.toList_eq] at hnb ⊢; exact hnb
  clear hnb
  obtain ⟨m, hm⟩ := ht.max w (Below.refl _ _)
  obtain ⟨N, hN⟩ : ∃ N, min 65 (s.size + 1) = N := ⟨_, rfl⟩
  obtain ⟨P, hP⟩ : ∃ P, Lib.splitB ⟨#[44]⟩ 0 (N - 1) s = P := ⟨_, rfl⟩
  obtain ⟨w1, hw1⟩ : ∃ w1, w.alloc (.cells (Lib.cellsOf P N) 9) = w1 := ⟨_, rfl⟩
  have HC : Hid (Calls Tryz.prog 54 #[.string s, .string ⟨#[44]⟩, .int .i64 65] w fun e w' => e = .returned (.slice (some ⟨w.heap.size, 0, none⟩) P.length N) ∧ w' = w1) := by
    have h := Tryz.strings_SplitN s ⟨#[44]⟩ 65 m w (by omega) hm (by decide) (by decide) (by decide)
    rw [hN, hP, hw1] at h
    exact h
  have hNb : 1 ≤ N ∧ N ≤ 65 := by omega
  have hPl : P.length ≤ N := by
    have := Lib.splitB_length_le ⟨#[44]⟩ 0 (N - 1) s
    rw [hP] at this
    omega
  have hb1 : Below w.heap.size w w1 := by rw [← hw1]; exact (Below.refl _ _).alloc (Nat.le_refl _) _
  have hown : OwnsL w1 w.heap.size 9 1 strcells (.slice (some ⟨w.heap.size, 0, none⟩) P.length N) P := by
    rw [← hw1]; exact own_cells w P N hPl (by simp [maxLen]; omega)
  have HSL := Lib.hid (hown.sl strcells_len)
  have HSZ : Hid (∀ p, p ∈ P → p.size ≤ 281474976710656) := fun p hp => by
    rw [← hP] at hp
    have := splitB_size _ _ _ hp
    omega
  have HF : Hid (∀ xs, ValidList xs → s = textList xs → P = xs.map dec) := fun xs hv he => by
    have hne : xs ≠ [] := fun e => hbar (by rw [he, e]; rfl)
    rcases List.eq_nil_or_concat xs with e | ⟨ys, z, e⟩
    · exact absurd e hne
    · rw [List.concat_eq_append] at e
      have hp : Pieces 44 s.data.toList (ys.map dec) (dec z) := by rw [he, textList, if_neg hne, e]; exact pieces_list ys z
      have h1 := pieces_len hp
      have h2 := hv.1
      have h3 : s.data.toList.length = s.size := by rw [Array.length_toList]; rfl
      rw [e, List.length_append, List.length_singleton] at h2
      rw [List.length_map] at h1
      rw [← hP, splitB_pieces _ _ _ _ hp (by rw [List.length_map]; omega), e]
      simp
  have HNIL : Hid (s = ⟨#[]⟩ → ∀ nums : List Int, P ≠ nums.map dec) := fun he nums h => by
    have hp : Pieces 44 s.data.toList [] s := ⟨by simp [joinE], fun _ h => (by cases h), by rw [he]; decide⟩
    have h1 := splitB_pieces [] (N - 1) s s hp (Nat.zero_le _)
    rw [hP, h] at h1
    cases nums with
    | nil => simp at h1
    | cons a r =>
      simp at h1
      exact dec_ne_nil a (h1.1.trans he)
  have HTW := Lib.hid ht
  have HB1 := Lib.hid hb1
  obtain ⟨L, hL⟩ : ∃ L, P.length = L := ⟨_, rfl⟩
  rw [hL] at HC HSL hPl
  have HL := Lib.hid hL
  have hLb : L ≤ 65 := by omega
  clear ht hm hN hP hw1 hb1 hown hL hbar
  go_enter Tryz.func29, Tryz.ntmps29
  go_wp2_with fail
  refine HC.out.mono ?_
  rintro e w' ⟨rfl, rfl⟩
  clear HC
  go_wp2
  go_loopg [4, 14] L (fun gk s4 s14 wr => ∃ (k : Nat) (x : Value) (nums : List Int), k ≤ L ∧ gk = L - k ∧ x = s4 ∧ s14 = .int .i64 (k : Int) ∧ OwnsL wr w'.heap.size 2 1 i64cells x nums ∧ P.take k = nums.map dec ∧ (∀ y, y ∈ nums → Small y) ∧ Below w'.heap.size w' wr)
  case atStart => exact ⟨0, _, [], Nat.zero_le _, rfl, rfl, rfl, OwnsL.nil_ _ _ _ _ _, rfl, fun _ h => (by cases h), Below.refl _ _⟩
  case round =>
    obtain ⟨k, x, nums, hk, hgk, rfl, rfl, hown, htk, hsm, hbw⟩ := hrel
    have hb : Below w.heap.size w wr := HB1.out.trans (hbw.mono HB1.out.size)
    have Hgk := Lib.hid hgk
    have HOW := Lib.hid hown
    have HTK := Lib.hid htk
    have HSM := Lib.hid hsm
    have HBW := Lib.hid hbw
    have HB := Lib.hid hb
    have HTR := Lib.hid ((HTW.out.on hb).up hb.size)
    have hxr := HSL.out.below hbw
    have hnl : nums.length = k := by
      have := congrArg List.length htk
      rw [List.length_take, List.length_map, HL.out] at this
      omega
    have HNL := Lib.hid hnl
    clear hgk hown htk hsm hbw hb hnl
    by_cases hlt : k < L
    · obtain ⟨b, o, p, he, hbb, hpk, y0⟩ := strs_at hxr hlt
      injection he with he
      injection he with he1 he2
      subst he1 he2
      have HPK := Lib.hid hpk
      rw [Nat.zero_add] at y0
      clear hpk hxr
      go_wp2_with fail
      refine (readDecimal_any p wr (HSZ.out p (List.mem_of_getElem? HPK.out)) HTR.out).mono ?_
      rintro e w5 ⟨r, rfl, hr, hb5⟩
      have HR := Lib.hid hr
      have HB5 := Lib.hid (HB.out.trans (hb5.mono HB.out.size))
      have HW5 := Lib.hid (HBW.out.trans (hb5.mono HBW.out.size))
      have HO5 := Lib.hid (HOW.out.below' hb5)
      clear hr hb5 y0 hbb
      cases r with
      | none =>
        have HNO := Lib.hid (ListOut.none (reads_bad_piece HF.out HPK.out HR.out) HB5.out)
        go_wp2
        go_ret2
        exact ⟨_, _, rfl, HNO.out⟩
      | some q =>
        have hq := HR.out.yes q rfl
        have HSQ := Lib.hid hq.1
        have HTS : Hid (P.take (k + 1) = (nums ++ [q]).map dec) := take_piece HTK.out (by rw [← hq.2]; exact HPK.out)
        clear hq
        go_wp2_with (at_builtin; refine wpList_push (by rfl) (.tmp 25) (.tmp 27) 24 (by rfl) w'.heap.size 2 1 Tryz.underlying24 infoI64 (by rfl) (by decide) i64cells i64cells_len i64cells_one _ x nums q (by simp [i64cells]) (by rfl) HO5.out (by first | rfl | simp [go_sem]) (by have := HNL.out; omega) (by decide) HW5.out.size ?_)
        intro v' w6 hown' hb' _
        have HON := Lib.hid hown'
        have HBN := Lib.hid (HW5.out.trans (hb'.mono (Nat.le_refl _)))
        clear hown' hb'
        go_wp2
        go_roundg (L - (k + 1))
        case measure => have := Hgk.out; omega
        case rel => exact ⟨k + 1, v', nums ++ [q], by omega, rfl, rfl, by go_num, HON.out, HTS.out, fun y hy => by
          rcases List.mem_append.1 hy with h | h
          · exact HSM.out y h
          · rw [List.mem_singleton.1 h]; exact HSQ.out, HBN.out⟩
    · have hkL : k = L := by omega
      subst hkL
      have HPN : Hid (P = nums.map dec) := by
        have := HTK.out
        rwa [List.take_of_length_le (by rw [HL.out]; exact Nat.le_refl _)] at this
      obtain ⟨A, c, rfl, _, _, hsl⟩ := HOW.out.slice i64cells_len
      have HS2 := Lib.hid hsl
      rw [HNL.out] at HS2 ⊢
      clear hsl hxr hlt
      go_wp2_with fail
      refine (implListText_all A k c nums wr HS2.out HTR.out.tab).mono ?_
      rintro e w5 ⟨t, rfl, hcase, hb5⟩
      have HB5 := Lib.hid (HB.out.trans (hb5.mono HB.out.size))
      have HO5 := Lib.hid ((HOW.out.below' hb5).rebase HB1.out.size)
      rw [HNL.out] at HO5
      have HCA := Lib.hid hcase
      clear hcase hb5
      by_cases hts : t = s
      · subst hts
        have HV : Hid (ValidList nums ∧ t = textList nums) := by
          rcases HCA.out with h | h
          · exact h
          · exact absurd HPN.out (HNIL.out h.2 nums)
        have HOK := Lib.hid (ListOut.some HV.out.1 HV.out.2 HO5.out HB5.out)
        go_wp2
        go_ret2
        exact ⟨_, some nums, rfl, HOK.out⟩
      · have hne : (t.toList == s.toList) = false := by
          rw [beq_eq_false_iff_ne]; intro h; exact hts ((bytes_inj _ _).1 h)
        have HNO := Lib.hid (ListOut.none (reads_other HF.out HPN.out HSM.out (fun hv he => by
          rcases HCA.out with h | h
          · exact hts (h.2.trans he.symm)
          · exact h.1 hv)) HB5.out)
        clear hts
        go_wp2
        go_ret2
        exact ⟨_, none, rfl, HNO.out⟩

end Go.Proofs.YtllchmacipacnaaGreatDoor
