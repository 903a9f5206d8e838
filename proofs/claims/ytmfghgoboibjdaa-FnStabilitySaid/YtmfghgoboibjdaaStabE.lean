/- The profile that the law of stability draws. -/
import Derived.Test.YtmfghgoboibjdaaStabD
namespace Go.Proofs.Ytmfghgoboibjdaa
open Go.RowKit

theorem infoLayerE : (Try.prog.info? 30).map (fun i => (i.zero, i.size, i.bytes)) = some (some (.agg #[.int .i64 0, .int .i64 0, .int .i64 0, .int .i64 0, .int .i64 0, .int .i64 0, .int .i64 0]), 7, 56) := by kernel_rfl
set_option maxHeartbeats 1000000 in
theorem l03Draw_ok (A : Option Addr) (n c : Nat) (ds : List Int) (bs : Nat) (w0 w : World) (h : SrcAt A n c ds bs 0 w0 w) :
    Calls Try.prog 19 #[.pointer (some ⟨bs, 0, none⟩)] w (fun e w' => ∃ (v : Value) (L : List Layer), e = .returned v ∧ profB L = true ∧ OwnsL w' w.heap.size 30 7 Layer.cells v L ∧ Below w0.heap.size w0 w') := by
  have H := Lib.hid h
  have HLT := Lib.hid h.lt
  have hb1 : Below w.heap.size w (w.alloc (.cells #[] 30)) := (Below.refl _ _).alloc (Nat.le_refl _) _
  have HSA := Lib.hid (h.grow hb1)
  have HOA := Lib.hid (OwnsL.made w w.heap.size 30 7 Layer.cells (Nat.le_refl _))
  obtain ⟨wa, hwa⟩ : ∃ wa, w.alloc (.cells #[] 30) = wa := ⟨_, rfl⟩
  rw [hwa] at HSA HOA hb1
  have HWA := Lib.hid hwa
  have HB1 := Lib.hid hb1.size
  clear h hb1 hwa
  go_enter Try.func19, Try.ntmps19
  go_wp2_with fail
  rw [HWA.out]
  refine (srcPick_any A n c ds bs 0 6 w0 wa HSA.out (by omega) (by omega) (by omega)).mono ?_
  rintro e w1 ⟨q, k1, rfl, hq, hk1, hs1, ha1⟩
  have HS1 := Lib.hid hs1
  have HO1 := Lib.hid (HOA.out.span ha1 (fun k hk => .inr (by have := (HOA.out.lt k hk).1; have := HLT.out; omega)))
  have HZ1 := Lib.hid (Nat.le_trans HB1.out ha1.size)
  clear hs1 ha1
  go_wp2
  go_loopg [3, 4] q (fun gk s3 s4 wr => ∃ (m kk : Nat) (v : Value) (L : List Layer), m ≤ q ∧ gk = m ∧ s4 = .int .i64 m ∧ v = s3 ∧ L.length + m = q ∧ kk ≤ 2 + 14 * L.length ∧ (∀ x ∈ L, x.oneB = true) ∧ SrcAt A n c ds bs kk w0 wr ∧ OwnsL wr w.heap.size 30 7 Layer.cells v L ∧ w.heap.size ≤ wr.heap.size)
  case atStart => exact ⟨q, k1, _, [], Nat.le_refl _, rfl, rfl, rfl, by simp, by simpa using hk1, by simp, HS1.out, HO1.out, HZ1.out⟩
  case round =>
    obtain ⟨m, kk, v, L, hmq, hgk, rfl, rfl, hLm, hkk, hone, hsr, hown, hsz⟩ := hrel
    subst hgk
    have HLM := Lib.hid hLm
    have HKK := Lib.hid hkk
    have HONE := Lib.hid hone
    have HSR := Lib.hid hsr
    have HOW := Lib.hid hown
    have HSZ := Lib.hid hsz
    have hkl : kk ≤ 1000 := by omega
    clear hLm hkk hone hsr hown hsz
    by_cases hm0 : 0 < gk
    · go_wp2_with fail
      refine (l03DrawOne_ok A n c ds bs kk w0 wr HSR.out hkl).mono ?_
      rintro e w2 ⟨x, k2, rfl, hx, hk2, hs2, ha2⟩
      have HX := Lib.hid hx
      have HK2 := Lib.hid hk2
      have HS2 := Lib.hid hs2
      have HO2 := Lib.hid (HOW.out.span ha2 (fun k hk => .inr (by have := (HOW.out.lt k hk).1; have := HLT.out; omega)))
      have HZ2 := Lib.hid (Nat.le_trans HSZ.out ha2.size)
      have HLL : Hid (L.length ≤ 6) := by have := HLM.out; rw [Hid]; omega
      clear hx hk2 hs2 ha2
      go_wp2_with (at_builtin; refine wpList_push (by rfl) (.tmp 12) (.tmp 15) 24 (by rfl) w.heap.size 30 7 Try.underlying24 infoLayerE (by rfl) (by decide) Layer.cells Layer.cells_len Layer.cells_one _ v L x (by rfl) (by rfl) HO2.out (by first | rfl | simp [go_sem]) (by have := HLL.out; omega) (by decide) HZ2.out ?_)
      intro v' w' hown' hb' _
      have HSN : Hid (SrcAt A n c ds bs k2 w0 w') := by
        obtain ⟨s, ho⟩ := HS2.out.own
        exact ⟨HS2.out.sl, HS2.out.by_, HS2.out.below.trans (hb'.mono (Nat.le_trans HS2.out.base (Nat.le_of_lt HLT.out))), HS2.out.base, s, ho.below (hb'.mono (Nat.le_refl _)) HLT.out⟩
      have HON := Lib.hid hown'
      have HZN : Hid (w.heap.size ≤ w'.heap.size) := Nat.le_trans HZ2.out (by simpa using hb'.size)
      clear hown' hb'
      obtain ⟨q2, hq2⟩ : ∃ q2 : Nat, gk = q2 + 1 := ⟨gk - 1, by omega⟩
      subst hq2
      go_wp2
      go_roundg q2
      case measure => omega
      case rel => exact ⟨q2, k2, v', L ++ [x], by omega, rfl, by go_num, rfl, by have := HLM.out; rw [List.length_append]; simp; omega, by have := HK2.out; have := HKK.out; rw [List.length_append]; simp; omega, by
        intro y hy
        rcases List.mem_append.1 hy with h' | h'
        · exact HONE.out y h'
        · simp at h'; subst h'; exact HX.out, HSN.out, HON.out, HZN.out⟩
    · have h0 : gk = 0 := by omega
      subst h0
      go_wp2
      go_ret
      exact ⟨v, L, rfl, profB_iff.2 ⟨by have := HLM.out; omega, HONE.out⟩, HOW.out, HSR.out.below⟩
set_option maxHeartbeats 1000000 in
theorem r8Profile_ok (A : Option Addr) (n c : Nat) (ds : List Int) (w : World) (hs : SliceOf w 1 u8cells A n ds) (hb : ∀ x ∈ ds, 0 ≤ x ∧ x ≤ 255) :
    Calls Try.prog 5 #[.slice A n c] w (fun e w' => ∃ (AL : Option Addr) (cl : Nat) (L : List Layer), e = .returned (.slice AL L.length cl) ∧ L.length ≤ cl ∧ cl ≤ maxLen ∧ profB L = true ∧ SliceOf w' 7 Layer.cells AL L.length L ∧ Below w.heap.size w w') := by
  have HS := Lib.hid hs
  have HY := Lib.hid hb
  clear hs hb
  go_enter Try.func5, Try.ntmps5
  go_wp2_with fail
  refine (srcFrom_any A n c ds w HS.out HY.out).mono ?_
  rintro e w2 ⟨bs, rfl, hsrc, hb2⟩
  go_wp2_with fail
  refine (l03Draw_ok A n c ds bs w w2 hsrc).mono ?_
  rintro e w3 ⟨v, L, rfl, hv, hown, hb3⟩
  obtain ⟨AL, cl, rfl, h1, h2, hsl⟩ := hown.slice Layer.cells_len
  have HSL := Lib.hid hsl
  have HB3 := Lib.hid hb3
  have HV := Lib.hid hv
  have H1 := Lib.hid h1
  have H2 := Lib.hid h2
  clear hown hsl hb3 hv hsrc hb2 h1 h2
  go_wp2
  go_ret
  exact ⟨AL, cl, L, rfl, H1.out, H2.out, HV.out, HSL.out, HB3.out⟩

end Go.Proofs.Ytmfghgoboibjdaa
