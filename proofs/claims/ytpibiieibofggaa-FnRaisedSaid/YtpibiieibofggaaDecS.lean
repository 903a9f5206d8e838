/- The decimal text of a number: the reference's function (Dec without the program's). -/
import Derived.Test.YtpibiieibofggaaBase
import Derived.Test.YtpibiieibofggaaMem
import Derived.Lib.AppendIntMem
import Derived.Laws.IdiomStrings
import Derived.Lib.ItoaLen
namespace Go.Proofs.Ytpibiieibofggaa
open Go.RowKit

def dec (n : Int) : ByteArray := ⟨(Lib.itoa n).toArray⟩
theorem dec_size {n : Int} (h : I64 n) : (dec n).size ≤ 21 := by
  show (Lib.itoa n).toArray.size ≤ 21
  have := Lib.itoa_length_le n h.1 h.2
  simpa using this
def bcells (c : UInt8) : List Value := [.int .u8 (c.toNat : Int)]
theorem bcells_len (c : UInt8) : (bcells c).length = 1 := rfl
theorem bcells_one (c : UInt8) : ∀ u ∈ bcells c, u.oneCell' = true := by intro u hu; simp [bcells] at hu; subst hu; rfl
theorem infoU8 : (Try.prog.info? 5).map (fun i => (i.zero, i.size, i.bytes)) = some (some (.int .u8 0), 1, 1) := by kernel_rfl
theorem bytes_at {w : World} {A : Option Addr} {n : Nat} {xs : List UInt8} (h : SliceOf w 1 bcells A n xs) {k : Nat} (hk : k < n) : ∃ b off x, A = some ⟨b, off, none⟩ ∧ b < w.heap.size ∧ xs[k]? = some x ∧ w.cell? ⟨b, off + k, none⟩ = some (.int .u8 (x.toNat : Int)) := by
  obtain ⟨b, off, x, hA, hb, hx, hc⟩ := h.at_ hk
  have h0 := hc 0 _ rfl
  rw [Nat.mul_one, Nat.add_zero] at h0
  exact ⟨b, off, x, hA, hb, hx, h0⟩
theorem addr_plus (g o n : Nat) : (⟨g, o, none⟩ : Addr).add n = ⟨g, o + n, none⟩ := by
  unfold Addr.add
  split
  · simp only [Addr.mk.injEq, true_and, and_true]; omega
  · simp
/-- 'string(b)' of a slice of bytes that is not empty. -/
theorem conv_bytes {w : World} {A : Option Addr} {n c : Nat} {xs : List UInt8} (h : SliceOf w 1 bcells A n xs) (hn : 0 < n) : (convert 22 9 (.slice A n c)).run Try.prog w = .ok (.string ⟨xs.toArray⟩) w := by
  obtain ⟨b, o, rfl, _, hc⟩ := h.base_ hn
  have hl := h.len
  subst hl
  refine run_convert_bytes_back (P := Try.prog) w 22 9 5 ⟨b, o, none⟩ c xs Try.underlying22 Try.underlying5 Try.underlying9 (fun j hj => ?_)
  rw [addr_plus]
  have := hc j xs[j] 0 _ (List.getElem?_eq_getElem hj) rfl
  rwa [Nat.mul_one, Nat.add_zero] at this
/-- What is known of the digits that have been taken off: u: the number without its sign, v: what is left of it, ds: the digits, the last first. -/
structure Taken (u v : Nat) (ds : List UInt8) : Prop where
  pos : 0 < u
  mid : 0 < v → Lib.decDigits u = Lib.decDigits v ++ ds.reverse
  done : v = 0 → Lib.decDigits u = ds.reverse
  len : v * 10 ^ ds.length ≤ u
theorem Taken.start {u : Nat} (h : 0 < u) : Taken u u [] := ⟨h, fun _ => by simp, fun h0 => absurd h0 (by omega), by simp⟩
theorem Taken.step {u v : Nat} {ds : List UInt8} (h : Taken u v ds) (hv : 0 < v) : Taken u (v / 10) (ds ++ [UInt8.ofNat (48 + v % 10)]) := by
  refine ⟨h.pos, fun hq => ?_, fun hq => ?_, ?_⟩
  · rw [h.mid hv, Lib.decDigits, dif_neg (by omega), List.reverse_append]
    simp
  · rw [h.mid hv, Lib.decDigits, dif_pos (by omega), List.reverse_append, Nat.mod_eq_of_lt (by omega)]
    simp
  · have h1 := h.len
    have h2 : v / 10 * 10 ≤ v := Nat.div_mul_le_self v 10
    rw [List.length_append, List.length_singleton, Nat.pow_succ]
    calc v / 10 * (10 ^ ds.length * 10) = v / 10 * 10 * 10 ^ ds.length := by rw [Nat.mul_comm (10 ^ ds.length) 10, ← Nat.mul_assoc]
      _ ≤ v * 10 ^ ds.length := Nat.mul_le_mul_right _ h2
      _ ≤ u := h1
theorem Taken.short {u v : Nat} {ds : List UInt8} (h : Taken u v ds) (hv : 0 < v) (hu : u < 10 ^ 20) : ds.length < 20 := by
  have h1 := h.len
  have h2 : 1 * 10 ^ ds.length ≤ v * 10 ^ ds.length := Nat.mul_le_mul_right _ hv
  have h3 : 10 ^ ds.length < 10 ^ 20 := by omega
  exact (Nat.pow_lt_pow_iff_right (by decide)).1 h3
theorem itoa_taken {n : Int} {ds : List UInt8} (h : Taken n.natAbs 0 ds) : Lib.itoa n = (if n < 0 then ds ++ [45] else ds).reverse := by
  have hd := h.done rfl
  have hp := h.pos
  unfold Lib.itoa
  by_cases hn : n < 0
  · rw [if_pos hn, if_pos hn, hd]; simp
  · rw [if_neg hn, if_neg hn, ← hd, show n.toNat = n.natAbs by omega]
theorem itoa_zero : Lib.itoa 0 = [48] := by
  unfold Lib.itoa
  rw [if_neg (by decide), Lib.decDigits, dif_pos (by decide)]
  rfl
theorem digit_nat {c : Nat} (h : c < 10) : ((UInt8.ofNat (48 + c)).toNat : Int) = 48 + (c : Int) := by
  rw [UInt8.toNat_ofNat']
  omega
theorem rev_drop {ds : List UInt8} {j : Nat} {x : UInt8} (h : ds[j]? = some x) : (ds.drop (j + 1)).reverse ++ [x] = (ds.drop j).reverse := by
  obtain ⟨hj, he⟩ := List.getElem?_eq_some_iff.1 h
  rw [List.drop_eq_getElem_cons hj, List.reverse_cons, he]
set_option maxRecDepth 100000 in
set_option maxHeartbeats 1000000 in
theorem l01Dec_any (n : Int) (w : World) (h : I64 n) : Calls Try.prog 50 #[.int .i64 n] w (Ret (.string (dec n)) w) := by
  by_cases h0 : n = 0
  · subst h0
    have hd : dec 0 = ⟨#[48]⟩ := by unfold dec; rw [itoa_zero]
    rw [hd]
    clear hd
    go_enter Try.func50, Try.ntmps50
    go_wp2
    go_ret
    exact Ret.mk rfl (Below.refl _ _)
  have hn0 : (n == 0) = false := by simp [h0]
  have hI := h
  unfold I64 at hI
  obtain ⟨u, hu⟩ : ∃ u, n.natAbs = u := ⟨_, rfl⟩
  have hup : 0 < u := by omega
  have hub : u < 10 ^ 20 := by
    have : u ≤ 9223372036854775808 := by omega
    have h2 : (9223372036854775808 : Nat) < 10 ^ 20 := by decide
    omega
  have HUB := Lib.hid hub
  have HOA := Lib.hid (OwnsL.made w w.heap.size 5 1 bcells (Nat.le_refl _))
  have HBA := Lib.hid ((Below.refl w.heap.size w).alloc (Nat.le_refl _) (.cells #[] 5))
  obtain ⟨sg, hsg⟩ : ∃ sg : Bool, decide (n < 0) = sg := ⟨_, rfl⟩
  have HM0 : Hid (n = if sg then -(u : Int) else (u : Int)) := by
    rw [Hid, ← hsg]
    by_cases hn : n < 0
    · simp [hn]; omega
    · simp [hn]; omega
  have HSG := Lib.hid hsg
  have HU := Lib.hid hu
  clear h hub hu hsg hup
  go_enter Try.func50, Try.ntmps50
  go_wp2
  go_loopg [3, 4] u (fun gk s3 s4 wr => ∃ (v : Nat) (x : Value) (ds : List UInt8), v ≤ u ∧ gk = v ∧ x = s3 ∧ s4 = .int .i64 (if sg then -(v : Int) else (v : Int)) ∧ Taken u v ds ∧ OwnsL wr w.heap.size 5 1 bcells x ds ∧ Below w.heap.size w wr)
  case atStart => exact ⟨u, _, [], Nat.le_refl _, rfl, rfl, by rw [← HM0.out], Taken.start (by have := HU.out; omega), HOA.out, HBA.out⟩
  case round =>
    obtain ⟨v, x, ds, hv, rfl, rfl, rfl, htk, hown, hb⟩ := hrel
    have HTK := Lib.hid htk
    have HOW := Lib.hid hown
    have HB := Lib.hid hb
    clear htk hown hb
    by_cases hv0 : 0 < gk
    · have hlen := HTK.out.short hv0 HUB.out
      have HLEN := Lib.hid hlen
      obtain ⟨C, hC⟩ : ∃ C, gk % 10 = C := ⟨_, rfl⟩
      obtain ⟨R, hR⟩ : ∃ R, gk / 10 = R := ⟨_, rfl⟩
      have hC10 : C < 10 := by omega
      have HST := Lib.hid (HTK.out.step hv0)
      rw [hC, hR] at HST
      obtain ⟨Y, hY⟩ : ∃ Y, UInt8.ofNat (48 + C) = Y := ⟨_, rfl⟩
      have hYn := digit_nat hC10
      rw [hY] at hYn HST
      have HY := Lib.hid hYn
      clear hY hYn
      have hRv : R < gk := by omega
      have hu64 : gk ≤ 9223372036854775808 := by have := HU.out; omega
      have hne : ((if sg then -(gk : Int) else (gk : Int)) == 0) = false := by cases sg <;> simp <;> omega
      clear hlen
      cases sg
      · have hg64 : (gk : Int) ≤ 9223372036854775807 := by
          have h1 := HM0.out
          simp at h1
          omega
        have hm : ((gk : Int)).tmod 10 = (C : Int) := by rw [Int.tmod_eq_emod_of_nonneg (by omega)]; omega
        have hq : ((gk : Int)).tdiv 10 = (R : Int) := by rw [Int.tdiv_eq_ediv_of_nonneg (by omega)]; omega
        have hwR : IntKind.i64.wrap (R : Int) = (R : Int) := IntWalk.i64_in _ ⟨by omega, by omega⟩
        have hwC : IntKind.i64.wrap (C : Int) = (C : Int) := IntWalk.i64_in _ ⟨by omega, by omega⟩
        clear hC hR
        simp only [Bool.false_eq_true, if_false] at hne ⊢
        go_wp2_with (at_builtin; refine wpList_push (by rfl) (.tmp 22) (.tmp 26) 22 (by rfl) w.heap.size 5 1 Try.underlying22 infoU8 (by rfl) (by decide) bcells bcells_len bcells_one _ x ds Y (by simp [bcells, HY.out]) (by rfl) HOW.out (by first | rfl | simp [go_sem]) (by have := HLEN.out; omega) (by decide) HB.out.size ?_)
        intro v' w' hown' hb' _
        have HON := Lib.hid hown'
        have HBN := Lib.hid (HB.out.trans (hb'.mono (Nat.le_refl _)))
        clear hown' hb'
        go_wp2
        go_roundg R
        case measure => omega
        case rel => exact ⟨R, v', _, by omega, rfl, rfl, by simp, HST.out, HON.out, HBN.out⟩
      · have hm : (-(gk : Int)).tmod 10 = -(C : Int) := by rw [Int.neg_tmod, Int.tmod_eq_emod_of_nonneg (by omega)]; omega
        have hq : (-(gk : Int)).tdiv 10 = -(R : Int) := by rw [Int.neg_tdiv, Int.tdiv_eq_ediv_of_nonneg (by omega)]; omega
        have hwR : IntKind.i64.wrap (-(R : Int)) = -(R : Int) := IntWalk.i64_in _ ⟨by omega, by omega⟩
        have hwC : IntKind.i64.wrap (-(C : Int)) = -(C : Int) := IntWalk.i64_in _ ⟨by omega, by omega⟩
        clear hC hR
        simp only [if_true] at hne ⊢
        by_cases hCz : C = 0
        · subst hCz
          go_wp2_with (at_builtin; refine wpList_push (by rfl) (.tmp 22) (.tmp 26) 22 (by rfl) w.heap.size 5 1 Try.underlying22 infoU8 (by rfl) (by decide) bcells bcells_len bcells_one _ x ds Y (by simp [bcells, HY.out]) (by rfl) HOW.out (by first | rfl | simp [go_sem]) (by have := HLEN.out; omega) (by decide) HB.out.size ?_)
          intro v' w' hown' hb' _
          have HON := Lib.hid hown'
          have HBN := Lib.hid (HB.out.trans (hb'.mono (Nat.le_refl _)))
          clear hown' hb'
          go_wp2
          go_roundg R
          case measure => omega
          case rel => exact ⟨R, v', _, by omega, rfl, rfl, by simp, HST.out, HON.out, HBN.out⟩
        · have hCn : decide (-(C : Int) < 0) = true := decide_eq_true (by omega)
          go_wp2_with (at_builtin; refine wpList_push (by rfl) (.tmp 22) (.tmp 26) 22 (by rfl) w.heap.size 5 1 Try.underlying22 infoU8 (by rfl) (by decide) bcells bcells_len bcells_one _ x ds Y (by simp [bcells, HY.out]) (by rfl) HOW.out (by first | rfl | simp [go_sem]) (by have := HLEN.out; omega) (by decide) HB.out.size ?_)
          intro v' w' hown' hb' _
          have HON := Lib.hid hown'
          have HBN := Lib.hid (HB.out.trans (hb'.mono (Nat.le_refl _)))
          clear hown' hb'
          go_wp2
          go_roundg R
          case measure => omega
          case rel => exact ⟨R, v', _, by omega, rfl, rfl, by simp, HST.out, HON.out, HBN.out⟩
    · obtain rfl : gk = 0 := by omega
      have hit : Lib.itoa n = (if n < 0 then ds ++ [45] else ds).reverse := itoa_taken (by rw [HU.out]; exact HTK.out)
      have hdl : ds.length ≤ 20 := by
        have h1 := Lib.itoa_length_le n hI.1 hI.2
        rw [hit] at h1
        have h2 := HSG.out
        by_cases hn : n < 0
        · rw [if_pos hn] at h1; simp at h1; omega
        · rw [if_neg hn] at h1
          have h3 := HUB.out
          have h4 := HTK.out.done rfl
          have h5 : (Lib.decDigits u).length ≤ 20 := by
            rw [Lib.decDigits_length]; exact Lib.nDigits_le20 u (by have := HU.out; omega)
          rw [h4, List.length_reverse] at h5; exact h5
      have hdne : 0 < ds.length := by
        have h4 := HTK.out.done rfl
        have h5 := Lib.nDigits_pos u
        have h6 := Lib.decDigits_length u
        rw [h4, List.length_reverse] at h6
        omega
      have HDL := Lib.hid hdl
      cases sg
      · have hneg : ¬ n < 0 := of_decide_eq_false HSG.out
        rw [if_neg hneg] at hit
        have HIT := Lib.hid hit
        obtain ⟨W1, hW1⟩ : ∃ W1, W1 = wr := ⟨_, rfl⟩
        subst hW1
        obtain ⟨A2, c2, rfl, hcap, hcap2, hsl⟩ := HOW.out.slice bcells_len
        have hnegd : decide (n < 0) = false := HSG.out
        clear hit hneg
        obtain ⟨m, hm⟩ : ∃ m, (ds).length = m := ⟨_, rfl⟩
        rw [hm] at hsl hcap ⊢
        have HML := Lib.hid hm
        have hm21 : m ≤ 21 := by rw [← hm]; omega
        have HSL := Lib.hid hsl
        have hmp : 0 < m := by rw [← hm]; omega
        have HOB := Lib.hid (OwnsL.made W1 W1.heap.size 5 1 bcells (Nat.le_refl _))
        have HBB := Lib.hid ((Below.refl W1.heap.size W1).alloc (Nat.le_refl _) (.cells #[] 5))
        have HBW : Hid (Below w.heap.size w W1) := HB.out
        clear hsl hcap hcap2 hm
        go_wp2
        go_loopg [6, 7] m (fun gk s6 s7 wr => ∃ (j : Nat) (y : Value), j ≤ m ∧ gk = j ∧ y = s6 ∧ s7 = .int .i64 ((j : Int) - 1) ∧ OwnsL wr W1.heap.size 5 1 bcells y ((ds).drop j).reverse ∧ Below W1.heap.size W1 wr)
        case atStart => exact ⟨m, _, Nat.le_refl _, rfl, rfl, by first | rfl | go_num, by rw [← HML.out, List.drop_length]; exact HOB.out, HBB.out⟩
        case round =>
          obtain ⟨j, y, hj, rfl, rfl, rfl, hown, hb⟩ := hrel
          have HOW2 := Lib.hid hown
          have HB2 := Lib.hid hb
          clear hown hb
          by_cases hj0 : 0 < gk
          · obtain ⟨q, rfl⟩ : ∃ q, gk = q + 1 := ⟨gk - 1, by omega⟩
            have e : (((q + 1 : Nat) : Int) - 1) = (q : Int) := by omega
            rw [e]
            clear e
            obtain ⟨b2, o2, c2, he, hbl, hxk, y0⟩ := bytes_at (HSL.out.below HB2.out) (show q < m by omega)
            subst he
            have HRD := Lib.hid (rev_drop hxk)
            have HLN : Hid ((((ds).drop (q + 1)).reverse).length ≤ 1048576) := by rw [Hid, List.length_reverse, List.length_drop, HML.out]; omega
            clear hxk
            go_wp2_with (at_builtin; refine wpList_push (by rfl) (.tmp 41) (.tmp 46) 22 (by rfl) W1.heap.size 5 1 Try.underlying22 infoU8 (by rfl) (by decide) bcells bcells_len bcells_one _ y _ c2 (by rfl) (by rfl) HOW2.out (by first | rfl | simp [go_sem]) HLN.out (by decide) HB2.out.size ?_)
            intro v' w' hown' hb' _
            rw [HRD.out] at hown'
            have HON := Lib.hid hown'
            have HBN := Lib.hid (HB2.out.trans (hb'.mono (Nat.le_refl _)))
            clear hown' hb' y0
            go_wp2
            go_roundg q
            case measure => omega
            case rel => exact ⟨q, v', by omega, rfl, rfl, by first | rfl | go_num, HON.out, HBN.out⟩
          · obtain rfl : gk = 0 := by omega
            obtain ⟨A3, c3, rfl, _, _, hsl3⟩ := HOW2.out.slice bcells_len
            rw [List.length_reverse, List.length_drop, HML.out] at hsl3 ⊢
            have hcv := conv_bytes (c := c3) hsl3 (by omega)
            have HCV := Lib.hid hcv
            clear hsl3
            rw [Nat.sub_zero] at hcv ⊢
            go_wp2
            go_ret
            exact Ret.mk (by show Value.string ⟨((ds).drop 0).reverse.toArray⟩ = Value.string (dec n); rw [List.drop_zero]; unfold dec; rw [HIT.out]) (HBW.out.trans (HB2.out.mono HBW.out.size))
      · have hneg : n < 0 := of_decide_eq_true HSG.out
        rw [if_pos hneg] at hit
        have HIT := Lib.hid hit
        have hnegd : decide (n < 0) = true := HSG.out
        clear hit
        go_wp2_with (at_builtin; refine wpList_push (by rfl) (.tmp 30) (.tmp 31) 22 (by rfl) w.heap.size 5 1 Try.underlying22 infoU8 (by rfl) (by decide) bcells bcells_len bcells_one _ x ds 45 (by rfl) (by rfl) HOW.out (by first | rfl | simp [go_sem]) (by have := HDL.out; omega) (by decide) HB.out.size ?_)
        intro v1 W1 hown1 hb1 _
        have HBX : Hid (Below w.heap.size w W1) := HB.out.trans (hb1.mono (Nat.le_refl _))
        obtain ⟨A2, c2, rfl, hcap, hcap2, hsl⟩ := hown1.slice bcells_len
        clear hown1 hb1
        obtain ⟨m, hm⟩ : ∃ m, (ds ++ [45]).length = m := ⟨_, rfl⟩
        rw [hm] at hsl hcap ⊢
        have HML := Lib.hid hm
        have hm21 : m ≤ 21 := by rw [← hm]; simp; omega
        have HSL := Lib.hid hsl
        have hmp : 0 < m := by rw [← hm]; simp
        have HOB := Lib.hid (OwnsL.made W1 W1.heap.size 5 1 bcells (Nat.le_refl _))
        have HBB := Lib.hid ((Below.refl W1.heap.size W1).alloc (Nat.le_refl _) (.cells #[] 5))
        have HBW : Hid (Below w.heap.size w W1) := HBX.out
        clear hsl hcap hcap2 hm
        go_wp2
        go_loopg [6, 7] m (fun gk s6 s7 wr => ∃ (j : Nat) (y : Value), j ≤ m ∧ gk = j ∧ y = s6 ∧ s7 = .int .i64 ((j : Int) - 1) ∧ OwnsL wr W1.heap.size 5 1 bcells y ((ds ++ [45]).drop j).reverse ∧ Below W1.heap.size W1 wr)
        case atStart => exact ⟨m, _, Nat.le_refl _, rfl, rfl, by first | rfl | go_num, by rw [← HML.out, List.drop_length]; exact HOB.out, HBB.out⟩
        case round =>
          obtain ⟨j, y, hj, rfl, rfl, rfl, hown, hb⟩ := hrel
          have HOW2 := Lib.hid hown
          have HB2 := Lib.hid hb
          clear hown hb
          by_cases hj0 : 0 < gk
          · obtain ⟨q, rfl⟩ : ∃ q, gk = q + 1 := ⟨gk - 1, by omega⟩
            have e : (((q + 1 : Nat) : Int) - 1) = (q : Int) := by omega
            rw [e]
            clear e
            obtain ⟨b2, o2, c2, he, hbl, hxk, y0⟩ := bytes_at (HSL.out.below HB2.out) (show q < m by omega)
            subst he
            have HRD := Lib.hid (rev_drop hxk)
            have HLN : Hid ((((ds ++ [45]).drop (q + 1)).reverse).length ≤ 1048576) := by rw [Hid, List.length_reverse, List.length_drop, HML.out]; omega
            clear hxk
            go_wp2_with (at_builtin; refine wpList_push (by rfl) (.tmp 41) (.tmp 46) 22 (by rfl) W1.heap.size 5 1 Try.underlying22 infoU8 (by rfl) (by decide) bcells bcells_len bcells_one _ y _ c2 (by rfl) (by rfl) HOW2.out (by first | rfl | simp [go_sem]) HLN.out (by decide) HB2.out.size ?_)
            intro v' w' hown' hb' _
            rw [HRD.out] at hown'
            have HON := Lib.hid hown'
            have HBN := Lib.hid (HB2.out.trans (hb'.mono (Nat.le_refl _)))
            clear hown' hb' y0
            go_wp2
            go_roundg q
            case measure => omega
            case rel => exact ⟨q, v', by omega, rfl, rfl, by first | rfl | go_num, HON.out, HBN.out⟩
          · obtain rfl : gk = 0 := by omega
            obtain ⟨A3, c3, rfl, _, _, hsl3⟩ := HOW2.out.slice bcells_len
            rw [List.length_reverse, List.length_drop, HML.out] at hsl3 ⊢
            have hcv := conv_bytes (c := c3) hsl3 (by omega)
            have HCV := Lib.hid hcv
            clear hsl3
            rw [Nat.sub_zero] at hcv ⊢
            go_wp2
            go_ret
            exact Ret.mk (by show Value.string ⟨(45 :: ds.reverse).toArray⟩ = Value.string (dec n); unfold dec; rw [HIT.out, List.reverse_append]; rfl) (HBW.out.trans (HB2.out.mono HBW.out.size))

end Go.Proofs.Ytpibiieibofggaa
