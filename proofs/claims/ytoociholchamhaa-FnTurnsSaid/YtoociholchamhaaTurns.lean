/- TurnTimes and MayGoOn of the program and of the reference. -/
import Derived.Test.YtoociholchamhaaRoutes
import Derived.Test.YtoociholchamhaaTail
import Derived.Test.YtoociholchamhaaTInt64
namespace Go.Proofs.Ytoociholchamhaa
open Go.RowKit

def turnC (pts : Int) (xs : List Leg) (rt : List Int) (d : Int) : Int := if legsOk pts xs = true ∧ inB d 0 10000 = false then 2 else routeC pts xs rt
def turnR (pts : Int) (xs : List Leg) (rt : List Int) (d : Int) : List Int := if turnC pts xs rt d = 0 then turnL xs rt d rt.length else []
theorem turnC_zero {pts : Int} {xs : List Leg} {rt : List Int} {d : Int} (h : turnC pts xs rt d = 0) : routeC pts xs rt = 0 ∧ inB d 0 10000 = true := by
  unfold turnC at h
  split at h
  · cases h
  · rename_i hn
    refine ⟨h, ?_⟩
    have hv := (routeC_zero h).1
    cases hd : inB d 0 10000
    · exact absurd ⟨hv, hd⟩ hn
    · rfl
theorem turnR_len (pts : Int) (xs : List Leg) (rt : List Int) (d : Int) : (turnR pts xs rt d).length ≤ 1048576 := by
  unfold turnR
  split
  · rename_i h
    have := onB_len (routeC_zero (turnC_zero h).1).2.1
    rw [turnL_len]; omega
  · simp
theorem SliceOf.take_ {α : Type} {w : World} {sz n k : Nat} {cells : α → List Value} {A : Option Addr} {xs : List α} (h : SliceOf w sz cells A n xs) (hk : k ≤ n) : SliceOf w sz cells A k (xs.take k) :=
  ⟨by rw [List.length_take, h.1]; omega, Nat.le_trans hk h.2.1, fun hp => by
    obtain ⟨b, off, hA, hlt, hc⟩ := h.2.2 (by omega)
    refine ⟨b, off, hA, hlt, fun i x j v hx hv => hc i x j v ?_ hv⟩
    have hik : i < k := by have := (List.getElem?_eq_some_iff.1 hx).1; rw [List.length_take] at this; omega
    rwa [List.getElem?_take_of_lt hik] at hx⟩
theorem sum_bounds {pts : Int} {xs : List Leg} (hv : legsOk pts xs = true) (ps : List (Int × Int)) : 0 ≤ sumBy (fun p => (legD xs p).minutes) ps ∧ sumBy (fun p => (legD xs p).minutes) ps ≤ 600 * ps.length :=
  sumBy_bounds (fun p => by have := legD_bounds (p := p) hv; omega) ps

set_option maxRecDepth 100000 in
set_option maxHeartbeats 2000000 in
theorem l23Turn_any (pts dl : Int) (A : Option Addr) (n c : Nat) (xs : List Leg) (B : Option Addr) (m d : Nat) (rt : List Int) (w : World) (hx : SliceOf w 4 Leg.cells A n xs) (hr : SliceOf w 1 i64cells B m rt) (hmd : m ≤ d) (hdm : d ≤ 9223372036854775807) (hv : legsOk pts xs = true) (hh : (pairs rt).all (hasLeg xs) = true) (hm : m ≤ 64) (hd0 : 0 ≤ dl) (hd1 : dl ≤ 10000) :
    Calls Try.prog 50 #[.slice A n c, .slice B m d, .int .i64 dl] w (RetL 2 1 i64cells (turnL xs rt dl rt.length) w) := by
  have hn := hx.le
  have HM := Lib.hid hr.len
  have HV := Lib.hid hv
  have HH := Lib.hid hh
  clear hv hh
  go_enter Try.func50, Try.ntmps50
  go_wp2
  go_loopg [7, 8] m (fun gk s i wr => ∃ (k : Nat) (v : Value), k ≤ m ∧ gk = m - k ∧ i = .int .i64 k ∧ v = s ∧ Below w.heap.size w wr ∧ OwnsL wr w.heap.size 2 1 i64cells v (turnL xs rt dl k))
  case atStart => exact ⟨0, _, Nat.zero_le _, rfl, rfl, rfl, (Below.refl _ _).alloc (Nat.le_refl _) _, OwnsL.made _ _ _ _ _ (Nat.le_refl _)⟩
  case round =>
    obtain ⟨k, v, hk, hgk, rfl, rfl, hb, hown⟩ := hrel
    have Hgk := Lib.hid hgk
    have Hown := Lib.hid hown
    clear hgk hown
    by_cases hlt : k < m
    · have hrt := (hr.below hb).take_ (k := k + 1) (by omega)
      have hpt := pairs_take rt k
      have hmf : minutesF xs (rt.take (k + 1)) = sumBy (fun p => (legD xs p).minutes) ((pairs rt).take k) := by unfold minutesF; rw [hpt]
      have hall : (pairs (rt.take (k + 1))).all (hasLeg xs) = true := by
        rw [hpt, List.all_eq_true]
        intro x hx
        exact List.all_eq_true.1 HH.out x (List.mem_of_mem_take hx)
      have hbd := sum_bounds HV.out ((pairs rt).take k)
      have hbl : ((pairs rt).take k).length ≤ 64 := by rw [List.length_take, pairs_len, HM.out]; omega
      obtain ⟨S, hS⟩ : ∃ S, sumBy (fun p => (legD xs p).minutes) ((pairs rt).take k) = S := ⟨_, rfl⟩
      rw [hS] at hmf hbd
      have HS := Lib.hid hS
      have ⟨_, _⟩ := hbd
      clear hpt hS hbd
      have hk1 : k + 1 ≤ d := by omega
      have Hrt := Lib.hid hrt
      have Hall := Lib.hid hall
      have Hmf := Lib.hid hmf
      have Hbl := Lib.hid hbl
      clear hrt hall hmf hbl
      have hS1 : S ≤ 38400 := by have := Hbl.out; omega
      go_wp2_with fail
      refine (l23Minutes_any pts _ _ _ xs _ _ _ (rt.take (k + 1)) _ (hx.below hb) Hrt.out HV.out Hall.out (by omega)).mono ?_
      rintro e w2 ⟨rfl, hb2⟩
      rw [Hmf.out]
      have hown2 := Hown.out.below' hb2
      have hbb := hb.trans (hb2.mono hb.size)
      have Hown2 := Lib.hid hown2
      have Hbb := Lib.hid hbb
      clear hown2 hbb
      go_wp2_with (at_builtin; refine wpList_push (by rfl) (.tmp 16) (.tmp 25) 23 (by rfl) w.heap.size 2 1 Try.underlying23 infoI64 (by rfl) (by decide) i64cells i64cells_len i64cells_one _ v _ (dl - S) (by rfl) (by rfl) Hown2.out (by rfl) (by rw [turnL_len]; omega) (by decide) Hbb.out.size ?_)
      intro v' w' hown' hb' _
      have hbw := Hbb.out.trans hb'
      have HW : Hid (OwnsL w' w.heap.size 2 1 i64cells v' (turnL xs rt dl (k + 1))) := by
        unfold Hid
        rw [turnL_succ, HS.out]
        exact hown'
      clear hown'
      go_wp2
      go_roundg (m - (k + 1))
      case measure => have := Hgk.out; omega
      case rel => exact ⟨k + 1, v', by omega, rfl, by go_num, rfl, hbw, HW.out⟩
    · have hkm : k = m := by omega
      subst hkm
      have HW : Hid (OwnsL wr w.heap.size 2 1 i64cells v (turnL xs rt dl rt.length)) := by rw [Hid, HM.out]; exact Hown.out
      go_wp2
      go_ret
      exact RetP.mk HW.out hb
theorem RetLT.no {T : TypeId} {L : List Int} {C c : Int} {w w' : World} (h : c = C) (hL : L = []) (hb : Below w.heap.size w w') : RetLT T 1 i64cells L [.int .i64 C] w (.returned (.tuple #[.slice none 0 0, .int .i64 c])) w' :=
  ⟨_, by rw [h], by rw [hL]; exact OwnsL.nil_ _ _ _ _ _, hb⟩
theorem RetLT.yes {T : TypeId} {L : List Int} {C c : Int} {w w' : World} {v : Value} {base : Nat} (h : c = C) (ho : OwnsL w' base T 1 i64cells v L) (hbase : w.heap.size ≤ base) (hb : Below w.heap.size w w') : RetLT T 1 i64cells L [.int .i64 C] w (.returned (.tuple #[v, .int .i64 c])) w' :=
  ⟨_, by rw [h], ho.rebase hbase, hb⟩

set_option maxRecDepth 100000 in
set_option maxHeartbeats 1000000 in
theorem specTurnTimes_any (pts dl : Int) (A : Option Addr) (n c : Nat) (xs : List Leg) (B : Option Addr) (m d : Nat) (rt : List Int) (w : World) (hx : SliceOf w 4 Leg.cells A n xs) (hr : SliceOf w 1 i64cells B m rt) (hmd : m ≤ d) (hdm : d ≤ 9223372036854775807) :
    Calls Try.prog 25 #[.int .i64 pts, .slice A n c, .slice B m d, .int .i64 dl] w (RetLT 2 1 i64cells (turnR pts xs rt dl) [.int .i64 (turnC pts xs rt dl)] w) := by
  cases hv : legsOk pts xs
  · have hr0 : routeC pts xs rt = 1 := by unfold routeC; rw [if_pos hv]
    have hc : turnC pts xs rt dl = 1 := by unfold turnC; rw [if_neg (by rw [hv]; simp), hr0]
    have hR : turnR pts xs rt dl = [] := by unfold turnR; rw [if_neg (by rw [hc]; decide)]
    have HC := Lib.hid hc
    have HR := Lib.hid hR
    clear hr0 hc hR
    go_enter Try.func25, Try.ntmps25
    go_wp2_with fail
    refine (l23Ok_any _ _ _ _ xs _ hx).mono ?_
    rintro e w1 ⟨rfl, hb1⟩
    go_wp2
    go_ret2
    exact RetLT.no HC.out.symm HR.out hb1
  have HV := Lib.hid hv
  cases hd : inB dl 0 10000
  · have hc : turnC pts xs rt dl = 2 := by unfold turnC; rw [if_pos ⟨hv, hd⟩]
    have hR : turnR pts xs rt dl = [] := by unfold turnR; rw [if_neg (by rw [hc]; decide)]
    have HC := Lib.hid hc
    have HR := Lib.hid hR
    clear hc hR
    go_enter Try.func25, Try.ntmps25
    go_wp2_with fail
    refine (l23Ok_any _ _ _ _ xs _ hx).mono ?_
    rintro e w1 ⟨rfl, hb1⟩
    go_wp2_with (go_at_call 48; refine (l23Deadline_any _ _).mono ?_; rintro e w' ⟨rfl, rfl⟩)
    go_ret2
    exact RetLT.no HC.out.symm HR.out hb1
  have ⟨_, _⟩ := inB_iff.1 hd
  have hc : turnC pts xs rt dl = routeC pts xs rt := by unfold turnC; rw [if_neg (by rw [hd]; simp)]
  have HC := Lib.hid hc
  clear hc
  by_cases h0 : routeC pts xs rt = 0
  · have hz := routeC_zero h0
    have hml := onB_len hz.2.1
    have HZ := Lib.hid hz
    have H0 := Lib.hid h0
    have hne : (routeC pts xs rt != 0) = false := by simp [h0]
    have hR : turnR pts xs rt dl = turnL xs rt dl rt.length := by unfold turnR; rw [if_pos (by rw [HC.out, h0])]
    have HR := Lib.hid hR
    have HM := Lib.hid hr.len
    clear hR h0 hz
    go_enter Try.func25, Try.ntmps25
    go_wp2_with fail
    refine (l23Ok_any _ _ _ _ xs _ hx).mono ?_
    rintro e w1 ⟨rfl, hb1⟩
    go_wp2_with (go_at_call 48; refine (l23Deadline_any _ _).mono ?_; rintro e w' ⟨rfl, rfl⟩)
    refine (l23Route_any _ _ _ _ xs _ _ _ rt _ (hx.below hb1) (hr.below hb1)).mono ?_
    rintro e w2 ⟨rfl, hb2⟩
    have hb12 := hb1.trans (hb2.mono hb1.size)
    go_wp2_with fail
    refine (l23Turn_any pts dl _ _ _ xs _ _ _ rt _ (hx.below hb12) (hr.below hb12) hmd hdm HV.out HZ.out.2.2 (by have := HM.out; omega) (by assumption) (by assumption)).mono ?_
    rintro e w3 ⟨v, rfl, ho, hb3⟩
    go_wp2
    go_ret2
    exact RetLT.yes (by rw [HC.out, H0.out]) (by rw [HR.out]; exact ho) hb12.size (hb12.trans (hb3.mono hb12.size))
  · have hne : (routeC pts xs rt != 0) = true := by simp [h0]
    have hR : turnR pts xs rt dl = [] := by unfold turnR; rw [if_neg (by rw [HC.out]; exact h0)]
    have HR := Lib.hid hR
    clear hR h0
    go_enter Try.func25, Try.ntmps25
    go_wp2_with fail
    refine (l23Ok_any _ _ _ _ xs _ hx).mono ?_
    rintro e w1 ⟨rfl, hb1⟩
    go_wp2_with (go_at_call 48; refine (l23Deadline_any _ _).mono ?_; rintro e w' ⟨rfl, rfl⟩)
    refine (l23Route_any _ _ _ _ xs _ _ _ rt _ (hx.below hb1) (hr.below hb1)).mono ?_
    rintro e w2 ⟨rfl, hb2⟩
    go_wp2
    go_ret2
    exact RetLT.no HC.out.symm HR.out (hb1.trans (hb2.mono hb1.size))

set_option maxRecDepth 100000 in
set_option maxHeartbeats 2000000 in
theorem implTurnTimes_any (pts dl : Int) (A : Option Addr) (n c : Nat) (xs : List Leg) (B : Option Addr) (m d : Nat) (rt : List Int) (w : World) (hx : SliceOf w 4 Leg.cells A n xs) (hr : SliceOf w 1 i64cells B m rt) :
    Calls Try.prog 26 #[.int .i64 pts, .slice A n c, .slice B m d, .int .i64 dl] w (RetLT 2 1 i64cells (turnR pts xs rt dl) [.int .i64 (turnC pts xs rt dl)] w) := by
  have HM := Lib.hid hr.len
  by_cases hbad : legsOk pts xs = true ∧ inB dl 0 10000 = false
  · obtain ⟨hv, hd⟩ := hbad
    have hc : turnC pts xs rt dl = 2 := by unfold turnC; rw [if_pos ⟨hv, hd⟩]
    have hR : turnR pts xs rt dl = [] := by unfold turnR; rw [if_neg (by rw [hc]; decide)]
    have HC := Lib.hid hc
    have HR := Lib.hid hR
    clear hc hR
    go_enter Try.func26, Try.ntmps26
    go_wp2_with fail
    refine (implValidLegs_any _ _ _ _ xs _ hx).mono ?_
    rintro e w1 ⟨rfl, hb1⟩
    go_wp2_with (go_at_call 51; refine (within_any _ _ _ _).mono ?_; rintro e w' ⟨rfl, rfl⟩)
    go_ret2
    exact RetLT.no HC.out.symm HR.out hb1
  have hc : turnC pts xs rt dl = routeC pts xs rt := by unfold turnC; rw [if_neg hbad]
  have HC := Lib.hid hc
  have hok : legsOk pts xs = false ∨ legsOk pts xs = true ∧ inB dl 0 10000 = true := by
    cases h1 : legsOk pts xs <;> cases h2 : inB dl 0 10000 <;> simp [h1, h2] at hbad ⊢
  clear hc hbad
  by_cases h0 : routeC pts xs rt = 0
  · have hz := routeC_zero h0
    have hd : inB dl 0 10000 = true := by
      rcases hok with h | h
      · rw [hz.1] at h; cases h
      · exact h.2
    have hv := hz.1
    have ⟨_, _⟩ := inB_iff.1 hd
    have hml := onB_len hz.2.1
    have HZ := Lib.hid hz
    have H0 := Lib.hid h0
    have hne : (routeC pts xs rt != 0) = false := by simp [h0]
    have hR : turnR pts xs rt dl = turnL xs rt dl rt.length := by unfold turnR; rw [if_pos (by rw [HC.out, h0])]
    have HR := Lib.hid hR
    clear hR h0 hz hok
    go_enter Try.func26, Try.ntmps26
    go_wp2_with fail
    refine (implValidLegs_any _ _ _ _ xs _ hx).mono ?_
    rintro e w1 ⟨rfl, hb1⟩
    go_wp2_with (go_at_call 51; refine (within_any _ _ _ _).mono ?_; rintro e w' ⟨rfl, rfl⟩)
    refine (routeLegs_any _ _ _ _ xs _ _ _ rt _ (hx.below hb1) (hr.below hb1)).mono ?_
    rintro e w2 ⟨v, rfl, hl, hb2⟩
    have hb12 := hb1.trans (hb2.mono hb1.size)
    obtain ⟨A', c', rfl, hs⟩ := hl H0.out
    obtain ⟨L, hL⟩ : ∃ L, (pairs rt).map (legD xs) = L := ⟨_, rfl⟩
    rw [hL] at hs ⊢
    have hLl : L.length + 1 = rt.length := by rw [← hL]; simp [pairs_len]; omega
    have hL64 : L.length ≤ 63 := by omega
    have HLL := Lib.hid hL
    have hLn := hs.le
    have HLl := Lib.hid hLl
    clear hL hl hLl
    have hO1 : OwnsL (w2.alloc (.cells #[.int .i64 dl] 2)) w2.heap.size 2 1 i64cells (.slice (some ⟨w2.heap.size, 0, none⟩) 1 1) (turnL xs rt dl 1) := by
      have := (Own.new w2 2 #[.int .i64 dl]).ownsL (xs := [dl]) (n := 1) (sz := 1) i64cells_len (Nat.le_refl _) rfl rfl (by decide) (filled_ints [dl])
      simpa [turnL, sumBy] using this
    have HO1 := Lib.hid hO1
    clear hO1 hv hd
    go_wp2
    clear hne
    go_loopg [12, 37] L.length (fun gk s i wr => ∃ (k : Nat) (v : Value), k ≤ L.length ∧ gk = L.length - k ∧ i = .int .i64 k ∧ v = s ∧ Below w2.heap.size w2 wr ∧ OwnsL wr w2.heap.size 2 1 i64cells v (turnL xs rt dl (k + 1)))
    case atStart => exact ⟨0, _, Nat.zero_le _, rfl, rfl, rfl, (Below.refl _ _).alloc (Nat.le_refl _) _, HO1.out⟩
    case round =>
      obtain ⟨k, v, hk, hgk, rfl, rfl, hb, hown⟩ := hrel
      have Hgk := Lib.hid hgk
      have Hown := Lib.hid hown
      have Hb := Lib.hid hb
      by_cases hlt : k < L.length
      · obtain ⟨b1, o1, x, rfl, hbb1, hxk, x0, x1, x2, x3⟩ := Leg.at_ (hs.below hb) hlt
        obtain ⟨p, hpk, hpx⟩ : ∃ p, (pairs rt)[k]? = some p ∧ x = legD xs p := by rw [← HLL.out] at hxk; exact map_at hxk
        have hbd := legD_bounds (p := p) HZ.out.1
        rw [← hpx] at hbd
        have ⟨_, _, _, _⟩ := hbd
        have hSb := sum_bounds HZ.out.1 ((pairs rt).take k)
        have hbl : ((pairs rt).take k).length ≤ 64 := by rw [List.length_take, pairs_len]; omega
        have hstep := sumBy_step (f := fun p => (legD xs p).minutes) hpk
        obtain ⟨S, hS⟩ : ∃ S, sumBy (fun p => (legD xs p).minutes) ((pairs rt).take k) = S := ⟨_, rfl⟩
        rw [hS] at hSb
        rw [hS, ← hpx] at hstep
        have hS2 : 0 ≤ S ∧ S ≤ 38400 := by omega
        have ⟨_, _⟩ := hS2
        obtain ⟨A2, c2, rfl, hc2, hm2, hsl⟩ := hown.slice i64cells_len
        rw [turnL_len] at *
        obtain ⟨b2, o2, y, rfl, hbb2, hyk, y0⟩ := ints_at hsl (show k < k + 1 by omega)
        rw [turnL_at _ _ _ (show k < k + 1 by omega), hS] at hyk
        injection hyk with hyk
        rw [← hyk] at y0
        have Hst := Lib.hid hstep
        have hsub := fun (o : Obj) (g : Sub (wr.alloc o)) b oo (h : b < (wr.alloc o).heap.size) => g.cell b oo h
        have hlt2 : b2 < wr.heap.size + 1 := by omega
        have Hdone := Lib.hid (And.intro hown hb)
        clear hstep hS hSb hbl hbd hpk hpx hxk hyk hown hb hgk hsl hS2
        go_wp2_with fail
        refine wp_region_sub_move_tail 8 (.tmp 12) (by rfl) (by rfl) (by rfl) (by kernel_rfl) (by kernel_rfl) (by exact fun _ _ _ _ h => h) (v := .slice (some ⟨b2, o2, none⟩) (k + 1) c2) (by rfl) ?_
        simp only [List.take_succ_cons, List.take_zero, List.drop_succ_cons, List.drop_zero, Act.put, List.setIfInBounds_toArray, List.set_cons_zero, List.set_cons_succ]
        repeat (go_big_quiet_step (fail))
        refine wpQuiet_nil ?_
        intro wg hg
        have howg := (Hdone.out.1.alloc _).below' hg
        have hbg := (Hdone.out.2.alloc Hdone.out.2.size _).trans (hg.mono (by simp; exact Nat.le_succ_of_le Hdone.out.2.size))
        have Hog := Lib.hid howg
        have Hbg := Lib.hid hbg
        clear hsub x0 x1 x2 x3 y0 howg hbg
        go_wp2_with (at_builtin; refine wpList_push (by rfl) (.tmp 42) (.tmp 50) 23 (by rfl) w2.heap.size 2 1 Try.underlying23 infoI64 (by rfl) (by decide) i64cells i64cells_len i64cells_one _ _ _ (dl - S - x.minutes) (by rfl) (by rfl) Hog.out (by rfl) (by rw [turnL_len]; omega) (by decide) Hbg.out.size ?_)
        intro v' w' hown' hb' _
        have hbw := Hbg.out.trans hb'
        have HW : Hid (OwnsL w' w2.heap.size 2 1 i64cells v' (turnL xs rt dl (k + 1 + 1))) := by
          unfold Hid
          rw [turnL_succ xs rt dl (k + 1), Hst.out, show dl - (S + x.minutes) = dl - S - x.minutes by omega]
          exact hown'
        clear hown'
        go_wp2
        go_roundg (L.length - (k + 1))
        case measure => have := Hgk.out; omega
        case rel => exact ⟨k + 1, v', by omega, rfl, by go_num, rfl, hbw, HW.out⟩
      · have hkl : k = L.length := by omega
        have HW : Hid (OwnsL wr w2.heap.size 2 1 i64cells v (turnR pts xs rt dl)) := by rw [Hid, HR.out, ← HLl.out, ← hkl]; exact Hown.out
        clear hown
        go_wp2
        go_ret2
        exact RetLT.yes (by rw [HC.out, H0.out]) HW.out hb12.size (hb12.trans (hb.mono hb12.size))
  · have hne : (routeC pts xs rt != 0) = true := by simp [h0]
    have hR : turnR pts xs rt dl = [] := by unfold turnR; rw [if_neg (by rw [HC.out]; exact h0)]
    have HR := Lib.hid hR
    clear hR h0
    rcases hok with hv | ⟨hv, hd⟩
    all_goals
      go_enter Try.func26, Try.ntmps26
      go_wp2_with fail
      refine (implValidLegs_any _ _ _ _ xs _ hx).mono ?_
      rintro e w1 ⟨rfl, hb1⟩
      go_wp2_with (go_at_call 51; refine (within_any _ _ _ _).mono ?_; rintro e w' ⟨rfl, rfl⟩)
      refine (routeLegs_any _ _ _ _ xs _ _ _ rt _ (hx.below hb1) (hr.below hb1)).mono ?_
      rintro e w2 ⟨v, rfl, hl, hb2⟩
      clear hl
      go_wp2
      go_ret2
      exact RetLT.no HC.out.symm HR.out (hb1.trans (hb2.mono hb1.size))
def mayB (pts : Int) (xs : List Leg) (rt : List Int) (k minute d : Int) : Bool :=
  decide (turnC pts xs rt d = 0) && inB k 0 (rt.length - 2) && inB minute 0 10000 && decide (minute + (legD xs (rt.getD k.toNat 0, rt.getD (k.toNat + 1) 0)).minutes ≤ d - sumBy (fun p => (legD xs p).minutes) ((pairs rt).take (k.toNat + 1)))

theorem mayB_no {pts : Int} {xs : List Leg} {rt : List Int} {k minute d : Int} (h : turnC pts xs rt d ≠ 0 ∨ inB k 0 (rt.length - 2) = false ∨ inB minute 0 10000 = false) : mayB pts xs rt k minute d = false := by
  unfold mayB
  rcases h with h | h | h
  · simp [h]
  · simp [h]
  · simp [h]
theorem mayB_yes {pts : Int} {xs : List Leg} {rt : List Int} {minute d : Int} {k : Nat} {x y : Int} (h1 : turnC pts xs rt d = 0) (h2 : inB (k : Int) 0 (rt.length - 2) = true) (h3 : inB minute 0 10000 = true) (hx : rt[k]? = some x) (hy : rt[k + 1]? = some y) :
    mayB pts xs rt k minute d = decide (minute + (legD xs (x, y)).minutes ≤ d - sumBy (fun p => (legD xs p).minutes) ((pairs rt).take (k + 1))) := by
  unfold mayB
  rw [h2, h3, h1, Int.toNat_natCast, List.getD_eq_getElem?_getD, List.getD_eq_getElem?_getD, hx, hy]
  simp

set_option maxRecDepth 100000 in
set_option maxHeartbeats 2000000 in
theorem implMayGoOn_any (pts k minute dl : Int) (A : Option Addr) (n c : Nat) (xs : List Leg) (B : Option Addr) (m d : Nat) (rt : List Int) (w : World) (hx : SliceOf w 4 Leg.cells A n xs) (hr : SliceOf w 1 i64cells B m rt) (hk0 : I64 k) :
    Calls Try.prog 24 #[.int .i64 pts, .slice A n c, .slice B m d, .int .i64 k, .int .i64 minute, .int .i64 dl] w (Ret (.bool (mayB pts xs rt k minute dl)) w) := by
  have hml := hr.len
  have hm := hr.le
  have ⟨_, _⟩ := hk0
  by_cases h0 : turnC pts xs rt dl = 0
  · have hz := turnC_zero h0
    have hon := onB_len (routeC_zero hz.1).2.1
    have hne : (turnC pts xs rt dl != 0) = false := by simp [h0]
    rw [hml] at hon
    cases h1 : inB k 0 ((m : Int) - 2)
    · have HN := Lib.hid (mayB_no (pts := pts) (xs := xs) (minute := minute) (d := dl) (.inr (.inl (by rw [hml]; exact h1))))
      clear h0 hz
      go_enter Try.func24, Try.ntmps24
      go_wp2_with fail
      refine (implTurnTimes_any _ _ _ _ _ xs _ _ _ rt _ hx hr).mono ?_
      rintro e w1 ⟨v, rfl, ho, hb1⟩
      go_wp2_with (go_at_call 51; refine (within_any _ _ _ _).mono ?_; rintro e w' ⟨rfl, rfl⟩)
      go_ret
      exact Ret.b HN.out.symm hb1
    cases h2 : inB minute 0 10000
    · have HN := Lib.hid (mayB_no (pts := pts) (xs := xs) (rt := rt) (k := k) (d := dl) (.inr (.inr h2)))
      clear h0 hz
      go_enter Try.func24, Try.ntmps24
      go_wp2_with fail
      refine (implTurnTimes_any _ _ _ _ _ xs _ _ _ rt _ hx hr).mono ?_
      rintro e w1 ⟨v, rfl, ho, hb1⟩
      go_wp2_with (go_at_call 51; refine (within_any _ _ _ _).mono ?_; rintro e w' ⟨rfl, rfl⟩)
      go_ret
      exact Ret.b HN.out.symm hb1
    have ⟨hk1, hk2⟩ := inB_iff.1 h1
    have ⟨_, _⟩ := inB_iff.1 h2
    have ⟨_, _⟩ := inB_iff.1 hz.2
    obtain ⟨j, rfl⟩ : ∃ j : Nat, k = j := ⟨k.toNat, by omega⟩
    obtain ⟨x, hxj⟩ : ∃ x, rt[j]? = some x := ⟨_, List.getElem?_eq_getElem (by omega)⟩
    obtain ⟨y, hyj⟩ : ∃ y, rt[j + 1]? = some y := ⟨_, List.getElem?_eq_getElem (by omega)⟩
    have HY := Lib.hid (mayB_yes (pts := pts) (xs := xs) (minute := minute) (d := dl) (k := j) h0 (by rw [hml]; exact h1) h2 hxj hyj)
    have hst := sumBy_step (f := fun p => (legD xs p).minutes) (pairs_at hxj hyj)
    have hv := (routeC_zero hz.1).1
    have hS1 := sum_bounds hv ((pairs rt).take j)
    have hbd := legD_bounds (p := (x, y)) hv
    have hpl : ((pairs rt).take j).length ≤ 64 := by rw [List.length_take, pairs_len]; omega
    obtain ⟨S, hS⟩ : ∃ S, sumBy (fun p => (legD xs p).minutes) ((pairs rt).take j) = S := ⟨_, rfl⟩
    obtain ⟨e, he⟩ : ∃ e, (legD xs (x, y)).minutes = e := ⟨_, rfl⟩
    rw [hS] at hS1 hst
    simp only [he] at hst hbd
    have hSb : 0 ≤ S ∧ S ≤ 38400 ∧ 0 ≤ e ∧ e ≤ 600 := by omega
    have ⟨_, _, _, _⟩ := hSb
    have hrest : Hid (turnR pts xs rt dl = turnL xs rt dl rt.length) := by unfold Hid turnR; rw [if_pos h0]
    have HE := Lib.hid he
    have HS := Lib.hid hS
    have HST := Lib.hid hst
    have HML := Lib.hid hml
    have hj2 : j + 1 < m := by omega
    clear he hS hst hpl hS1 hbd hxj hyj h0 hz hv hSb hml hk0
    go_enter Try.func24, Try.ntmps24
    go_wp2_with fail
    refine (implTurnTimes_any _ _ _ _ _ xs _ _ _ rt _ hx hr).mono ?_
    rintro e w1 ⟨v, rfl, ho, hb1⟩
    rw [hrest.out] at ho
    obtain ⟨A2, c2, rfl, hc2, hm2, hsl⟩ := ho.slice i64cells_len
    rw [turnL_len, HML.out] at *
    obtain ⟨b2, o2, u, rfl, hbb2, huk, u0⟩ := ints_at hsl (show j < m by omega)
    obtain ⟨b3, o3, t, he3, hbb3, htk, t0⟩ := ints_at hsl hj2
    injection he3 with he3
    injection he3 with ea eb _
    subst ea eb
    rw [turnL_at _ _ _ (show j < m by omega), HS.out] at huk
    rw [turnL_at _ _ _ hj2, HST.out] at htk
    injection huk with huk
    injection htk with htk
    rw [← huk] at u0
    rw [← htk] at t0
    have hsub := fun (g : Sub w1) b o (h : b < w1.heap.size) => g.cell b o h
    have Hb1 := Lib.hid hb1
    clear huk htk hsl ho hb1
    go_wp2_with (go_at_call 51; refine (within_any _ _ _ _).mono ?_; rintro e w' ⟨rfl, rfl⟩)
    refine wp_region_sub (by kernel_rfl) (by kernel_rfl) ?_
    repeat (go_big_quiet_step (fail))
    refine wpQuiet_nil ?_
    intro wg hg
    clear hsub u0 t0
    go_wp2
    go_ret
    exact Ret.b (by rw [HY.out, HST.out, HE.out]; exact decide_eq_decide.2 (by omega)) (Hb1.out.trans (hg.mono Hb1.out.size))
  · have hne : (turnC pts xs rt dl != 0) = true := by simp [h0]
    have HN := Lib.hid (mayB_no (pts := pts) (xs := xs) (rt := rt) (k := k) (minute := minute) (d := dl) (.inl h0))
    clear h0
    go_enter Try.func24, Try.ntmps24
    go_wp2_with fail
    refine (implTurnTimes_any _ _ _ _ _ xs _ _ _ rt _ hx hr).mono ?_
    rintro e w1 ⟨v, rfl, ho, hb1⟩
    go_wp2
    go_ret
    exact Ret.b HN.out.symm hb1
theorem SliceOf.two {w : World} {b o m j : Nat} {rt : List Int} {x y : Int} (h : SliceOf w 1 i64cells (some ⟨b, o, none⟩) m rt) (hj : j + 1 < m) (hx : rt[j]? = some x) (hy : rt[j + 1]? = some y) : SliceOf w 1 i64cells (some ⟨b, o + j, none⟩) 2 [x, y] :=
  ⟨rfl, by omega, fun _ => by
    obtain ⟨b', off, hA, hlt, hc⟩ := h.2.2 (by omega)
    injection hA with hA
    injection hA with e1 e2 _
    subst e1 e2
    refine ⟨b, o + j, rfl, hlt, fun i z q v hz hv => ?_⟩
    have hi : i < 2 := (List.getElem?_eq_some_iff.1 hz).1
    have : rt[j + i]? = some z := by
      rcases (show i = 0 ∨ i = 1 by omega) with rfl | rfl
      · rw [← hz]; simpa using hx
      · rw [← hz]; simpa using hy
    have := hc (j + i) z q v this hv
    rw [show o + j + i * 1 + q = o + (j + i) * 1 + q by omega]
    exact this⟩
theorem minutes_two (xs : List Leg) (x y : Int) : minutesF xs [x, y] = (legD xs (x, y)).minutes := by simp [minutesF, pairs, sumBy]
theorem expose_two (xs : List Leg) (x y : Int) : exposeF xs [x, y] = (legD xs (x, y)).exposure := by simp [exposeF, pairs, sumBy]
theorem turnC_of {pts : Int} {xs : List Leg} {rt : List Int} {d : Int} (h : routeC pts xs rt = 0) (hd : inB d 0 10000 = true) : turnC pts xs rt d = 0 := by
  unfold turnC; rw [if_neg (by rw [hd]; simp)]; exact h

set_option maxRecDepth 100000 in
set_option maxHeartbeats 2000000 in
theorem specMayGoOn_any (pts k minute dl : Int) (A : Option Addr) (n c : Nat) (xs : List Leg) (B : Option Addr) (m d : Nat) (rt : List Int) (w : World) (hx : SliceOf w 4 Leg.cells A n xs) (hr : SliceOf w 1 i64cells B m rt) (hmd : m ≤ d) (hdm : d ≤ 9223372036854775807) (hk0 : I64 k) :
    Calls Try.prog 23 #[.int .i64 pts, .slice A n c, .slice B m d, .int .i64 k, .int .i64 minute, .int .i64 dl] w (Ret (.bool (mayB pts xs rt k minute dl)) w) := by
  have hml := hr.len
  have hm := hr.le
  have ⟨_, _⟩ := hk0
  by_cases h0 : routeC pts xs rt = 0
  rotate_left
  · have hne : (routeC pts xs rt != 0) = true := by simp [h0]
    have HN := Lib.hid (mayB_no (pts := pts) (xs := xs) (rt := rt) (k := k) (minute := minute) (d := dl) (.inl (fun h => h0 (turnC_zero h).1)))
    clear h0
    go_enter Try.func23, Try.ntmps23
    go_wp2_with fail
    refine (l23Route_any _ _ _ _ xs _ _ _ rt _ hx hr).mono ?_
    rintro e w1 ⟨rfl, hb1⟩
    go_wp2
    go_ret
    exact Ret.b HN.out.symm hb1
  have hz := routeC_zero h0
  have hon := onB_len hz.2.1
  have hne : (routeC pts xs rt != 0) = false := by simp [h0]
  rw [hml] at hon
  cases hd : inB dl 0 10000
  · have HN := Lib.hid (mayB_no (pts := pts) (xs := xs) (rt := rt) (k := k) (minute := minute) (d := dl) (.inl (fun h => by rw [(turnC_zero h).2] at hd; cases hd)))
    clear h0 hz
    go_enter Try.func23, Try.ntmps23
    go_wp2_with fail
    refine (l23Route_any _ _ _ _ xs _ _ _ rt _ hx hr).mono ?_
    rintro e w1 ⟨rfl, hb1⟩
    go_wp2_with (first | (go_at_call 48; refine (l23Deadline_any _ _).mono ?_; rintro e w' ⟨rfl, rfl⟩) | (go_at_call 49; refine (l00In_any _ _ _ _).mono ?_; rintro e w' ⟨rfl, rfl⟩))
    go_ret
    exact Ret.b HN.out.symm hb1
  have htc := turnC_of h0 hd
  cases h1 : inB k 0 ((m : Int) - 2)
  · have HN := Lib.hid (mayB_no (pts := pts) (xs := xs) (minute := minute) (d := dl) (.inr (.inl (by rw [hml]; exact h1))))
    clear h0 hz htc
    go_enter Try.func23, Try.ntmps23
    go_wp2_with fail
    refine (l23Route_any _ _ _ _ xs _ _ _ rt _ hx hr).mono ?_
    rintro e w1 ⟨rfl, hb1⟩
    go_wp2_with (first | (go_at_call 48; refine (l23Deadline_any _ _).mono ?_; rintro e w' ⟨rfl, rfl⟩) | (go_at_call 49; refine (l00In_any _ _ _ _).mono ?_; rintro e w' ⟨rfl, rfl⟩))
    go_ret
    exact Ret.b HN.out.symm hb1
  cases h2 : inB minute 0 10000
  · have HN := Lib.hid (mayB_no (pts := pts) (xs := xs) (rt := rt) (k := k) (d := dl) (.inr (.inr h2)))
    clear h0 hz htc
    go_enter Try.func23, Try.ntmps23
    go_wp2_with fail
    refine (l23Route_any _ _ _ _ xs _ _ _ rt _ hx hr).mono ?_
    rintro e w1 ⟨rfl, hb1⟩
    go_wp2_with (first | (go_at_call 48; refine (l23Deadline_any _ _).mono ?_; rintro e w' ⟨rfl, rfl⟩) | (go_at_call 49; refine (l00In_any _ _ _ _).mono ?_; rintro e w' ⟨rfl, rfl⟩))
    go_ret
    exact Ret.b HN.out.symm hb1
  have ⟨hk1, hk2⟩ := inB_iff.1 h1
  have ⟨_, _⟩ := inB_iff.1 h2
  have ⟨_, _⟩ := inB_iff.1 hd
  obtain ⟨j, rfl⟩ : ∃ j : Nat, k = j := ⟨k.toNat, by omega⟩
  obtain ⟨x, hxj⟩ : ∃ x, rt[j]? = some x := ⟨_, List.getElem?_eq_getElem (by omega)⟩
  obtain ⟨y, hyj⟩ : ∃ y, rt[j + 1]? = some y := ⟨_, List.getElem?_eq_getElem (by omega)⟩
  have HY := Lib.hid (mayB_yes (pts := pts) (xs := xs) (minute := minute) (d := dl) (k := j) htc (by rw [hml]; exact h1) h2 hxj hyj)
  have hst := sumBy_step (f := fun p => (legD xs p).minutes) (pairs_at hxj hyj)
  have hS1 := sum_bounds hz.1 ((pairs rt).take j)
  have hbd := legD_bounds (p := (x, y)) hz.1
  have hpl : ((pairs rt).take j).length ≤ 64 := by rw [List.length_take, pairs_len]; omega
  have hall2 : (pairs [x, y]).all (hasLeg xs) = true := by
    have := all_at hz.2.2 (pairs_at hxj hyj)
    simp [pairs, this]
  obtain ⟨S, hS⟩ : ∃ S, sumBy (fun p => (legD xs p).minutes) ((pairs rt).take j) = S := ⟨_, rfl⟩
  have hmt := minutes_two xs x y
  obtain ⟨e, he⟩ : ∃ e, (legD xs (x, y)).minutes = e := ⟨_, rfl⟩
  rw [hS] at hS1 hst
  simp only [he] at hst hbd hmt
  have hSb : 0 ≤ S ∧ S ≤ 38400 ∧ 0 ≤ e ∧ e ≤ 600 := by omega
  have ⟨_, _, _, _⟩ := hSb
  have HE := Lib.hid he
  have HST := Lib.hid hst
  have HML := Lib.hid hml
  have HMT := Lib.hid hmt
  have HZ := Lib.hid hz
  have HA2 := Lib.hid hall2
  have hj2 : j + 1 < m := by omega
  obtain ⟨b, o, rfl, _, _⟩ := hr.base_ (by omega)
  have Hx := Lib.hid hx
  have Hr := Lib.hid hr
  have Hxj := Lib.hid hxj
  have Hyj := Lib.hid hyj
  clear he hS hst hpl hS1 hbd hxj hyj h0 hz htc hSb hml hk0 hmt hall2 hx hr
  go_enter Try.func23, Try.ntmps23
  go_wp2_with fail
  refine (l23Route_any _ _ _ _ xs _ _ _ rt _ Hx.out Hr.out).mono ?_
  rintro e w1 ⟨rfl, hb1⟩
  have hj3 : j + 2 ≤ d := by omega
  go_wp2_with (first | (go_at_call 48; refine (l23Deadline_any _ _).mono ?_; rintro e w' ⟨rfl, rfl⟩) | (go_at_call 49; refine (l00In_any _ _ _ _).mono ?_; rintro e w' ⟨rfl, rfl⟩))
  refine (l23Minutes_any pts _ _ _ xs _ _ _ [x, y] _ (Hx.out.below hb1) ((Hr.out.below hb1).two hj2 Hxj.out Hyj.out) HZ.out.1 HA2.out (by omega)).mono ?_
  rintro e' w2 ⟨rfl, hb2⟩
  rw [HMT.out]
  have hb12 := hb1.trans (hb2.mono hb1.size)
  go_wp2_with fail
  refine (l23Turn_any pts dl _ _ _ xs _ _ _ rt _ (Hx.out.below hb12) (Hr.out.below hb12) hmd hdm HZ.out.1 HZ.out.2.2 (by omega) (by assumption) (by assumption)).mono ?_
  rintro e' w3 ⟨v, rfl, ho, hb3⟩
  have Hb := Lib.hid (hb12.trans (hb3.mono hb12.size))
  obtain ⟨A2, c2, rfl, hc2, hm2, hsl⟩ := ho.slice i64cells_len
  rw [turnL_len, HML.out] at *
  obtain ⟨b3, o3, t, rfl, hbb3, htk, t0⟩ := ints_at hsl hj2
  rw [turnL_at _ _ _ hj2, HST.out] at htk
  injection htk with htk
  rw [← htk] at t0
  clear htk hsl ho hb1 hb2 hb12 hb3
  go_wp2
  go_ret
  exact Ret.b (by rw [HY.out, HST.out, HE.out]) Hb.out

end Go.Proofs.Ytoociholchamhaa
