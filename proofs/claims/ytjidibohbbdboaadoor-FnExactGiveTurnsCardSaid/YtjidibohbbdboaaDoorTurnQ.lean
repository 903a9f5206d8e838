/- Turns given to people: a question's code and who may be given the next turn, on both sides. -/
import Derived.Test.YtjidibohbbdboaaDoorTurnP
import Derived.Test.YtjidibohbbdboaaDoorHas
import Derived.Test.YtjidibohbbdboaaDoorOwn2
namespace Go.Proofs.YtjidibohbbdboaaDoor
open Go.RowKit

/-- The rest of a slice from a place on. -/
theorem SliceOf.drop {w : World} {b o n lo : Nat} {xs : List Int} (h : SliceOf w 1 i64cells (some ⟨b, o, none⟩) n xs) (hl : lo ≤ n) : SliceOf w 1 i64cells (some ⟨b, o + lo, none⟩) (n - lo) (xs.drop lo) := by
  refine ⟨by rw [List.length_drop, h.len], by have := h.le; omega, fun hn => ?_⟩
  obtain ⟨b', o', hA, hlt, hc⟩ := h.2.2 (by omega)
  injection hA with hA
  injection hA with e1 e2 _
  subst e1 e2
  refine ⟨b, o + lo, rfl, hlt, fun i x j v hx hv => ?_⟩
  rw [List.getElem?_drop] at hx
  have := hc (lo + i) x j v hx hv
  rw [show o + lo + i * 1 + j = o + (lo + i) * 1 + j by omega]
  exact this
theorem SliceOf.none_ {w : World} {A : Option Addr} : SliceOf w 1 i64cells A 0 [] := ⟨rfl, by omega, fun h => absurd h (by omega)⟩
theorem SliceOf.zero {w : World} {A B : Option Addr} {xs : List Int} (h : SliceOf w 1 i64cells A 0 xs) : SliceOf w 1 i64cells B 0 xs := ⟨h.len, by omega, fun h => absurd h (by omega)⟩
def Rest (w0 : World) (lo len : Nat) (xs : List Int) (e : Ending) (w' : World) : Prop := ∃ (B' : Option Addr) (c' : Nat), e = .returned (.slice B' (len - lo) c') ∧ SliceOf w' 1 i64cells B' (len - lo) (xs.drop lo) ∧ Below w0.heap.size w0 w'
theorem rest_some {w0 w' : World} {b o lo len c : Nat} {k : Nat} {xs : List Int} {B' : Option Addr} (hx : SliceOf w' 1 i64cells (some ⟨b, o, none⟩) len xs) (hl : lo ≤ len) (hb : Below w0.heap.size w0 w') (hk : k = len - lo) (hB : B' = some ⟨b, o + lo, none⟩ ∨ len - lo = 0) : Rest w0 lo len xs (.returned (.slice B' k c)) w' := by
  subst hk
  have h := hx.drop hl
  rcases hB with rfl | hz
  · exact ⟨_, _, rfl, h, hb⟩
  · rw [hz] at h
    refine ⟨B', c, rfl, ?_, hb⟩
    rw [hz]; exact h.zero
set_option maxHeartbeats 1000000 in
theorem recent_any (n m g : Nat) (A : Option Addr) (na ca : Nat) (mv : Value) (B : Option Addr) (len c : Nat) (xs : List Int) (w : World) (hx : SliceOf w 1 i64cells B len xs) (hc : len ≤ c) (hn : (B = none ∧ c = 0) ∨ ∃ b, B = some ⟨b, 0, none⟩) (hg : 1 ≤ g) (hg2 : g ≤ 12) (hl : len ≤ 12) :
    Calls Tryd.prog 38 #[.agg #[.int .i64 (n : Int), .int .i64 (m : Int), .int .i64 (g : Int), .slice A na ca, mv], .slice B len c] w (Rest w (recLo g len) len xs) := by
  have hB : Below w.heap.size w (w.alloc (.cells #[.int .i64 (n : Int), .int .i64 (m : Int), .int .i64 (g : Int), .slice A na ca, mv] 41)) := (Below.refl _ _).alloc (Nat.le_refl _) _
  have HB := Lib.hid hB
  have HX := Lib.hid (hx.below hB)
  clear hB
  rcases hn with ⟨rfl, rfl⟩ | ⟨b, rfl⟩
  · have hl0 : len = 0 := by omega
    subst hl0
    have hlo : recLo g 0 = 0 := by unfold recLo; omega
    have HR : Hid (Rest w (recLo g 0) 0 xs (.returned (.slice none 0 0)) (w.alloc (.cells #[.int .i64 (n : Int), .int .i64 (m : Int), .int .i64 (g : Int), .slice A na ca, mv] 41))) := by
      rw [hlo]
      exact ⟨none, 0, rfl, by rw [List.drop_zero]; exact HX.out, HB.out⟩
    have h1 : (0 : Int) - (g : Int) + 1 ≤ 0 := by omega
    clear hx hlo
    go_enter Tryd.func38, Tryd.ntmps38
    go_wp2
    all_goals (go_ret; exact HR.out)
  · obtain ⟨lo, hlo⟩ : ∃ lo, recLo g len = lo := ⟨_, rfl⟩
    have HE : Hid (0 ≤ (len : Int) - (g : Int) + 1 → ((len : Int) - (g : Int) + 1).toNat = lo) := fun h => by rw [← hlo]; unfold recLo; omega
    have HF : Hid ((len : Int) - (g : Int) + 1 < 0 → lo = 0) := fun h => by rw [← hlo]; unfold recLo; omega
    have hlo2 : lo ≤ len := by rw [← hlo]; unfold recLo; omega
    rw [hlo]
    clear hx hlo
    go_enter Tryd.func38, Tryd.ntmps38
    go_wp2
    · go_ret
      have h0 := HF.out (by assumption)
      exact rest_some HX.out hlo2 HB.out (by omega) (.inl (by rw [h0]))
    · rename_i hcc
      have h0 := HE.out (by assumption)
      have hcl : c = lo := by rw [hcc, if_neg (by omega)]; exact h0
      go_ret
      exact rest_some HX.out hlo2 HB.out (by omega) (.inr (by omega))
    · go_ret
      have h0 := HF.out (by assumption)
      exact rest_some HX.out hlo2 HB.out (by omega) (.inl (by rw [h0]))
    · go_ret
      have h0 := HE.out (by assumption)
      exact rest_some HX.out hlo2 HB.out (by omega) (.inl (by rw [h0, Nat.zero_add]))
def Away (ab : List Row) (n : Nat) : Prop := ab.length = n
set_option maxHeartbeats 1000000 in
theorem turnMay_any (n m g : Nat) (A : Option Addr) (na ca : Nat) (mv : Value) (ab : List Row) (B : Option Addr) (len c : Nat) (xs : List Int) (p : Nat) (w : World) (ha : Row.Sl w A na ab) (hx : SliceOf w 1 i64cells B len xs) (hc : len ≤ c) (hn : (B = none ∧ c = 0) ∨ ∃ b, B = some ⟨b, 0, none⟩) (hg : 1 ≤ g) (hg2 : g ≤ 12) (hl : len ≤ 12) (hp : p < na) :
    Calls Tryd.prog 24 #[.agg #[.int .i64 (n : Int), .int .i64 (m : Int), .int .i64 (g : Int), .slice A na ca, mv], .slice B len c, .int .i64 (p : Int)] w (Ret (.bool (mayB g ab xs p)) w) := by
  have hB : Below w.heap.size w (w.alloc (.cells #[.int .i64 (n : Int), .int .i64 (m : Int), .int .i64 (g : Int), .slice A na ca, mv] 41)) := (Below.refl _ _).alloc (Nat.le_refl _) _
  have HB := Lib.hid hB
  have HX := Lib.hid (hx.below hB)
  have HA := Lib.hid (ha.below hB)
  have HO := Lib.hid (Own.new w 41 #[.int .i64 (n : Int), .int .i64 (m : Int), .int .i64 (g : Int), .slice A na ca, mv])
  have HLEN := Lib.hid hx.len
  clear hx ha hB
  go_enter Tryd.func24, Tryd.ntmps24
  go_wp2_with fail
  refine (recent_any n m g A na ca mv B len c xs _ HX.out hc hn hg hg2 hl).mono ?_
  rintro e w1 ⟨B', c', rfl, hr, hb⟩
  have HR := Lib.hid hr
  have HX1 := Lib.hid (HX.out.below hb)
  have HA1 := Lib.hid (HA.out.below hb)
  have HO1 := Lib.hid (HO.out.below' hb)
  have HB1 := Lib.hid (HB.out.trans (hb.mono HB.out.size))
  clear hr hb
  go_wp2_with fail
  refine (containsI_any (p : Int) _ _ _ _ _ HR.out).mono ?_
  rintro e w' ⟨rfl, rfl⟩
  cases h1 : hasB (xs.drop (recLo g len)) (p : Int)
  · have H1 := Lib.hid h1
    clear h1
    obtain ⟨b1, o1, r, rfl, hb1, hrk, hri, x0⟩ := HA1.out.at_ hp
    have HRK := Lib.hid hrk
    have HRI := Lib.hid hri
    have y3 : w1.cell? ⟨w.heap.size, 3, none⟩ = some (.slice (some ⟨b1, o1, none⟩) na ca) := HO1.out.cell 3
    clear hrk hri
    go_wp2_with fail
    refine (containsI_any (len : Int) _ _ _ r.list _ HRI.out.1).mono ?_
    rintro e w' ⟨rfl, rfl⟩
    go_wp2
    go_ret
    refine Ret.b ?_ HB1.out
    unfold mayB absAt
    rw [List.getD_eq_getElem?_getD, HRK.out, HLEN.out, H1.out]
    simp [RowR.val]
  · have H1 := Lib.hid h1
    clear h1
    go_wp2
    go_ret
    refine Ret.b ?_ HB1.out
    unfold mayB
    rw [HLEN.out, H1.out]
    rfl
set_option maxHeartbeats 1000000 in
theorem l26May_any (g : Nat) (A : Option Addr) (na ca : Nat) (ab : List Row) (B : Option Addr) (len c : Nat) (xs : List Int) (p : Nat) (w : World) (ha : Row.Sl w A na ab) (hx : SliceOf w 1 i64cells B len xs) (hg : 1 ≤ g) (hg2 : g ≤ 12) (hl : len ≤ 12) (hp : p < na) :
    Calls Tryd.prog 32 #[.slice B len c, .int .i64 (g : Int), .slice A na ca, .int .i64 (p : Int)] w (RetS (.bool (mayB g ab xs p)) w) := by
  have HX := Lib.hid hx
  have HLEN := Lib.hid hx.len
  obtain ⟨b1, o1, r, rfl, hb1, hrk, hri, x0⟩ := ha.at_ hp
  have HRK := Lib.hid hrk
  have HRI := Lib.hid hri
  clear hx ha hrk hri
  obtain ⟨lo, hlo⟩ : ∃ lo, recLo g len = lo := ⟨_, rfl⟩
  have hmx : max 0 ((len : Int) - (g : Int) + 1) = (lo : Int) := by rw [← hlo]; unfold recLo; omega
  have hlo2 : lo ≤ len := by rw [← hlo]; unfold recLo; omega
  have HLO := Lib.hid hlo
  clear hlo
  cases h1 : hasB r.list (len : Int)
  rotate_left
  · have HM : Hid (mayB g ab xs p = false) := mayB_away (by unfold absAt; rw [List.getD_eq_getElem?_getD, HRK.out, HLEN.out]; exact h1)
    go_enter Tryd.func32, Tryd.ntmps32
    go_wp2_with fail
    refine (l00Has_any (len : Int) _ _ _ r.list _ HRI.out.1).mono ?_
    rintro e w' ⟨rfl, rfl⟩
    rw [h1]
    clear h1
    go_wp2
    go_ret
    exact RetS.b HM.out.symm
  · have HM : Hid (mayB g ab xs p = !hasB (xs.drop lo) (p : Int)) := by
      rw [Hid, mayB_here (by unfold absAt; rw [List.getD_eq_getElem?_getD, HRK.out, HLEN.out]; exact h1), HLEN.out, HLO.out]
    go_enter Tryd.func32, Tryd.ntmps32
    go_wp2_with fail
    refine (l00Has_any (len : Int) _ _ _ r.list _ HRI.out.1).mono ?_
    rintro e w' ⟨rfl, rfl⟩
    rw [h1]
    clear h1 x0
    go_wp2_with fail
    refine (l00Max_any _ _ _).mono ?_
    rintro e w' ⟨rfl, rfl⟩
    rw [hmx]
    clear hmx
    go_wp2
    go_loopg [10] (len - lo) (fun gk i wr => ∃ k : Nat, lo ≤ k ∧ k ≤ len ∧ gk = len - k ∧ i = .int .i64 k ∧ w = wr ∧ ∀ j y, lo ≤ j → j < k → xs[j]? = some y → y ≠ (p : Int))
    case atStart => exact ⟨lo, Nat.le_refl _, hlo2, rfl, rfl, rfl, fun j y h1 h2 => absurd h1 (by omega)⟩
    case round =>
      obtain ⟨k, hk0, hk, hgk, rfl, rfl, hall⟩ := hrel
      have Hall := Lib.hid hall
      have Hgk := Lib.hid hgk
      clear hall hgk
      by_cases hlt : k < len
      · obtain ⟨b2, o2, y, rfl, hb2, hy, y0⟩ := ints_at HX.out hlt
        have HY := Lib.hid hy
        clear hy
        by_cases hc : y = (p : Int)
        · have HC := Lib.hid hc
          have hd : (y == (p : Int)) = true := by simp [hc]
          clear hc
          go_wp2
          go_ret
          have h2 := hasB_drop_hit HY.out hk0
          rw [HC.out] at h2
          exact RetS.b (by rw [HM.out, h2]; rfl)
        · have HC := Lib.hid hc
          have hd : (y == (p : Int)) = false := by simp [hc]
          clear hc
          go_wp2
          go_roundg (len - (k + 1))
          case measure => have := Hgk.out; omega
          case rel => exact ⟨k + 1, by omega, by omega, rfl, by go_num, rfl, fun j z h1 h2 hz => by
            by_cases e : j = k
            · subst e; rw [HY.out] at hz; injection hz with hz; rw [← hz]; exact HC.out
            · exact Hall.out j z h1 (by omega) hz⟩
      · have HN : Hid (hasB (xs.drop lo) (p : Int) = false) := hasB_drop_none (fun j z h1 hz => Hall.out j z h1 (by have := (List.getElem?_eq_some_iff.1 hz).1; have := HLEN.out; omega) hz)
        go_wp2
        go_ret
        exact RetS.b (by rw [HM.out, HN.out]; rfl)

end Go.Proofs.YtjidibohbbdboaaDoor
