/- The question for turns, on both sides. -/
import Derived.Test.YtjidibohbbdboaaDoorTurnP
import Derived.Test.YtjidibohbbdboaaDoorTurnQ
namespace Go.Proofs.YtjidibohbbdboaaDoor
open Go.RowKit

theorem turns_parts {people turns gap : Int} (h : (inB people 1 8 && (inB turns 0 12 && inB gap 1 12)) = false) : inB people 1 8 = false ∨ (inB people 1 8 = true ∧ inB turns 0 12 = false) ∨ (inB people 1 8 = true ∧ inB turns 0 12 = true ∧ inB gap 1 12 = false) := by
  cases h1 : inB people 1 8 <;> cases h2 : inB turns 0 12 <;> cases h3 : inB gap 1 12 <;> simp [h1, h2, h3] at h ⊢
theorem turnsC_bad {people turns gap : Int} {ab : List Row} {k : Nat} {x : Row} (h : (inB people 1 8 && (inB turns 0 12 && inB gap 1 12)) = true) (hl : (ab.length : Int) = people) (hx : ab[k]? = some x) (hf : absOk turns x = false) : turnsC people turns gap ab = 7 := by
  rw [turnsC_row h hl, if_pos (all_hit hx hf)]
theorem turnsC_good {people turns gap : Int} {ab : List Row} {n : Nat} (h : (inB people 1 8 && (inB turns 0 12 && inB gap 1 12)) = true) (hl : (ab.length : Int) = people) (hn : ab.length ≤ n) (ha : NoneTo (fun y => !absOk turns y) ab n) : turnsC people turns gap ab = 0 := by
  rw [turnsC_row h hl, if_neg (by rw [all_none hn ha]; simp)]
set_option maxHeartbeats 1000000 in
theorem l26Query_any (people turns gap : Int) (A : Option Addr) (n c : Nat) (ab : List Row) (w : World) (hx : Row.Sl w A n ab) :
    Calls Tryd.prog 17 #[.int .i64 people, .int .i64 turns, .int .i64 gap, .slice A n c] w (Ret (.int .i64 (turnsC people turns gap ab)) w) := by
  have HX := Lib.hid hx
  have HL := Lib.hid hx.len
  have hn := hx.le
  clear hx
  cases hr : (inB people 1 8 && (inB turns 0 12 && inB gap 1 12))
  · have HN : Hid (turnsC people turns gap ab = 2) := turnsC_range hr
    rcases turns_parts hr with c0 | ⟨c0, c1⟩ | ⟨c0, c1, c2⟩
    all_goals
      clear hr
      go_enter Tryd.func17, Tryd.ntmps17
      go_wp2_with (go_at_call 26; refine (l00In_any _ _ _ _).mono ?_; rintro e w' ⟨rfl, rfl⟩)
      go_ret
      exact Ret.i HN.out.symm (Below.refl _ _)
  have HR := Lib.hid hr
  simp only [Bool.and_eq_true] at hr
  obtain ⟨c0, c1, c2⟩ := hr
  have ⟨ht0, ht1⟩ := inB_iff.1 c1
  by_cases hl : (n : Int) = people
  rotate_left
  · have HN : Hid (turnsC people turns gap ab = 7) := turnsC_len HR.out (by rw [HL.out]; exact hl)
    have hne : ((n : Int) != people) = true := by simp [hl]
    clear hl
    go_enter Tryd.func17, Tryd.ntmps17
    go_wp2_with (go_at_call 26; refine (l00In_any _ _ _ _).mono ?_; rintro e w' ⟨rfl, rfl⟩)
    go_ret
    exact Ret.i HN.out.symm (Below.refl _ _)
  have hne : ((n : Int) != people) = false := by simp [hl]
  have HLP : Hid ((ab.length : Int) = people) := by rw [Hid, HL.out]; exact hl
  clear hl
  go_enter Tryd.func17, Tryd.ntmps17
  go_wp2_with (go_at_call 26; refine (l00In_any _ _ _ _).mono ?_; rintro e w' ⟨rfl, rfl⟩)
  clear hne
  go_loopg [9] n (fun gk s9 wr => ∃ k : Nat, k ≤ n ∧ gk = n - k ∧ s9 = .int .i64 k ∧ Below w.heap.size w wr ∧ NoneTo (fun y => !absOk turns y) ab k)
  case atStart => exact ⟨0, Nat.zero_le _, rfl, rfl, Below.refl _ _, fun j x hj _ => absurd hj (by omega)⟩
  case round =>
    obtain ⟨k, hk, hgk, rfl, hb, hall⟩ := hrel
    have HB := Lib.hid hb
    have Hgk := Lib.hid hgk
    have Hall := Lib.hid hall
    clear hgk hall hb
    by_cases hlt : k < n
    · obtain ⟨b1, o1, r, rfl, hb1, hrk, hri, x0⟩ := (HX.out.below HB.out).at_ hlt
      have HRK := Lib.hid hrk
      have HRI := Lib.hid hri
      clear hrk hri
      go_wp2_with fail
      refine (l00Rises_any 0 (turns - 1) _ _ _ r.list _ HRI.out.1).mono ?_
      rintro e w2 ⟨rfl, hb2⟩
      have HB2 := Lib.hid (HB.out.trans (hb2.mono HB.out.size))
      clear hb2
      cases h1 : absOk turns r.val
      · have HN : Hid (turnsC people turns gap ab = 7) := turnsC_bad HR.out HLP.out HRK.out h1
        have h1' : cellsB 0 (turns - 1) r.list = false := h1
        rw [h1']
        clear h1 h1'
        go_wp2
        go_ret
        exact Ret.i HN.out.symm HB2.out
      · have h1' : cellsB 0 (turns - 1) r.list = true := h1
        have H1 := Lib.hid h1
        rw [h1']
        clear h1 h1'
        go_wp2
        go_roundg (n - (k + 1))
        case measure => have := Hgk.out; omega
        case rel => exact ⟨k + 1, by omega, rfl, by go_num, HB2.out, fun j x hj hx => by
          by_cases e : j = k
          · subst e; rw [HRK.out] at hx; injection hx with hx; subst hx; simp [H1.out]
          · exact Hall.out j x (by omega) hx⟩
    · have hkn : k = n := by omega
      subst hkn
      have HN : Hid (turnsC people turns gap ab = 0) := turnsC_good HR.out HLP.out (by rw [HL.out]; exact Nat.le_refl _) Hall.out
      go_wp2
      go_ret
      exact Ret.i HN.out.symm HB.out
def NewT (people turns gap : Int) (A : Option Addr) (n c : Nat) (ab : List Row) (w : World) (e : Ending) (w' : World) : Prop :=
  ((turnsC people turns gap ab ≠ 0 ∧ e = .returned (.tuple #[.agg #[.int .i64 0, .int .i64 0, .int .i64 0, .slice none 0 0, .map none], .int .i64 (turnsC people turns gap ab)])) ∨ (turnsC people turns gap ab = 0 ∧ ∃ b : Nat, e = .returned (.tuple #[.agg #[.int .i64 people, .int .i64 turns, .int .i64 gap, .slice A n c, .map (some b)], .int .i64 0]) ∧ w.heap.size ≤ b ∧ w'.heap[b]? = some (.map #[] 0))) ∧ Below w.heap.size w w'
theorem map_new (w : World) (b : Nat) (h : b = w.heap.size) : (w.alloc (.map #[] 0)).heap[b]? = some (.map #[] 0) := by rw [h]; exact (MapKept.heap_alloc w _).1
theorem NewT.no {people turns gap k : Int} {A : Option Addr} {n c : Nat} {ab : List Row} {w w' : World} (h : turnsC people turns gap ab = k) (hk : k ≠ 0) (hb : Below w.heap.size w w') : NewT people turns gap A n c ab w (.returned (.tuple #[.agg #[.int .i64 0, .int .i64 0, .int .i64 0, .slice none 0 0, .map none], .int .i64 k])) w' :=
  ⟨.inl ⟨by rw [h]; exact hk, by rw [h]⟩, hb⟩
set_option maxHeartbeats 1000000 in
theorem newTurns_any (people turns gap : Int) (A : Option Addr) (n c : Nat) (ab : List Row) (w : World) (hx : Row.Sl w A n ab) :
    Calls Tryd.prog 20 #[.int .i64 people, .int .i64 turns, .int .i64 gap, .slice A n c] w (NewT people turns gap A n c ab w) := by
  have hB : Below w.heap.size w (w.alloc (.cells #[.int .i64 0, .int .i64 0, .int .i64 0, .slice none 0 0, .map none] 41)) := (Below.refl _ _).alloc (Nat.le_refl _) _
  have HX := Lib.hid (hx.below hB)
  have HO := Lib.hid (Own.new w 41 #[.int .i64 0, .int .i64 0, .int .i64 0, .slice none 0 0, .map none])
  have HL := Lib.hid hx.len
  have HB := Lib.hid hB
  have hn := hx.le
  clear hx hB
  cases hr : (inB people 1 8 && (inB turns 0 12 && inB gap 1 12))
  · have HN : Hid (turnsC people turns gap ab = 2) := turnsC_range hr
    rcases turns_parts hr with c0 | ⟨c0, c1⟩ | ⟨c0, c1, c2⟩
    all_goals
      clear hr
      go_enter Tryd.func20, Tryd.ntmps20
      go_wp2_with (go_at_call 33; refine (within_any _ _ _ _).mono ?_; rintro e w' ⟨rfl, rfl⟩)
      exact bodyPost_ret (v := .tuple #[.agg #[.int .i64 0, .int .i64 0, .int .i64 0, .slice none 0 0, .map none], .int .i64 2]) (by simp [results, Tryd.results20, go_sem]) rfl (NewT.no HN.out (by decide) HB.out)
  have HR := Lib.hid hr
  simp only [Bool.and_eq_true] at hr
  obtain ⟨c0, c1, c2⟩ := hr
  have ⟨ht0, ht1⟩ := inB_iff.1 c1
  by_cases hl : (n : Int) = people
  rotate_left
  · have HN : Hid (turnsC people turns gap ab = 7) := turnsC_len HR.out (by rw [HL.out]; exact hl)
    have hne : ((n : Int) != people) = true := by simp [hl]
    clear hl
    go_enter Tryd.func20, Tryd.ntmps20
    go_wp2_with (go_at_call 33; refine (within_any _ _ _ _).mono ?_; rintro e w' ⟨rfl, rfl⟩)
    exact bodyPost_ret (v := .tuple #[.agg #[.int .i64 0, .int .i64 0, .int .i64 0, .slice none 0 0, .map none], .int .i64 7]) (by simp [results, Tryd.results20, go_sem]) rfl (NewT.no HN.out (by decide) HB.out)
  have hne : ((n : Int) != people) = false := by simp [hl]
  have HLP : Hid ((ab.length : Int) = people) := by rw [Hid, HL.out]; exact hl
  clear hl
  go_enter Tryd.func20, Tryd.ntmps20
  go_wp2_with (go_at_call 33; refine (within_any _ _ _ _).mono ?_; rintro e w' ⟨rfl, rfl⟩)
  clear hne
  go_loopg [33] n (fun gk s33 wr => ∃ k : Nat, k ≤ n ∧ gk = n - k ∧ s33 = .int .i64 k ∧ Below w.heap.size w wr ∧ Own wr w.heap.size 41 #[.int .i64 0, .int .i64 0, .int .i64 0, .slice none 0 0, .map none] ∧ Row.Sl wr A n ab ∧ NoneTo (fun y => !absOk turns y) ab k)
  case atStart => exact ⟨0, Nat.zero_le _, rfl, rfl, HB.out, HO.out, HX.out, fun j x hj _ => absurd hj (by omega)⟩
  case round =>
    obtain ⟨k, hk, hgk, rfl, hb, ho, hxr, hall⟩ := hrel
    have HB1 := Lib.hid hb
    have HO1 := Lib.hid ho
    have HX1 := Lib.hid hxr
    have Hgk := Lib.hid hgk
    have Hall := Lib.hid hall
    clear hgk hall hb ho hxr HX HO HB
    by_cases hlt : k < n
    · obtain ⟨b1, o1, r, rfl, hb1, hrk, hri, x0⟩ := HX1.out.at_ hlt
      have HRK := Lib.hid hrk
      have HRI := Lib.hid hri
      clear hrk hri
      go_wp2_with fail
      refine (increasing_any _ _ _ r.list _ HRI.out.1).mono ?_
      rintro e w2 ⟨rfl, hb2⟩
      have HB2 := Lib.hid (HB1.out.trans (hb2.mono HB1.out.size))
      have HO2 := Lib.hid (HO1.out.below' hb2)
      have HX2 := Lib.hid (HX1.out.below hb2)
      have HRI2 := Lib.hid (HRI.out.below hb2)
      clear hb2 x0
      have HCE : Hid (absOk turns r.val = (risesB r.list && r.list.all fun y => inB y 0 (turns - 1))) := cellsB_eq 0 (turns - 1) r.list
      cases h1 : risesB r.list
      · have HN : Hid (turnsC people turns gap ab = 7) := turnsC_bad HR.out HLP.out HRK.out (by rw [HCE.out, h1]; rfl)
        have f0 := HO2.out.cell 0
        have f1 := HO2.out.cell 1
        have f2 := HO2.out.cell 2
        have f3 := HO2.out.cell 3
        have f4 := HO2.out.cell 4
        have dd := HO2.out.frozen
        have lb := HO2.out.lt
        simp at f0 f1 f2 f3 f4
        clear h1
        have HB5 : Hid (Below w.heap.size w (((((w2.setCell ⟨w.heap.size, 0, none⟩ (.int .i64 0)).setCell ⟨w.heap.size, 1, none⟩ (.int .i64 0)).setCell ⟨w.heap.size, 2, none⟩ (.int .i64 0)).setCell ⟨w.heap.size, 3, none⟩ (.slice none 0 0)).setCell ⟨w.heap.size, 4, none⟩ (.map none))) := ((((HB2.out.setCell (Nat.le_refl _) _).setCell (Nat.le_refl _) _).setCell (Nat.le_refl _) _).setCell (Nat.le_refl _) _).setCell (Nat.le_refl _) _
        have HO5 := Lib.hid (((((HO2.out.put 0 (.int .i64 0)).put 1 (.int .i64 0)).put 2 (.int .i64 0)).put 3 (.slice none 0 0)).put 4 (.map none))
        simp only [List.setIfInBounds_toArray, List.set_cons_zero, List.set_cons_succ] at HO5
        go_wp2
        clear f0 f1 f2 f3 f4 dd lb
        have f0 := HO5.out.cell 0
        have f1 := HO5.out.cell 1
        have f2 := HO5.out.cell 2
        have f3 := HO5.out.cell 3
        have f4 := HO5.out.cell 4
        simp only [List.getElem?_toArray, List.getElem?_cons_zero, List.getElem?_cons_succ] at f0 f1 f2 f3 f4
        exact bodyPost_ret (v := .tuple #[.agg #[.int .i64 0, .int .i64 0, .int .i64 0, .slice none 0 0, .map none], .int .i64 7]) (by simp [results, Tryd.results20, go_sem, f0, f1, f2, f3, f4]) rfl (NewT.no HN.out (by decide) HB5.out)
      · go_wp2_with fail
        refine (allWithin_any 0 (turns - 1) _ _ _ r.list _ HRI2.out.1).mono ?_
        rintro e w3 ⟨rfl, hb3⟩
        have HB3 := Lib.hid (HB2.out.trans (hb3.mono HB2.out.size))
        have HO3 := Lib.hid (HO2.out.below' hb3)
        have HX3 := Lib.hid (HX2.out.below hb3)
        clear hb3
        cases h2 : (r.list.all fun x => inB x 0 (turns - 1))
        · have HN : Hid (turnsC people turns gap ab = 7) := turnsC_bad HR.out HLP.out HRK.out (by rw [HCE.out, h1, h2]; rfl)
          have f0 := HO3.out.cell 0
          have f1 := HO3.out.cell 1
          have f2 := HO3.out.cell 2
          have f3 := HO3.out.cell 3
          have f4 := HO3.out.cell 4
          have dd := HO3.out.frozen
          have lb := HO3.out.lt
          simp at f0 f1 f2 f3 f4
          clear h1 h2
          have HB5 : Hid (Below w.heap.size w (((((w3.setCell ⟨w.heap.size, 0, none⟩ (.int .i64 0)).setCell ⟨w.heap.size, 1, none⟩ (.int .i64 0)).setCell ⟨w.heap.size, 2, none⟩ (.int .i64 0)).setCell ⟨w.heap.size, 3, none⟩ (.slice none 0 0)).setCell ⟨w.heap.size, 4, none⟩ (.map none))) := ((((HB3.out.setCell (Nat.le_refl _) _).setCell (Nat.le_refl _) _).setCell (Nat.le_refl _) _).setCell (Nat.le_refl _) _).setCell (Nat.le_refl _) _
          have HO5 := Lib.hid (((((HO3.out.put 0 (.int .i64 0)).put 1 (.int .i64 0)).put 2 (.int .i64 0)).put 3 (.slice none 0 0)).put 4 (.map none))
          simp only [List.setIfInBounds_toArray, List.set_cons_zero, List.set_cons_succ] at HO5
          go_wp2
          clear f0 f1 f2 f3 f4 dd lb
          have f0 := HO5.out.cell 0
          have f1 := HO5.out.cell 1
          have f2 := HO5.out.cell 2
          have f3 := HO5.out.cell 3
          have f4 := HO5.out.cell 4
          simp only [List.getElem?_toArray, List.getElem?_cons_zero, List.getElem?_cons_succ] at f0 f1 f2 f3 f4
          exact bodyPost_ret (v := .tuple #[.agg #[.int .i64 0, .int .i64 0, .int .i64 0, .slice none 0 0, .map none], .int .i64 7]) (by simp [results, Tryd.results20, go_sem, f0, f1, f2, f3, f4]) rfl (NewT.no HN.out (by decide) HB5.out)
        · have HA : Hid (absOk turns r.val = true) := by rw [Hid, HCE.out, h1, h2]; rfl
          clear h1 h2
          go_wp2
          go_roundg (n - (k + 1))
          case measure => have := Hgk.out; omega
          case rel => exact ⟨k + 1, by omega, rfl, by go_num, HB3.out, HO3.out, HX3.out, fun j x hj hx => by
            by_cases e : j = k
            · subst e; rw [HRK.out] at hx; injection hx with hx; subst hx; simp [HA.out]
            · exact Hall.out j x (by omega) hx⟩
    · have hkn : k = n := by omega
      subst hkn
      have HN : Hid (turnsC people turns gap ab = 0) := turnsC_good HR.out HLP.out (by rw [HL.out]; exact Nat.le_refl _) Hall.out
      have f0 := HO1.out.cell 0
      have f1 := HO1.out.cell 1
      have f2 := HO1.out.cell 2
      have f3 := HO1.out.cell 3
      have f4 := HO1.out.cell 4
      have dd := HO1.out.frozen
      have lb := HO1.out.lt
      simp at f0 f1 f2 f3 f4
      have HB5 : Hid (Below w.heap.size w ((((((wr.setCell ⟨w.heap.size, 0, none⟩ (.int .i64 people)).setCell ⟨w.heap.size, 1, none⟩ (.int .i64 turns)).setCell ⟨w.heap.size, 2, none⟩ (.int .i64 gap)).setCell ⟨w.heap.size, 3, none⟩ (.slice A k c)).setCell ⟨w.heap.size, 4, none⟩ (.map (some wr.heap.size))).alloc (.map #[] 0))) := (((((HB1.out.setCell (Nat.le_refl _) _).setCell (Nat.le_refl _) _).setCell (Nat.le_refl _) _).setCell (Nat.le_refl _) _).setCell (Nat.le_refl _) _).alloc (by simpa using HB1.out.size) _
      have HO5 := Lib.hid ((((((HO1.out.put 0 (.int .i64 people)).put 1 (.int .i64 turns)).put 2 (.int .i64 gap)).put 3 (.slice A k c)).put 4 (.map (some wr.heap.size))).alloc (.map #[] 0))
      simp only [List.setIfInBounds_toArray, List.set_cons_zero, List.set_cons_succ] at HO5
      have HMK : Hid (((((((wr.setCell ⟨w.heap.size, 0, none⟩ (.int .i64 people)).setCell ⟨w.heap.size, 1, none⟩ (.int .i64 turns)).setCell ⟨w.heap.size, 2, none⟩ (.int .i64 gap)).setCell ⟨w.heap.size, 3, none⟩ (.slice A k c)).setCell ⟨w.heap.size, 4, none⟩ (.map (some wr.heap.size))).alloc (.map #[] 0)).heap[wr.heap.size]? = some (.map #[] 0)) := map_new _ _ (by simp)
      have hmm := @run_makeMap Tryd.prog
      go_wp2
      clear f0 f1 f2 f3 f4 dd lb hmm
      have f0 := HO5.out.cell 0
      have f1 := HO5.out.cell 1
      have f2 := HO5.out.cell 2
      have f3 := HO5.out.cell 3
      have f4 := HO5.out.cell 4
      simp only [List.getElem?_toArray, List.getElem?_cons_zero, List.getElem?_cons_succ] at f0 f1 f2 f3 f4
      exact bodyPost_ret (v := .tuple #[.agg #[.int .i64 people, .int .i64 turns, .int .i64 gap, .slice A k c, .map (some wr.heap.size)], .int .i64 0]) (by simp [results, Tryd.results20, go_sem, f0, f1, f2, f3, f4]) rfl ⟨.inr ⟨HN.out, _, rfl, HB1.out.size, HMK.out⟩, HB5.out⟩

end Go.Proofs.YtjidibohbbdboaaDoor
