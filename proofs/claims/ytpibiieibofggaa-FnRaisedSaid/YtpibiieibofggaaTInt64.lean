/- Slices of int64 in the laws: copied, compared, overwritten with a count, and read back. -/
import Derived.Test.YtpibiieibofggaaBase
import Derived.Test.YtpibiieibofggaaMem
namespace Go.Proofs.Ytpibiieibofggaa
open Go.RowKit

def Int64.eqSB (xs ys : List Int) : Bool := decide (xs = ys)
theorem Int64.eqSB_self (xs : List Int) : Int64.eqSB xs xs = true := by simp [Int64.eqSB]
theorem i64cells_len (x : Int) : (i64cells x).length = 1 := rfl
theorem i64cells_one (x : Int) : ∀ u ∈ i64cells x, u.oneCell' = true := by intro u hu; simp [i64cells] at hu; subst hu; rfl
theorem infoI64 : (Try.prog.info? 2).map (fun i => (i.zero, i.size, i.bytes)) = some (some (.int .i64 0), 1, 8) := by kernel_rfl
theorem putAll_one (cs : Array Value) (k : Nat) (x : Int) : putAll cs (k * 1) (i64cells x) = cs.setIfInBounds k (.int .i64 x) := by simp [putAll, i64cells]

set_option maxHeartbeats 1000000 in
theorem eqInt64S_any (A B : Option Addr) (n m c1 c2 : Nat) (xs ys : List Int) (w : World) (hx : SliceOf w 1 i64cells A n xs) (hy : SliceOf w 1 i64cells B m ys) :
    Calls Try.prog 18 #[.slice A n c1, .slice B m c2] w (Ret (.bool (Int64.eqSB xs ys)) w) := by
  have hn := hx.le
  have hm := hy.le
  have HX := Lib.hid hx.len
  have HY := Lib.hid hy.len
  by_cases hnm : n = m
  · subst hnm
    go_enter Try.func18, Try.ntmps18
    go_wp2
    go_loopg [5] n (fun gk i wr => ∃ k : Nat, k ≤ n ∧ gk = n - k ∧ i = .int .i64 k ∧ Below w.heap.size w wr ∧ xs.take k = ys.take k)
    case atStart => exact ⟨0, Nat.zero_le _, rfl, rfl, Below.refl _ _, rfl⟩
    case round =>
      obtain ⟨k, hk, hgk, rfl, hb, hall⟩ := hrel
      have Hall := Lib.hid hall
      have Hgk := Lib.hid hgk
      clear hall hgk
      by_cases hlt : k < n
      · obtain ⟨b1, o1, x, rfl, hb1, hxk, x0⟩ := ints_at (hx.below hb) hlt
        obtain ⟨b2, o2, y, rfl, hb2, hyk, y0⟩ := ints_at (hy.below hb) hlt
        have Hx := Lib.hid hxk
        have Hy := Lib.hid hyk
        clear hxk hyk
        have hsub := fun (g : Sub wr) b o (h : b < wr.heap.size) => g.cell b o h
        go_wp2_with fail
        refine wp_region_sub (by kernel_rfl) (by kernel_rfl) ?_
        repeat (go_big_quiet_step (fail))
        refine wpQuiet_nil ?_
        intro wg hg
        have hbg := hb.trans (hg.mono hb.size)
        clear hsub x0 y0
        by_cases he : x = y
        · have hne : (x != y) = false := by simp [he]
          have HE : Hid (xs.take (k + 1) = ys.take (k + 1)) := by
            unfold Hid
            rw [List.take_succ_eq_append_getElem (List.getElem?_eq_some_iff.1 Hx.out).1, (List.getElem?_eq_some_iff.1 Hx.out).2, List.take_succ_eq_append_getElem (List.getElem?_eq_some_iff.1 Hy.out).1, (List.getElem?_eq_some_iff.1 Hy.out).2, Hall.out, he]
          clear he
          go_wp2
          go_roundg (n - (k + 1))
          case measure => have := Hgk.out; omega
          case rel => exact ⟨k + 1, by omega, rfl, by go_num, hbg, HE.out⟩
        · have hne : (x != y) = true := by simp [he]
          have HE : Hid (Int64.eqSB xs ys = false) := by
            unfold Hid Int64.eqSB
            rw [decide_eq_false_iff_not]
            intro e; subst e
            have := Hx.out.symm.trans Hy.out
            injection this with this
            exact he this
          clear he
          go_wp2
          go_ret
          exact Ret.b HE.out.symm hbg
      · have HE : Hid (Int64.eqSB xs ys = true) := by
          unfold Hid Int64.eqSB
          rw [decide_eq_true_eq]
          have := Hall.out
          rwa [List.take_of_length_le (by rw [HX.out]; omega), List.take_of_length_le (by rw [HY.out]; omega)] at this
        go_wp2
        go_ret
        exact Ret.b HE.out.symm hb
  · have HE : Hid (Int64.eqSB xs ys = false) := by
      unfold Hid Int64.eqSB
      rw [decide_eq_false_iff_not]
      intro e; subst e
      exact hnm (HX.out.symm.trans HY.out)
    go_enter Try.func18, Try.ntmps18
    go_wp2
    go_ret
    exact Ret.b HE.out.symm (Below.refl _ _)

theorem eqInt64S_own {b1 b2 : Nat} {T1 T2 : TypeId} {u v : Value} {xs ys : List Int} {w : World} (hx : OwnsL w b1 T1 1 i64cells u xs) (hy : OwnsL w b2 T2 1 i64cells v ys) :
    Calls Try.prog 18 #[u, v] w (Ret (.bool (Int64.eqSB xs ys)) w) := by
  obtain ⟨A, c, rfl, _, _, h1⟩ := hx.slice i64cells_len
  obtain ⟨B, d, rfl, _, _, h2⟩ := hy.slice i64cells_len
  exact eqInt64S_any _ _ _ _ _ _ _ _ _ h1 h2


/-- The numbers k, k + 1, .. -/
def countL (k : Int) : Nat → List Int
  | 0 => []
  | n + 1 => countL k n ++ [k + n]
theorem countL_len (k : Int) : ∀ n, (countL k n).length = n
  | 0 => rfl
  | n + 1 => by simp [countL, countL_len k n]
theorem countL_at (k : Int) : ∀ (n i : Nat), i < n → (countL k n)[i]? = some (k + i)
  | 0, i, h => absurd h (by omega)
  | n + 1, i, h => by
    rw [countL]
    by_cases e : i < n
    · rw [List.getElem?_append_left (by rw [countL_len]; exact e)]; exact countL_at k n i e
    · have : i = n := by omega
      subst this
      rw [List.getElem?_append_right (by rw [countL_len]; omega), countL_len]
      simp

set_option maxHeartbeats 1000000 in
theorem markInt64S_any (base : Nat) (v : Value) (xs : List Int) (k : Int) (w : World) (h : OwnsL w base 2 1 i64cells v xs) (h0 : 0 ≤ k) (h1 : k ≤ 10000000000000) (hle : xs.length ≤ 1048576) :
    Calls Try.prog 21 #[v, .int .i64 k] w (fun e w' => e = .returned (.int .i64 (k + xs.length)) ∧ OwnsL w' base 2 1 i64cells v (countL k xs.length) ∧ Marked v w w') := by
  have hown0 := h
  rcases h.form with ⟨rfl, rfl⟩ | ⟨g, cap, cur, rfl, hg, ho, hcap, hm, hsz⟩
  · go_enter Try.func21, Try.ntmps21
    go_wp2
    refine wp_loop_rounds 1 ?_
    rw [rounds_succ]
    go_wp2
    go_ret
    exact ⟨by simp, hown0, .inr ⟨rfl, rfl⟩, rfl⟩
  · obtain ⟨n, hn⟩ : ∃ n, xs.length = n := ⟨_, rfl⟩
    rw [hn] at hcap hle
    rw [hn]
    have HSZ := Lib.hid hsz
    clear hn hsz hown0 h
    go_enter Try.func21, Try.ntmps21
    go_wp2
    go_loopg [1, 5] n (fun gk q i wr => ∃ (j : Nat) (cs : Array Value), j ≤ n ∧ gk = n - j ∧ i = .int .i64 j ∧ q = .int .i64 (k + j) ∧ Span g (g + 1) w wr ∧ Own wr g 2 cs ∧ cs.size = cap * 1 ∧ cs.toList.take (j * 1) = (countL k j).flatMap i64cells ∧ wr.heap.size = w.heap.size)
    case atStart => exact ⟨0, cur, by omega, rfl, rfl, by simp, Span.refl _ _ _, ho, HSZ.out, rfl, rfl⟩
    case round =>
      obtain ⟨j, cs, hj, hgk, rfl, rfl, hsp, hor, hcs, htk, hsame⟩ := hrel
      have Hgk := Lib.hid hgk
      have Hcs := Lib.hid hcs
      have Htk := Lib.hid htk
      have Hsame := Lib.hid hsame
      clear hgk hcs htk hsame
      by_cases hlt : j < n
      · obtain ⟨u0, hu0⟩ : ∃ u, cs[j]? = some u := ⟨_, Array.getElem?_eq_getElem (by have := Hcs.out; omega)⟩
        have f0 : wr.cell? ⟨g, j, none⟩ = some u0 := (hor.cell _).trans hu0
        have hfr : ∀ o, wr.frozen? ⟨g, o, none⟩ = false := hor.frozen
        have Hor := Lib.hid hor
        have Hsp := Lib.hid hsp
        have HT : Hid ((cs.setIfInBounds j (.int .i64 (k + j))).toList.take ((j + 1) * 1) = (countL k (j + 1)).flatMap i64cells) := by
          unfold Hid
          have hjs : j < cs.size := by have := Hcs.out; omega
          rw [countL, List.flatMap_append, ← Htk.out, Nat.mul_one, Nat.mul_one]
          apply List.ext_getElem?
          intro i
          by_cases h1 : i < j
          · rw [List.getElem?_take_of_lt (by omega), List.getElem?_append_left (by simp; omega), List.getElem?_take_of_lt h1]
            simp [show ¬ j = i by omega]
          · by_cases h2 : i = j
            · subst h2
              rw [List.getElem?_take_of_lt (by omega), List.getElem?_append_right (by simp; omega)]
              simp [hjs, i64cells, Nat.min_eq_left (Nat.le_of_lt hjs)]
            · rw [List.getElem?_eq_none (by simp; omega), List.getElem?_eq_none (by simp [i64cells]; omega)]
        clear hor hsp hu0
        go_wp2
        go_roundg (n - (j + 1))
        case measure => have := Hgk.out; omega
        case rel => exact ⟨j + 1, cs.setIfInBounds j (.int .i64 (k + j)), by omega, rfl, by go_num, by go_num, Hsp.out.setCell (Nat.le_refl _) (by simp) _, Hor.out.put _ _, by simpa using Hcs.out, HT.out, by simpa using Hsame.out⟩
      · have hjn : j = n := by omega
        subst hjn
        have HO : Hid (OwnsL wr base 2 1 i64cells (.slice (some ⟨g, 0, none⟩) j cap) (countL k j)) := by
          unfold Hid OwnsL
          rw [countL_len]
          exact ⟨by rw [flat_len i64cells_len, countL_len], .inr ⟨g, cap, cs, rfl, hg, hor, hcap, hm, Hcs.out, Htk.out⟩⟩
        have HS := Lib.hid hsp
        go_wp2
        go_ret
        exact ⟨rfl, HO.out, .inl ⟨g, rfl, HS.out⟩, Hsame.out⟩

set_option maxHeartbeats 1000000 in
theorem heldInt64S_any (base : Nat) (v : Value) (n : Nat) (k : Int) (w : World) (h : OwnsL w base 2 1 i64cells v (countL k n)) (h0 : 0 ≤ k) (h1 : k ≤ 10000000000000) (hle : n ≤ 1048576) :
    Calls Try.prog 22 #[v, .int .i64 k] w (RetS (.int .i64 (k + n)) w) := by
  obtain ⟨A, c, rfl, _, _, hs⟩ := h.slice i64cells_len
  rw [countL_len] at *
  clear h
  go_enter Try.func22, Try.ntmps22
  go_wp2
  go_loopg [1, 5] n (fun gk q i wr => ∃ (j : Nat), j ≤ n ∧ gk = n - j ∧ i = .int .i64 j ∧ q = .int .i64 (k + j) ∧ w = wr)
  case atStart => exact ⟨0, by omega, rfl, rfl, by simp, rfl⟩
  case round =>
    obtain ⟨j, hj, hgk, rfl, rfl, rfl⟩ := hrel
    have Hgk := Lib.hid hgk
    clear hgk
    by_cases hlt : j < n
    · obtain ⟨b1, o1, x, rfl, hb1, hxk, x0⟩ := ints_at hs hlt
      have hx := countL_at k n j hlt
      rw [hx] at hxk
      injection hxk with hxk
      rw [← hxk] at x0
      clear hx hxk
      go_wp2
      go_roundg (n - (j + 1))
      case measure => have := Hgk.out; omega
      case rel => exact ⟨j + 1, by omega, rfl, by go_num, by go_num, rfl⟩
    · have hjn : j = n := by omega
      subst hjn
      go_wp2
      go_ret
      exact RetS.i rfl


end Go.Proofs.Ytpibiieibofggaa
