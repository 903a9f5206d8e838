/- A region by its name, and a name in a list, on both sides. -/
import Derived.Test.YtpibiieibofggaaBase
import Derived.Test.YtpibiieibofggaaMem
import Derived.Test.YtpibiieibofggaaTRegion
namespace Go.Proofs.Ytpibiieibofggaa
open Go.RowKit

def findR (xs : List Region) (s : ByteArray) : Int := findI (fun r => decide (r.id = s)) xs
def hasS (ys : List ByteArray) (s : ByteArray) : Bool := ys.any fun y => decide (y = s)
theorem hasS_iff {ys : List ByteArray} {s : ByteArray} : hasS ys s = true ↔ s ∈ ys := by
  unfold hasS
  rw [List.any_eq_true]
  constructor
  · rintro ⟨x, hx, h⟩
    rw [decide_eq_true_eq] at h
    exact h ▸ hx
  · exact fun h => ⟨s, h, by simp⟩
theorem hasS_find (ys : List ByteArray) (s : ByteArray) : decide (0 ≤ findI (fun y => decide (y = s)) ys) = hasS ys s := by
  unfold hasS
  rcases findI_cases (p := fun y => decide (y = s)) (xs := ys) with ⟨k, x, hx, hp, _, he⟩ | ⟨h, he⟩
  · rw [he, decide_eq_true (by omega)]
    symm
    rw [List.any_eq_true]
    exact ⟨x, List.mem_of_getElem? hx, hp⟩
  · rw [he, decide_eq_false (by omega)]
    symm
    rw [List.any_eq_false]
    intro x hx
    obtain ⟨k, hk, rfl⟩ := List.getElem_of_mem hx
    have h2 := h (k + 1) k _ (by omega) (List.getElem?_eq_getElem hk)
    simpa using h2
theorem str_eq {a b : ByteArray} (h : a = b) : (a.toList == b.toList) = true := by simp [h]
theorem str_ne {a b : ByteArray} (h : a ≠ b) : (a.toList == b.toList) = false := by rw [beq_eq_false_iff_ne]; exact fun e => h ((bytes_inj a b).1 e)
set_option maxHeartbeats 400000 in
theorem regionAt1_any (x : RegionR) (s : ByteArray) (b0 : Nat) (w : World) (h0 : w.cell? ⟨b0, 0, none⟩ = some (.string s)) (hl : b0 < w.heap.size) :
    Calls Try.prog 62 #[.agg #[.string x.id, .int .i64 x.level, .slice x.nearA x.nearN x.nearC], .pointer (some ⟨b0, 0, none⟩)] w (Ret (.bool (decide (x.id = s))) w) := by
  by_cases he : x.id = s
  · have hd := str_eq he
    have HD : Hid (decide (x.id = s) = true) := decide_eq_true he
    clear he
    go_enter Try.func62, Try.ntmps62
    go_wp2
    go_ret
    exact Ret.b (by rw [HD.out]) ((Below.refl _ _).alloc (Nat.le_refl _) _)
  · have hd := str_ne he
    have HD : Hid (decide (x.id = s) = false) := decide_eq_false he
    clear he
    go_enter Try.func62, Try.ntmps62
    go_wp2
    go_ret
    exact Ret.b (by rw [HD.out]) ((Below.refl _ _).alloc (Nat.le_refl _) _)
set_option maxHeartbeats 1000000 in
theorem indexR_any (s : ByteArray) (b0 : Nat) (A : Option Addr) (n c : Nat) (xs : List Region) (w : World) (hx : Region.Sl w A n xs) (h0 : w.cell? ⟨b0, 0, none⟩ = some (.string s)) (hl : b0 < w.heap.size) :
    Calls Try.prog 61 #[.slice A n c, .func (.func 62) #[] #[.pointer (some ⟨b0, 0, none⟩)]] w (Ret (.int .i64 (findR xs s)) w) := by
  have hn := hx.le
  have HL := Lib.hid hx.len
  have H0 := Lib.hid h0
  clear h0
  go_enter Try.func61, Try.ntmps61
  go_wp2
  go_loopg [8] n (fun gk i wr => ∃ k : Nat, k ≤ n ∧ gk = n - k ∧ i = .int .i64 k ∧ Below w.heap.size w wr ∧ NoneTo (fun r : Region => decide (r.id = s)) xs k)
  case atStart => exact ⟨0, Nat.zero_le _, rfl, rfl, Below.refl _ _, NoneTo.zero⟩
  case round =>
    obtain ⟨k, hk, hgk, rfl, hb, hall⟩ := hrel
    have Hall := Lib.hid hall
    have Hgk := Lib.hid hgk
    clear hall hgk
    by_cases hlt : k < n
    · obtain ⟨b1, o1, x, rfl, hb1, hxk, hix, x0, x1, x2⟩ := (hx.below hb).at_ hlt
      have Hx := Lib.hid hxk
      have HB := Lib.hid hb
      have HC : Hid (Calls Try.prog 62 #[.agg #[.string x.id, .int .i64 x.level, .slice x.nearA x.nearN x.nearC], .pointer (some ⟨b0, 0, none⟩)] wr (Ret (.bool (decide (x.id = s))) wr)) := regionAt1_any x s b0 _ ((hb.cell hl).trans H0.out) (Nat.lt_of_lt_of_le hl hb.size)
      clear hxk hix hb hx
      by_cases he : x.id = s
      · have HE : Hid (findR xs s = k) := findI_hit Hall.out Hx.out (by simp [RegionR.val, he])
        rw [decide_eq_true he] at HC
        clear he
        go_wp2_with (go_at_call 62; refine HC.out.mono ?_; rintro e w3 ⟨rfl, hb3⟩; have HB3 := Lib.hid (HB.out.trans (hb3.mono HB.out.size)); clear hb3)
        go_ret
        exact Ret.i HE.out.symm HB3.out
      · have HE := Lib.hid (Hall.out.step Hx.out (by simp [RegionR.val, he]))
        rw [decide_eq_false he] at HC
        clear he
        go_wp2_with (go_at_call 62; refine HC.out.mono ?_; rintro e w3 ⟨rfl, hb3⟩; have HB3 := Lib.hid (HB.out.trans (hb3.mono HB.out.size)); clear hb3)
        go_roundg (n - (k + 1))
        case measure => have := Hgk.out; omega
        case rel => exact ⟨k + 1, by omega, rfl, by go_num, HB3.out, HE.out⟩
    · go_wp2
      go_ret
      exact Ret.i (findI_none (n := k) (by rw [HL.out]; omega) Hall.out).symm hb
set_option maxHeartbeats 400000 in
theorem regionAt_any (s : ByteArray) (A : Option Addr) (n c : Nat) (xs : List Region) (w : World) (hx : Region.Sl w A n xs) :
    Calls Try.prog 40 #[.slice A n c, .string s] w (Ret (.int .i64 (findR xs s)) w) := by
  have HX := Lib.hid hx
  clear hx
  go_enter Try.func40, Try.ntmps40
  go_wp2_with fail
  have hB : Below w.heap.size w (w.alloc (.cells #[.string s] 9)) := (Below.refl _ _).alloc (Nat.le_refl _) _
  refine (indexR_any s w.heap.size _ _ _ xs _ (HX.out.below hB) ((Own.new w 9 #[.string s]).cell 0) (by simp)).mono ?_
  rintro e w3 ⟨rfl, hb3⟩
  have HB3 := Lib.hid (hB.trans (hb3.mono hB.size))
  clear hb3 hB
  go_wp2
  go_ret
  exact Ret.i rfl HB3.out
set_option maxHeartbeats 1000000 in
theorem l18Find_any (s : ByteArray) (A : Option Addr) (n c : Nat) (xs : List Region) (w : World) (hx : Region.Sl w A n xs) :
    Calls Try.prog 33 #[.slice A n c, .string s] w (RetS (.int .i64 (findR xs s)) w) := by
  have hn := hx.le
  have HL := Lib.hid hx.len
  go_enter Try.func33, Try.ntmps33
  go_wp2
  go_loopg [5] n (fun gk i wr => ∃ k : Nat, k ≤ n ∧ gk = n - k ∧ i = .int .i64 k ∧ w = wr ∧ NoneTo (fun r : Region => decide (r.id = s)) xs k)
  case atStart => exact ⟨0, Nat.zero_le _, rfl, rfl, rfl, NoneTo.zero⟩
  case round =>
    obtain ⟨k, hk, hgk, rfl, rfl, hall⟩ := hrel
    have Hall := Lib.hid hall
    have Hgk := Lib.hid hgk
    clear hall hgk
    by_cases hlt : k < n
    · obtain ⟨b1, o1, x, rfl, hb1, hxk, hix, x0, x1, x2⟩ := hx.at_ hlt
      have Hx := Lib.hid hxk
      clear hxk hix
      by_cases he : x.id = s
      · have HE : Hid (findR xs s = k) := findI_hit Hall.out Hx.out (by simp [RegionR.val, he])
        have hd := str_eq he
        clear he
        go_wp2
        go_ret
        exact RetS.i HE.out.symm
      · have HE := Lib.hid (Hall.out.step Hx.out (by simp [RegionR.val, he]))
        have hd := str_ne he
        clear he
        go_wp2
        go_roundg (n - (k + 1))
        case measure => have := Hgk.out; omega
        case rel => exact ⟨k + 1, by omega, rfl, by go_num, rfl, HE.out⟩
    · go_wp2
      go_ret
      exact RetS.i (findI_none (n := k) (by rw [HL.out]; omega) Hall.out).symm
set_option maxHeartbeats 1000000 in
theorem indexS_any (v : ByteArray) (A : Option Addr) (n c : Nat) (xs : List ByteArray) (w : World) (hx : SliceOf w 1 strcells A n xs) :
    Calls Try.prog 74 #[.slice A n c, .string v] w (RetS (.int .i64 (findI (fun y => decide (y = v)) xs)) w) := by
  have hn := hx.le
  have HL := Lib.hid hx.len
  go_enter Try.func74, Try.ntmps74
  go_wp2
  go_loopg [8] n (fun gk i wr => ∃ k : Nat, k ≤ n ∧ gk = n - k ∧ i = .int .i64 k ∧ w = wr ∧ NoneTo (fun y => decide (y = v)) xs k)
  case atStart => exact ⟨0, Nat.zero_le _, rfl, rfl, rfl, NoneTo.zero⟩
  case round =>
    obtain ⟨k, hk, hgk, rfl, rfl, hall⟩ := hrel
    have Hall := Lib.hid hall
    have Hgk := Lib.hid hgk
    clear hall hgk
    by_cases hlt : k < n
    · obtain ⟨b1, o1, x, rfl, hb1, hxk, x0⟩ := strs_at hx hlt
      have Hx := Lib.hid hxk
      clear hxk
      by_cases he : v = x
      · have HE : Hid (findI (fun y => decide (y = v)) xs = k) := findI_hit Hall.out Hx.out (by simp [he])
        have hd := str_eq he
        clear he
        go_wp2
        go_ret
        exact RetS.i HE.out.symm
      · have HE := Lib.hid (Hall.out.step Hx.out (by simp; exact fun e => he e.symm))
        have hd := str_ne he
        clear he
        go_wp2
        go_roundg (n - (k + 1))
        case measure => have := Hgk.out; omega
        case rel => exact ⟨k + 1, by omega, rfl, by go_num, rfl, HE.out⟩
    · go_wp2
      go_ret
      exact RetS.i (findI_none (n := k) (by rw [HL.out]; omega) Hall.out).symm
set_option maxHeartbeats 400000 in
theorem containsS_any (v : ByteArray) (A : Option Addr) (n c : Nat) (xs : List ByteArray) (w : World) (hx : SliceOf w 1 strcells A n xs) :
    Calls Try.prog 69 #[.slice A n c, .string v] w (RetS (.bool (hasS xs v)) w) := by
  have HF := Lib.hid (hasS_find xs v)
  go_enter Try.func69, Try.ntmps69
  go_wp2_with fail
  refine (indexS_any v _ _ _ xs _ hx).mono ?_
  rintro e w' ⟨rfl, rfl⟩
  go_wp2
  go_ret
  exact RetS.b HF.out
set_option maxHeartbeats 1000000 in
theorem l18Near_any (v : ByteArray) (b off : Nat) (A : Option Addr) (n c : Nat) (xs : List ByteArray) (w : World) (hx : SliceOf w 1 strcells A n xs) (h2 : w.cell? ⟨b, off + 2, none⟩ = some (.slice A n c)) :
    Calls Try.prog 57 #[.pointer (some ⟨b, off, none⟩), .string v] w (RetS (.bool (hasS xs v)) w) := by
  have hn := hx.le
  have HL := Lib.hid hx.len
  go_enter Try.func57, Try.ntmps57
  go_wp2
  go_loopg [5] n (fun gk i wr => ∃ k : Nat, k ≤ n ∧ gk = n - k ∧ i = .int .i64 k ∧ w = wr ∧ NoneTo (fun y => decide (y = v)) xs k)
  case atStart => exact ⟨0, Nat.zero_le _, rfl, rfl, rfl, NoneTo.zero⟩
  case round =>
    obtain ⟨k, hk, hgk, rfl, rfl, hall⟩ := hrel
    have Hall := Lib.hid hall
    have Hgk := Lib.hid hgk
    clear hall hgk
    by_cases hlt : k < n
    · obtain ⟨b1, o1, x, rfl, hb1, hxk, x0⟩ := strs_at hx hlt
      have Hx := Lib.hid hxk
      clear hxk
      by_cases he : x = v
      · have HE : Hid (hasS xs v = true) := by rw [Hid, hasS_iff]; exact he ▸ List.mem_of_getElem? Hx.out
        have hd := str_eq he
        clear he
        go_wp2
        go_ret
        exact RetS.b HE.out.symm
      · have HE := Lib.hid (Hall.out.step Hx.out (by simp [he]))
        have hd := str_ne he
        clear he
        go_wp2
        go_roundg (n - (k + 1))
        case measure => have := Hgk.out; omega
        case rel => exact ⟨k + 1, by omega, rfl, by go_num, rfl, HE.out⟩
    · have HE : Hid (hasS xs v = false) := by rw [Hid, ← hasS_find, findI_none (n := k) (by rw [HL.out]; omega) Hall.out]; simp
      go_wp2
      go_ret
      exact RetS.b HE.out.symm

end Go.Proofs.Ytpibiieibofggaa
