/- The struct type Verified of the laws: how it lies in memory, how an argument of it is opened, and what the laws' own helpers of it return. -/
import Derived.Test.YtlfnkgfkimanaaaProg
import Derived.Test.YtlfnkgfkimanaaaKit
namespace Go.Proofs.Ytlfnkgfkimanaaa
open Go.RowKit

structure Verified where
  day : Int
  told : Int
  seen : Int

def Verified.cells (x : Verified) : List Value := [.int .i64 x.day, .int .i64 x.told, .int .i64 x.seen]
instance : Inhabited Verified := ⟨⟨0, 0, 0⟩⟩
def Verified.Good (x : Verified) : Prop := I64 x.day ∧ I64 x.told ∧ I64 x.seen
def Verified.eqB (x y : Verified) : Bool := decide (x.day = y.day) && decide (x.told = y.told) && decide (x.seen = y.seen)
theorem Verified.eqB_self (x : Verified) : x.eqB x = true := by simp [Verified.eqB]
theorem Verified.eqB_iff (x y : Verified) : x.eqB y = true ↔ x = y := by cases x; cases y; simp [Verified.eqB, and_assoc]
theorem Verified.eqB_no (x y : Verified) (h : x.eqB y = false) : x ≠ y := fun e => by rw [(Verified.eqB_iff x y).2 e] at h; cases h

section
variable {H : Type} {enc : TypeId × Value → H} {w : World} {spare : Nat → Bool} {held : Bool}
theorem Verified.of_trod (m : Nat) (cs : List Value) (y : DataW H × List MemPlace) (h : DataW.trod enc Try.prog w 0 spare held m 118 cs = some y) : ∃ x : Verified, x.cells = cs ∧ x.Good := by
  obtain ⟨ys, m', _, _, hlen, hyl, hg⟩ := DataW.trod_struct Try.underlying118 h
  have hC : Try.prog.cellsOf 118 = 3 := by kernel_rfl
  have hCi : Try.prog.cellsOf 2 = 1 := by kernel_rfl
  obtain ⟨c0, c1, c2, rfl⟩ := list3 (hlen.trans hC)
  obtain ⟨y0, y1, y2, rfl⟩ := list3 hyl
  have g0 : DataW.trod enc Try.prog w 0 spare held m' 2 (([c0, c1, c2].drop 0).take (Try.prog.cellsOf 2)) = [y0, y1, y2][0]? := hg 0 _ rfl
  rw [hCi] at g0
  have g1 : DataW.trod enc Try.prog w 0 spare held m' 2 (([c0, c1, c2].drop 1).take (Try.prog.cellsOf 2)) = [y0, y1, y2][1]? := hg 1 _ rfl
  rw [hCi] at g1
  have g2 : DataW.trod enc Try.prog w 0 spare held m' 2 (([c0, c1, c2].drop 2).take (Try.prog.cellsOf 2)) = [y0, y1, y2][2]? := hg 2 _ rfl
  rw [hCi] at g2
  obtain ⟨x0, e0, k0⟩ := trod_int64 (cs := [c0]) (y := y0) Try.underlying2 g0
  obtain ⟨x1, e1, k1⟩ := trod_int64 (cs := [c1]) (y := y1) Try.underlying2 g1
  obtain ⟨x2, e2, k2⟩ := trod_int64 (cs := [c2]) (y := y2) Try.underlying2 g2
  injection e0 with e0 _
  injection e1 with e1 _
  injection e2 with e2 _
  exact ⟨⟨x0, x1, x2⟩, by simp [Verified.cells, e0, e1, e2], k0, k1, k2⟩
end

theorem Verified.at_ {w : World} {A : Option Addr} {n : Nat} {xs : List Verified} (h : SliceOf w 3 Verified.cells A n xs) {k : Nat} (hk : k < n) :
    ∃ b off x, A = some ⟨b, off, none⟩ ∧ b < w.heap.size ∧ xs[k]? = some x ∧ w.cell? ⟨b, off + k * 3, none⟩ = some (.int .i64 x.day) ∧ w.cell? ⟨b, off + k * 3 + 1, none⟩ = some (.int .i64 x.told) ∧ w.cell? ⟨b, off + k * 3 + 2, none⟩ = some (.int .i64 x.seen) := by
  obtain ⟨b, off, x, hA, hb, hx, hc⟩ := h.at_ hk
  exact ⟨b, off, x, hA, hb, hx, hc 0 _ rfl, hc 1 _ rfl, hc 2 _ rfl⟩

set_option maxHeartbeats 400000 in
theorem toVerified_any (x : Verified) (w : World) : Calls Try.prog 89 #[.agg #[.int .i64 x.day, .int .i64 x.told, .int .i64 x.seen]] w (Ret (.agg #[.int .i64 x.day, .int .i64 x.told, .int .i64 x.seen]) w) := by
  go_enter Try.func89, Try.ntmps89
  go_wp2
  refine bodyPost_ret (v := .agg #[.int .i64 x.day, .int .i64 x.told, .int .i64 x.seen]) (by simp [results, Try.results89, go_sem]) rfl (Ret.mk rfl ?_)
  repeat (first | exact Below.refl _ _ | refine Below.setCell ?_ (by simp <;> omega) _ | refine Below.alloc ?_ (by simp <;> omega) _)

set_option maxHeartbeats 400000 in
theorem eqVerified_any (x y : Verified) (w : World) : Calls Try.prog 92 #[.agg #[.int .i64 x.day, .int .i64 x.told, .int .i64 x.seen], .agg #[.int .i64 y.day, .int .i64 y.told, .int .i64 y.seen]] w (Ret (.bool (x.eqB y)) w) := by
  go_enter Try.func92, Try.ntmps92
  go_wp2
  all_goals (go_ret; refine Ret.b ?_ (((Below.refl _ _).alloc (Nat.le_refl _) _).alloc (by simp) _))
  all_goals (simp_all [Verified.eqB])

def Verified.eqSB (xs ys : List Verified) : Bool := xs.length == ys.length && (xs.zip ys).all fun p => p.1.eqB p.2
theorem Verified.eqSB_self (xs : List Verified) : Verified.eqSB xs xs = true := by
  unfold Verified.eqSB
  rw [Bool.and_eq_true]
  refine ⟨by simp, List.all_eq_true.2 fun p hp => ?_⟩
  obtain ⟨k, hk⟩ := List.mem_iff_getElem?.1 hp
  rw [List.getElem?_zip_eq_some] at hk
  have e : p.1 = p.2 := by have := hk.1.symm.trans hk.2; injection this
  rw [e]; exact Verified.eqB_self _
theorem Verified.eqSB_no {xs ys : List Verified} {k : Nat} {x y : Verified} (hx : xs[k]? = some x) (hy : ys[k]? = some y) (h : x.eqB y = false) : Verified.eqSB xs ys = false := by
  unfold Verified.eqSB
  rw [Bool.and_eq_false_iff]; right
  rw [List.all_eq_false]
  exact ⟨(x, y), List.mem_iff_getElem?.2 ⟨k, by rw [List.getElem?_zip_eq_some]; exact ⟨hx, hy⟩⟩, by simp [h]⟩
theorem Verified.eqSB_len {xs ys : List Verified} (h : xs.length ≠ ys.length) : Verified.eqSB xs ys = false := by simp [Verified.eqSB, h]
theorem Verified.eqSB_yes {xs ys : List Verified} (h : xs.length = ys.length) (ha : ∀ (j : Nat) (x y : Verified), xs[j]? = some x → ys[j]? = some y → x.eqB y = true) : Verified.eqSB xs ys = true := by
  unfold Verified.eqSB
  rw [Bool.and_eq_true]
  refine ⟨by simp [h], List.all_eq_true.2 fun p hp => ?_⟩
  obtain ⟨k, hk⟩ := List.mem_iff_getElem?.1 hp
  rw [List.getElem?_zip_eq_some] at hk
  exact ha k _ _ hk.1 hk.2
theorem Verified.eqSB_step {xs ys : List Verified} {k : Nat} {x y : Verified} (h : ∀ (j : Nat) (x y : Verified), j < k → xs[j]? = some x → ys[j]? = some y → x.eqB y = true) (hx : xs[k]? = some x) (hy : ys[k]? = some y) (he : x.eqB y = true) :
    ∀ (j : Nat) (x y : Verified), j < k + 1 → xs[j]? = some x → ys[j]? = some y → x.eqB y = true := fun j x' y' hj h1 h2 => by
  by_cases e : j = k
  · subst e; rw [hx] at h1; rw [hy] at h2; cases h1; cases h2; exact he
  · exact h j x' y' (by omega) h1 h2
theorem Verified.eqSB_iff (xs ys : List Verified) : Verified.eqSB xs ys = true ↔ xs = ys := by
  constructor
  · intro h
    unfold Verified.eqSB at h
    rw [Bool.and_eq_true] at h
    have hl : xs.length = ys.length := by simpa using h.1
    refine List.ext_getElem hl fun i h1 h2 => ?_
    have h3 := List.all_eq_true.1 h.2 (xs[i], ys[i]) (List.mem_iff_getElem?.2 ⟨i, by rw [List.getElem?_zip_eq_some]; exact ⟨List.getElem?_eq_getElem h1, List.getElem?_eq_getElem h2⟩⟩)
    exact (Verified.eqB_iff _ _).1 h3
  · rintro rfl; exact Verified.eqSB_self _

set_option maxHeartbeats 1000000 in
theorem eqVerifiedS_any (A B : Option Addr) (n m c1 c2 : Nat) (xs ys : List Verified) (w : World) (hx : SliceOf w 3 Verified.cells A n xs) (hy : SliceOf w 3 Verified.cells B m ys) :
    Calls Try.prog 43 #[.slice A n c1, .slice B m c2] w (Ret (.bool (Verified.eqSB xs ys)) w) := by
  have hn := hx.le
  have hm := hy.le
  by_cases hnm : n = m
  · subst hnm
    go_enter Try.func43, Try.ntmps43
    go_wp2
    go_loopg [5] n (fun gk i wr => ∃ k : Nat, k ≤ n ∧ gk = n - k ∧ i = .int .i64 k ∧ Below w.heap.size w wr ∧ ∀ (j : Nat) (x y : Verified), j < k → xs[j]? = some x → ys[j]? = some y → x.eqB y = true)
    case atStart => exact ⟨0, Nat.zero_le _, rfl, rfl, Below.refl _ _, fun j x y h => absurd h (by omega)⟩
    case round =>
      obtain ⟨k, hk, hgk, rfl, hb, hall⟩ := hrel
      have Hall := Lib.hid hall
      have Hgk := Lib.hid hgk
      clear hall hgk
      by_cases hlt : k < n
      · obtain ⟨b1, o1, x, rfl, hb1, hxk, x0, x1, x2⟩ := Verified.at_ (hx.below hb) hlt
        obtain ⟨b2, o2, y, rfl, hb2, hyk, y0, y1, y2⟩ := Verified.at_ (hy.below hb) hlt
        have Hx := Lib.hid hxk
        have Hy := Lib.hid hyk
        clear hxk hyk
        have hsub := fun (g : Sub wr) b o (h : b < wr.heap.size) => g.cell b o h
        go_wp2_with fail
        refine wp_region_sub (by kernel_rfl) (by kernel_rfl) ?_
        repeat (go_big_quiet_step (exact Calls.sub_of (eqVerified_any _ _ _)))
        refine wpQuiet_nil ?_
        intro wg hg
        have hbg := hb.trans (hg.mono hb.size)
        clear hsub x0 y0 x1 y1 x2 y2
        cases he : x.eqB y
        · go_wp2
          go_ret
          exact Ret.b (Verified.eqSB_no Hx.out Hy.out he).symm hbg
        · go_wp2
          go_roundg (n - (k + 1))
          case measure => have := Hgk.out; omega
          case rel => exact ⟨k + 1, by omega, rfl, by go_num, hbg, Verified.eqSB_step Hall.out Hx.out Hy.out he⟩
      · go_wp2
        go_ret
        exact Ret.b (Verified.eqSB_yes (by rw [hx.1, hy.1]) (fun j x y h1 h2 => Hall.out j x y (by have := (List.getElem?_eq_some_iff.1 h1).1; have := hx.1; omega) h1 h2)).symm hb
  · go_enter Try.func43, Try.ntmps43
    go_wp2
    go_ret
    exact Ret.b (Verified.eqSB_len (by rw [hx.1, hy.1]; exact hnm)).symm (Below.refl _ _)

theorem infoVerified : (Try.prog.info? 116).map (fun i => (i.zero, i.size, i.bytes)) = some (some (.agg #[.int .i64 0, .int .i64 0, .int .i64 0]), 3, 24) := by kernel_rfl
set_option maxHeartbeats 1000000 in
theorem toVerifiedS_any (A : Option Addr) (n c : Nat) (xs : List Verified) (w : World) (hx : SliceOf w 3 Verified.cells A n xs) (hle : n ≤ 1048576) :
    Calls Try.prog 41 #[.slice A n c] w (RetP (fun v w' => ∃ B, v = .slice B n n ∧ SliceOf w' 3 Verified.cells B n xs) w) := by
  have hmk := make_n (P := Try.prog) (t := 61) (n := n) Try.underlying61 infoVerified (by omega) (by omega)
  go_enter Try.func41, Try.ntmps41
  go_wp2
  clear hmk
  go_loopg [4] n (fun gk i wr => ∃ (k : Nat) (cs : Array Value), k ≤ n ∧ gk = n - k ∧ i = .int .i64 k ∧ Below w.heap.size w wr ∧ Own wr w.heap.size 116 cs ∧ cs.size = n * 3 ∧ FilledTo 3 Verified.cells xs k cs)
  case atStart => exact ⟨0, _, Nat.zero_le _, rfl, rfl, (Below.refl _ _).alloc (Nat.le_refl _) _, Own.new _ _ _, size_madeCells _ _, FilledTo.zero⟩
  case round =>
    obtain ⟨k, cs, hk, hgk, rfl, hb, hown, hsz, hfill⟩ := hrel
    have Hgk := Lib.hid hgk
    have Hsz := Lib.hid hsz
    clear hgk hsz
    by_cases hlt : k < n
    · obtain ⟨b1, o1, x, rfl, hb1, hxk, x0, x1, x2⟩ := Verified.at_ (hx.below hb) hlt
      have Hx := Lib.hid hxk
      clear hxk
      go_wp2_with fail
      refine (toVerified_any _ _).mono ?_
      rintro e w1 ⟨rfl, hb1'⟩
      have hown1 := hown.below' hb1'
      have hbb := hb.trans (hb1'.mono hb.size)
      have Hsize : Hid (w.heap.size < w1.heap.size) := hown1.lt
      obtain ⟨u0, hu0⟩ : ∃ u, cs[k * 3]? = some u := ⟨_, Array.getElem?_eq_getElem (by have := Hsz.out; omega)⟩
      have f0 : w1.cell? ⟨w.heap.size, k * 3, none⟩ = some u0 := (hown1.cell _).trans hu0
      obtain ⟨u1, hu1⟩ : ∃ u, cs[k * 3 + 1]? = some u := ⟨_, Array.getElem?_eq_getElem (by have := Hsz.out; omega)⟩
      have f1 : w1.cell? ⟨w.heap.size, k * 3 + 1, none⟩ = some u1 := (hown1.cell _).trans hu1
      obtain ⟨u2, hu2⟩ : ∃ u, cs[k * 3 + 2]? = some u := ⟨_, Array.getElem?_eq_getElem (by have := Hsz.out; omega)⟩
      have f2 : w1.cell? ⟨w.heap.size, k * 3 + 2, none⟩ = some u2 := (hown1.cell _).trans hu2
      have hfr : ∀ o, w1.frozen? ⟨w.heap.size, o, none⟩ = false := hown1.frozen
      clear x0 hu0 x1 hu1 x2 hu2 hx hown hb hb1'
      have Hown := Lib.hid hown1
      clear hown1
      go_wp2
      go_roundg (n - (k + 1))
      case measure => have := Hgk.out; omega
      case rel =>
        refine ⟨k + 1, putAll cs (k * 3) x.cells, by omega, rfl, by go_num, ?_, ?_, ?_, ?_⟩
        · repeat (first | exact hbb | refine Below.setCell ?_ (by exact Nat.le_refl _) _)
        · exact (((Hown.out.put _ _).put _ _).put _ _)
        · rw [putAll_size]; exact Hsz.out
        · exact hfill.step (fun _ => rfl) hlt Hsz.out Hx.out
    · have hkn : k = n := by omega
      subst hkn
      go_wp2
      go_ret
      exact RetP.mk ⟨_, rfl, hown.sliceOf hle hx.1 hfill⟩ hb

set_option maxHeartbeats 400000 in
theorem szVerifiedS_any (A : Option Addr) (n c : Nat) (left : Int) (w : World) (hn : n ≤ 9223372036854775807) (h0 : 0 ≤ left) (h1 : left ≤ 1048576) :
    Calls Try.prog 39 #[.slice A n c, .int .i64 left] w (RetP (fun v _ => ∃ r : Int, v = .int .i64 r ∧ (r < 0 ∨ 0 ≤ r ∧ r ≤ left ∧ (n : Int) ≤ left)) w) := by
  go_enter Try.func39, Try.ntmps39
  go_wp2
  all_goals (go_ret; refine RetP.mk ⟨_, rfl, ?_⟩ (Below.refl _ _))
  all_goals omega

end Go.Proofs.Ytlfnkgfkimanaaa
