/- The struct type Leg of the laws: how it lies in memory, how an argument of it is opened, and what the laws' own helpers of it return. -/
import Derived.Test.YtoociholchamhaaProg
import Derived.Test.YtoociholchamhaaKit
import Derived.Test.YtoociholchamhaaMem
namespace Go.Proofs.Ytoociholchamhaa
open Go.RowKit

structure Leg where
  from_ : Int
  to_ : Int
  minutes : Int
  exposure : Int

def Leg.cells (x : Leg) : List Value := [.int .i64 x.from_, .int .i64 x.to_, .int .i64 x.minutes, .int .i64 x.exposure]
theorem Leg.cells_len (x : Leg) : x.cells.length = 4 := rfl
theorem Leg.cells_one (x : Leg) : ∀ u ∈ x.cells, u.oneCell' = true := by intro u hu; simp [Leg.cells] at hu; rcases hu with rfl | rfl | rfl | rfl <;> rfl
instance : Inhabited Leg := ⟨⟨0, 0, 0, 0⟩⟩
def Leg.Good (x : Leg) : Prop := I64 x.from_ ∧ I64 x.to_ ∧ I64 x.minutes ∧ I64 x.exposure
def Leg.eqB (x y : Leg) : Bool := decide (x.from_ = y.from_) && decide (x.to_ = y.to_) && decide (x.minutes = y.minutes) && decide (x.exposure = y.exposure)
theorem Leg.eqB_self (x : Leg) : x.eqB x = true := by simp [Leg.eqB]
theorem Leg.eqB_iff (x y : Leg) : x.eqB y = true ↔ x = y := by cases x; cases y; simp [Leg.eqB, and_assoc]
theorem Leg.eqB_no (x y : Leg) (h : x.eqB y = false) : x ≠ y := fun e => by rw [(Leg.eqB_iff x y).2 e] at h; cases h

section
variable {H : Type} {enc : TypeId × Value → H} {w : World} {spare : Nat → Bool} {held : Bool}
theorem Leg.of_trod (m : Nat) (cs : List Value) (y : DataW H × List MemPlace) (h : DataW.trod enc Try.prog w 0 spare held m 63 cs = some y) : ∃ x : Leg, x.cells = cs ∧ x.Good := by
  obtain ⟨ys, m', _, _, hlen, hyl, hg⟩ := DataW.trod_struct Try.underlying63 h
  have hC : Try.prog.cellsOf 63 = 4 := by kernel_rfl
  have hCi : Try.prog.cellsOf 2 = 1 := by kernel_rfl
  obtain ⟨c0, c1, c2, c3, rfl⟩ := list4 (hlen.trans hC)
  obtain ⟨y0, y1, y2, y3, rfl⟩ := list4 hyl
  have g0 : DataW.trod enc Try.prog w 0 spare held m' 2 (([c0, c1, c2, c3].drop 0).take (Try.prog.cellsOf 2)) = [y0, y1, y2, y3][0]? := hg 0 _ rfl
  rw [hCi] at g0
  have g1 : DataW.trod enc Try.prog w 0 spare held m' 2 (([c0, c1, c2, c3].drop 1).take (Try.prog.cellsOf 2)) = [y0, y1, y2, y3][1]? := hg 1 _ rfl
  rw [hCi] at g1
  have g2 : DataW.trod enc Try.prog w 0 spare held m' 2 (([c0, c1, c2, c3].drop 2).take (Try.prog.cellsOf 2)) = [y0, y1, y2, y3][2]? := hg 2 _ rfl
  rw [hCi] at g2
  have g3 : DataW.trod enc Try.prog w 0 spare held m' 2 (([c0, c1, c2, c3].drop 3).take (Try.prog.cellsOf 2)) = [y0, y1, y2, y3][3]? := hg 3 _ rfl
  rw [hCi] at g3
  obtain ⟨x0, e0, k0⟩ := trod_int64 (cs := [c0]) (y := y0) Try.underlying2 g0
  obtain ⟨x1, e1, k1⟩ := trod_int64 (cs := [c1]) (y := y1) Try.underlying2 g1
  obtain ⟨x2, e2, k2⟩ := trod_int64 (cs := [c2]) (y := y2) Try.underlying2 g2
  obtain ⟨x3, e3, k3⟩ := trod_int64 (cs := [c3]) (y := y3) Try.underlying2 g3
  injection e0 with e0 _
  injection e1 with e1 _
  injection e2 with e2 _
  injection e3 with e3 _
  exact ⟨⟨x0, x1, x2, x3⟩, by simp [Leg.cells, e0, e1, e2, e3], k0, k1, k2, k3⟩
end

theorem Leg.at_ {w : World} {A : Option Addr} {n : Nat} {xs : List Leg} (h : SliceOf w 4 Leg.cells A n xs) {k : Nat} (hk : k < n) :
    ∃ b off x, A = some ⟨b, off, none⟩ ∧ b < w.heap.size ∧ xs[k]? = some x ∧ w.cell? ⟨b, off + k * 4, none⟩ = some (.int .i64 x.from_) ∧ w.cell? ⟨b, off + k * 4 + 1, none⟩ = some (.int .i64 x.to_) ∧ w.cell? ⟨b, off + k * 4 + 2, none⟩ = some (.int .i64 x.minutes) ∧ w.cell? ⟨b, off + k * 4 + 3, none⟩ = some (.int .i64 x.exposure) := by
  obtain ⟨b, off, x, hA, hb, hx, hc⟩ := h.at_ hk
  exact ⟨b, off, x, hA, hb, hx, hc 0 _ rfl, hc 1 _ rfl, hc 2 _ rfl, hc 3 _ rfl⟩

set_option maxHeartbeats 400000 in
theorem toLeg_any (x : Leg) (w : World) : Calls Try.prog 44 #[.agg #[.int .i64 x.from_, .int .i64 x.to_, .int .i64 x.minutes, .int .i64 x.exposure]] w (Ret (.agg #[.int .i64 x.from_, .int .i64 x.to_, .int .i64 x.minutes, .int .i64 x.exposure]) w) := by
  go_enter Try.func44, Try.ntmps44
  go_wp2
  refine bodyPost_ret (v := .agg #[.int .i64 x.from_, .int .i64 x.to_, .int .i64 x.minutes, .int .i64 x.exposure]) (by simp [results, Try.results44, go_sem]) rfl (Ret.mk rfl ?_)
  repeat (first | exact Below.refl _ _ | refine Below.setCell ?_ (by simp <;> omega) _ | refine Below.alloc ?_ (by simp <;> omega) _)

set_option maxHeartbeats 400000 in
theorem eqLeg_any (x y : Leg) (w : World) : Calls Try.prog 46 #[.agg #[.int .i64 x.from_, .int .i64 x.to_, .int .i64 x.minutes, .int .i64 x.exposure], .agg #[.int .i64 y.from_, .int .i64 y.to_, .int .i64 y.minutes, .int .i64 y.exposure]] w (Ret (.bool (x.eqB y)) w) := by
  go_enter Try.func46, Try.ntmps46
  go_wp2
  all_goals (go_ret; refine Ret.b ?_ (((Below.refl _ _).alloc (Nat.le_refl _) _).alloc (by simp) _))
  all_goals (simp_all [Leg.eqB])

def Leg.eqSB (xs ys : List Leg) : Bool := xs.length == ys.length && (xs.zip ys).all fun p => p.1.eqB p.2
theorem Leg.eqSB_self (xs : List Leg) : Leg.eqSB xs xs = true := by
  unfold Leg.eqSB
  rw [Bool.and_eq_true]
  refine ⟨by simp, List.all_eq_true.2 fun p hp => ?_⟩
  obtain ⟨k, hk⟩ := List.mem_iff_getElem?.1 hp
  rw [List.getElem?_zip_eq_some] at hk
  have e : p.1 = p.2 := by have := hk.1.symm.trans hk.2; injection this
  rw [e]; exact Leg.eqB_self _
theorem Leg.eqSB_no {xs ys : List Leg} {k : Nat} {x y : Leg} (hx : xs[k]? = some x) (hy : ys[k]? = some y) (h : x.eqB y = false) : Leg.eqSB xs ys = false := by
  unfold Leg.eqSB
  rw [Bool.and_eq_false_iff]; right
  rw [List.all_eq_false]
  exact ⟨(x, y), List.mem_iff_getElem?.2 ⟨k, by rw [List.getElem?_zip_eq_some]; exact ⟨hx, hy⟩⟩, by simp [h]⟩
theorem Leg.eqSB_len {xs ys : List Leg} (h : xs.length ≠ ys.length) : Leg.eqSB xs ys = false := by simp [Leg.eqSB, h]
theorem Leg.eqSB_yes {xs ys : List Leg} (h : xs.length = ys.length) (ha : ∀ (j : Nat) (x y : Leg), xs[j]? = some x → ys[j]? = some y → x.eqB y = true) : Leg.eqSB xs ys = true := by
  unfold Leg.eqSB
  rw [Bool.and_eq_true]
  refine ⟨by simp [h], List.all_eq_true.2 fun p hp => ?_⟩
  obtain ⟨k, hk⟩ := List.mem_iff_getElem?.1 hp
  rw [List.getElem?_zip_eq_some] at hk
  exact ha k _ _ hk.1 hk.2
theorem Leg.eqSB_step {xs ys : List Leg} {k : Nat} {x y : Leg} (h : ∀ (j : Nat) (x y : Leg), j < k → xs[j]? = some x → ys[j]? = some y → x.eqB y = true) (hx : xs[k]? = some x) (hy : ys[k]? = some y) (he : x.eqB y = true) :
    ∀ (j : Nat) (x y : Leg), j < k + 1 → xs[j]? = some x → ys[j]? = some y → x.eqB y = true := fun j x' y' hj h1 h2 => by
  by_cases e : j = k
  · subst e; rw [hx] at h1; rw [hy] at h2; cases h1; cases h2; exact he
  · exact h j x' y' (by omega) h1 h2
theorem Leg.eqSB_iff (xs ys : List Leg) : Leg.eqSB xs ys = true ↔ xs = ys := by
  constructor
  · intro h
    unfold Leg.eqSB at h
    rw [Bool.and_eq_true] at h
    have hl : xs.length = ys.length := by simpa using h.1
    refine List.ext_getElem hl fun i h1 h2 => ?_
    have h3 := List.all_eq_true.1 h.2 (xs[i], ys[i]) (List.mem_iff_getElem?.2 ⟨i, by rw [List.getElem?_zip_eq_some]; exact ⟨List.getElem?_eq_getElem h1, List.getElem?_eq_getElem h2⟩⟩)
    exact (Leg.eqB_iff _ _).1 h3
  · rintro rfl; exact Leg.eqSB_self _

set_option maxHeartbeats 1000000 in
theorem eqLegS_any (A B : Option Addr) (n m c1 c2 : Nat) (xs ys : List Leg) (w : World) (hx : SliceOf w 4 Leg.cells A n xs) (hy : SliceOf w 4 Leg.cells B m ys) :
    Calls Try.prog 17 #[.slice A n c1, .slice B m c2] w (Ret (.bool (Leg.eqSB xs ys)) w) := by
  have hn := hx.le
  have hm := hy.le
  by_cases hnm : n = m
  · subst hnm
    go_enter Try.func17, Try.ntmps17
    go_wp2
    go_loopg [5] n (fun gk i wr => ∃ k : Nat, k ≤ n ∧ gk = n - k ∧ i = .int .i64 k ∧ Below w.heap.size w wr ∧ ∀ (j : Nat) (x y : Leg), j < k → xs[j]? = some x → ys[j]? = some y → x.eqB y = true)
    case atStart => exact ⟨0, Nat.zero_le _, rfl, rfl, Below.refl _ _, fun j x y h => absurd h (by omega)⟩
    case round =>
      obtain ⟨k, hk, hgk, rfl, hb, hall⟩ := hrel
      have Hall := Lib.hid hall
      have Hgk := Lib.hid hgk
      clear hall hgk
      by_cases hlt : k < n
      · obtain ⟨b1, o1, x, rfl, hb1, hxk, x0, x1, x2, x3⟩ := Leg.at_ (hx.below hb) hlt
        obtain ⟨b2, o2, y, rfl, hb2, hyk, y0, y1, y2, y3⟩ := Leg.at_ (hy.below hb) hlt
        have Hx := Lib.hid hxk
        have Hy := Lib.hid hyk
        clear hxk hyk
        have hsub := fun (g : Sub wr) b o (h : b < wr.heap.size) => g.cell b o h
        go_wp2_with fail
        refine wp_region_sub (by kernel_rfl) (by kernel_rfl) ?_
        repeat (go_big_quiet_step (exact Calls.sub_of (eqLeg_any _ _ _)))
        refine wpQuiet_nil ?_
        intro wg hg
        have hbg := hb.trans (hg.mono hb.size)
        clear hsub x0 y0 x1 y1 x2 y2 x3 y3
        cases he : x.eqB y
        · go_wp2
          go_ret
          exact Ret.b (Leg.eqSB_no Hx.out Hy.out he).symm hbg
        · go_wp2
          go_roundg (n - (k + 1))
          case measure => have := Hgk.out; omega
          case rel => exact ⟨k + 1, by omega, rfl, by go_num, hbg, Leg.eqSB_step Hall.out Hx.out Hy.out he⟩
      · go_wp2
        go_ret
        exact Ret.b (Leg.eqSB_yes (by rw [hx.1, hy.1]) (fun j x y h1 h2 => Hall.out j x y (by have := (List.getElem?_eq_some_iff.1 h1).1; have := hx.1; omega) h1 h2)).symm hb
  · go_enter Try.func17, Try.ntmps17
    go_wp2
    go_ret
    exact Ret.b (Leg.eqSB_len (by rw [hx.1, hy.1]; exact hnm)).symm (Below.refl _ _)

theorem infoLeg : (Try.prog.info? 61).map (fun i => (i.zero, i.size, i.bytes)) = some (some (.agg #[.int .i64 0, .int .i64 0, .int .i64 0, .int .i64 0]), 4, 32) := by kernel_rfl
set_option maxHeartbeats 1000000 in
theorem toLegS_fit (A : Option Addr) (n c : Nat) (xs : List Leg) (w : World) (hx : SliceOf w 4 Leg.cells A n xs) (hle : n ≤ 1048576) :
    Calls Try.prog 14 #[.slice A n c] w (RetP (fun v w' => OwnsL w' w.heap.size 61 4 Leg.cells v xs ∧ ∃ B, v = .slice B n n) w) := by
  have HL := Lib.hid hx.len
  have hmk := make_n (P := Try.prog) (t := 27) (n := n) Try.underlying27 infoLeg (by omega) (by omega)
  go_enter Try.func14, Try.ntmps14
  go_wp2
  clear hmk
  go_loopg [4] n (fun gk i wr => ∃ (k : Nat) (cs : Array Value), k ≤ n ∧ gk = n - k ∧ i = .int .i64 k ∧ Below w.heap.size w wr ∧ Own wr w.heap.size 61 cs ∧ cs.size = n * 4 ∧ FilledTo 4 Leg.cells xs k cs)
  case atStart => exact ⟨0, _, Nat.zero_le _, rfl, rfl, (Below.refl _ _).alloc (Nat.le_refl _) _, Own.new _ _ _, size_madeCells _ _, FilledTo.zero⟩
  case round =>
    obtain ⟨k, cs, hk, hgk, rfl, hb, hown, hsz, hfill⟩ := hrel
    have Hgk := Lib.hid hgk
    have Hsz := Lib.hid hsz
    clear hgk hsz
    by_cases hlt : k < n
    · obtain ⟨b1, o1, x, rfl, hb1, hxk, x0, x1, x2, x3⟩ := Leg.at_ (hx.below hb) hlt
      have Hx := Lib.hid hxk
      clear hxk
      go_wp2_with fail
      refine (toLeg_any _ _).mono ?_
      rintro e w1 ⟨rfl, hb1'⟩
      have hown1 := hown.below' hb1'
      have hbb := hb.trans (hb1'.mono hb.size)
      have Hsize : Hid (w.heap.size < w1.heap.size) := hown1.lt
      obtain ⟨u0, hu0⟩ : ∃ u, cs[k * 4]? = some u := ⟨_, Array.getElem?_eq_getElem (by have := Hsz.out; omega)⟩
      have f0 : w1.cell? ⟨w.heap.size, k * 4, none⟩ = some u0 := (hown1.cell _).trans hu0
      obtain ⟨u1, hu1⟩ : ∃ u, cs[k * 4 + 1]? = some u := ⟨_, Array.getElem?_eq_getElem (by have := Hsz.out; omega)⟩
      have f1 : w1.cell? ⟨w.heap.size, k * 4 + 1, none⟩ = some u1 := (hown1.cell _).trans hu1
      obtain ⟨u2, hu2⟩ : ∃ u, cs[k * 4 + 2]? = some u := ⟨_, Array.getElem?_eq_getElem (by have := Hsz.out; omega)⟩
      have f2 : w1.cell? ⟨w.heap.size, k * 4 + 2, none⟩ = some u2 := (hown1.cell _).trans hu2
      obtain ⟨u3, hu3⟩ : ∃ u, cs[k * 4 + 3]? = some u := ⟨_, Array.getElem?_eq_getElem (by have := Hsz.out; omega)⟩
      have f3 : w1.cell? ⟨w.heap.size, k * 4 + 3, none⟩ = some u3 := (hown1.cell _).trans hu3
      have hfr : ∀ o, w1.frozen? ⟨w.heap.size, o, none⟩ = false := hown1.frozen
      clear x0 hu0 x1 hu1 x2 hu2 x3 hu3 hx hown hb hb1'
      have Hown := Lib.hid hown1
      clear hown1
      go_wp2
      go_roundg (n - (k + 1))
      case measure => have := Hgk.out; omega
      case rel =>
        refine ⟨k + 1, putAll cs (k * 4) x.cells, by omega, rfl, by go_num, ?_, ?_, ?_, ?_⟩
        · iterate 4 (refine Below.setCell ?_ (by exact Nat.le_refl _) _)
          exact hbb
        · exact ((((Hown.out.put _ _).put _ _).put _ _).put _ _)
        · rw [putAll_size]; exact Hsz.out
        · exact hfill.step (fun _ => rfl) hlt Hsz.out Hx.out
    · have hkn : k = n := by omega
      subst hkn
      go_wp2
      go_ret
      exact RetP.mk ⟨hown.ownsL Leg.cells_len (Nat.le_refl _) HL.out Hsz.out hle hfill, _, rfl⟩ hb
theorem toLegS_own (A : Option Addr) (n c : Nat) (xs : List Leg) (w : World) (hx : SliceOf w 4 Leg.cells A n xs) (hle : n ≤ 1048576) :
    Calls Try.prog 14 #[.slice A n c] w (RetL 61 4 Leg.cells xs w) := (toLegS_fit A n c xs w hx hle).mono fun _ _ ⟨v, he, h, hb⟩ => ⟨v, he, h.1, hb⟩
theorem toLegS_any (A : Option Addr) (n c : Nat) (xs : List Leg) (w : World) (hx : SliceOf w 4 Leg.cells A n xs) (hle : n ≤ 1048576) :
    Calls Try.prog 14 #[.slice A n c] w (RetP (fun v w' => ∃ B, v = .slice B n n ∧ SliceOf w' 4 Leg.cells B n xs) w) := by
  refine (toLegS_fit A n c xs w hx hle).mono fun e w' ⟨v, he, ⟨ho, B, hB⟩, hb⟩ => ?_
  obtain ⟨A', c', h1, _, _, h2⟩ := ho.slice Leg.cells_len
  rw [hx.len] at h1 h2
  rw [h1] at hB
  injection hB with e1 e2 e3
  subst e1 e3
  exact ⟨v, he, ⟨_, h1, h2⟩, hb⟩

set_option maxHeartbeats 2000000 in
theorem markLegS_any (base : Nat) (v : Value) (xs : List Leg) (k : Int) (w : World) (h : OwnsL w base 61 4 Leg.cells v xs) (h0 : 0 ≤ k) (h1 : k ≤ 100000000) (hle : xs.length ≤ 1048576) :
    Calls Try.prog 27 #[v, .int .i64 k] w (fun e w' => ∃ r : Int, e = .returned (.int .i64 r) ∧ k ≤ r ∧ r ≤ k + 4 * 1048576 ∧ Marked v w w') := by
  rcases h.form with ⟨rfl, rfl⟩ | ⟨g, cap, cur, rfl, hg, ho, hcap, hm, hsz⟩
  · go_enter Try.func27, Try.ntmps27
    go_wp2
    refine wp_loop_rounds 1 ?_
    rw [rounds_succ]
    go_wp2
    go_ret
    exact ⟨_, rfl, by omega, by omega, .inr ⟨rfl, rfl⟩, rfl⟩
  · obtain ⟨n, hn⟩ : ∃ n, xs.length = n := ⟨_, rfl⟩
    rw [hn] at hcap hle
    rw [hn]
    have HSZ := Lib.hid hsz
    clear hn hsz h
    go_enter Try.func27, Try.ntmps27
    go_wp2
    go_loopg [1, 5] n (fun gk q i wr => ∃ (j : Nat) (cs : Array Value), j ≤ n ∧ gk = n - j ∧ i = .int .i64 j ∧ q = .int .i64 (k + 4 * j) ∧ Span g (g + 1) w wr ∧ Own wr g 61 cs ∧ cs.size = cap * 4 ∧ wr.heap.size = w.heap.size)
    case atStart => exact ⟨0, cur, by omega, rfl, rfl, by simp, Span.refl _ _ _, ho, HSZ.out, rfl⟩
    case round =>
      obtain ⟨j, cs, hj, hgk, rfl, rfl, hsp, hor, hcs, hsame⟩ := hrel
      have Hgk := Lib.hid hgk
      have Hcs := Lib.hid hcs
      have Hsame := Lib.hid hsame
      clear hgk hcs hsame
      by_cases hlt : j < n
      · have hjc : (j + 1) * 4 ≤ cap * 4 := Nat.mul_le_mul_right 4 (by omega)
        obtain ⟨u0, hu0⟩ : ∃ u, cs[j * 4]? = some u := ⟨_, Array.getElem?_eq_getElem (by have := Hcs.out; have := Nat.mul_le_mul_right 4 hlt; omega)⟩
        have f0 : wr.cell? ⟨g, j * 4, none⟩ = some u0 := (hor.cell _).trans hu0
        obtain ⟨u1, hu1⟩ : ∃ u, cs[j * 4 + 1]? = some u := ⟨_, Array.getElem?_eq_getElem (by have := Hcs.out; have := Nat.mul_le_mul_right 4 hlt; omega)⟩
        have f1 : wr.cell? ⟨g, j * 4 + 1, none⟩ = some u1 := (hor.cell _).trans hu1
        obtain ⟨u2, hu2⟩ : ∃ u, cs[j * 4 + 2]? = some u := ⟨_, Array.getElem?_eq_getElem (by have := Hcs.out; have := Nat.mul_le_mul_right 4 hlt; omega)⟩
        have f2 : wr.cell? ⟨g, j * 4 + 2, none⟩ = some u2 := (hor.cell _).trans hu2
        obtain ⟨u3, hu3⟩ : ∃ u, cs[j * 4 + 3]? = some u := ⟨_, Array.getElem?_eq_getElem (by have := Hcs.out; have := Nat.mul_le_mul_right 4 hlt; omega)⟩
        have f3 : wr.cell? ⟨g, j * 4 + 3, none⟩ = some u3 := (hor.cell _).trans hu3
        have hfr : ∀ o, wr.frozen? ⟨g, o, none⟩ = false := hor.frozen
        have Hor := Lib.hid hor
        have Hsp := Lib.hid hsp
        clear hor hsp hu0 hu1 hu2 hu3
        go_wp2
        go_roundg (n - (j + 1))
        case measure => have := Hgk.out; omega
        case rel => exact ⟨j + 1, _, by omega, rfl, by go_num, by go_num, ((((Hsp.out.setCell (Nat.le_refl _) (by simp) _).setCell (Nat.le_refl _) (by simp) _).setCell (Nat.le_refl _) (by simp) _).setCell (Nat.le_refl _) (by simp) _), ((((Hor.out.put _ _).put _ _).put _ _).put _ _), by simpa using Hcs.out, by simpa using Hsame.out⟩
      · have hjn : j = n := by omega
        subst hjn
        have HS := Lib.hid hsp
        go_wp2
        go_ret
        exact ⟨_, rfl, by omega, by omega, .inl ⟨g, rfl, HS.out⟩, Hsame.out⟩

set_option maxHeartbeats 400000 in
theorem szLegS_any (A : Option Addr) (n c : Nat) (left : Int) (w : World) (hn : n ≤ 9223372036854775807) (h0 : 0 ≤ left) (h1 : left ≤ 1048576) :
    Calls Try.prog 12 #[.slice A n c, .int .i64 left] w (RetP (fun v _ => ∃ r : Int, v = .int .i64 r ∧ (r < 0 ∨ 0 ≤ r ∧ r ≤ left ∧ (n : Int) ≤ left)) w) := by
  go_enter Try.func12, Try.ntmps12
  go_wp2
  all_goals (go_ret; refine RetP.mk ⟨_, rfl, ?_⟩ (Below.refl _ _))
  all_goals omega

end Go.Proofs.Ytoociholchamhaa
