/- The struct type Setting of the laws: how it lies in memory, how an argument of it is opened, and what the laws' own helpers of it return. -/
import Derived.Test.YtoociholchamhaaProg
import Derived.Test.YtoociholchamhaaKit
import Derived.Test.YtoociholchamhaaMem
namespace Go.Proofs.Ytoociholchamhaa
open Go.RowKit

structure Setting where
  name : ByteArray
  value : Int

def Setting.cells (x : Setting) : List Value := [.string x.name, .int .i64 x.value]
theorem Setting.cells_len (x : Setting) : x.cells.length = 2 := rfl
theorem Setting.cells_one (x : Setting) : ∀ u ∈ x.cells, u.oneCell' = true := by intro u hu; simp [Setting.cells] at hu; rcases hu with rfl | rfl <;> rfl
instance : Inhabited Setting := ⟨⟨ByteArray.empty, 0⟩⟩
def Setting.Good (x : Setting) : Prop := I64 x.value ∧ x.name.size ≤ maxLen
def Setting.eqB (x y : Setting) : Bool := decide (x.name.toList = y.name.toList) && decide (x.value = y.value)
theorem Setting.eqB_self (x : Setting) : x.eqB x = true := by simp [Setting.eqB]
theorem Setting.eqB_iff (x y : Setting) : x.eqB y = true ↔ x = y := by cases x; cases y; simp [Setting.eqB, bytes_inj]
theorem Setting.eqB_no (x y : Setting) (h : x.eqB y = false) : x ≠ y := fun e => by rw [(Setting.eqB_iff x y).2 e] at h; cases h

section
variable {H : Type} {enc : TypeId × Value → H} {w : World} {spare : Nat → Bool} {held : Bool}
theorem Setting.of_trod (m : Nat) (cs : List Value) (y : DataW H × List MemPlace) (h : DataW.trod enc Try.prog w 0 spare held m 122 cs = some y) : ∃ x : Setting, x.cells = cs ∧ x.Good := by
  obtain ⟨ys, m', _, _, hlen, hyl, hg⟩ := DataW.trod_struct Try.underlying122 h
  have hC : Try.prog.cellsOf 122 = 2 := by kernel_rfl
  have hCi : Try.prog.cellsOf 2 = 1 := by kernel_rfl
  have hCs : Try.prog.cellsOf 9 = 1 := by kernel_rfl
  obtain ⟨c0, c1, rfl⟩ := list2 (hlen.trans hC)
  obtain ⟨y0, y1, rfl⟩ := list2 hyl
  have g0 : DataW.trod enc Try.prog w 0 spare held m' 9 (([c0, c1].drop 0).take (Try.prog.cellsOf 9)) = [y0, y1][0]? := hg 0 _ rfl
  rw [hCs] at g0
  have g1 : DataW.trod enc Try.prog w 0 spare held m' 2 (([c0, c1].drop 1).take (Try.prog.cellsOf 2)) = [y0, y1][1]? := hg 1 _ rfl
  rw [hCi] at g1
  obtain ⟨x0, e0, k0⟩ := trod_str (cs := [c0]) (y := y0) Try.underlying9 g0
  obtain ⟨x1, e1, k1⟩ := trod_int64 (cs := [c1]) (y := y1) Try.underlying2 g1
  injection e0 with e0 _
  injection e1 with e1 _
  exact ⟨⟨x0, x1⟩, by simp [Setting.cells, e0, e1], k1, k0⟩
end

theorem Setting.at_ {w : World} {A : Option Addr} {n : Nat} {xs : List Setting} (h : SliceOf w 2 Setting.cells A n xs) {k : Nat} (hk : k < n) :
    ∃ b off x, A = some ⟨b, off, none⟩ ∧ b < w.heap.size ∧ xs[k]? = some x ∧ w.cell? ⟨b, off + k * 2, none⟩ = some (.string x.name) ∧ w.cell? ⟨b, off + k * 2 + 1, none⟩ = some (.int .i64 x.value) := by
  obtain ⟨b, off, x, hA, hb, hx, hc⟩ := h.at_ hk
  exact ⟨b, off, x, hA, hb, hx, hc 0 _ rfl, hc 1 _ rfl⟩

set_option maxHeartbeats 400000 in
theorem toSetting_any (x : Setting) (w : World) : Calls Try.prog 95 #[.agg #[.string x.name, .int .i64 x.value]] w (Ret (.agg #[.string x.name, .int .i64 x.value]) w) := by
  go_enter Try.func95, Try.ntmps95
  go_wp2
  refine bodyPost_ret (v := .agg #[.string x.name, .int .i64 x.value]) (by simp [results, Try.results95, go_sem]) rfl (Ret.mk rfl ?_)
  repeat (first | exact Below.refl _ _ | refine Below.setCell ?_ (by simp <;> omega) _ | refine Below.alloc ?_ (by simp <;> omega) _)

set_option maxHeartbeats 400000 in
theorem eqSetting_any (x y : Setting) (w : World) : Calls Try.prog 96 #[.agg #[.string x.name, .int .i64 x.value], .agg #[.string y.name, .int .i64 y.value]] w (Ret (.bool (x.eqB y)) w) := by
  go_enter Try.func96, Try.ntmps96
  go_wp2
  all_goals (go_ret; refine Ret.b ?_ (((Below.refl _ _).alloc (Nat.le_refl _) _).alloc (by simp) _))
  all_goals (simp_all [Setting.eqB])

def Setting.eqSB (xs ys : List Setting) : Bool := xs.length == ys.length && (xs.zip ys).all fun p => p.1.eqB p.2
theorem Setting.eqSB_self (xs : List Setting) : Setting.eqSB xs xs = true := by
  unfold Setting.eqSB
  rw [Bool.and_eq_true]
  refine ⟨by simp, List.all_eq_true.2 fun p hp => ?_⟩
  obtain ⟨k, hk⟩ := List.mem_iff_getElem?.1 hp
  rw [List.getElem?_zip_eq_some] at hk
  have e : p.1 = p.2 := by have := hk.1.symm.trans hk.2; injection this
  rw [e]; exact Setting.eqB_self _
theorem Setting.eqSB_no {xs ys : List Setting} {k : Nat} {x y : Setting} (hx : xs[k]? = some x) (hy : ys[k]? = some y) (h : x.eqB y = false) : Setting.eqSB xs ys = false := by
  unfold Setting.eqSB
  rw [Bool.and_eq_false_iff]; right
  rw [List.all_eq_false]
  exact ⟨(x, y), List.mem_iff_getElem?.2 ⟨k, by rw [List.getElem?_zip_eq_some]; exact ⟨hx, hy⟩⟩, by simp [h]⟩
theorem Setting.eqSB_len {xs ys : List Setting} (h : xs.length ≠ ys.length) : Setting.eqSB xs ys = false := by simp [Setting.eqSB, h]
theorem Setting.eqSB_yes {xs ys : List Setting} (h : xs.length = ys.length) (ha : ∀ (j : Nat) (x y : Setting), xs[j]? = some x → ys[j]? = some y → x.eqB y = true) : Setting.eqSB xs ys = true := by
  unfold Setting.eqSB
  rw [Bool.and_eq_true]
  refine ⟨by simp [h], List.all_eq_true.2 fun p hp => ?_⟩
  obtain ⟨k, hk⟩ := List.mem_iff_getElem?.1 hp
  rw [List.getElem?_zip_eq_some] at hk
  exact ha k _ _ hk.1 hk.2
theorem Setting.eqSB_step {xs ys : List Setting} {k : Nat} {x y : Setting} (h : ∀ (j : Nat) (x y : Setting), j < k → xs[j]? = some x → ys[j]? = some y → x.eqB y = true) (hx : xs[k]? = some x) (hy : ys[k]? = some y) (he : x.eqB y = true) :
    ∀ (j : Nat) (x y : Setting), j < k + 1 → xs[j]? = some x → ys[j]? = some y → x.eqB y = true := fun j x' y' hj h1 h2 => by
  by_cases e : j = k
  · subst e; rw [hx] at h1; rw [hy] at h2; cases h1; cases h2; exact he
  · exact h j x' y' (by omega) h1 h2
theorem Setting.eqSB_iff (xs ys : List Setting) : Setting.eqSB xs ys = true ↔ xs = ys := by
  constructor
  · intro h
    unfold Setting.eqSB at h
    rw [Bool.and_eq_true] at h
    have hl : xs.length = ys.length := by simpa using h.1
    refine List.ext_getElem hl fun i h1 h2 => ?_
    have h3 := List.all_eq_true.1 h.2 (xs[i], ys[i]) (List.mem_iff_getElem?.2 ⟨i, by rw [List.getElem?_zip_eq_some]; exact ⟨List.getElem?_eq_getElem h1, List.getElem?_eq_getElem h2⟩⟩)
    exact (Setting.eqB_iff _ _).1 h3
  · rintro rfl; exact Setting.eqSB_self _

set_option maxHeartbeats 1000000 in
theorem eqSettingS_any (A B : Option Addr) (n m c1 c2 : Nat) (xs ys : List Setting) (w : World) (hx : SliceOf w 2 Setting.cells A n xs) (hy : SliceOf w 2 Setting.cells B m ys) :
    Calls Try.prog 88 #[.slice A n c1, .slice B m c2] w (Ret (.bool (Setting.eqSB xs ys)) w) := by
  have hn := hx.le
  have hm := hy.le
  by_cases hnm : n = m
  · subst hnm
    go_enter Try.func88, Try.ntmps88
    go_wp2
    go_loopg [5] n (fun gk i wr => ∃ k : Nat, k ≤ n ∧ gk = n - k ∧ i = .int .i64 k ∧ Below w.heap.size w wr ∧ ∀ (j : Nat) (x y : Setting), j < k → xs[j]? = some x → ys[j]? = some y → x.eqB y = true)
    case atStart => exact ⟨0, Nat.zero_le _, rfl, rfl, Below.refl _ _, fun j x y h => absurd h (by omega)⟩
    case round =>
      obtain ⟨k, hk, hgk, rfl, hb, hall⟩ := hrel
      have Hall := Lib.hid hall
      have Hgk := Lib.hid hgk
      clear hall hgk
      by_cases hlt : k < n
      · obtain ⟨b1, o1, x, rfl, hb1, hxk, x0, x1⟩ := Setting.at_ (hx.below hb) hlt
        obtain ⟨b2, o2, y, rfl, hb2, hyk, y0, y1⟩ := Setting.at_ (hy.below hb) hlt
        have Hx := Lib.hid hxk
        have Hy := Lib.hid hyk
        clear hxk hyk
        have hsub := fun (g : Sub wr) b o (h : b < wr.heap.size) => g.cell b o h
        go_wp2_with fail
        refine wp_region_sub (by kernel_rfl) (by kernel_rfl) ?_
        repeat (go_big_quiet_step (exact Calls.sub_of (eqSetting_any _ _ _)))
        refine wpQuiet_nil ?_
        intro wg hg
        have hbg := hb.trans (hg.mono hb.size)
        clear hsub x0 y0 x1 y1
        cases he : x.eqB y
        · go_wp2
          go_ret
          exact Ret.b (Setting.eqSB_no Hx.out Hy.out he).symm hbg
        · go_wp2
          go_roundg (n - (k + 1))
          case measure => have := Hgk.out; omega
          case rel => exact ⟨k + 1, by omega, rfl, by go_num, hbg, Setting.eqSB_step Hall.out Hx.out Hy.out he⟩
      · go_wp2
        go_ret
        exact Ret.b (Setting.eqSB_yes (by rw [hx.1, hy.1]) (fun j x y h1 h2 => Hall.out j x y (by have := (List.getElem?_eq_some_iff.1 h1).1; have := hx.1; omega) h1 h2)).symm hb
  · go_enter Try.func88, Try.ntmps88
    go_wp2
    go_ret
    exact Ret.b (Setting.eqSB_len (by rw [hx.1, hy.1]; exact hnm)).symm (Below.refl _ _)

theorem infoSetting : (Try.prog.info? 99).map (fun i => (i.zero, i.size, i.bytes)) = some (some (.agg #[.string ByteArray.empty, .int .i64 0]), 2, 24) := by kernel_rfl
set_option maxHeartbeats 1000000 in
theorem toSettingS_fit (A : Option Addr) (n c : Nat) (xs : List Setting) (w : World) (hx : SliceOf w 2 Setting.cells A n xs) (hle : n ≤ 1048576) :
    Calls Try.prog 87 #[.slice A n c] w (RetP (fun v w' => OwnsL w' w.heap.size 99 2 Setting.cells v xs ∧ ∃ B, v = .slice B n n) w) := by
  have HL := Lib.hid hx.len
  have hmk := make_n (P := Try.prog) (t := 92) (n := n) Try.underlying92 infoSetting (by omega) (by omega)
  go_enter Try.func87, Try.ntmps87
  go_wp2
  clear hmk
  go_loopg [4] n (fun gk i wr => ∃ (k : Nat) (cs : Array Value), k ≤ n ∧ gk = n - k ∧ i = .int .i64 k ∧ Below w.heap.size w wr ∧ Own wr w.heap.size 99 cs ∧ cs.size = n * 2 ∧ FilledTo 2 Setting.cells xs k cs)
  case atStart => exact ⟨0, _, Nat.zero_le _, rfl, rfl, (Below.refl _ _).alloc (Nat.le_refl _) _, Own.new _ _ _, size_madeCells _ _, FilledTo.zero⟩
  case round =>
    obtain ⟨k, cs, hk, hgk, rfl, hb, hown, hsz, hfill⟩ := hrel
    have Hgk := Lib.hid hgk
    have Hsz := Lib.hid hsz
    clear hgk hsz
    by_cases hlt : k < n
    · obtain ⟨b1, o1, x, rfl, hb1, hxk, x0, x1⟩ := Setting.at_ (hx.below hb) hlt
      have Hx := Lib.hid hxk
      clear hxk
      go_wp2_with fail
      refine (toSetting_any _ _).mono ?_
      rintro e w1 ⟨rfl, hb1'⟩
      have hown1 := hown.below' hb1'
      have hbb := hb.trans (hb1'.mono hb.size)
      have Hsize : Hid (w.heap.size < w1.heap.size) := hown1.lt
      obtain ⟨u0, hu0⟩ : ∃ u, cs[k * 2]? = some u := ⟨_, Array.getElem?_eq_getElem (by have := Hsz.out; omega)⟩
      have f0 : w1.cell? ⟨w.heap.size, k * 2, none⟩ = some u0 := (hown1.cell _).trans hu0
      obtain ⟨u1, hu1⟩ : ∃ u, cs[k * 2 + 1]? = some u := ⟨_, Array.getElem?_eq_getElem (by have := Hsz.out; omega)⟩
      have f1 : w1.cell? ⟨w.heap.size, k * 2 + 1, none⟩ = some u1 := (hown1.cell _).trans hu1
      have hfr : ∀ o, w1.frozen? ⟨w.heap.size, o, none⟩ = false := hown1.frozen
      clear x0 hu0 x1 hu1 hx hown hb hb1'
      have Hown := Lib.hid hown1
      clear hown1
      go_wp2
      go_roundg (n - (k + 1))
      case measure => have := Hgk.out; omega
      case rel =>
        refine ⟨k + 1, putAll cs (k * 2) x.cells, by omega, rfl, by go_num, ?_, ?_, ?_, ?_⟩
        · iterate 2 (refine Below.setCell ?_ (by exact Nat.le_refl _) _)
          exact hbb
        · exact ((Hown.out.put _ _).put _ _)
        · rw [putAll_size]; exact Hsz.out
        · exact hfill.step (fun _ => rfl) hlt Hsz.out Hx.out
    · have hkn : k = n := by omega
      subst hkn
      go_wp2
      go_ret
      exact RetP.mk ⟨hown.ownsL Setting.cells_len (Nat.le_refl _) HL.out Hsz.out hle hfill, _, rfl⟩ hb
theorem toSettingS_own (A : Option Addr) (n c : Nat) (xs : List Setting) (w : World) (hx : SliceOf w 2 Setting.cells A n xs) (hle : n ≤ 1048576) :
    Calls Try.prog 87 #[.slice A n c] w (RetL 99 2 Setting.cells xs w) := (toSettingS_fit A n c xs w hx hle).mono fun _ _ ⟨v, he, h, hb⟩ => ⟨v, he, h.1, hb⟩
theorem toSettingS_any (A : Option Addr) (n c : Nat) (xs : List Setting) (w : World) (hx : SliceOf w 2 Setting.cells A n xs) (hle : n ≤ 1048576) :
    Calls Try.prog 87 #[.slice A n c] w (RetP (fun v w' => ∃ B, v = .slice B n n ∧ SliceOf w' 2 Setting.cells B n xs) w) := by
  refine (toSettingS_fit A n c xs w hx hle).mono fun e w' ⟨v, he, ⟨ho, B, hB⟩, hb⟩ => ?_
  obtain ⟨A', c', h1, _, _, h2⟩ := ho.slice Setting.cells_len
  rw [hx.len] at h1 h2
  rw [h1] at hB
  injection hB with e1 e2 e3
  subst e1 e3
  exact ⟨v, he, ⟨_, h1, h2⟩, hb⟩

set_option maxHeartbeats 400000 in
theorem szSetting_any (x : Setting) (left : Int) (w : World) (hg : x.Good) (h0 : 0 ≤ left) (h1 : left ≤ 1048576) : Calls Try.prog 94 #[.agg #[.string x.name, .int .i64 x.value], .int .i64 left] w (RetP (fun v _ => ∃ r : Int, v = .int .i64 r ∧ (r < 0 ∨ 0 ≤ r ∧ r ≤ left)) w) := by
  have hs : (x.name.size : Int) ≤ 9223372036854775807 := by have := hg.2; simp [maxLen] at this; omega
  clear hg
  go_enter Try.func94, Try.ntmps94
  go_wp2
  all_goals (go_ret; refine RetP.mk ⟨_, rfl, ?_⟩ ((Below.refl _ _).alloc (Nat.le_refl _) _))
  all_goals omega

set_option maxHeartbeats 1000000 in
theorem szSettingS_any (A : Option Addr) (n c : Nat) (xs : List Setting) (left : Int) (w : World) (hx : SliceOf w 2 Setting.cells A n xs) (hg : ∀ x ∈ xs, x.Good) (h0 : 0 ≤ left) (h1 : left ≤ 1048576) :
    Calls Try.prog 86 #[.slice A n c, .int .i64 left] w (RetP (fun v _ => ∃ r : Int, v = .int .i64 r ∧ (r < 0 ∨ 0 ≤ r ∧ r ≤ left ∧ (n : Int) ≤ left)) w) := by
  have hn := hx.le
  have Hg := Lib.hid hg
  clear hg
  by_cases hneg : left - (n : Int) < 0
  · go_enter Try.func86, Try.ntmps86
    go_wp2
    go_ret
    exact RetP.mk ⟨_, rfl, by omega⟩ (Below.refl _ _)
  · go_enter Try.func86, Try.ntmps86
    go_wp2
    go_loopg [1, 5] n (fun gk l i wr => ∃ (k : Nat) (r : Int), k ≤ n ∧ gk = n - k ∧ i = .int .i64 k ∧ l = .int .i64 r ∧ 0 ≤ r ∧ r ≤ left - (n : Int) ∧ Below w.heap.size w wr)
    case atStart => exact ⟨0, _, Nat.zero_le _, rfl, rfl, rfl, by omega, by omega, Below.refl _ _⟩
    case round =>
      obtain ⟨k, r, hk, hgk, rfl, rfl, hr0, hr1, hb⟩ := hrel
      have Hgk := Lib.hid hgk
      clear hgk
      by_cases hlt : k < n
      · obtain ⟨b1, o1, x, rfl, hb1, hxk, x0, x1⟩ := Setting.at_ (hx.below hb) hlt
        have hgx := Hg.out x (List.mem_of_getElem? hxk)
        have HG := Lib.hid hgx
        clear hxk hgx
        go_wp2_with fail
        refine (szSetting_any _ _ _ HG.out hr0 (by omega)).mono ?_
        rintro e w1 ⟨v, rfl, ⟨q, rfl, hq⟩, hb1'⟩
        have hbb := hb.trans (hb1'.mono hb.size)
        clear x0 x1 hx hb hb1'
        by_cases hqn : q < 0
        · go_wp2
          go_ret
          exact RetP.mk ⟨_, rfl, by omega⟩ hbb
        · go_wp2
          go_roundg (n - (k + 1))
          case measure => have := Hgk.out; omega
          case rel => exact ⟨k + 1, q, by omega, rfl, by go_num, rfl, by omega, by omega, hbb⟩
      · go_wp2
        go_ret
        exact RetP.mk ⟨_, rfl, by omega⟩ hb

end Go.Proofs.Ytoociholchamhaa
