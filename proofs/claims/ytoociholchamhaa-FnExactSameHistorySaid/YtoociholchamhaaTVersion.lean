/- The struct type Version of the laws, which holds a slice: how it lies in memory, how an argument of it is opened, and what the laws' own helpers of it return. -/
import Derived.Test.YtoociholchamhaaBase
import Derived.Test.YtoociholchamhaaMem
import Derived.Test.YtoociholchamhaaTSetting
namespace Go.Proofs.Ytoociholchamhaa
open Go.RowKit

structure Version where
  number : Int
  parent : Int
  memo : ByteArray
  state : List Setting
structure VersionR where
  number : Int
  parent : Int
  memo : ByteArray
  stateA : Option Addr
  stateN : Nat
  stateC : Nat
  state : List Setting
def VersionR.val (x : VersionR) : Version := ⟨x.number, x.parent, x.memo, x.state⟩
def VersionR.cells (x : VersionR) : List Value := [.int .i64 x.number, .int .i64 x.parent, .string x.memo, .slice x.stateA x.stateN x.stateC]
instance : Inhabited VersionR := ⟨⟨0, 0, ByteArray.empty, none, 0, 0, []⟩⟩
theorem VersionR.cells_len (x : VersionR) : x.cells.length = 4 := rfl
theorem VersionR.cells_one (x : VersionR) : ∀ u ∈ x.cells, u.oneCell' = true := by intro u hu; simp [VersionR.cells] at hu; rcases hu with rfl | rfl | rfl | rfl <;> rfl
def VersionR.In (x : VersionR) (w : World) : Prop := SliceOf w 2 Setting.cells x.stateA x.stateN x.state ∧ x.stateN ≤ x.stateC ∧ x.stateC ≤ maxLen
theorem VersionR.In.below {x : VersionR} {w w' : World} (h : x.In w) (hb : Below w.heap.size w w') : x.In w' := ⟨h.1.below hb, h.2⟩
def Version.Good (x : Version) : Prop := I64 x.number ∧ I64 x.parent ∧ x.memo.size ≤ maxLen ∧ ∀ y ∈ x.state, y.Good
def Version.eqB (x y : Version) : Bool := decide (x.number = y.number) && decide (x.parent = y.parent) && decide (x.memo.toList = y.memo.toList) && Setting.eqSB x.state y.state
theorem Version.eqB_self (x : Version) : x.eqB x = true := by simp [Version.eqB, Setting.eqSB_self]
def Version.Sl (w : World) (A : Option Addr) (n : Nat) (xs : List Version) : Prop := ∃ ps : List VersionR, SliceOf w 4 VersionR.cells A n ps ∧ (∀ p ∈ ps, p.In w) ∧ xs = ps.map VersionR.val
section
variable {w w' : World} {A : Option Addr} {n : Nat} {xs : List Version}
theorem Version.Sl.len (h : Version.Sl w A n xs) : xs.length = n := by obtain ⟨ps, h1, _, rfl⟩ := h; rw [List.length_map]; exact h1.len
theorem Version.Sl.le (h : Version.Sl w A n xs) : n ≤ 9223372036854775807 := by obtain ⟨ps, h1, _, rfl⟩ := h; exact h1.le
theorem Version.Sl.below (h : Version.Sl w A n xs) (hb : Below w.heap.size w w') : Version.Sl w' A n xs := by
  obtain ⟨ps, h1, h2, rfl⟩ := h
  exact ⟨ps, h1.below hb, fun p hp => (h2 p hp).below hb, rfl⟩
theorem Version.Sl.at_ (h : Version.Sl w A n xs) {k : Nat} (hk : k < n) :
    ∃ b off r, A = some ⟨b, off, none⟩ ∧ b < w.heap.size ∧ xs[k]? = some (r : VersionR).val ∧ r.In w ∧ w.cell? ⟨b, off + k * 4, none⟩ = some (.int .i64 r.number) ∧ w.cell? ⟨b, off + k * 4 + 1, none⟩ = some (.int .i64 r.parent) ∧ w.cell? ⟨b, off + k * 4 + 2, none⟩ = some (.string r.memo) ∧ w.cell? ⟨b, off + k * 4 + 3, none⟩ = some (.slice r.stateA r.stateN r.stateC) := by
  obtain ⟨ps, h1, h2, rfl⟩ := h
  obtain ⟨b, off, r, hA, hb, hx, hc⟩ := h1.at_ hk
  exact ⟨b, off, r, hA, hb, by rw [List.getElem?_map, hx]; rfl, h2 r (List.mem_of_getElem? hx), hc 0 _ rfl, hc 1 _ rfl, hc 2 _ rfl, hc 3 _ rfl⟩
end
def Version.Own (w : World) (base : Nat) (v : Value) (xs : List Version) : Prop := ∃ ps : List VersionR, OwnsL w base 94 4 VersionR.cells v ps ∧ (∀ p ∈ ps, OwnsL w base 99 2 Setting.cells (.slice p.stateA p.stateN p.stateC) p.state) ∧ xs = ps.map VersionR.val
theorem VersionR.in_of {w : World} {base : Nat} {e : TypeId} {p : VersionR} (h : OwnsL w base e 2 Setting.cells (.slice p.stateA p.stateN p.stateC) p.state) : p.In w := by
  obtain ⟨A', c', h1, h2, h3, h4⟩ := h.slice Setting.cells_len
  injection h1 with e1 e2 e3
  unfold VersionR.In
  rw [e1, e2, e3]
  exact ⟨h4, h2, h3⟩
section
variable {w w' : World} {base : Nat} {v : Value} {xs : List Version}
theorem Version.Own.slice (h : Version.Own w base v xs) : ∃ A c, v = .slice A xs.length c ∧ xs.length ≤ c ∧ c ≤ maxLen ∧ Version.Sl w A xs.length xs := by
  obtain ⟨ps, h1, h2, rfl⟩ := h
  obtain ⟨A, c, h3, h4, h5, h6⟩ := h1.slice VersionR.cells_len
  rw [List.length_map]
  exact ⟨A, c, h3, h4, h5, ps, h6, fun p hp => VersionR.in_of (h2 p hp), rfl⟩
theorem Version.Own.sl {A : Option Addr} {n c : Nat} (h : Version.Own w base (.slice A n c) xs) : Version.Sl w A n xs := by
  obtain ⟨A', c', h1, _, _, h2⟩ := h.slice
  injection h1 with e1 e2 e3
  subst e1 e2 e3
  exact h2
theorem Version.Own.below' (h : Version.Own w base v xs) (hb : Below w.heap.size w w') : Version.Own w' base v xs := by
  obtain ⟨ps, h1, h2, h3⟩ := h
  exact ⟨ps, h1.below' hb, fun p hp => (h2 p hp).below' hb, h3⟩
theorem Version.Own.span {lo hi : Nat} (h : Version.Own w base v xs) (hs : Span lo hi w w') (hb : hi ≤ base) : Version.Own w' base v xs := by
  obtain ⟨ps, h1, h2, h3⟩ := h
  exact ⟨ps, h1.span hs (fun k hk => .inr (Nat.le_trans hb (h1.lt k hk).1)), fun p hp => (h2 p hp).span hs (fun k hk => .inr (Nat.le_trans hb ((h2 p hp).lt k hk).1)), h3⟩
end

section
variable {H : Type} {enc : TypeId × Value → H} {w : World} {spare : Nat → Bool} {held : Bool}
theorem VersionR.of_trod (m : Nat) (cs : List Value) (y : DataW H × List MemPlace) (h : DataW.trod enc Try.prog w 0 spare held m 91 cs = some y) : ∃ x : VersionR, x.cells = cs ∧ x.In w ∧ x.val.Good := by
  obtain ⟨ys, m', _, _, hlen, hyl, hg⟩ := DataW.trod_struct Try.underlying91 h
  have hC : Try.prog.cellsOf 91 = 4 := by kernel_rfl
  have hCx : Try.prog.cellsOf 89 = 1 := by kernel_rfl
  have hCi : Try.prog.cellsOf 2 = 1 := by kernel_rfl
  have hCs : Try.prog.cellsOf 9 = 1 := by kernel_rfl
  obtain ⟨c0, c1, c2, c3, rfl⟩ := list4 (hlen.trans hC)
  obtain ⟨y0, y1, y2, y3, rfl⟩ := list4 hyl
  have g0 : DataW.trod enc Try.prog w 0 spare held m' 2 (([c0, c1, c2, c3].drop 0).take (Try.prog.cellsOf 2)) = [y0, y1, y2, y3][0]? := hg 0 _ rfl
  rw [hCi] at g0
  have g1 : DataW.trod enc Try.prog w 0 spare held m' 2 (([c0, c1, c2, c3].drop 1).take (Try.prog.cellsOf 2)) = [y0, y1, y2, y3][1]? := hg 1 _ rfl
  rw [hCi] at g1
  have g2 : DataW.trod enc Try.prog w 0 spare held m' 9 (([c0, c1, c2, c3].drop 2).take (Try.prog.cellsOf 9)) = [y0, y1, y2, y3][2]? := hg 2 _ rfl
  rw [hCs] at g2
  have g3 : DataW.trod enc Try.prog w 0 spare held m' 89 (([c0, c1, c2, c3].drop 3).take (Try.prog.cellsOf 89)) = [y0, y1, y2, y3][3]? := hg 3 _ rfl
  rw [hCx] at g3
  obtain ⟨x0, e0, k0⟩ := trod_int64 (cs := [c0]) (y := y0) Try.underlying2 g0
  obtain ⟨x1, e1, k1⟩ := trod_int64 (cs := [c1]) (y := y1) Try.underlying2 g1
  obtain ⟨x2, e2, k2⟩ := trod_str (cs := [c2]) (y := y2) Try.underlying9 g2
  obtain ⟨A3, n3, d3, x3, e3, p3, q3, s3, k3⟩ := sliceOf_trod (cs := [c3]) (cells := Setting.cells) Try.underlying89 (show Try.prog.cellsOf 122 = 2 by kernel_rfl) (by decide) (fun m cs y h => Setting.of_trod m cs y h) g3
  injection e0 with e0 _
  injection e1 with e1 _
  injection e2 with e2 _
  injection e3 with e3 _
  exact ⟨⟨x0, x1, x2, A3, n3, d3, x3⟩, by simp [VersionR.cells, e0, e1, e2, e3], ⟨s3, p3, q3⟩, k0, k1, k2, k3⟩
end

set_option maxHeartbeats 1000000 in
theorem szVersion_any (x : VersionR) (left : Int) (w : World) (hin : x.In w) (hg : x.val.Good) (h0 : 0 ≤ left) (h1 : left ≤ 1048576) : Calls Try.prog 66 #[.agg #[.int .i64 x.number, .int .i64 x.parent, .string x.memo, .slice x.stateA x.stateN x.stateC], .int .i64 left] w (RetP (fun v _ => ∃ r : Int, v = .int .i64 r ∧ (r < 0 ∨ 0 ≤ r ∧ r ≤ left ∧ (x.stateN : Int) ≤ left)) w) := by
  have hs0 : (x.memo.size : Int) ≤ 9223372036854775807 := by have := hg; have h := this.2.2.1; simp [maxLen, VersionR.val] at h; omega
  have HG := Lib.hid hg
  have HI := Lib.hid hin
  have hle := hin.1.le
  clear hg hin
  by_cases hn0 : left - (x.memo.size : Int) < 0
  · go_enter Try.func66, Try.ntmps66
    go_wp2
    go_ret
    exact RetP.mk ⟨_, rfl, by omega⟩ ((Below.refl _ _).alloc (Nat.le_refl _) _)
  go_enter Try.func66, Try.ntmps66
  go_wp2_with fail
  refine (szSettingS_any _ _ _ _ _ _ (HI.out.1.below (by repeat (first | exact Below.refl _ _ | refine Below.alloc ?_ (by simp <;> omega) _))) (HG.out.2.2.2) (by omega) (by omega)).mono ?_
  rintro e w1 ⟨v, rfl, ⟨r, rfl, hr⟩, hb⟩
  have hbb := ((Below.refl w.heap.size w).alloc (Nat.le_refl _) (.cells #[.int .i64 x.number, .int .i64 x.parent, .string x.memo, .slice x.stateA x.stateN x.stateC] 91)).trans (hb.mono (by simp))
  by_cases hr0 : r < 0
  · go_wp2
    go_ret
    exact RetP.mk ⟨_, rfl, by omega⟩ hbb
  · go_wp2
    go_ret
    exact RetP.mk ⟨_, rfl, by omega⟩ hbb

set_option maxHeartbeats 1000000 in
theorem szVersionS_any (A : Option Addr) (n c : Nat) (ps : List VersionR) (left : Int) (w : World) (hx : SliceOf w 4 VersionR.cells A n ps) (hi : ∀ p ∈ ps, p.In w) (hg : ∀ p ∈ ps, p.val.Good) (h0 : 0 ≤ left) (h1 : left ≤ 1048576) :
    Calls Try.prog 37 #[.slice A n c, .int .i64 left] w (RetP (fun v _ => ∃ r : Int, v = .int .i64 r ∧ (r < 0 ∨ 0 ≤ r ∧ r ≤ left ∧ (n : Int) ≤ left ∧ ∀ p ∈ ps, p.stateN ≤ 1048576)) w) := by
  have hn := hx.le
  have HL := Lib.hid hx.len
  have Hg := Lib.hid hg
  have Hi := Lib.hid hi
  clear hg hi
  by_cases hneg : left - (n : Int) < 0
  · go_enter Try.func37, Try.ntmps37
    go_wp2
    go_ret
    exact RetP.mk ⟨_, rfl, .inl (by omega)⟩ (Below.refl _ _)
  · go_enter Try.func37, Try.ntmps37
    go_wp2
    go_loopg [1, 5] n (fun gk l i wr => ∃ (k : Nat) (r : Int), k ≤ n ∧ gk = n - k ∧ i = .int .i64 k ∧ l = .int .i64 r ∧ 0 ≤ r ∧ r ≤ left - (n : Int) ∧ Below w.heap.size w wr ∧ ∀ j p, j < k → ps[j]? = some p → p.stateN ≤ 1048576)
    case atStart => exact ⟨0, _, Nat.zero_le _, rfl, rfl, rfl, by omega, by omega, Below.refl _ _, fun _ _ h => absurd h (by omega)⟩
    case round =>
      obtain ⟨k, r, hk, hgk, rfl, rfl, hr0, hr1, hb, hall⟩ := hrel
      have Hgk := Lib.hid hgk
      have Hall := Lib.hid hall
      clear hgk hall
      by_cases hlt : k < n
      · obtain ⟨b1, o1, x, rfl, hb1, hxk, hcx⟩ := (hx.below hb).at_ hlt
        have HX := Lib.hid hxk
        have x0 : wr.cell? ⟨b1, o1 + k * 4, none⟩ = some (.int .i64 x.number) := hcx 0 _ rfl
        have x1 : wr.cell? ⟨b1, o1 + k * 4 + 1, none⟩ = some (.int .i64 x.parent) := hcx 1 _ rfl
        have x2 : wr.cell? ⟨b1, o1 + k * 4 + 2, none⟩ = some (.string x.memo) := hcx 2 _ rfl
        have x3 : wr.cell? ⟨b1, o1 + k * 4 + 3, none⟩ = some (.slice x.stateA x.stateN x.stateC) := hcx 3 _ rfl
        have hgx := Lib.hid (Hg.out x (List.mem_of_getElem? hxk))
        have hix := Lib.hid ((Hi.out x (List.mem_of_getElem? hxk)).below hb)
        clear hxk hcx
        go_wp2_with fail
        refine (szVersion_any x _ _ hix.out hgx.out hr0 (by omega)).mono ?_
        rintro e w1 ⟨v, rfl, ⟨q, rfl, hq⟩, hb1'⟩
        have hbb := hb.trans (hb1'.mono hb.size)
        clear x0 x1 x2 x3 hx hb hb1'
        by_cases hqn : q < 0
        · go_wp2
          go_ret
          exact RetP.mk ⟨_, rfl, .inl (by omega)⟩ hbb
        · have HA : Hid (∀ j p, j < k + 1 → ps[j]? = some p → p.stateN ≤ 1048576) := fun j p hj hp => by
            by_cases e : j = k
            · subst e; rw [HX.out] at hp; cases hp; omega
            · exact Hall.out j p (by omega) hp
          go_wp2
          go_roundg (n - (k + 1))
          case measure => have := Hgk.out; omega
          case rel => exact ⟨k + 1, q, by omega, rfl, by go_num, rfl, by omega, by omega, hbb, HA.out⟩
      · go_wp2
        go_ret
        exact RetP.mk ⟨_, rfl, .inr ⟨by omega, by omega, by omega, fun p hp => by
          obtain ⟨j, hj, rfl⟩ := List.getElem_of_mem hp
          exact Hall.out j _ (by have := HL.out; omega) (List.getElem?_eq_getElem hj)⟩⟩ hb

def VersionR.Ret (y : Version) (w : World) (e : Ending) (w' : World) : Prop := ∃ p : VersionR, e = .returned (.agg #[.int .i64 p.number, .int .i64 p.parent, .string p.memo, .slice p.stateA p.stateN p.stateC]) ∧ p.val = y ∧ OwnsL w' w.heap.size 99 2 Setting.cells (.slice p.stateA p.stateN p.stateC) p.state ∧ Below w.heap.size w w'
set_option maxHeartbeats 1000000 in
theorem toVersion_any (x : VersionR) (w : World) (hin : x.In w) (hle : x.stateN ≤ 1048576) : Calls Try.prog 68 #[.agg #[.int .i64 x.number, .int .i64 x.parent, .string x.memo, .slice x.stateA x.stateN x.stateC]] w (VersionR.Ret x.val w) := by
  have HI := Lib.hid hin
  have hlen := Lib.hid hin.1.len
  have hp : Own (((w.alloc (.cells #[.int .i64 x.number, .int .i64 x.parent, .string x.memo, .slice x.stateA x.stateN x.stateC] 91)).alloc (.cells #[.int .i64 0, .int .i64 0, .string ByteArray.empty, .slice none 0 0] 94)).alloc (.cells #[.int .i64 x.number, .int .i64 x.parent, .string x.memo, .slice none 0 0] 94)) w.heap.size 91 #[.int .i64 x.number, .int .i64 x.parent, .string x.memo, .slice x.stateA x.stateN x.stateC] := ((Own.new w 91 _).alloc _).alloc _
  have hr : Own (((w.alloc (.cells #[.int .i64 x.number, .int .i64 x.parent, .string x.memo, .slice x.stateA x.stateN x.stateC] 91)).alloc (.cells #[.int .i64 0, .int .i64 0, .string ByteArray.empty, .slice none 0 0] 94)).alloc (.cells #[.int .i64 x.number, .int .i64 x.parent, .string x.memo, .slice none 0 0] 94)) (w.heap.size + 1) 94 #[.int .i64 0, .int .i64 0, .string ByteArray.empty, .slice none 0 0] := by
    have := (Own.new (w.alloc (.cells #[.int .i64 x.number, .int .i64 x.parent, .string x.memo, .slice x.stateA x.stateN x.stateC] 91)) 94 #[.int .i64 0, .int .i64 0, .string ByteArray.empty, .slice none 0 0]).alloc (.cells #[.int .i64 x.number, .int .i64 x.parent, .string x.memo, .slice none 0 0] 94)
    simpa using this
  have ho : Own (((w.alloc (.cells #[.int .i64 x.number, .int .i64 x.parent, .string x.memo, .slice x.stateA x.stateN x.stateC] 91)).alloc (.cells #[.int .i64 0, .int .i64 0, .string ByteArray.empty, .slice none 0 0] 94)).alloc (.cells #[.int .i64 x.number, .int .i64 x.parent, .string x.memo, .slice none 0 0] 94)) (w.heap.size + 2) 94 #[.int .i64 x.number, .int .i64 x.parent, .string x.memo, .slice none 0 0] := by
    have := Own.new ((w.alloc (.cells #[.int .i64 x.number, .int .i64 x.parent, .string x.memo, .slice x.stateA x.stateN x.stateC] 91)).alloc (.cells #[.int .i64 0, .int .i64 0, .string ByteArray.empty, .slice none 0 0] 94)) 94 #[.int .i64 x.number, .int .i64 x.parent, .string x.memo, .slice none 0 0]
    simpa using this
  have hB : Below w.heap.size w (((w.alloc (.cells #[.int .i64 x.number, .int .i64 x.parent, .string x.memo, .slice x.stateA x.stateN x.stateC] 91)).alloc (.cells #[.int .i64 0, .int .i64 0, .string ByteArray.empty, .slice none 0 0] 94)).alloc (.cells #[.int .i64 x.number, .int .i64 x.parent, .string x.memo, .slice none 0 0] 94)) := (((Below.refl _ _).alloc (Nat.le_refl _) _).alloc (by simp) _).alloc (by simp; omega) _
  clear hin
  go_enter Try.func68, Try.ntmps68
  go_wp2_with fail
  refine (toSettingS_own _ _ _ _ _ (HI.out.1.below hB) hle).mono ?_
  rintro e w1 ⟨v, rfl, hv, hb⟩
  obtain ⟨A', c', rfl, _, _, _⟩ := hv.slice Setting.cells_len
  obtain ⟨n', hn'⟩ : ∃ n', x.state.length = n' := ⟨_, rfl⟩
  rw [hn'] at hv ⊢
  have HN := Lib.hid hn'
  have HV := Lib.hid hv
  have hp1 := hp.below' hb
  have hr1 := hr.below' hb
  have ho1 := ho.below' hb
  have hBb := hB.trans (hb.mono hB.size)
  have c0 : w1.cell? ⟨w.heap.size, 0, none⟩ = some (.int .i64 x.number) := hp1.cell 0
  have c1 : w1.cell? ⟨w.heap.size, 1, none⟩ = some (.int .i64 x.parent) := hp1.cell 1
  have c2 : w1.cell? ⟨w.heap.size, 2, none⟩ = some (.string x.memo) := hp1.cell 2
  have c3 : w1.cell? ⟨w.heap.size, 3, none⟩ = some (.slice x.stateA x.stateN x.stateC) := hp1.cell 3
  have d0 : w1.cell? ⟨w.heap.size + 1, 0, none⟩ = some (.int .i64 0) := hr1.cell 0
  have d1 : w1.cell? ⟨w.heap.size + 1, 1, none⟩ = some (.int .i64 0) := hr1.cell 1
  have d2 : w1.cell? ⟨w.heap.size + 1, 2, none⟩ = some (.string ByteArray.empty) := hr1.cell 2
  have d3 : w1.cell? ⟨w.heap.size + 1, 3, none⟩ = some (.slice none 0 0) := hr1.cell 3
  have p0 : w1.cell? ⟨w.heap.size + 2, 0, none⟩ = some (.int .i64 x.number) := ho1.cell 0
  have p1 : w1.cell? ⟨w.heap.size + 2, 1, none⟩ = some (.int .i64 x.parent) := ho1.cell 1
  have p2 : w1.cell? ⟨w.heap.size + 2, 2, none⟩ = some (.string x.memo) := ho1.cell 2
  have p3 : w1.cell? ⟨w.heap.size + 2, 3, none⟩ = some (.slice none 0 0) := ho1.cell 3
  have f1 : ∀ o, w1.frozen? ⟨w.heap.size + 1, o, none⟩ = false := hr1.frozen
  have f2 : ∀ o, w1.frozen? ⟨w.heap.size + 2, o, none⟩ = false := ho1.frozen
  have HB := Lib.hid hBb
  have hlt1 : w.heap.size + 2 < w1.heap.size := ho1.lt
  have Hb := Lib.hid hb
  clear hv hb hp hr ho hp1 hr1 ho1 hBb hB hn'
  go_wp2
  refine bodyPost_ret (v := .agg #[.int .i64 x.number, .int .i64 x.parent, .string x.memo, .slice A' n' c']) (by simp [results, Try.results68, go_sem, d0, d1, d2, d3]) rfl ⟨⟨x.number, x.parent, x.memo, A', n', c', x.state⟩, rfl, rfl, ?_, ?_⟩
  · refine ((HV.out.rebase (by simp <;> omega)).span (lo := w.heap.size + 1) (hi := w.heap.size + 3) ?_ (fun k hk => .inr (by have := (HV.out.lt k hk).1; simp at this; omega)))
    repeat (first | (with_reducible exact Span.refl _ _ _) | (with_reducible refine Span.setCell ?_ (by simp <;> omega) (by simp <;> omega) _))
  · repeat (first | (with_reducible exact HB.out) | (with_reducible refine Below.setCell ?_ (by simp <;> omega) _))

theorem infoVersion : (Try.prog.info? 94).map (fun i => (i.zero, i.size, i.bytes)) = some (some (.agg #[.int .i64 0, .int .i64 0, .string ByteArray.empty, .slice none 0 0]), 4, 56) := by kernel_rfl
set_option maxHeartbeats 1000000 in
theorem toVersionS_any (A : Option Addr) (n c : Nat) (xs : List Version) (w : World) (hx : Version.Sl w A n xs) (hle : n ≤ 1048576) (hin : ∀ x ∈ xs, x.state.length ≤ 1048576) :
    Calls Try.prog 39 #[.slice A n c] w (RetP (fun v w' => Version.Own w' w.heap.size v xs) w) := by
  have hmk := make_n (P := Try.prog) (t := 55) (n := n) Try.underlying55 infoVersion (by omega) (by omega)
  have HLx := Lib.hid hx.len
  have Hin := Lib.hid hin
  clear hin
  go_enter Try.func39, Try.ntmps39
  go_wp2
  clear hmk
  go_loopg [4] n (fun gk i wr => ∃ (k : Nat) (cs : Array Value) (ps : List VersionR), k ≤ n ∧ gk = n - k ∧ i = .int .i64 k ∧ Below w.heap.size w wr ∧ Own wr w.heap.size 94 cs ∧ cs.size = n * 4 ∧ FilledTo 4 VersionR.cells ps k cs ∧ ps.map VersionR.val = xs.take k ∧ ∀ p ∈ ps, OwnsL wr (w.heap.size + 1) 99 2 Setting.cells (.slice p.stateA p.stateN p.stateC) p.state)
  case atStart => exact ⟨0, _, [], Nat.zero_le _, rfl, rfl, (Below.refl _ _).alloc (Nat.le_refl _) _, Own.new _ _ _, size_madeCells _ _, FilledTo.zero, rfl, fun p hp => absurd hp (by simp)⟩
  case round =>
    obtain ⟨k, cs, ps, hk, hgk, rfl, hb, hown, hsz, hfill, hmap, hins⟩ := hrel
    have Hgk := Lib.hid hgk
    have Hsz := Lib.hid hsz
    have Hmap := Lib.hid hmap
    have Hins := Lib.hid hins
    have Hfill := Lib.hid hfill
    clear hgk hsz hmap hins hfill
    by_cases hlt : k < n
    · obtain ⟨b1, o1, x, rfl, hb1, hxk, hix, x0, x1, x2, x3⟩ := (hx.below hb).at_ hlt
      have Hx := Lib.hid hxk
      have Hix := Lib.hid hix
      have hxl : x.stateN ≤ 1048576 := by rw [← hix.1.len]; exact Hin.out _ (List.mem_of_getElem? hxk)
      clear hxk hix
      go_wp2_with fail
      refine (toVersion_any x _ Hix.out hxl).mono ?_
      rintro e w1 ⟨p, rfl, hpv, hpo, hb1'⟩
      have hown1 := hown.below' hb1'
      have hbb := hb.trans (hb1'.mono hb.size)
      have Hsize : Hid (w.heap.size < w1.heap.size) := hown1.lt
      have Hpv := Lib.hid hpv
      have Hpo := Lib.hid hpo
      have Hi1 : Hid (∀ p ∈ ps, OwnsL w1 (w.heap.size + 1) 99 2 Setting.cells (.slice p.stateA p.stateN p.stateC) p.state) := fun p hp => (Hins.out p hp).below' hb1'
      have hltr : w.heap.size < wr.heap.size := hown.lt
      obtain ⟨u0, hu0⟩ : ∃ u, cs[k * 4]? = some u := ⟨_, Array.getElem?_eq_getElem (by have := Hsz.out; have := Nat.mul_le_mul_right 4 hlt; omega)⟩
      have f0 : w1.cell? ⟨w.heap.size, k * 4, none⟩ = some u0 := (hown1.cell _).trans hu0
      obtain ⟨u1, hu1⟩ : ∃ u, cs[k * 4 + 1]? = some u := ⟨_, Array.getElem?_eq_getElem (by have := Hsz.out; have := Nat.mul_le_mul_right 4 hlt; omega)⟩
      have f1 : w1.cell? ⟨w.heap.size, k * 4 + 1, none⟩ = some u1 := (hown1.cell _).trans hu1
      obtain ⟨u2, hu2⟩ : ∃ u, cs[k * 4 + 2]? = some u := ⟨_, Array.getElem?_eq_getElem (by have := Hsz.out; have := Nat.mul_le_mul_right 4 hlt; omega)⟩
      have f2 : w1.cell? ⟨w.heap.size, k * 4 + 2, none⟩ = some u2 := (hown1.cell _).trans hu2
      obtain ⟨u3, hu3⟩ : ∃ u, cs[k * 4 + 3]? = some u := ⟨_, Array.getElem?_eq_getElem (by have := Hsz.out; have := Nat.mul_le_mul_right 4 hlt; omega)⟩
      have f3 : w1.cell? ⟨w.heap.size, k * 4 + 3, none⟩ = some u3 := (hown1.cell _).trans hu3
      have hfr : ∀ o, w1.frozen? ⟨w.heap.size, o, none⟩ = false := hown1.frozen
      have Hown := Lib.hid hown1
      have Hbb := Lib.hid hbb
      have hpsl : ps.length = k := by have := congrArg List.length Hmap.out; rw [List.length_map, List.length_take, HLx.out] at this; omega
      have Hpsl := Lib.hid hpsl
      clear hu0 hu1 hu2 hu3 x0 x1 x2 x3 hx hown hb hb1' hown1 hbb hpv hpo hpsl
      go_wp2
      go_roundg (n - (k + 1))
      case measure => have := Hgk.out; omega
      case rel =>
        refine ⟨k + 1, putAll cs (k * 4) p.cells, ps ++ [p], by omega, rfl, by go_num, ?_, ?_, ?_, ?_, ?_, ?_⟩
        · iterate 4 (refine Below.setCell ?_ (by exact Nat.le_refl _) _)
          exact Hbb.out
        · exact ((((Hown.out.put _ _).put _ _).put _ _).put _ _)
        · rw [putAll_size]; exact Hsz.out
        · exact FilledTo.step (n := n) (fun _ => rfl) (fun i y j v hi hy hv => Hfill.out i y j v hi (by rwa [List.getElem?_append_left (by rw [Hpsl.out]; exact hi)] at hy) hv) hlt Hsz.out (by rw [List.getElem?_append_right (by rw [Hpsl.out]; omega), Hpsl.out]; simp)
        · rw [List.map_append, Hmap.out, List.take_succ_eq_append_getElem (List.getElem?_eq_some_iff.1 Hx.out).1, (List.getElem?_eq_some_iff.1 Hx.out).2]
          simp [Hpv.out]
        · intro p' hp'
          rcases List.mem_append.1 hp' with h | h
          · refine (Hi1.out p' h).span (lo := w.heap.size) (hi := w.heap.size + 1) ?_ (fun k hk => .inr ((Hi1.out p' h).lt k hk).1)
            iterate 4 (refine Span.setCell ?_ (by exact Nat.le_refl _) (by exact Nat.lt_succ_self _) _)
            exact Span.refl _ _ _
          · simp at h
            subst h
            refine (Hpo.out.rebase hltr).span (lo := w.heap.size) (hi := w.heap.size + 1) ?_ (fun k hk => .inr (Nat.lt_of_lt_of_le hltr (Hpo.out.lt k hk).1))
            iterate 4 (refine Span.setCell ?_ (by exact Nat.le_refl _) (by exact Nat.lt_succ_self _) _)
            exact Span.refl _ _ _
    · have hkn : k = n := by omega
      subst hkn
      have HE : Hid (Version.Own wr w.heap.size (.slice (some ⟨w.heap.size, 0, none⟩) k k) xs) := by
        have hpsl : ps.length = k := by have := congrArg List.length Hmap.out; rw [List.length_map, List.length_take, HLx.out] at this; omega
        refine ⟨ps, hown.ownsL VersionR.cells_len (Nat.le_refl _) hpsl Hsz.out hle Hfill.out, fun p hp => (Hins.out p hp).rebase (Nat.le_succ _), ?_⟩
        rw [Hmap.out, List.take_of_length_le (by rw [HLx.out]; exact Nat.le_refl _)]
      clear hown
      go_wp2
      go_ret
      exact RetP.mk HE.out hb

set_option maxHeartbeats 1000000 in
theorem eqVersion_any (x y : VersionR) (w : World) (hx : x.In w) (hy : y.In w) : Calls Try.prog 72 #[.agg #[.int .i64 x.number, .int .i64 x.parent, .string x.memo, .slice x.stateA x.stateN x.stateC], .agg #[.int .i64 y.number, .int .i64 y.parent, .string y.memo, .slice y.stateA y.stateN y.stateC]] w (Ret (.bool (Version.eqB x.val y.val)) w) := by
  have HX := Lib.hid hx
  have HY := Lib.hid hy
  clear hx hy
  have hp : Own ((w.alloc (.cells #[.int .i64 x.number, .int .i64 x.parent, .string x.memo, .slice x.stateA x.stateN x.stateC] 94)).alloc (.cells #[.int .i64 y.number, .int .i64 y.parent, .string y.memo, .slice y.stateA y.stateN y.stateC] 94)) w.heap.size 94 #[.int .i64 x.number, .int .i64 x.parent, .string x.memo, .slice x.stateA x.stateN x.stateC] := (Own.new w 94 _).alloc _
  have hr : Own ((w.alloc (.cells #[.int .i64 x.number, .int .i64 x.parent, .string x.memo, .slice x.stateA x.stateN x.stateC] 94)).alloc (.cells #[.int .i64 y.number, .int .i64 y.parent, .string y.memo, .slice y.stateA y.stateN y.stateC] 94)) (w.heap.size + 1) 94 #[.int .i64 y.number, .int .i64 y.parent, .string y.memo, .slice y.stateA y.stateN y.stateC] := by
    have := Own.new (w.alloc (.cells #[.int .i64 x.number, .int .i64 x.parent, .string x.memo, .slice x.stateA x.stateN x.stateC] 94)) 94 #[.int .i64 y.number, .int .i64 y.parent, .string y.memo, .slice y.stateA y.stateN y.stateC]
    simpa using this
  have hB : Below w.heap.size w ((w.alloc (.cells #[.int .i64 x.number, .int .i64 x.parent, .string x.memo, .slice x.stateA x.stateN x.stateC] 94)).alloc (.cells #[.int .i64 y.number, .int .i64 y.parent, .string y.memo, .slice y.stateA y.stateN y.stateC] 94)) := ((Below.refl _ _).alloc (Nat.le_refl _) _).alloc (by simp) _
  obtain ⟨ib, hib⟩ : ∃ ib, Setting.eqSB x.state y.state = ib := ⟨_, rfl⟩
  have HIB := Lib.hid hib
  clear hib
  go_enter Try.func72, Try.ntmps72
  go_wp2_with (refine (eqSettingS_any _ _ _ _ _ _ _ _ _ (HX.out.1.below hB) (HY.out.1.below hB)).mono ?_; rintro e w1 ⟨rfl, hb1⟩; rw [HIB.out])
  all_goals (go_ret; refine Ret.b ?_ (by first | exact hB | exact hB.trans ((by assumption : Below _ ((w.alloc (.cells #[.int .i64 x.number, .int .i64 x.parent, .string x.memo, .slice x.stateA x.stateN x.stateC] 94)).alloc (.cells #[.int .i64 y.number, .int .i64 y.parent, .string y.memo, .slice y.stateA y.stateN y.stateC] 94)) _).mono hB.size)))
  all_goals (simp_all [Version.eqB, VersionR.val, HIB.out])

def Version.eqSB (xs ys : List Version) : Bool := xs.length == ys.length && (xs.zip ys).all fun p => p.1.eqB p.2
theorem Version.eqSB_self (xs : List Version) : Version.eqSB xs xs = true := by
  unfold Version.eqSB
  rw [Bool.and_eq_true]
  refine ⟨by simp, List.all_eq_true.2 fun p hp => ?_⟩
  obtain ⟨k, hk⟩ := List.mem_iff_getElem?.1 hp
  rw [List.getElem?_zip_eq_some] at hk
  have e : p.1 = p.2 := by have := hk.1.symm.trans hk.2; injection this
  rw [e]; exact Version.eqB_self _
theorem Version.eqSB_no {xs ys : List Version} {k : Nat} {x y : Version} (hx : xs[k]? = some x) (hy : ys[k]? = some y) (h : x.eqB y = false) : Version.eqSB xs ys = false := by
  unfold Version.eqSB
  rw [Bool.and_eq_false_iff]; right
  rw [List.all_eq_false]
  exact ⟨(x, y), List.mem_iff_getElem?.2 ⟨k, by rw [List.getElem?_zip_eq_some]; exact ⟨hx, hy⟩⟩, by simp [h]⟩
theorem Version.eqSB_len {xs ys : List Version} (h : xs.length ≠ ys.length) : Version.eqSB xs ys = false := by simp [Version.eqSB, h]
theorem Version.eqSB_yes {xs ys : List Version} (h : xs.length = ys.length) (ha : ∀ (j : Nat) (x y : Version), xs[j]? = some x → ys[j]? = some y → x.eqB y = true) : Version.eqSB xs ys = true := by
  unfold Version.eqSB
  rw [Bool.and_eq_true]
  refine ⟨by simp [h], List.all_eq_true.2 fun p hp => ?_⟩
  obtain ⟨k, hk⟩ := List.mem_iff_getElem?.1 hp
  rw [List.getElem?_zip_eq_some] at hk
  exact ha k _ _ hk.1 hk.2
theorem Version.eqSB_step {xs ys : List Version} {k : Nat} {x y : Version} (h : ∀ (j : Nat) (x y : Version), j < k → xs[j]? = some x → ys[j]? = some y → x.eqB y = true) (hx : xs[k]? = some x) (hy : ys[k]? = some y) (he : x.eqB y = true) :
    ∀ (j : Nat) (x y : Version), j < k + 1 → xs[j]? = some x → ys[j]? = some y → x.eqB y = true := fun j x' y' hj h1 h2 => by
  by_cases e : j = k
  · subst e; rw [hx] at h1; rw [hy] at h2; cases h1; cases h2; exact he
  · exact h j x' y' (by omega) h1 h2

set_option maxHeartbeats 1000000 in
theorem eqVersionS_any (A B : Option Addr) (n m c1 c2 : Nat) (xs ys : List Version) (w : World) (hx : Version.Sl w A n xs) (hy : Version.Sl w B m ys) :
    Calls Try.prog 41 #[.slice A n c1, .slice B m c2] w (Ret (.bool (Version.eqSB xs ys)) w) := by
  have hn := hx.le
  have hm := hy.le
  by_cases hnm : n = m
  · subst hnm
    go_enter Try.func41, Try.ntmps41
    go_wp2
    go_loopg [5] n (fun gk i wr => ∃ k : Nat, k ≤ n ∧ gk = n - k ∧ i = .int .i64 k ∧ Below w.heap.size w wr ∧ ∀ (j : Nat) (x y : Version), j < k → xs[j]? = some x → ys[j]? = some y → x.eqB y = true)
    case atStart => exact ⟨0, Nat.zero_le _, rfl, rfl, Below.refl _ _, fun j x y h => absurd h (by omega)⟩
    case round =>
      obtain ⟨k, hk, hgk, rfl, hb, hall⟩ := hrel
      have Hall := Lib.hid hall
      have Hgk := Lib.hid hgk
      clear hall hgk
      by_cases hlt : k < n
      · obtain ⟨b1, o1, x, rfl, hb1, hxk, hix, x0, x1, x2, x3⟩ := (hx.below hb).at_ hlt
        obtain ⟨b2, o2, y, rfl, hb2, hyk, hiy, y0, y1, y2, y3⟩ := (hy.below hb).at_ hlt
        have Hx := Lib.hid hxk
        have Hy := Lib.hid hyk
        clear hxk hyk
        have hsub := fun (g : Sub wr) b o (h : b < wr.heap.size) => g.cell b o h
        go_wp2_with fail
        refine wp_region_sub (by kernel_rfl) (by kernel_rfl) ?_
        repeat (go_big_quiet_step (exact Calls.sub_of (eqVersion_any _ _ _ (hix.below (Sub.below _)) (hiy.below (Sub.below _)))))
        refine wpQuiet_nil ?_
        intro wg hg
        have hbg := hb.trans (hg.mono hb.size)
        clear hsub x0 y0 x1 y1 x2 y2 x3 y3 hix hiy
        cases he : Version.eqB x.val y.val
        · go_wp2
          go_ret
          exact Ret.b (Version.eqSB_no Hx.out Hy.out he).symm hbg
        · go_wp2
          go_roundg (n - (k + 1))
          case measure => have := Hgk.out; omega
          case rel => exact ⟨k + 1, by omega, rfl, by go_num, hbg, Version.eqSB_step Hall.out Hx.out Hy.out he⟩
      · go_wp2
        go_ret
        exact Ret.b (Version.eqSB_yes (by rw [hx.len, hy.len]) (fun j x y h1 h2 => Hall.out j x y (by have := (List.getElem?_eq_some_iff.1 h1).1; have := hx.len; omega) h1 h2)).symm hb
  · go_enter Try.func41, Try.ntmps41
    go_wp2
    go_ret
    exact Ret.b (Version.eqSB_len (by rw [hx.len, hy.len]; exact hnm)).symm (Below.refl _ _)

end Go.Proofs.Ytoociholchamhaa
