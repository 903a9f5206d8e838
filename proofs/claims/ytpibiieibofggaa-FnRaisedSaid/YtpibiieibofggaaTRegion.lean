/- The struct type Region of the laws, which holds a slice: how it lies in memory, how an argument of it is opened, and what the laws' own helpers of it return. -/
import Derived.Test.YtpibiieibofggaaBase
import Derived.Test.YtpibiieibofggaaMem
import Derived.Test.YtpibiieibofggaaTStr
namespace Go.Proofs.Ytpibiieibofggaa
open Go.RowKit

structure Region where
  id : ByteArray
  level : Int
  near : List ByteArray
structure RegionR where
  id : ByteArray
  level : Int
  nearA : Option Addr
  nearN : Nat
  nearC : Nat
  near : List ByteArray
def RegionR.val (x : RegionR) : Region := ⟨x.id, x.level, x.near⟩
def RegionR.cells (x : RegionR) : List Value := [.string x.id, .int .i64 x.level, .slice x.nearA x.nearN x.nearC]
instance : Inhabited RegionR := ⟨⟨ByteArray.empty, 0, none, 0, 0, []⟩⟩
theorem RegionR.cells_len (x : RegionR) : x.cells.length = 3 := rfl
theorem RegionR.cells_one (x : RegionR) : ∀ u ∈ x.cells, u.oneCell' = true := by intro u hu; simp [RegionR.cells] at hu; rcases hu with rfl | rfl | rfl <;> rfl
def RegionR.In (x : RegionR) (w : World) : Prop := SliceOf w 1 strcells x.nearA x.nearN x.near ∧ x.nearN ≤ x.nearC ∧ x.nearC ≤ maxLen
theorem RegionR.In.below {x : RegionR} {w w' : World} (h : x.In w) (hb : Below w.heap.size w w') : x.In w' := ⟨h.1.below hb, h.2⟩
def Region.Good (x : Region) : Prop := I64 x.level ∧ x.id.size ≤ maxLen ∧ ∀ y ∈ x.near, y.size ≤ maxLen
def Region.eqB (x y : Region) : Bool := decide (x.id.toList = y.id.toList) && decide (x.level = y.level) && Str.eqSB x.near y.near
theorem Region.eqB_self (x : Region) : x.eqB x = true := by simp [Region.eqB, Str.eqSB_self]
def Region.Sl (w : World) (A : Option Addr) (n : Nat) (xs : List Region) : Prop := ∃ ps : List RegionR, SliceOf w 3 RegionR.cells A n ps ∧ (∀ p ∈ ps, p.In w) ∧ xs = ps.map RegionR.val
section
variable {w w' : World} {A : Option Addr} {n : Nat} {xs : List Region}
theorem Region.Sl.len (h : Region.Sl w A n xs) : xs.length = n := by obtain ⟨ps, h1, _, rfl⟩ := h; rw [List.length_map]; exact h1.len
theorem Region.Sl.le (h : Region.Sl w A n xs) : n ≤ 9223372036854775807 := by obtain ⟨ps, h1, _, rfl⟩ := h; exact h1.le
theorem Region.Sl.below (h : Region.Sl w A n xs) (hb : Below w.heap.size w w') : Region.Sl w' A n xs := by
  obtain ⟨ps, h1, h2, rfl⟩ := h
  exact ⟨ps, h1.below hb, fun p hp => (h2 p hp).below hb, rfl⟩
theorem Region.Sl.at_ (h : Region.Sl w A n xs) {k : Nat} (hk : k < n) :
    ∃ b off r, A = some ⟨b, off, none⟩ ∧ b < w.heap.size ∧ xs[k]? = some (r : RegionR).val ∧ r.In w ∧ w.cell? ⟨b, off + k * 3, none⟩ = some (.string r.id) ∧ w.cell? ⟨b, off + k * 3 + 1, none⟩ = some (.int .i64 r.level) ∧ w.cell? ⟨b, off + k * 3 + 2, none⟩ = some (.slice r.nearA r.nearN r.nearC) := by
  obtain ⟨ps, h1, h2, rfl⟩ := h
  obtain ⟨b, off, r, hA, hb, hx, hc⟩ := h1.at_ hk
  exact ⟨b, off, r, hA, hb, by rw [List.getElem?_map, hx]; rfl, h2 r (List.mem_of_getElem? hx), hc 0 _ rfl, hc 1 _ rfl, hc 2 _ rfl⟩
end
def RegionR.own (p : RegionR) : Option Nat := (Value.slice p.nearA p.nearN p.nearC).ownBlock
/-- The inner slices lie in blocks of their own, apart from the outer one's. -/
def RegionR.Apart (v : Value) (ps : List RegionR) : Prop := (∀ p ∈ ps, ∀ b, p.own = some b → v.ownBlock ≠ some b) ∧ ps.Pairwise fun p q => ∀ b, p.own = some b → q.own ≠ some b
def Region.Own (w : World) (base : Nat) (v : Value) (xs : List Region) : Prop := ∃ ps : List RegionR, OwnsL w base 34 3 RegionR.cells v ps ∧ (∀ p ∈ ps, OwnsL w base 9 1 strcells (.slice p.nearA p.nearN p.nearC) p.near) ∧ RegionR.Apart v ps ∧ xs = ps.map RegionR.val
theorem RegionR.in_of {w : World} {base : Nat} {e : TypeId} {p : RegionR} (h : OwnsL w base e 1 strcells (.slice p.nearA p.nearN p.nearC) p.near) : p.In w := by
  obtain ⟨A', c', h1, h2, h3, h4⟩ := h.slice strcells_len
  injection h1 with e1 e2 e3
  unfold RegionR.In
  rw [e1, e2, e3]
  exact ⟨h4, h2, h3⟩
section
variable {w w' : World} {base : Nat} {v : Value} {xs : List Region}
theorem Region.Own.slice (h : Region.Own w base v xs) : ∃ A c, v = .slice A xs.length c ∧ xs.length ≤ c ∧ c ≤ maxLen ∧ Region.Sl w A xs.length xs := by
  obtain ⟨ps, h1, h2, _, rfl⟩ := h
  obtain ⟨A, c, h3, h4, h5, h6⟩ := h1.slice RegionR.cells_len
  rw [List.length_map]
  exact ⟨A, c, h3, h4, h5, ps, h6, fun p hp => RegionR.in_of (h2 p hp), rfl⟩
theorem Region.Own.sl {A : Option Addr} {n c : Nat} (h : Region.Own w base (.slice A n c) xs) : Region.Sl w A n xs := by
  obtain ⟨A', c', h1, _, _, h2⟩ := h.slice
  injection h1 with e1 e2 e3
  subst e1 e2 e3
  exact h2
theorem Region.Own.below' (h : Region.Own w base v xs) (hb : Below w.heap.size w w') : Region.Own w' base v xs := by
  obtain ⟨ps, h1, h2, h3⟩ := h
  exact ⟨ps, h1.below' hb, fun p hp => (h2 p hp).below' hb, h3⟩
theorem Region.Own.span {lo hi : Nat} (h : Region.Own w base v xs) (hs : Span lo hi w w') (hb : hi ≤ base) : Region.Own w' base v xs := by
  obtain ⟨ps, h1, h2, h3⟩ := h
  exact ⟨ps, h1.span hs (fun k hk => .inr (Nat.le_trans hb (h1.lt k hk).1)), fun p hp => (h2 p hp).span hs (fun k hk => .inr (Nat.le_trans hb ((h2 p hp).lt k hk).1)), h3⟩
end

section
variable {H : Type} {enc : TypeId × Value → H} {w : World} {spare : Nat → Bool} {held : Bool}
theorem RegionR.of_trod (m : Nat) (cs : List Value) (y : DataW H × List MemPlace) (h : DataW.trod enc Try.prog w 0 spare held m 69 cs = some y) : ∃ x : RegionR, x.cells = cs ∧ x.In w ∧ x.val.Good := by
  obtain ⟨ys, m', _, _, hlen, hyl, hg⟩ := DataW.trod_struct Try.underlying69 h
  have hC : Try.prog.cellsOf 69 = 3 := by kernel_rfl
  have hCx : Try.prog.cellsOf 32 = 1 := by kernel_rfl
  have hCi : Try.prog.cellsOf 2 = 1 := by kernel_rfl
  have hCs : Try.prog.cellsOf 9 = 1 := by kernel_rfl
  obtain ⟨c0, c1, c2, rfl⟩ := list3 (hlen.trans hC)
  obtain ⟨y0, y1, y2, rfl⟩ := list3 hyl
  have g0 : DataW.trod enc Try.prog w 0 spare held m' 9 (([c0, c1, c2].drop 0).take (Try.prog.cellsOf 9)) = [y0, y1, y2][0]? := hg 0 _ rfl
  rw [hCs] at g0
  have g1 : DataW.trod enc Try.prog w 0 spare held m' 2 (([c0, c1, c2].drop 1).take (Try.prog.cellsOf 2)) = [y0, y1, y2][1]? := hg 1 _ rfl
  rw [hCi] at g1
  have g2 : DataW.trod enc Try.prog w 0 spare held m' 32 (([c0, c1, c2].drop 2).take (Try.prog.cellsOf 32)) = [y0, y1, y2][2]? := hg 2 _ rfl
  rw [hCx] at g2
  obtain ⟨x0, e0, k0⟩ := trod_str (cs := [c0]) (y := y0) Try.underlying9 g0
  obtain ⟨x1, e1, k1⟩ := trod_int64 (cs := [c1]) (y := y1) Try.underlying2 g1
  obtain ⟨A2, n2, d2, x2, e2, p2, q2, s2, k2⟩ := sliceOf_trod (cs := [c2]) (cells := strcells) Try.underlying32 (show Try.prog.cellsOf 9 = 1 by kernel_rfl) (by decide) (fun _ _ _ h => trod_str Try.underlying9 h) g2
  injection e0 with e0 _
  injection e1 with e1 _
  injection e2 with e2 _
  exact ⟨⟨x0, x1, A2, n2, d2, x2⟩, by simp [RegionR.cells, e0, e1, e2], ⟨s2, p2, q2⟩, k1, k0, k2⟩
end

set_option maxHeartbeats 1000000 in
theorem szRegion_any (x : RegionR) (left : Int) (w : World) (hin : x.In w) (hg : x.val.Good) (h0 : 0 ≤ left) (h1 : left ≤ 1048576) : Calls Try.prog 41 #[.agg #[.string x.id, .int .i64 x.level, .slice x.nearA x.nearN x.nearC], .int .i64 left] w (RetP (fun v _ => ∃ r : Int, v = .int .i64 r ∧ (r < 0 ∨ 0 ≤ r ∧ r ≤ left ∧ (x.nearN : Int) ≤ left)) w) := by
  have hs0 : (x.id.size : Int) ≤ 9223372036854775807 := by have := hg; have h := this.2.1; simp [maxLen, RegionR.val] at h; omega
  have HG := Lib.hid hg
  have HI := Lib.hid hin
  have hle := hin.1.le
  clear hg hin
  by_cases hn0 : left - (x.id.size : Int) < 0
  · go_enter Try.func41, Try.ntmps41
    go_wp2
    go_ret
    exact RetP.mk ⟨_, rfl, by omega⟩ ((Below.refl _ _).alloc (Nat.le_refl _) _)
  go_enter Try.func41, Try.ntmps41
  go_wp2_with fail
  refine (szStringS_any _ _ _ _ _ _ (HI.out.1.below (by repeat (first | exact Below.refl _ _ | refine Below.alloc ?_ (by simp <;> omega) _))) (HG.out.2.2) (by omega) (by omega)).mono ?_
  rintro e w1 ⟨v, rfl, ⟨r, rfl, hr⟩, hb⟩
  have hbb := ((Below.refl w.heap.size w).alloc (Nat.le_refl _) (.cells #[.string x.id, .int .i64 x.level, .slice x.nearA x.nearN x.nearC] 69)).trans (hb.mono (by simp))
  by_cases hr0 : r < 0
  · go_wp2
    go_ret
    exact RetP.mk ⟨_, rfl, by omega⟩ hbb
  · go_wp2
    go_ret
    exact RetP.mk ⟨_, rfl, by omega⟩ hbb

set_option maxHeartbeats 1000000 in
theorem szRegionS_any (A : Option Addr) (n c : Nat) (ps : List RegionR) (left : Int) (w : World) (hx : SliceOf w 3 RegionR.cells A n ps) (hi : ∀ p ∈ ps, p.In w) (hg : ∀ p ∈ ps, p.val.Good) (h0 : 0 ≤ left) (h1 : left ≤ 1048576) :
    Calls Try.prog 15 #[.slice A n c, .int .i64 left] w (RetP (fun v _ => ∃ r : Int, v = .int .i64 r ∧ (r < 0 ∨ 0 ≤ r ∧ r ≤ left ∧ (n : Int) ≤ left ∧ ∀ p ∈ ps, p.nearN ≤ 1048576)) w) := by
  have hn := hx.le
  have HL := Lib.hid hx.len
  have Hg := Lib.hid hg
  have Hi := Lib.hid hi
  clear hg hi
  by_cases hneg : left - (n : Int) < 0
  · go_enter Try.func15, Try.ntmps15
    go_wp2
    go_ret
    exact RetP.mk ⟨_, rfl, .inl (by omega)⟩ (Below.refl _ _)
  · go_enter Try.func15, Try.ntmps15
    go_wp2
    go_loopg [1, 5] n (fun gk l i wr => ∃ (k : Nat) (r : Int), k ≤ n ∧ gk = n - k ∧ i = .int .i64 k ∧ l = .int .i64 r ∧ 0 ≤ r ∧ r ≤ left - (n : Int) ∧ Below w.heap.size w wr ∧ ∀ j p, j < k → ps[j]? = some p → p.nearN ≤ 1048576)
    case atStart => exact ⟨0, _, Nat.zero_le _, rfl, rfl, rfl, by omega, by omega, Below.refl _ _, fun _ _ h => absurd h (by omega)⟩
    case round =>
      obtain ⟨k, r, hk, hgk, rfl, rfl, hr0, hr1, hb, hall⟩ := hrel
      have Hgk := Lib.hid hgk
      have Hall := Lib.hid hall
      clear hgk hall
      by_cases hlt : k < n
      · obtain ⟨b1, o1, x, rfl, hb1, hxk, hcx⟩ := (hx.below hb).at_ hlt
        have HX := Lib.hid hxk
        have x0 : wr.cell? ⟨b1, o1 + k * 3, none⟩ = some (.string x.id) := hcx 0 _ rfl
        have x1 : wr.cell? ⟨b1, o1 + k * 3 + 1, none⟩ = some (.int .i64 x.level) := hcx 1 _ rfl
        have x2 : wr.cell? ⟨b1, o1 + k * 3 + 2, none⟩ = some (.slice x.nearA x.nearN x.nearC) := hcx 2 _ rfl
        have hgx := Lib.hid (Hg.out x (List.mem_of_getElem? hxk))
        have hix := Lib.hid ((Hi.out x (List.mem_of_getElem? hxk)).below hb)
        clear hxk hcx
        go_wp2_with fail
        refine (szRegion_any x _ _ hix.out hgx.out hr0 (by omega)).mono ?_
        rintro e w1 ⟨v, rfl, ⟨q, rfl, hq⟩, hb1'⟩
        have hbb := hb.trans (hb1'.mono hb.size)
        clear x0 x1 x2 hx hb hb1'
        by_cases hqn : q < 0
        · go_wp2
          go_ret
          exact RetP.mk ⟨_, rfl, .inl (by omega)⟩ hbb
        · have HA : Hid (∀ j p, j < k + 1 → ps[j]? = some p → p.nearN ≤ 1048576) := fun j p hj hp => by
            by_cases e : j = k
            · subst e; rw [HX.out] at hp; cases hp; omega
            · exact Hall.out j p (by omega) hp
          go_wp2
          go_roundg (n - (k + 1))
          case measure => have := Hgk.out; omega
          case rel => exact ⟨k + 1, q, by omega, rfl, by go_num, rfl, by omega, by omega, hbb, HA.out⟩
      · go_wp2
        go_ret
        exact RetP.mk ⟨_, rfl, .inr ⟨by omega, by omega, by omega, fun p hp => by
          obtain ⟨j, hj, rfl⟩ := List.getElem_of_mem hp
          exact Hall.out j _ (by have := HL.out; omega) (List.getElem?_eq_getElem hj)⟩⟩ hb

def RegionR.Ret (y : Region) (w : World) (e : Ending) (w' : World) : Prop := ∃ p : RegionR, e = .returned (.agg #[.string p.id, .int .i64 p.level, .slice p.nearA p.nearN p.nearC]) ∧ p.val = y ∧ OwnsL w' w.heap.size 9 1 strcells (.slice p.nearA p.nearN p.nearC) p.near ∧ Below w.heap.size w w'
set_option maxHeartbeats 1000000 in
theorem toRegion_any (x : RegionR) (w : World) (hin : x.In w) (hle : x.nearN ≤ 1048576) : Calls Try.prog 44 #[.agg #[.string x.id, .int .i64 x.level, .slice x.nearA x.nearN x.nearC]] w (RegionR.Ret x.val w) := by
  have HI := Lib.hid hin
  have hlen := Lib.hid hin.1.len
  have hp : Own (((w.alloc (.cells #[.string x.id, .int .i64 x.level, .slice x.nearA x.nearN x.nearC] 69)).alloc (.cells #[.string ByteArray.empty, .int .i64 0, .slice none 0 0] 34)).alloc (.cells #[.string x.id, .int .i64 x.level, .slice none 0 0] 34)) w.heap.size 69 #[.string x.id, .int .i64 x.level, .slice x.nearA x.nearN x.nearC] := ((Own.new w 69 _).alloc _).alloc _
  have hr : Own (((w.alloc (.cells #[.string x.id, .int .i64 x.level, .slice x.nearA x.nearN x.nearC] 69)).alloc (.cells #[.string ByteArray.empty, .int .i64 0, .slice none 0 0] 34)).alloc (.cells #[.string x.id, .int .i64 x.level, .slice none 0 0] 34)) (w.heap.size + 1) 34 #[.string ByteArray.empty, .int .i64 0, .slice none 0 0] := by
    have := (Own.new (w.alloc (.cells #[.string x.id, .int .i64 x.level, .slice x.nearA x.nearN x.nearC] 69)) 34 #[.string ByteArray.empty, .int .i64 0, .slice none 0 0]).alloc (.cells #[.string x.id, .int .i64 x.level, .slice none 0 0] 34)
    simpa using this
  have ho : Own (((w.alloc (.cells #[.string x.id, .int .i64 x.level, .slice x.nearA x.nearN x.nearC] 69)).alloc (.cells #[.string ByteArray.empty, .int .i64 0, .slice none 0 0] 34)).alloc (.cells #[.string x.id, .int .i64 x.level, .slice none 0 0] 34)) (w.heap.size + 2) 34 #[.string x.id, .int .i64 x.level, .slice none 0 0] := by
    have := Own.new ((w.alloc (.cells #[.string x.id, .int .i64 x.level, .slice x.nearA x.nearN x.nearC] 69)).alloc (.cells #[.string ByteArray.empty, .int .i64 0, .slice none 0 0] 34)) 34 #[.string x.id, .int .i64 x.level, .slice none 0 0]
    simpa using this
  have hB : Below w.heap.size w (((w.alloc (.cells #[.string x.id, .int .i64 x.level, .slice x.nearA x.nearN x.nearC] 69)).alloc (.cells #[.string ByteArray.empty, .int .i64 0, .slice none 0 0] 34)).alloc (.cells #[.string x.id, .int .i64 x.level, .slice none 0 0] 34)) := (((Below.refl _ _).alloc (Nat.le_refl _) _).alloc (by simp) _).alloc (by simp; omega) _
  clear hin
  go_enter Try.func44, Try.ntmps44
  go_wp2_with fail
  refine (toStringS_any _ _ _ _ _ (HI.out.1.below hB) hle).mono ?_
  rintro e w1 ⟨v, rfl, hv, hb⟩
  obtain ⟨A', c', rfl, _, _, _⟩ := hv.slice strcells_len
  obtain ⟨n', hn'⟩ : ∃ n', x.near.length = n' := ⟨_, rfl⟩
  rw [hn'] at hv ⊢
  have HN := Lib.hid hn'
  have HV := Lib.hid hv
  have hp1 := hp.below' hb
  have hr1 := hr.below' hb
  have ho1 := ho.below' hb
  have hBb := hB.trans (hb.mono hB.size)
  have c0 : w1.cell? ⟨w.heap.size, 0, none⟩ = some (.string x.id) := hp1.cell 0
  have c1 : w1.cell? ⟨w.heap.size, 1, none⟩ = some (.int .i64 x.level) := hp1.cell 1
  have c2 : w1.cell? ⟨w.heap.size, 2, none⟩ = some (.slice x.nearA x.nearN x.nearC) := hp1.cell 2
  have d0 : w1.cell? ⟨w.heap.size + 1, 0, none⟩ = some (.string ByteArray.empty) := hr1.cell 0
  have d1 : w1.cell? ⟨w.heap.size + 1, 1, none⟩ = some (.int .i64 0) := hr1.cell 1
  have d2 : w1.cell? ⟨w.heap.size + 1, 2, none⟩ = some (.slice none 0 0) := hr1.cell 2
  have p0 : w1.cell? ⟨w.heap.size + 2, 0, none⟩ = some (.string x.id) := ho1.cell 0
  have p1 : w1.cell? ⟨w.heap.size + 2, 1, none⟩ = some (.int .i64 x.level) := ho1.cell 1
  have p2 : w1.cell? ⟨w.heap.size + 2, 2, none⟩ = some (.slice none 0 0) := ho1.cell 2
  have f1 : ∀ o, w1.frozen? ⟨w.heap.size + 1, o, none⟩ = false := hr1.frozen
  have f2 : ∀ o, w1.frozen? ⟨w.heap.size + 2, o, none⟩ = false := ho1.frozen
  have HB := Lib.hid hBb
  have hlt1 : w.heap.size + 2 < w1.heap.size := ho1.lt
  have Hb := Lib.hid hb
  clear hv hb hp hr ho hp1 hr1 ho1 hBb hB hn'
  go_wp2
  refine bodyPost_ret (v := .agg #[.string x.id, .int .i64 x.level, .slice A' n' c']) (by simp [results, Try.results44, go_sem, d0, d1, d2]) rfl ⟨⟨x.id, x.level, A', n', c', x.near⟩, rfl, rfl, ?_, ?_⟩
  · refine ((HV.out.rebase (by simp <;> omega)).span (lo := w.heap.size + 1) (hi := w.heap.size + 3) ?_ (fun k hk => .inr (by have := (HV.out.lt k hk).1; simp at this; omega)))
    repeat (first | (with_reducible exact Span.refl _ _ _) | (with_reducible refine Span.setCell ?_ (by simp <;> omega) (by simp <;> omega) _))
  · repeat (first | (with_reducible exact HB.out) | (with_reducible refine Below.setCell ?_ (by simp <;> omega) _))

theorem infoRegion : (Try.prog.info? 34).map (fun i => (i.zero, i.size, i.bytes)) = some (some (.agg #[.string ByteArray.empty, .int .i64 0, .slice none 0 0]), 3, 48) := by kernel_rfl
set_option maxHeartbeats 1000000 in
theorem toRegionS_any (A : Option Addr) (n c : Nat) (xs : List Region) (w : World) (hx : Region.Sl w A n xs) (hle : n ≤ 1048576) (hin : ∀ x ∈ xs, x.near.length ≤ 1048576) :
    Calls Try.prog 17 #[.slice A n c] w (RetP (fun v w' => Region.Own w' w.heap.size v xs) w) := by
  have hmk := make_n (P := Try.prog) (t := 24) (n := n) Try.underlying24 infoRegion (by omega) (by omega)
  have HLx := Lib.hid hx.len
  have Hin := Lib.hid hin
  clear hin
  go_enter Try.func17, Try.ntmps17
  go_wp2
  clear hmk
  go_loopg [4] n (fun gk i wr => ∃ (k : Nat) (cs : Array Value) (ps : List RegionR), k ≤ n ∧ gk = n - k ∧ i = .int .i64 k ∧ Below w.heap.size w wr ∧ Own wr w.heap.size 34 cs ∧ cs.size = n * 3 ∧ FilledTo 3 RegionR.cells ps k cs ∧ ps.map RegionR.val = xs.take k ∧ (∀ p ∈ ps, OwnsL wr (w.heap.size + 1) 9 1 strcells (.slice p.nearA p.nearN p.nearC) p.near) ∧ ps.Pairwise (fun p q => ∀ b, p.own = some b → q.own ≠ some b))
  case atStart => exact ⟨0, _, [], Nat.zero_le _, rfl, rfl, (Below.refl _ _).alloc (Nat.le_refl _) _, Own.new _ _ _, size_madeCells _ _, FilledTo.zero, rfl, fun p hp => absurd hp (by simp), List.Pairwise.nil⟩
  case round =>
    obtain ⟨k, cs, ps, hk, hgk, rfl, hb, hown, hsz, hfill, hmap, hins, hpw⟩ := hrel
    have Hgk := Lib.hid hgk
    have Hsz := Lib.hid hsz
    have Hmap := Lib.hid hmap
    have Hins := Lib.hid hins
    have Hfill := Lib.hid hfill
    have HPW := Lib.hid hpw
    clear hgk hsz hmap hins hfill hpw
    by_cases hlt : k < n
    · obtain ⟨b1, o1, x, rfl, hb1, hxk, hix, x0, x1, x2⟩ := (hx.below hb).at_ hlt
      have Hx := Lib.hid hxk
      have Hix := Lib.hid hix
      have hxl : x.nearN ≤ 1048576 := by rw [← hix.1.len]; exact Hin.out _ (List.mem_of_getElem? hxk)
      clear hxk hix
      go_wp2_with fail
      refine (toRegion_any x _ Hix.out hxl).mono ?_
      rintro e w1 ⟨p, rfl, hpv, hpo, hb1'⟩
      have hown1 := hown.below' hb1'
      have hbb := hb.trans (hb1'.mono hb.size)
      have Hsize : Hid (w.heap.size < w1.heap.size) := hown1.lt
      have Hpv := Lib.hid hpv
      have Hpo := Lib.hid hpo
      have Hi1 : Hid (∀ p ∈ ps, OwnsL w1 (w.heap.size + 1) 9 1 strcells (.slice p.nearA p.nearN p.nearC) p.near) := fun p hp => (Hins.out p hp).below' hb1'
      have hltr : w.heap.size < wr.heap.size := hown.lt
      obtain ⟨u0, hu0⟩ : ∃ u, cs[k * 3]? = some u := ⟨_, Array.getElem?_eq_getElem (by have := Hsz.out; have := Nat.mul_le_mul_right 3 hlt; omega)⟩
      have f0 : w1.cell? ⟨w.heap.size, k * 3, none⟩ = some u0 := (hown1.cell _).trans hu0
      obtain ⟨u1, hu1⟩ : ∃ u, cs[k * 3 + 1]? = some u := ⟨_, Array.getElem?_eq_getElem (by have := Hsz.out; have := Nat.mul_le_mul_right 3 hlt; omega)⟩
      have f1 : w1.cell? ⟨w.heap.size, k * 3 + 1, none⟩ = some u1 := (hown1.cell _).trans hu1
      obtain ⟨u2, hu2⟩ : ∃ u, cs[k * 3 + 2]? = some u := ⟨_, Array.getElem?_eq_getElem (by have := Hsz.out; have := Nat.mul_le_mul_right 3 hlt; omega)⟩
      have f2 : w1.cell? ⟨w.heap.size, k * 3 + 2, none⟩ = some u2 := (hown1.cell _).trans hu2
      have hfr : ∀ o, w1.frozen? ⟨w.heap.size, o, none⟩ = false := hown1.frozen
      have Hown := Lib.hid hown1
      have Hbb := Lib.hid hbb
      have hpsl : ps.length = k := by have := congrArg List.length Hmap.out; rw [List.length_map, List.length_take, HLx.out] at this; omega
      have Hpsl := Lib.hid hpsl
      clear hu0 hu1 hu2 x0 x1 x2 hx hown hb hb1' hown1 hbb hpv hpo hpsl
      go_wp2
      go_roundg (n - (k + 1))
      case measure => have := Hgk.out; omega
      case rel =>
        refine ⟨k + 1, putAll cs (k * 3) p.cells, ps ++ [p], by omega, rfl, by go_num, ?_, ?_, ?_, ?_, ?_, ?_, ?_⟩
        · iterate 3 (refine Below.setCell ?_ (by exact Nat.le_refl _) _)
          exact Hbb.out
        · exact (((Hown.out.put _ _).put _ _).put _ _)
        · rw [putAll_size]; exact Hsz.out
        · exact FilledTo.step (n := n) (fun _ => rfl) (fun i y j v hi hy hv => Hfill.out i y j v hi (by rwa [List.getElem?_append_left (by rw [Hpsl.out]; exact hi)] at hy) hv) hlt Hsz.out (by rw [List.getElem?_append_right (by rw [Hpsl.out]; omega), Hpsl.out]; simp)
        · rw [List.map_append, Hmap.out, List.take_succ_eq_append_getElem (List.getElem?_eq_some_iff.1 Hx.out).1, (List.getElem?_eq_some_iff.1 Hx.out).2]
          simp [Hpv.out]
        · intro p' hp'
          rcases List.mem_append.1 hp' with h | h
          · refine (Hi1.out p' h).span (lo := w.heap.size) (hi := w.heap.size + 1) ?_ (fun k hk => .inr ((Hi1.out p' h).lt k hk).1)
            iterate 3 (refine Span.setCell ?_ (by exact Nat.le_refl _) (by exact Nat.lt_succ_self _) _)
            exact Span.refl _ _ _
          · simp at h
            subst h
            refine (Hpo.out.rebase hltr).span (lo := w.heap.size) (hi := w.heap.size + 1) ?_ (fun k hk => .inr (Nat.lt_of_lt_of_le hltr (Hpo.out.lt k hk).1))
            iterate 3 (refine Span.setCell ?_ (by exact Nat.le_refl _) (by exact Nat.lt_succ_self _) _)
            exact Span.refl _ _ _
        · rw [List.pairwise_append]
          refine ⟨HPW.out, List.pairwise_singleton _ _, fun a ha q hq b hb1 hb2 => ?_⟩
          simp at hq
          subst hq
          have h1 := ((Hins.out a ha).lt b hb1).2
          have h2 := (Hpo.out.lt b hb2).1
          omega
    · have hkn : k = n := by omega
      subst hkn
      have HE : Hid (Region.Own wr w.heap.size (.slice (some ⟨w.heap.size, 0, none⟩) k k) xs) := by
        have hpsl : ps.length = k := by have := congrArg List.length Hmap.out; rw [List.length_map, List.length_take, HLx.out] at this; omega
        refine ⟨ps, hown.ownsL RegionR.cells_len (Nat.le_refl _) hpsl Hsz.out hle Hfill.out, fun p hp => (Hins.out p hp).rebase (Nat.le_succ _), ⟨fun p hp b hb1 hb2 => ?_, HPW.out⟩, ?_⟩
        · have h1 := ((Hins.out p hp).lt b hb1).1
          have hb3 : w.heap.size = b := by simpa [Value.ownBlock] using hb2
          omega
        rw [Hmap.out, List.take_of_length_le (by rw [HLx.out]; exact Nat.le_refl _)]
      clear hown
      go_wp2
      go_ret
      exact RetP.mk HE.out hb

set_option maxHeartbeats 1000000 in
theorem eqRegion_any (x y : RegionR) (w : World) (hx : x.In w) (hy : y.In w) : Calls Try.prog 45 #[.agg #[.string x.id, .int .i64 x.level, .slice x.nearA x.nearN x.nearC], .agg #[.string y.id, .int .i64 y.level, .slice y.nearA y.nearN y.nearC]] w (Ret (.bool (Region.eqB x.val y.val)) w) := by
  have HX := Lib.hid hx
  have HY := Lib.hid hy
  clear hx hy
  have hp : Own ((w.alloc (.cells #[.string x.id, .int .i64 x.level, .slice x.nearA x.nearN x.nearC] 34)).alloc (.cells #[.string y.id, .int .i64 y.level, .slice y.nearA y.nearN y.nearC] 34)) w.heap.size 34 #[.string x.id, .int .i64 x.level, .slice x.nearA x.nearN x.nearC] := (Own.new w 34 _).alloc _
  have hr : Own ((w.alloc (.cells #[.string x.id, .int .i64 x.level, .slice x.nearA x.nearN x.nearC] 34)).alloc (.cells #[.string y.id, .int .i64 y.level, .slice y.nearA y.nearN y.nearC] 34)) (w.heap.size + 1) 34 #[.string y.id, .int .i64 y.level, .slice y.nearA y.nearN y.nearC] := by
    have := Own.new (w.alloc (.cells #[.string x.id, .int .i64 x.level, .slice x.nearA x.nearN x.nearC] 34)) 34 #[.string y.id, .int .i64 y.level, .slice y.nearA y.nearN y.nearC]
    simpa using this
  have hB : Below w.heap.size w ((w.alloc (.cells #[.string x.id, .int .i64 x.level, .slice x.nearA x.nearN x.nearC] 34)).alloc (.cells #[.string y.id, .int .i64 y.level, .slice y.nearA y.nearN y.nearC] 34)) := ((Below.refl _ _).alloc (Nat.le_refl _) _).alloc (by simp) _
  obtain ⟨ib, hib⟩ : ∃ ib, Str.eqSB x.near y.near = ib := ⟨_, rfl⟩
  have HIB := Lib.hid hib
  clear hib
  go_enter Try.func45, Try.ntmps45
  go_wp2_with (refine (eqStringS_any _ _ _ _ _ _ _ _ _ (HX.out.1.below hB) (HY.out.1.below hB)).mono ?_; rintro e w1 ⟨rfl, hb1⟩; rw [HIB.out])
  all_goals (go_ret; refine Ret.b ?_ (by first | exact hB | exact hB.trans ((by assumption : Below _ ((w.alloc (.cells #[.string x.id, .int .i64 x.level, .slice x.nearA x.nearN x.nearC] 34)).alloc (.cells #[.string y.id, .int .i64 y.level, .slice y.nearA y.nearN y.nearC] 34)) _).mono hB.size)))
  all_goals (simp_all [Region.eqB, RegionR.val, HIB.out])

def Region.eqSB (xs ys : List Region) : Bool := xs.length == ys.length && (xs.zip ys).all fun p => p.1.eqB p.2
theorem Region.eqSB_self (xs : List Region) : Region.eqSB xs xs = true := by
  unfold Region.eqSB
  rw [Bool.and_eq_true]
  refine ⟨by simp, List.all_eq_true.2 fun p hp => ?_⟩
  obtain ⟨k, hk⟩ := List.mem_iff_getElem?.1 hp
  rw [List.getElem?_zip_eq_some] at hk
  have e : p.1 = p.2 := by have := hk.1.symm.trans hk.2; injection this
  rw [e]; exact Region.eqB_self _
theorem Region.eqSB_no {xs ys : List Region} {k : Nat} {x y : Region} (hx : xs[k]? = some x) (hy : ys[k]? = some y) (h : x.eqB y = false) : Region.eqSB xs ys = false := by
  unfold Region.eqSB
  rw [Bool.and_eq_false_iff]; right
  rw [List.all_eq_false]
  exact ⟨(x, y), List.mem_iff_getElem?.2 ⟨k, by rw [List.getElem?_zip_eq_some]; exact ⟨hx, hy⟩⟩, by simp [h]⟩
theorem Region.eqSB_len {xs ys : List Region} (h : xs.length ≠ ys.length) : Region.eqSB xs ys = false := by simp [Region.eqSB, h]
theorem Region.eqSB_yes {xs ys : List Region} (h : xs.length = ys.length) (ha : ∀ (j : Nat) (x y : Region), xs[j]? = some x → ys[j]? = some y → x.eqB y = true) : Region.eqSB xs ys = true := by
  unfold Region.eqSB
  rw [Bool.and_eq_true]
  refine ⟨by simp [h], List.all_eq_true.2 fun p hp => ?_⟩
  obtain ⟨k, hk⟩ := List.mem_iff_getElem?.1 hp
  rw [List.getElem?_zip_eq_some] at hk
  exact ha k _ _ hk.1 hk.2
theorem Region.eqSB_step {xs ys : List Region} {k : Nat} {x y : Region} (h : ∀ (j : Nat) (x y : Region), j < k → xs[j]? = some x → ys[j]? = some y → x.eqB y = true) (hx : xs[k]? = some x) (hy : ys[k]? = some y) (he : x.eqB y = true) :
    ∀ (j : Nat) (x y : Region), j < k + 1 → xs[j]? = some x → ys[j]? = some y → x.eqB y = true := fun j x' y' hj h1 h2 => by
  by_cases e : j = k
  · subst e; rw [hx] at h1; rw [hy] at h2; cases h1; cases h2; exact he
  · exact h j x' y' (by omega) h1 h2

set_option maxHeartbeats 1000000 in
theorem eqRegionS_any (A B : Option Addr) (n m c1 c2 : Nat) (xs ys : List Region) (w : World) (hx : Region.Sl w A n xs) (hy : Region.Sl w B m ys) :
    Calls Try.prog 19 #[.slice A n c1, .slice B m c2] w (Ret (.bool (Region.eqSB xs ys)) w) := by
  have hn := hx.le
  have hm := hy.le
  by_cases hnm : n = m
  · subst hnm
    go_enter Try.func19, Try.ntmps19
    go_wp2
    go_loopg [5] n (fun gk i wr => ∃ k : Nat, k ≤ n ∧ gk = n - k ∧ i = .int .i64 k ∧ Below w.heap.size w wr ∧ ∀ (j : Nat) (x y : Region), j < k → xs[j]? = some x → ys[j]? = some y → x.eqB y = true)
    case atStart => exact ⟨0, Nat.zero_le _, rfl, rfl, Below.refl _ _, fun j x y h => absurd h (by omega)⟩
    case round =>
      obtain ⟨k, hk, hgk, rfl, hb, hall⟩ := hrel
      have Hall := Lib.hid hall
      have Hgk := Lib.hid hgk
      clear hall hgk
      by_cases hlt : k < n
      · obtain ⟨b1, o1, x, rfl, hb1, hxk, hix, x0, x1, x2⟩ := (hx.below hb).at_ hlt
        obtain ⟨b2, o2, y, rfl, hb2, hyk, hiy, y0, y1, y2⟩ := (hy.below hb).at_ hlt
        have Hx := Lib.hid hxk
        have Hy := Lib.hid hyk
        clear hxk hyk
        have hsub := fun (g : Sub wr) b o (h : b < wr.heap.size) => g.cell b o h
        go_wp2_with fail
        refine wp_region_sub (by kernel_rfl) (by kernel_rfl) ?_
        repeat (go_big_quiet_step (exact Calls.sub_of (eqRegion_any _ _ _ (hix.below (Sub.below _)) (hiy.below (Sub.below _)))))
        refine wpQuiet_nil ?_
        intro wg hg
        have hbg := hb.trans (hg.mono hb.size)
        clear hsub x0 y0 x1 y1 x2 y2 hix hiy
        cases he : Region.eqB x.val y.val
        · go_wp2
          go_ret
          exact Ret.b (Region.eqSB_no Hx.out Hy.out he).symm hbg
        · go_wp2
          go_roundg (n - (k + 1))
          case measure => have := Hgk.out; omega
          case rel => exact ⟨k + 1, by omega, rfl, by go_num, hbg, Region.eqSB_step Hall.out Hx.out Hy.out he⟩
      · go_wp2
        go_ret
        exact Ret.b (Region.eqSB_yes (by rw [hx.len, hy.len]) (fun j x y h1 h2 => Hall.out j x y (by have := (List.getElem?_eq_some_iff.1 h1).1; have := hx.len; omega) h1 h2)).symm hb
  · go_enter Try.func19, Try.ntmps19
    go_wp2
    go_ret
    exact Ret.b (Region.eqSB_len (by rw [hx.len, hy.len]; exact hnm)).symm (Below.refl _ _)

end Go.Proofs.Ytpibiieibofggaa
