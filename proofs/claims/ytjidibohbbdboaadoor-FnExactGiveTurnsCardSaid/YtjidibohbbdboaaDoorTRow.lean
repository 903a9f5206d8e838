/- Slices of slices of int64 in the laws: how they lie in memory, how an argument is opened, and what the laws' own helpers of them return. -/
import Derived.Test.YtjidibohbbdboaaDoorBase
import Derived.Test.YtjidibohbbdboaaDoorMem
import Derived.Test.YtjidibohbbdboaaDoorTInt64
import Derived.Test.YtjidibohbbdboaaDoorPush2
namespace Go.Proofs.YtjidibohbbdboaaDoor
open Go.RowKit

structure Row where
  list : List Int
structure RowR where
  listA : Option Addr
  listN : Nat
  listC : Nat
  list : List Int
def RowR.val (x : RowR) : Row := ⟨x.list⟩
def RowR.cells (x : RowR) : List Value := [.slice x.listA x.listN x.listC]
instance : Inhabited RowR := ⟨⟨none, 0, 0, []⟩⟩
theorem RowR.cells_len (x : RowR) : x.cells.length = 1 := rfl
theorem RowR.cells_one (x : RowR) : ∀ u ∈ x.cells, u.oneCell' = true := by intro u hu; simp [RowR.cells] at hu; subst hu; rfl
def RowR.In (x : RowR) (w : World) : Prop := SliceOf w 1 i64cells x.listA x.listN x.list ∧ x.listN ≤ x.listC ∧ x.listC ≤ maxLen
theorem RowR.In.below {x : RowR} {w w' : World} (h : x.In w) (hb : Below w.heap.size w w') : x.In w' := ⟨h.1.below hb, h.2⟩
def Row.Good (x : Row) : Prop := ∀ y ∈ x.list, I64 y
def Row.eqB (x y : Row) : Bool := Int64.eqSB x.list y.list
theorem Row.eqB_self (x : Row) : x.eqB x = true := by simp [Row.eqB, Int64.eqSB_self]
def Row.Sl (w : World) (A : Option Addr) (n : Nat) (xs : List Row) : Prop := ∃ ps : List RowR, SliceOf w 1 RowR.cells A n ps ∧ (∀ p ∈ ps, p.In w) ∧ xs = ps.map RowR.val
section
variable {w w' : World} {A : Option Addr} {n : Nat} {xs : List Row}
theorem Row.Sl.len (h : Row.Sl w A n xs) : xs.length = n := by obtain ⟨ps, h1, _, rfl⟩ := h; rw [List.length_map]; exact h1.len
theorem Row.Sl.le (h : Row.Sl w A n xs) : n ≤ 9223372036854775807 := by obtain ⟨ps, h1, _, rfl⟩ := h; exact h1.le
theorem Row.Sl.below (h : Row.Sl w A n xs) (hb : Below w.heap.size w w') : Row.Sl w' A n xs := by
  obtain ⟨ps, h1, h2, rfl⟩ := h
  exact ⟨ps, h1.below hb, fun p hp => (h2 p hp).below hb, rfl⟩
theorem Row.Sl.at_ (h : Row.Sl w A n xs) {k : Nat} (hk : k < n) :
    ∃ b off r, A = some ⟨b, off, none⟩ ∧ b < w.heap.size ∧ xs[k]? = some (r : RowR).val ∧ r.In w ∧ w.cell? ⟨b, off + k, none⟩ = some (.slice r.listA r.listN r.listC) := by
  obtain ⟨ps, h1, h2, rfl⟩ := h
  obtain ⟨b, off, r, hA, hb, hx, hc⟩ := h1.at_ hk
  exact ⟨b, off, r, hA, hb, by rw [List.getElem?_map, hx]; rfl, h2 r (List.mem_of_getElem? hx), by simpa using hc 0 _ rfl⟩
end
def RowR.own (p : RowR) : Option Nat := (Value.slice p.listA p.listN p.listC).ownBlock
/-- The inner slices lie in blocks of their own, apart from the outer one's. -/
def RowR.Apart (v : Value) (ps : List RowR) : Prop := (∀ p ∈ ps, ∀ b, p.own = some b → v.ownBlock ≠ some b) ∧ ps.Pairwise fun p q => ∀ b, p.own = some b → q.own ≠ some b
def Row.Own (w : World) (base : Nat) (v : Value) (xs : List Row) : Prop := ∃ ps : List RowR, OwnsL w base 29 1 RowR.cells v ps ∧ (∀ p ∈ ps, OwnsL w base 2 1 i64cells (.slice p.listA p.listN p.listC) p.list) ∧ RowR.Apart v ps ∧ xs = ps.map RowR.val
theorem RowR.in_of {w : World} {base : Nat} {e : TypeId} {p : RowR} (h : OwnsL w base e 1 i64cells (.slice p.listA p.listN p.listC) p.list) : p.In w := by
  obtain ⟨A', c', h1, h2, h3, h4⟩ := h.slice i64cells_len
  injection h1 with e1 e2 e3
  unfold RowR.In
  rw [e1, e2, e3]
  exact ⟨h4, h2, h3⟩
section
variable {w w' : World} {base : Nat} {v : Value} {xs : List Row}
theorem Row.Own.slice (h : Row.Own w base v xs) : ∃ A c, v = .slice A xs.length c ∧ xs.length ≤ c ∧ c ≤ maxLen ∧ Row.Sl w A xs.length xs := by
  obtain ⟨ps, h1, h2, _, rfl⟩ := h
  obtain ⟨A, c, h3, h4, h5, h6⟩ := h1.slice RowR.cells_len
  rw [List.length_map]
  exact ⟨A, c, h3, h4, h5, ps, h6, fun p hp => RowR.in_of (h2 p hp), rfl⟩
theorem Row.Own.sl {A : Option Addr} {n c : Nat} (h : Row.Own w base (.slice A n c) xs) : Row.Sl w A n xs := by
  obtain ⟨A', c', h1, _, _, h2⟩ := h.slice
  injection h1 with e1 e2 e3
  subst e1 e2 e3
  exact h2
theorem Row.Own.below' (h : Row.Own w base v xs) (hb : Below w.heap.size w w') : Row.Own w' base v xs := by
  obtain ⟨ps, h1, h2, h3⟩ := h
  exact ⟨ps, h1.below' hb, fun p hp => (h2 p hp).below' hb, h3⟩
theorem Row.Own.span {lo hi : Nat} (h : Row.Own w base v xs) (hs : Span lo hi w w') (hb : hi ≤ base) : Row.Own w' base v xs := by
  obtain ⟨ps, h1, h2, h3⟩ := h
  exact ⟨ps, h1.span hs (fun k hk => .inr (Nat.le_trans hb (h1.lt k hk).1)), fun p hp => (h2 p hp).span hs (fun k hk => .inr (Nat.le_trans hb ((h2 p hp).lt k hk).1)), h3⟩
end

section
variable {H : Type} {enc : TypeId × Value → H} {w : World} {spare : Nat → Bool} {held : Bool}
theorem RowR.of_trod (m : Nat) (cs : List Value) (y : DataW H × List MemPlace) (h : DataW.trod enc Tryd.prog w 0 spare held m 29 cs = some y) : ∃ x : RowR, x.cells = cs ∧ x.In w ∧ x.val.Good := by
  obtain ⟨A0, n0, d0, x0, rfl, p0, q0, s0, k0⟩ := sliceOf_trod (cells := i64cells) Tryd.underlying29 (show Tryd.prog.cellsOf 2 = 1 by kernel_rfl) (by decide) (fun _ _ _ h => trod_int64 Tryd.underlying2 h) h
  exact ⟨⟨A0, n0, d0, x0⟩, rfl, ⟨s0, p0, q0⟩, k0⟩
end

set_option maxHeartbeats 1000000 in
theorem szRowS_any (A : Option Addr) (n c : Nat) (ps : List RowR) (left : Int) (w : World) (hx : SliceOf w 1 RowR.cells A n ps) (hi : ∀ p ∈ ps, p.In w) (_hg : ∀ p ∈ ps, p.val.Good) (h0 : 0 ≤ left) (h1 : left ≤ 1048576) :
    Calls Tryd.prog 5 #[.slice A n c, .int .i64 left] w (RetP (fun v _ => ∃ r : Int, v = .int .i64 r ∧ (r < 0 ∨ 0 ≤ r ∧ r ≤ left ∧ (n : Int) ≤ left ∧ ∀ p ∈ ps, p.listN ≤ 1048576)) w) := by
  have hn := hx.le
  have HL := Lib.hid hx.len
  have Hi := Lib.hid hi
  clear hi
  by_cases hneg : left - (n : Int) < 0
  · go_enter Tryd.func5, Tryd.ntmps5
    go_wp2
    go_ret
    exact RetP.mk ⟨_, rfl, .inl (by omega)⟩ (Below.refl _ _)
  · go_enter Tryd.func5, Tryd.ntmps5
    go_wp2
    go_loopg [1, 5] n (fun gk l i wr => ∃ (k : Nat) (r : Int), k ≤ n ∧ gk = n - k ∧ i = .int .i64 k ∧ l = .int .i64 r ∧ 0 ≤ r ∧ r ≤ left - (n : Int) ∧ Below w.heap.size w wr ∧ ∀ j p, j < k → ps[j]? = some p → p.listN ≤ 1048576)
    case atStart => exact ⟨0, _, Nat.zero_le _, rfl, rfl, rfl, by omega, by omega, Below.refl _ _, fun _ _ h => absurd h (by omega)⟩
    case round =>
      obtain ⟨k, r, hk, hgk, rfl, rfl, hr0, hr1, hb, hall⟩ := hrel
      have Hgk := Lib.hid hgk
      have Hall := Lib.hid hall
      clear hgk hall
      by_cases hlt : k < n
      · obtain ⟨b1, o1, x, rfl, hb1, hxk, hcx⟩ := (hx.below hb).at_ hlt
        have HX := Lib.hid hxk
        have x0 : wr.cell? ⟨b1, o1 + k, none⟩ = some (.slice x.listA x.listN x.listC) := by simpa using hcx 0 _ rfl
        have hix := Lib.hid ((Hi.out x (List.mem_of_getElem? hxk)).below hb)
        clear hxk hcx
        go_wp2_with fail
        refine (szInt64S_any _ _ _ r _ hix.out.1.le hr0 (by omega)).mono ?_
        rintro e w1 ⟨v, rfl, ⟨q, rfl, hq⟩, hb1'⟩
        have hbb := hb.trans (hb1'.mono hb.size)
        clear x0 hx hb hb1'
        by_cases hqn : q < 0
        · go_wp2
          go_ret
          exact RetP.mk ⟨_, rfl, .inl (by omega)⟩ hbb
        · have HA : Hid (∀ j p, j < k + 1 → ps[j]? = some p → p.listN ≤ 1048576) := fun j p hj hp => by
            by_cases e : j = k
            · subst e; rw [HX.out] at hp; cases hp; omega
            · exact Hall.out j p (by omega) hp
          go_wp2
          go_roundg (n - (k + 1))
          case measure => have := Hgk.out; omega
          case rel => exact ⟨k + 1, q, by omega, rfl, by go_num, rfl, by omega, by omega, hbb, HA.out⟩
      · go_wp2
        go_ret
        exact RetP.mk ⟨_, rfl, .inr ⟨by omega, by omega, by omega, fun p hp => by
          obtain ⟨j, hj, rfl⟩ := List.getElem_of_mem hp
          exact Hall.out j _ (by have := HL.out; omega) (List.getElem?_eq_getElem hj)⟩⟩ hb
theorem infoRow : (Tryd.prog.info? 29).map (fun i => (i.zero, i.size, i.bytes)) = some (some (.slice none 0 0), 1, 24) := by kernel_rfl
set_option maxHeartbeats 1000000 in
theorem toRowS_any (A : Option Addr) (n c : Nat) (xs : List Row) (w : World) (hx : Row.Sl w A n xs) (hle : n ≤ 1048576) (hin : ∀ x ∈ xs, x.list.length ≤ 1048576) :
    Calls Tryd.prog 7 #[.slice A n c] w (RetP (fun v w' => Row.Own w' w.heap.size v xs) w) := by
  have hmk := make_n (P := Tryd.prog) (t := 22) (n := n) Tryd.underlying22 infoRow (by omega) (by omega)
  have HLx := Lib.hid hx.len
  have Hin := Lib.hid hin
  clear hin
  go_enter Tryd.func7, Tryd.ntmps7
  go_wp2
  clear hmk
  go_loopg [4] n (fun gk i wr => ∃ (k : Nat) (cs : Array Value) (ps : List RowR), k ≤ n ∧ gk = n - k ∧ i = .int .i64 k ∧ Below w.heap.size w wr ∧ Own wr w.heap.size 29 cs ∧ cs.size = n * 1 ∧ FilledTo 1 RowR.cells ps k cs ∧ ps.map RowR.val = xs.take k ∧ (∀ p ∈ ps, OwnsL wr (w.heap.size + 1) 2 1 i64cells (.slice p.listA p.listN p.listC) p.list) ∧ ps.Pairwise (fun p q => ∀ b, p.own = some b → q.own ≠ some b))
  case atStart => exact ⟨0, _, [], Nat.zero_le _, rfl, rfl, (Below.refl _ _).alloc (Nat.le_refl _) _, Own.new _ _ _, by simpa using size_madeCells _ _, FilledTo.zero, rfl, fun p hp => absurd hp (by simp), List.Pairwise.nil⟩
  case round =>
    obtain ⟨k, cs, ps, hk, hgk, rfl, hb, hown, hsz, hfill, hmap, hins, hpw⟩ := hrel
    have Hgk := Lib.hid hgk
    have Hsz := Lib.hid hsz
    have Hmap := Lib.hid hmap
    have Hins := Lib.hid hins
    have Hfill := Lib.hid hfill
    have HPW := Lib.hid hpw
    clear hgk hsz hmap hins hfill hpw
    by_cases hlt : k < n
    · obtain ⟨b1, o1, x, rfl, hb1, hxk, hix, x0⟩ := (hx.below hb).at_ hlt
      have Hx := Lib.hid hxk
      have Hix := Lib.hid hix
      have hxl : x.listN ≤ 1048576 := by rw [← hix.1.len]; exact Hin.out _ (List.mem_of_getElem? hxk)
      clear hxk hix
      go_wp2_with fail
      refine (toInt64S_any _ _ _ _ _ Hix.out.1 hxl).mono ?_
      rintro e w1 ⟨v, rfl, hv, hb1'⟩
      obtain ⟨A', c', rfl, _, _, _⟩ := hv.slice i64cells_len
      obtain ⟨n', hn'⟩ : ∃ n', x.list.length = n' := ⟨_, rfl⟩
      rw [hn'] at hv ⊢
      have HN' := Lib.hid hn'
      have hown1 := hown.below' hb1'
      have hbb := hb.trans (hb1'.mono hb.size)
      have Hsize : Hid (w.heap.size < w1.heap.size) := hown1.lt
      have Hpo := Lib.hid hv
      have Hi1 : Hid (∀ p ∈ ps, OwnsL w1 (w.heap.size + 1) 2 1 i64cells (.slice p.listA p.listN p.listC) p.list) := fun p hp => (Hins.out p hp).below' hb1'
      have hltr : w.heap.size < wr.heap.size := hown.lt
      obtain ⟨u0, hu0⟩ : ∃ u, cs[k]? = some u := ⟨_, Array.getElem?_eq_getElem (by have := Hsz.out; omega)⟩
      have f0 : w1.cell? ⟨w.heap.size, k, none⟩ = some u0 := (hown1.cell _).trans hu0
      have hfr : ∀ o, w1.frozen? ⟨w.heap.size, o, none⟩ = false := hown1.frozen
      have Hown := Lib.hid hown1
      have Hbb := Lib.hid hbb
      have hpsl : ps.length = k := by have := congrArg List.length Hmap.out; rw [List.length_map, List.length_take, HLx.out] at this; omega
      have Hpsl := Lib.hid hpsl
      clear hu0 x0 hx hown hb hb1' hown1 hbb hv hpsl hn'
      go_wp2
      go_roundg (n - (k + 1))
      case measure => have := Hgk.out; omega
      case rel =>
        refine ⟨k + 1, putAll cs (k * 1) (RowR.cells ⟨A', n', c', x.list⟩), ps ++ [⟨A', n', c', x.list⟩], by omega, rfl, by go_num, ?_, ?_, ?_, ?_, ?_, ?_, ?_⟩
        · exact Hbb.out.setCell (Nat.le_refl _) _
        · have := Hown.out.put k (.slice A' n' c'); simpa [putAll, RowR.cells] using this
        · rw [putAll_size]; exact Hsz.out
        · exact FilledTo.step (n := n) (fun _ => rfl) (fun i y j v hi hy hv => Hfill.out i y j v hi (by rwa [List.getElem?_append_left (by rw [Hpsl.out]; exact hi)] at hy) hv) hlt Hsz.out (by rw [List.getElem?_append_right (by rw [Hpsl.out]; omega), Hpsl.out]; simp)
        · rw [List.map_append, Hmap.out, List.take_succ_eq_append_getElem (List.getElem?_eq_some_iff.1 Hx.out).1, (List.getElem?_eq_some_iff.1 Hx.out).2]
          simp [RowR.val]
        · intro p' hp'
          rcases List.mem_append.1 hp' with h | h
          · refine (Hi1.out p' h).span (lo := w.heap.size) (hi := w.heap.size + 1) ?_ (fun k hk => .inr ((Hi1.out p' h).lt k hk).1)
            refine Span.setCell ?_ (by exact Nat.le_refl _) (by exact Nat.lt_succ_self _) _
            exact Span.refl _ _ _
          · simp at h
            subst h
            refine (Hpo.out.rebase hltr).span (lo := w.heap.size) (hi := w.heap.size + 1) ?_ (fun k hk => .inr (Nat.lt_of_lt_of_le hltr (Hpo.out.lt k hk).1))
            refine Span.setCell ?_ (by exact Nat.le_refl _) (by exact Nat.lt_succ_self _) _
            exact Span.refl _ _ _
        · rw [List.pairwise_append]
          refine ⟨HPW.out, List.pairwise_singleton _ _, fun a ha q hq b hb1 hb2 => ?_⟩
          simp at hq
          subst hq
          have h1 := ((Hins.out a ha).lt b hb1).2
          have h2 := (Hpo.out.lt b hb2).1
          omega
    · have hkn : k = n := by omega
      subst hkn
      have HE : Hid (Row.Own wr w.heap.size (.slice (some ⟨w.heap.size, 0, none⟩) k k) xs) := by
        have hpsl : ps.length = k := by have := congrArg List.length Hmap.out; rw [List.length_map, List.length_take, HLx.out] at this; omega
        refine ⟨ps, hown.ownsL RowR.cells_len (Nat.le_refl _) hpsl Hsz.out hle Hfill.out, fun p hp => (Hins.out p hp).rebase (Nat.le_succ _), ⟨fun p hp b hb1 hb2 => ?_, HPW.out⟩, ?_⟩
        · have h1 := ((Hins.out p hp).lt b hb1).1
          have hb3 : w.heap.size = b := by simpa [Value.ownBlock] using hb2
          omega
        rw [Hmap.out, List.take_of_length_le (by rw [HLx.out]; exact Nat.le_refl _)]
      clear hown
      go_wp2
      go_ret
      exact RetP.mk HE.out hb
def Row.eqSB (xs ys : List Row) : Bool := xs.length == ys.length && (xs.zip ys).all fun p => p.1.eqB p.2
theorem Row.eqSB_self (xs : List Row) : Row.eqSB xs xs = true := by
  unfold Row.eqSB
  rw [Bool.and_eq_true]
  refine ⟨by simp, List.all_eq_true.2 fun p hp => ?_⟩
  obtain ⟨k, hk⟩ := List.mem_iff_getElem?.1 hp
  rw [List.getElem?_zip_eq_some] at hk
  have e : p.1 = p.2 := by have := hk.1.symm.trans hk.2; injection this
  rw [e]; exact Row.eqB_self _
theorem Row.eqSB_no {xs ys : List Row} {k : Nat} {x y : Row} (hx : xs[k]? = some x) (hy : ys[k]? = some y) (h : x.eqB y = false) : Row.eqSB xs ys = false := by
  unfold Row.eqSB
  rw [Bool.and_eq_false_iff]; right
  rw [List.all_eq_false]
  exact ⟨(x, y), List.mem_iff_getElem?.2 ⟨k, by rw [List.getElem?_zip_eq_some]; exact ⟨hx, hy⟩⟩, by simp [h]⟩
theorem Row.eqSB_len {xs ys : List Row} (h : xs.length ≠ ys.length) : Row.eqSB xs ys = false := by simp [Row.eqSB, h]
theorem Row.eqSB_yes {xs ys : List Row} (h : xs.length = ys.length) (ha : ∀ (j : Nat) (x y : Row), xs[j]? = some x → ys[j]? = some y → x.eqB y = true) : Row.eqSB xs ys = true := by
  unfold Row.eqSB
  rw [Bool.and_eq_true]
  refine ⟨by simp [h], List.all_eq_true.2 fun p hp => ?_⟩
  obtain ⟨k, hk⟩ := List.mem_iff_getElem?.1 hp
  rw [List.getElem?_zip_eq_some] at hk
  exact ha k _ _ hk.1 hk.2
theorem Row.eqSB_step {xs ys : List Row} {k : Nat} {x y : Row} (h : ∀ (j : Nat) (x y : Row), j < k → xs[j]? = some x → ys[j]? = some y → x.eqB y = true) (hx : xs[k]? = some x) (hy : ys[k]? = some y) (he : x.eqB y = true) :
    ∀ (j : Nat) (x y : Row), j < k + 1 → xs[j]? = some x → ys[j]? = some y → x.eqB y = true := fun j x' y' hj h1 h2 => by
  by_cases e : j = k
  · subst e; rw [hx] at h1; rw [hy] at h2; cases h1; cases h2; exact he
  · exact h j x' y' (by omega) h1 h2
set_option maxHeartbeats 1000000 in
theorem eqRowS_any (A B : Option Addr) (n m c1 c2 : Nat) (xs ys : List Row) (w : World) (hx : Row.Sl w A n xs) (hy : Row.Sl w B m ys) :
    Calls Tryd.prog 9 #[.slice A n c1, .slice B m c2] w (Ret (.bool (Row.eqSB xs ys)) w) := by
  have hn := hx.le
  have hm := hy.le
  by_cases hnm : n = m
  · subst hnm
    go_enter Tryd.func9, Tryd.ntmps9
    go_wp2
    go_loopg [5] n (fun gk i wr => ∃ k : Nat, k ≤ n ∧ gk = n - k ∧ i = .int .i64 k ∧ Below w.heap.size w wr ∧ ∀ (j : Nat) (x y : Row), j < k → xs[j]? = some x → ys[j]? = some y → x.eqB y = true)
    case atStart => exact ⟨0, Nat.zero_le _, rfl, rfl, Below.refl _ _, fun j x y h => absurd h (by omega)⟩
    case round =>
      obtain ⟨k, hk, hgk, rfl, hb, hall⟩ := hrel
      have Hall := Lib.hid hall
      have Hgk := Lib.hid hgk
      clear hall hgk
      by_cases hlt : k < n
      · obtain ⟨b1, o1, x, rfl, hb1, hxk, hix, x0⟩ := (hx.below hb).at_ hlt
        obtain ⟨b2, o2, y, rfl, hb2, hyk, hiy, y0⟩ := (hy.below hb).at_ hlt
        have Hx := Lib.hid hxk
        have Hy := Lib.hid hyk
        obtain ⟨eb, heb⟩ : ∃ eb, Row.eqB x.val y.val = eb := ⟨_, rfl⟩
        have heb' : Int64.eqSB x.list y.list = eb := heb
        have HEB := Lib.hid heb
        have HIX := Lib.hid hix
        have HIY := Lib.hid hiy
        have HEB' := Lib.hid heb'
        clear hxk hyk heb heb' hix hiy
        have hsub := fun (g : Sub wr) b o (h : b < wr.heap.size) => g.cell b o h
        go_wp2_with fail
        refine wp_region_sub (by kernel_rfl) (by kernel_rfl) ?_
        repeat (go_big_quiet_step (exact Calls.sub_of_eq (eqInt64S_any _ _ _ _ _ _ _ _ _ (HIX.out.1.below (Sub.below _)) (HIY.out.1.below (Sub.below _))) (congrArg Value.bool HEB'.out)))
        refine wpQuiet_nil ?_
        intro wg hg
        have hbg := hb.trans (hg.mono hb.size)
        clear hsub x0 y0
        cases eb
        · go_wp2
          go_ret
          exact Ret.b (Row.eqSB_no Hx.out Hy.out HEB.out).symm hbg
        · go_wp2
          go_roundg (n - (k + 1))
          case measure => have := Hgk.out; omega
          case rel => exact ⟨k + 1, by omega, rfl, by go_num, hbg, Row.eqSB_step Hall.out Hx.out Hy.out HEB.out⟩
      · go_wp2
        go_ret
        exact Ret.b (Row.eqSB_yes (by rw [hx.len, hy.len]) (fun j x y h1 h2 => Hall.out j x y (by have := (List.getElem?_eq_some_iff.1 h1).1; have := hx.len; omega) h1 h2)).symm hb
  · go_enter Tryd.func9, Tryd.ntmps9
    go_wp2
    go_ret
    exact Ret.b (Row.eqSB_len (by rw [hx.len, hy.len]; exact hnm)).symm (Below.refl _ _)
/-- A list known to lie between two blocks. -/
def Row.OwnU (w : World) (base hi : Nat) (v : Value) (xs : List Row) : Prop := ∃ ps : List RowR, OwnsL w base 29 1 RowR.cells v ps ∧ (∀ p ∈ ps, OwnsL w base 2 1 i64cells (.slice p.listA p.listN p.listC) p.list) ∧ RowR.Apart v ps ∧ ((∀ b, v.ownBlock = some b → b < hi) ∧ ∀ p ∈ ps, ∀ b, p.own = some b → b < hi) ∧ xs = ps.map RowR.val
section
variable {w w' : World} {base hi : Nat} {v : Value} {xs : List Row}
theorem Row.Own.bound (h : Row.Own w base v xs) : Row.OwnU w base w.heap.size v xs := by
  obtain ⟨ps, h1, h2, h3, h4⟩ := h
  exact ⟨ps, h1, h2, h3, ⟨fun b hb => (h1.lt b hb).2, fun p hp b hb => ((h2 p hp).lt b hb).2⟩, h4⟩
theorem Row.OwnU.own (h : Row.OwnU w base hi v xs) : Row.Own w base v xs := by
  obtain ⟨ps, h1, h2, h3, _, h4⟩ := h
  exact ⟨ps, h1, h2, h3, h4⟩
theorem Row.OwnU.sl {A : Option Addr} {n c : Nat} (h : Row.OwnU w base hi (.slice A n c) xs) : Row.Sl w A n xs := h.own.sl
theorem Row.OwnU.below' (h : Row.OwnU w base hi v xs) (hb : Below w.heap.size w w') : Row.OwnU w' base hi v xs := by
  obtain ⟨ps, h1, h2, h3⟩ := h
  exact ⟨ps, h1.below' hb, fun p hp => (h2 p hp).below' hb, h3⟩
theorem Row.OwnU.span {lo' hi' : Nat} (h : Row.OwnU w base hi v xs) (hs : Span lo' hi' w w') (hb : hi' ≤ base) : Row.OwnU w' base hi v xs := by
  obtain ⟨ps, h1, h2, h3⟩ := h
  exact ⟨ps, h1.span hs (fun k hk => .inr (Nat.le_trans hb (h1.lt k hk).1)), fun p hp => (h2 p hp).span hs (fun k hk => .inr (Nat.le_trans hb ((h2 p hp).lt k hk).1)), h3⟩
end
set_option maxRecDepth 100000 in
set_option maxHeartbeats 1000000 in
theorem markRowS_any (base hi : Nat) (A : Option Addr) (n c : Nat) (xs : List Row) (k : Int) (w : World) (h : Row.OwnU w base hi (.slice A n c) xs) (h0 : 0 ≤ k) (h1 : k ≤ 100000000) (hle : n ≤ 1048576) (hin : ∀ x ∈ xs, x.list.length ≤ 1048576) :
    Calls Tryd.prog 13 #[.slice A n c, .int .i64 k] w (fun e w' => ∃ k' : Int, e = .returned (.int .i64 k') ∧ (0 ≤ k' ∧ k' ≤ k + 1048578 * n) ∧ Span base hi w w') := by
  obtain ⟨ps, hown, hins, hap, hup, rfl⟩ := h
  have HUP := Lib.hid hup
  clear hup
  have hpl : ps.length = n := (hown.sl RowR.cells_len).len
  have HIN : Hid (∀ p ∈ ps, p.list.length ≤ 1048576) := fun p hp => hin p.val (List.mem_map.2 ⟨p, hp, rfl⟩)
  have HPL := Lib.hid hpl
  clear hin
  have HAP := Lib.hid hap
  have HINS := Lib.hid hins
  have HOW := Lib.hid hown
  clear hown hins hap hpl
  go_enter Tryd.func13, Tryd.ntmps13
  go_wp2
  go_loopg [1, 5] n (fun gk q i wr => ∃ (j : Nat) (v : Int), j ≤ n ∧ gk = n - j ∧ i = .int .i64 j ∧ q = .int .i64 v ∧ 0 ≤ v ∧ v ≤ k + 1048578 * j ∧ Span base hi w wr ∧ OwnsL wr base 29 1 RowR.cells (.slice A n c) ps ∧ (∀ i p, j ≤ i → ps[i]? = some p → OwnsL wr base 2 1 i64cells (.slice p.listA p.listN p.listC) p.list))
  case atStart => exact ⟨0, k, Nat.zero_le _, rfl, rfl, rfl, h0, by omega, Span.refl _ _ _, HOW.out, fun i p _ hp => HINS.out p (List.mem_of_getElem? hp)⟩
  case round =>
    obtain ⟨j, v, hj, hgj, rfl, rfl, hv0, hv1, hsp, how, hins⟩ := hrel
    have HGJ := Lib.hid hgj
    have HSP := Lib.hid hsp
    have HWR := Lib.hid how
    have HINS2 := Lib.hid hins
    clear hgj hsp hins
    by_cases hlt : j < n
    · obtain ⟨b1, o1, p, rfl, hb1, hpk, hcx⟩ := (how.sl RowR.cells_len).at_ hlt
      have x0 : wr.cell? ⟨b1, o1 + j, none⟩ = some (.slice p.listA p.listN p.listC) := by simpa using hcx 0 _ rfl
      have HP := Lib.hid hpk
      have HPL2 := Lib.hid (HIN.out p (List.mem_of_getElem? hpk))
      have HPO := Lib.hid (HINS2.out j p (Nat.le_refl _) hpk)
      clear hpk hcx how
      go_wp2_with fail
      refine (markInt64S_any base _ p.list v _ HPO.out hv0 (by omega) HPL2.out).mono ?_
      rintro e w2 ⟨rfl, _, hmk⟩
      have HMK : Hid (Span base hi wr w2) := hmk.span (fun b hb => ⟨(HPO.out.lt b hb).1, HUP.out.2 p (List.mem_of_getElem? HP.out) b hb⟩)
      have HKM : Hid (∀ b, b < wr.heap.size → (Value.slice p.listA p.listN p.listC).ownBlock ≠ some b → w2.heap[b]? = wr.heap[b]?) := fun b hb hne => by
        rcases hmk.1 with ⟨g, hg, hs⟩ | ⟨_, rfl⟩
        · exact hs.block b (by simpa using hb) (by have : g ≠ b := fun e => hne (by rw [hg, e]); omega)
        · rfl
      have hv2 : v + (p.list.length : Int) ≤ k + 1048578 * ((j : Int) + 1) := by have := HPL2.out; omega
      obtain ⟨v2, hvv⟩ : ∃ v2, v + (p.list.length : Int) = v2 := ⟨_, rfl⟩
      have hv3 : 0 ≤ v2 ∧ v2 ≤ k + 1048578 * ((j : Int) + 1) := by omega
      rw [hvv]
      have HSP2 := Lib.hid (HSP.out.trans HMK.out)
      have HWR2 : Hid (OwnsL w2 base 29 1 RowR.cells (.slice (some ⟨b1, o1, none⟩) n c) ps) := HWR.out.kept (fun b hb => HKM.out b (HWR.out.lt b hb).2 (fun e => HAP.out.1 p (List.mem_of_getElem? HP.out) b e hb))
      have HINS3 : Hid (∀ i q, j + 1 ≤ i → ps[i]? = some q → OwnsL w2 base 2 1 i64cells (.slice q.listA q.listN q.listC) q.list) := fun i q hi hq => by
        have h1 := HINS2.out i q (by omega) hq
        refine h1.kept (fun b hb => HKM.out b (h1.lt b hb).2 (fun e => ?_))
        have hpw := List.pairwise_iff_getElem.1 HAP.out.2
        have hj' := List.getElem?_eq_some_iff.1 HP.out
        have hi' := List.getElem?_eq_some_iff.1 hq
        have := hpw j i hj'.1 hi'.1 (by omega)
        rw [hj'.2, hi'.2] at this
        exact this b e hb
      clear x0 hvv hv2 hmk
      go_wp2
      go_roundg (n - (j + 1))
      case measure => have := HGJ.out; omega
      case rel => exact ⟨j + 1, v2, by omega, rfl, by go_num, rfl, hv3.1, by have := hv3.2; omega, HSP2.out, HWR2.out, HINS3.out⟩
    · go_wp2
      go_ret
      exact ⟨v, rfl, by omega, HSP.out⟩

end Go.Proofs.YtjidibohbbdboaaDoor
