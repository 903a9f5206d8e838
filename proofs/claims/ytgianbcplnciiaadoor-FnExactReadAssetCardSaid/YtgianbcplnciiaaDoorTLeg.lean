/- The struct type Leg of the laws: how it lies in memory, how an argument of it is opened, and what the laws' own helpers of it return. -/
import Derived.Test.YtgianbcplnciiaaDoorProg
import Derived.Test.YtgianbcplnciiaaDoorKit
import Derived.Test.YtgianbcplnciiaaDoorMem
namespace Go.Proofs.YtgianbcplnciiaaDoor
open Go.RowKit

structure Leg where
  from_ : Int
  to_ : Int
  minutes : Int
  exposure : Int

def Leg.cells (x : Leg) : List Value := [.int .i64 x.from_, .int .i64 x.to_, .int .i64 x.minutes, .int .i64 x.exposure]
theorem Leg.cells_len (x : Leg) : x.cells.length = 4 := rfl
theorem Leg.cells_one (x : Leg) : ∀ u ∈ x.cells, u.oneCell' = true := by intro u hu; simp [Leg.cells] at hu; rcases hu with rfl | rfl | rfl | rfl <;> rfl
instance : Inhabited Leg := ⟨⟨0, 0, 0, 0⟩⟩
def Leg.Good (x : Leg) : Prop := I64 x.from_ ∧ I64 x.to_ ∧ I64 x.minutes ∧ I64 x.exposure
def Leg.eqB (x y : Leg) : Bool := decide (x.from_ = y.from_) && decide (x.to_ = y.to_) && decide (x.minutes = y.minutes) && decide (x.exposure = y.exposure)
theorem Leg.eqB_self (x : Leg) : x.eqB x = true := by simp [Leg.eqB]
theorem Leg.eqB_iff (x y : Leg) : x.eqB y = true ↔ x = y := by cases x; cases y; simp [Leg.eqB, and_assoc]
theorem Leg.eqB_no (x y : Leg) (h : x.eqB y = false) : x ≠ y := fun e => by rw [(Leg.eqB_iff x y).2 e] at h; cases h

section
variable {H : Type} {enc : TypeId × Value → H} {w : World} {spare : Nat → Bool} {held : Bool}
theorem Leg.of_trod (m : Nat) (cs : List Value) (y : DataW H × List MemPlace) (h : DataW.trod enc Tryd.prog w 0 spare held m 23 cs = some y) : ∃ x : Leg, x.cells = cs ∧ x.Good := by
  obtain ⟨ys, m', _, _, hlen, hyl, hg⟩ := DataW.trod_struct Tryd.underlying23 h
  have hC : Tryd.prog.cellsOf 23 = 4 := by kernel_rfl
  have hCi : Tryd.prog.cellsOf 2 = 1 := by kernel_rfl
  obtain ⟨c0, c1, c2, c3, rfl⟩ := list4 (hlen.trans hC)
  obtain ⟨y0, y1, y2, y3, rfl⟩ := list4 hyl
  have g0 : DataW.trod enc Tryd.prog w 0 spare held m' 2 (([c0, c1, c2, c3].drop 0).take (Tryd.prog.cellsOf 2)) = [y0, y1, y2, y3][0]? := hg 0 _ rfl
  rw [hCi] at g0
  have g1 : DataW.trod enc Tryd.prog w 0 spare held m' 2 (([c0, c1, c2, c3].drop 1).take (Tryd.prog.cellsOf 2)) = [y0, y1, y2, y3][1]? := hg 1 _ rfl
  rw [hCi] at g1
  have g2 : DataW.trod enc Tryd.prog w 0 spare held m' 2 (([c0, c1, c2, c3].drop 2).take (Tryd.prog.cellsOf 2)) = [y0, y1, y2, y3][2]? := hg 2 _ rfl
  rw [hCi] at g2
  have g3 : DataW.trod enc Tryd.prog w 0 spare held m' 2 (([c0, c1, c2, c3].drop 3).take (Tryd.prog.cellsOf 2)) = [y0, y1, y2, y3][3]? := hg 3 _ rfl
  rw [hCi] at g3
  obtain ⟨x0, e0, k0⟩ := trod_int64 (cs := [c0]) (y := y0) Tryd.underlying2 g0
  obtain ⟨x1, e1, k1⟩ := trod_int64 (cs := [c1]) (y := y1) Tryd.underlying2 g1
  obtain ⟨x2, e2, k2⟩ := trod_int64 (cs := [c2]) (y := y2) Tryd.underlying2 g2
  obtain ⟨x3, e3, k3⟩ := trod_int64 (cs := [c3]) (y := y3) Tryd.underlying2 g3
  injection e0 with e0 _
  injection e1 with e1 _
  injection e2 with e2 _
  injection e3 with e3 _
  exact ⟨⟨x0, x1, x2, x3⟩, by simp [Leg.cells, e0, e1, e2, e3], k0, k1, k2, k3⟩
end

theorem Leg.at_ {w : World} {A : Option Addr} {n : Nat} {xs : List Leg} (h : SliceOf w 4 Leg.cells A n xs) {k : Nat} (hk : k < n) :
    ∃ b off x, A = some ⟨b, off, none⟩ ∧ b < w.heap.size ∧ xs[k]? = some x ∧ w.cell? ⟨b, off + k * 4, none⟩ = some (.int .i64 x.from_) ∧ w.cell? ⟨b, off + k * 4 + 1, none⟩ = some (.int .i64 x.to_) ∧ w.cell? ⟨b, off + k * 4 + 2, none⟩ = some (.int .i64 x.minutes) ∧ w.cell? ⟨b, off + k * 4 + 3, none⟩ = some (.int .i64 x.exposure) := by
  obtain ⟨b, off, x, hA, hb, hx, hc⟩ := h.at_ hk
  exact ⟨b, off, x, hA, hb, hx, hc 0 _ rfl, hc 1 _ rfl, hc 2 _ rfl, hc 3 _ rfl⟩

set_option maxHeartbeats 400000 in
theorem toLeg_any (x : Leg) (w : World) : Calls Tryd.prog 8 #[.agg #[.int .i64 x.from_, .int .i64 x.to_, .int .i64 x.minutes, .int .i64 x.exposure]] w (Ret (.agg #[.int .i64 x.from_, .int .i64 x.to_, .int .i64 x.minutes, .int .i64 x.exposure]) w) := by
  go_enter Tryd.func8, Tryd.ntmps8
  go_wp2
  refine bodyPost_ret (v := .agg #[.int .i64 x.from_, .int .i64 x.to_, .int .i64 x.minutes, .int .i64 x.exposure]) (by simp [results, Tryd.results8, go_sem]) rfl (Ret.mk rfl ?_)
  repeat (first | exact Below.refl _ _ | refine Below.setCell ?_ (by simp <;> omega) _ | refine Below.alloc ?_ (by simp <;> omega) _)

set_option maxHeartbeats 400000 in
theorem eqLeg_any (x y : Leg) (w : World) : Calls Tryd.prog 17 #[.agg #[.int .i64 x.from_, .int .i64 x.to_, .int .i64 x.minutes, .int .i64 x.exposure], .agg #[.int .i64 y.from_, .int .i64 y.to_, .int .i64 y.minutes, .int .i64 y.exposure]] w (Ret (.bool (x.eqB y)) w) := by
  go_enter Tryd.func17, Tryd.ntmps17
  go_wp2
  all_goals (go_ret; refine Ret.b ?_ (((Below.refl _ _).alloc (Nat.le_refl _) _).alloc (by simp) _))
  all_goals (simp_all [Leg.eqB])






end Go.Proofs.YtgianbcplnciiaaDoor
