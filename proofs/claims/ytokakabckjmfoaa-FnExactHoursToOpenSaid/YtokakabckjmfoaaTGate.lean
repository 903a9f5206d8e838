/- The struct type Gate of the laws: how it lies in memory, how an argument of it is opened, and what the laws' own helpers of it return. -/
import Derived.Test.YtokakabckjmfoaaProg
import Derived.Test.YtokakabckjmfoaaKit
namespace Go.Proofs.Ytokakabckjmfoaa
open Go.RowKit

structure Gate where
  id : ByteArray
  shut : Int
  open_ : Int
  hold : Int
  shuts : Bool
  calm : Int

def Gate.cells (x : Gate) : List Value := [.string x.id, .int .i64 x.shut, .int .i64 x.open_, .int .i64 x.hold, .bool x.shuts, .int .i64 x.calm]
instance : Inhabited Gate := ⟨⟨ByteArray.empty, 0, 0, 0, false, 0⟩⟩
def Gate.Good (x : Gate) : Prop := I64 x.shut ∧ I64 x.open_ ∧ I64 x.hold ∧ I64 x.calm ∧ x.id.size ≤ maxLen
def Gate.eqB (x y : Gate) : Bool := decide (x.id.toList = y.id.toList) && decide (x.shut = y.shut) && decide (x.open_ = y.open_) && decide (x.hold = y.hold) && decide (x.shuts = y.shuts) && decide (x.calm = y.calm)
theorem Gate.eqB_self (x : Gate) : x.eqB x = true := by simp [Gate.eqB]
theorem Gate.eqB_iff (x y : Gate) : x.eqB y = true ↔ x = y := by cases x; cases y; simp [Gate.eqB, and_assoc, bytes_inj]
theorem Gate.eqB_no (x y : Gate) (h : x.eqB y = false) : x ≠ y := fun e => by rw [(Gate.eqB_iff x y).2 e] at h; cases h

section
variable {H : Type} {enc : TypeId × Value → H} {w : World} {spare : Nat → Bool} {held : Bool}
theorem Gate.of_trod (m : Nat) (cs : List Value) (y : DataW H × List MemPlace) (h : DataW.trod enc Try.prog w 0 spare held m 26 cs = some y) : ∃ x : Gate, x.cells = cs ∧ x.Good := by
  obtain ⟨ys, m', _, _, hlen, hyl, hg⟩ := DataW.trod_struct Try.underlying26 h
  have hC : Try.prog.cellsOf 26 = 6 := by kernel_rfl
  have hCb : Try.prog.cellsOf 4 = 1 := by kernel_rfl
  have hCi : Try.prog.cellsOf 2 = 1 := by kernel_rfl
  have hCs : Try.prog.cellsOf 9 = 1 := by kernel_rfl
  obtain ⟨c0, c1, c2, c3, c4, c5, rfl⟩ := list6 (hlen.trans hC)
  obtain ⟨y0, y1, y2, y3, y4, y5, rfl⟩ := list6 hyl
  have g0 : DataW.trod enc Try.prog w 0 spare held m' 9 (([c0, c1, c2, c3, c4, c5].drop 0).take (Try.prog.cellsOf 9)) = [y0, y1, y2, y3, y4, y5][0]? := hg 0 _ rfl
  rw [hCs] at g0
  have g1 : DataW.trod enc Try.prog w 0 spare held m' 2 (([c0, c1, c2, c3, c4, c5].drop 1).take (Try.prog.cellsOf 2)) = [y0, y1, y2, y3, y4, y5][1]? := hg 1 _ rfl
  rw [hCi] at g1
  have g2 : DataW.trod enc Try.prog w 0 spare held m' 2 (([c0, c1, c2, c3, c4, c5].drop 2).take (Try.prog.cellsOf 2)) = [y0, y1, y2, y3, y4, y5][2]? := hg 2 _ rfl
  rw [hCi] at g2
  have g3 : DataW.trod enc Try.prog w 0 spare held m' 2 (([c0, c1, c2, c3, c4, c5].drop 3).take (Try.prog.cellsOf 2)) = [y0, y1, y2, y3, y4, y5][3]? := hg 3 _ rfl
  rw [hCi] at g3
  have g4 : DataW.trod enc Try.prog w 0 spare held m' 4 (([c0, c1, c2, c3, c4, c5].drop 4).take (Try.prog.cellsOf 4)) = [y0, y1, y2, y3, y4, y5][4]? := hg 4 _ rfl
  rw [hCb] at g4
  have g5 : DataW.trod enc Try.prog w 0 spare held m' 2 (([c0, c1, c2, c3, c4, c5].drop 5).take (Try.prog.cellsOf 2)) = [y0, y1, y2, y3, y4, y5][5]? := hg 5 _ rfl
  rw [hCi] at g5
  obtain ⟨x0, e0, k0⟩ := trod_str (cs := [c0]) (y := y0) Try.underlying9 g0
  obtain ⟨x1, e1, k1⟩ := trod_int64 (cs := [c1]) (y := y1) Try.underlying2 g1
  obtain ⟨x2, e2, k2⟩ := trod_int64 (cs := [c2]) (y := y2) Try.underlying2 g2
  obtain ⟨x3, e3, k3⟩ := trod_int64 (cs := [c3]) (y := y3) Try.underlying2 g3
  obtain ⟨x4, e4, k4⟩ := trod_bool' (cs := [c4]) (y := y4) Try.underlying4 g4
  obtain ⟨x5, e5, k5⟩ := trod_int64 (cs := [c5]) (y := y5) Try.underlying2 g5
  injection e0 with e0 _
  injection e1 with e1 _
  injection e2 with e2 _
  injection e3 with e3 _
  injection e4 with e4 _
  injection e5 with e5 _
  exact ⟨⟨x0, x1, x2, x3, x4, x5⟩, by simp [Gate.cells, e0, e1, e2, e3, e4, e5], k1, k2, k3, k5, k0⟩
end

theorem Gate.at_ {w : World} {A : Option Addr} {n : Nat} {xs : List Gate} (h : SliceOf w 6 Gate.cells A n xs) {k : Nat} (hk : k < n) :
    ∃ b off x, A = some ⟨b, off, none⟩ ∧ b < w.heap.size ∧ xs[k]? = some x ∧ w.cell? ⟨b, off + k * 6, none⟩ = some (.string x.id) ∧ w.cell? ⟨b, off + k * 6 + 1, none⟩ = some (.int .i64 x.shut) ∧ w.cell? ⟨b, off + k * 6 + 2, none⟩ = some (.int .i64 x.open_) ∧ w.cell? ⟨b, off + k * 6 + 3, none⟩ = some (.int .i64 x.hold) ∧ w.cell? ⟨b, off + k * 6 + 4, none⟩ = some (.bool x.shuts) ∧ w.cell? ⟨b, off + k * 6 + 5, none⟩ = some (.int .i64 x.calm) := by
  obtain ⟨b, off, x, hA, hb, hx, hc⟩ := h.at_ hk
  exact ⟨b, off, x, hA, hb, hx, hc 0 _ rfl, hc 1 _ rfl, hc 2 _ rfl, hc 3 _ rfl, hc 4 _ rfl, hc 5 _ rfl⟩

set_option maxHeartbeats 400000 in
theorem toGate_any (x : Gate) (w : World) : Calls Try.prog 19 #[.agg #[.string x.id, .int .i64 x.shut, .int .i64 x.open_, .int .i64 x.hold, .bool x.shuts, .int .i64 x.calm]] w (Ret (.agg #[.string x.id, .int .i64 x.shut, .int .i64 x.open_, .int .i64 x.hold, .bool x.shuts, .int .i64 x.calm]) w) := by
  go_enter Try.func19, Try.ntmps19
  go_wp2
  refine bodyPost_ret (v := .agg #[.string x.id, .int .i64 x.shut, .int .i64 x.open_, .int .i64 x.hold, .bool x.shuts, .int .i64 x.calm]) (by simp [results, Try.results19, go_sem]) rfl (Ret.mk rfl ?_)
  repeat (first | exact Below.refl _ _ | refine Below.setCell ?_ (by simp <;> omega) _ | refine Below.alloc ?_ (by simp <;> omega) _)





set_option maxHeartbeats 400000 in
theorem szGate_any (x : Gate) (left : Int) (w : World) (hg : x.Good) (h0 : 0 ≤ left) (h1 : left ≤ 1048576) : Calls Try.prog 17 #[.agg #[.string x.id, .int .i64 x.shut, .int .i64 x.open_, .int .i64 x.hold, .bool x.shuts, .int .i64 x.calm], .int .i64 left] w (RetP (fun v _ => ∃ r : Int, v = .int .i64 r ∧ (r < 0 ∨ 0 ≤ r ∧ r ≤ left)) w) := by
  have hs : (x.id.size : Int) ≤ 9223372036854775807 := by have := hg.2.2.2.2; simp [maxLen] at this; omega
  clear hg
  go_enter Try.func17, Try.ntmps17
  go_wp2
  all_goals (go_ret; refine RetP.mk ⟨_, rfl, ?_⟩ ((Below.refl _ _).alloc (Nat.le_refl _) _))
  all_goals omega


end Go.Proofs.Ytokakabckjmfoaa
