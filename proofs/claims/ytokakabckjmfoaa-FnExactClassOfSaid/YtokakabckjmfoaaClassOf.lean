/- ClassOf of the program and of the reference return the same class and code. -/
import Derived.Test.YtokakabckjmfoaaOTest
namespace Go.Proofs.Ytokakabckjmfoaa
open Go.RowKit

def clsA (x : Test) : Int := if x.oneB = true then classF x.kind x.score x.quality else 0
def clsB (x : Test) : Int := if x.oneB = true then 0 else 1
theorem Test.kind_of {x : Test} (h : x.oneB = true) : (x.kind = 1 ∨ x.kind = 2 ∨ x.kind = 3) ∧ 1 ≤ x.quality ∧ x.quality ≤ 3 := by
  unfold Test.oneB at h
  simp only [Bool.and_eq_true, inB_iff] at h
  obtain ⟨⟨⟨h1, _⟩, _⟩, h4⟩ := h
  refine ⟨?_, h1⟩
  split at h4
  · right; right; assumption
  · simp only [Bool.and_eq_true, Bool.or_eq_true, decide_eq_true_eq] at h4
    rcases h4.1 with h | h
    · exact .inl h
    · exact .inr (.inl h)

set_option maxHeartbeats 1000000 in
theorem implClassOf_any (x : Test) (w : World) :
    Calls Try.prog 45 #[.agg #[.int .i64 x.kind, .int .i64 x.score, .int .i64 x.quality, .int .i64 x.depth, .int .i64 x.hour]] w (Ret (.tuple #[.int .i64 (clsA x), .int .i64 (clsB x)]) w) := by
  cases hv : x.oneB
  · have HV := Lib.hid hv
    go_enter Try.func45, Try.ntmps45
    go_wp2_with fail
    refine (implTestvalid_any x _).mono ?_
    rintro e w1 ⟨rfl, hb⟩
    go_wp2
    go_ret2
    exact Ret.ii (by simp [clsA, HV.out]) (by simp [clsB, HV.out]) (((Below.refl _ _).alloc (Nat.le_refl _) _).trans (hb.mono (by simp)))
  · have HV := Lib.hid hv
    have hk := Test.kind_of hv
    have hlt : w.heap.size < (w.alloc (.cells #[.int .i64 x.kind, .int .i64 x.score, .int .i64 x.quality, .int .i64 x.depth, .int .i64 x.hour] 62)).heap.size := by simp
    clear hlt
    go_enter Try.func45, Try.ntmps45
    go_wp2_with fail
    refine (implTestvalid_any x _).mono ?_
    rintro e w1 ⟨rfl, hb⟩
    have hc := fun o => hb.cell (p := ⟨w.heap.size, o, none⟩) (by simp)
    simp only [World.cell?_alloc_new] at hc
    go_wp2_with fail
    refine (class_any x.kind x.score x.quality x.depth x.hour _ hk.1 hk.2.1 hk.2.2).mono ?_
    rintro e w2 ⟨rfl, hb2⟩
    go_wp2
    go_ret2
    exact Ret.ii (by simp [clsA, HV.out]) (by simp [clsB, HV.out]) ((((Below.refl _ _).alloc (Nat.le_refl _) _).trans (hb.mono (by simp))).trans (hb2.mono (Nat.le_trans (by simp) hb.size)))

set_option maxHeartbeats 1000000 in
theorem specClassOf_any (x : Test) (w : World) :
    Calls Try.prog 43 #[.agg #[.int .i64 x.kind, .int .i64 x.score, .int .i64 x.quality, .int .i64 x.depth, .int .i64 x.hour]] w (Ret (.tuple #[.int .i64 (clsA x), .int .i64 (clsB x)]) w) := by
  have hcl := fun (o : Nat) => World.cell?_alloc_new w #[.int .i64 x.kind, .int .i64 x.score, .int .i64 x.quality, .int .i64 x.depth, .int .i64 x.hour] 64 o
  have hsz : w.heap.size < (w.alloc (.cells #[.int .i64 x.kind, .int .i64 x.score, .int .i64 x.quality, .int .i64 x.depth, .int .i64 x.hour] 64)).heap.size := by simp
  have HC := Lib.hid hcl
  have HS := Lib.hid hsz
  clear hcl hsz
  cases hv : x.oneB
  · have HV := Lib.hid hv
    go_enter Try.func43, Try.ntmps43
    go_wp2_with fail
    refine (specTestOne_any x _ _ _ HS.out (by rw [HC.out]; rfl) (by rw [HC.out]; rfl) (by rw [HC.out]; rfl) (by rw [HC.out]; rfl) (by rw [HC.out]; rfl)).mono ?_
    rintro e w1 ⟨rfl, hb⟩
    go_wp2
    go_ret2
    exact Ret.ii (by simp [clsA, HV.out]) (by simp [clsB, HV.out]) (((Below.refl _ _).alloc (Nat.le_refl _) _).trans (hb.mono (by simp)))
  · have HV := Lib.hid hv
    have hk := Test.kind_of hv
    go_enter Try.func43, Try.ntmps43
    go_wp2_with fail
    refine (specTestOne_any x _ _ _ HS.out (by rw [HC.out]; rfl) (by rw [HC.out]; rfl) (by rw [HC.out]; rfl) (by rw [HC.out]; rfl) (by rw [HC.out]; rfl)).mono ?_
    rintro e w1 ⟨rfl, hb⟩
    have hc := fun o => (hb.cell (p := ⟨w.heap.size, o, none⟩) HS.out).trans (HC.out o)
    have HK := Lib.hid hc
    clear hc
    go_wp2_with fail
    refine (l08Class_any x.kind x.score x.quality _ _ _ (Nat.lt_of_lt_of_le HS.out hb.size) (by rw [HK.out]; rfl) (by rw [HK.out]; rfl) (by rw [HK.out]; rfl) hk.1 hk.2.1 hk.2.2).mono ?_
    rintro e w2 ⟨rfl, hb2⟩
    go_wp2
    go_ret2
    exact Ret.ii (by simp [clsA, HV.out]) (by simp [clsB, HV.out]) ((((Below.refl _ _).alloc (Nat.le_refl _) _).trans (hb.mono (by simp))).trans (hb2.mono (Nat.le_trans (by simp) hb.size)))

end Go.Proofs.Ytokakabckjmfoaa
