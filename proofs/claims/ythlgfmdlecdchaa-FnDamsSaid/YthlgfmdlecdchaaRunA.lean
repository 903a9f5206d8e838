/- RunMass on both sides. -/
import Derived.Test.YthlgfmdlecdchaaBase
import Derived.Test.YthlgfmdlecdchaaMem
import Derived.Test.YthlgfmdlecdchaaTInt64
import Derived.Test.YthlgfmdlecdchaaWithin
import Derived.Test.YthlgfmdlecdchaaTGrid
import Derived.Test.YthlgfmdlecdchaaGrids
import Derived.Test.YthlgfmdlecdchaaWays
import Derived.Test.YthlgfmdlecdchaaSpecGo
import Derived.Test.YthlgfmdlecdchaaPush2
import Derived.Test.YthlgfmdlecdchaaSpecWays
import Derived.Test.YthlgfmdlecdchaaRunCode
import Derived.Test.YthlgfmdlecdchaaRunCode2
import Derived.Test.YthlgfmdlecdchaaRunP
import Derived.Test.YthlgfmdlecdchaaRunQ
import Derived.Test.YthlgfmdlecdchaaArr
import Derived.Test.YthlgfmdlecdchaaRunL
import Derived.Test.YthlgfmdlecdchaaSpecStep
import Derived.Test.YthlgfmdlecdchaaImplRoute
import Derived.Test.YthlgfmdlecdchaaArr2
import Derived.Test.YthlgfmdlecdchaaSpecRun
import Derived.Test.YthlgfmdlecdchaaImplRun
namespace Go.Proofs.Ythlgfmdlecdchaa
open Go.RowKit

theorem sum_le_mul {m : Int} : ∀ (l : List Int), (∀ x ∈ l, x ≤ m) → l.sum ≤ m * l.length
  | [], _ => by simp
  | x :: l, h => by
    have h1 := sum_le_mul l (fun y hy => h y (by simp [hy]))
    have h2 := h x (by simp)
    rw [List.sum_cons, List.length_cons, Int.natCast_add, Int.mul_add]
    omega
/-- What a run may count on. -/
structure RunOk (g : Grid) (ms : List Int) (fr : Int) : Prop where
  grid : gridB g = true
  f1 : 1 ≤ fr
  f2 : fr ≤ 5000
  len : ms.length = g.heights.length
  pos : ∀ x ∈ ms, 0 ≤ x
  sum : ms.sum ≤ 64000000
theorem massB_parts {g : Grid} {ms : List Int} (hg : gridB g = true) (h : massB g ms = true) : ms.length = g.heights.length ∧ (∀ x ∈ ms, 0 ≤ x ∧ x ≤ 1000000) ∧ ms.sum ≤ 64000000 := by
  unfold massB at h
  rw [Bool.and_eq_true, decide_eq_true_eq, List.all_eq_true] at h
  have hb : ∀ x ∈ ms, 0 ≤ x ∧ x ≤ 1000000 := fun x hx => inB_iff.1 (h.2 x hx)
  have hp := gridB_parts hg
  have hm := (mul_i64 hp.1 hp.2.1).2.2
  have hs := sum_le_mul ms (fun x hx => (hb x hx).2)
  have hl : (ms.length : Int) ≤ 64 := by rw [h.1, hp.2.2.2.1]; exact hm
  refine ⟨h.1, hb, ?_⟩
  omega
theorem runC_zero {g : Grid} {ms : List Int} {fr : Int} (h : runC g ms fr = 0) : RunOk g ms fr := by
  unfold runC at h
  cases h1 : gridB g <;> cases h2 : inB fr 1 5000 <;> cases h3 : massB g ms <;> simp [h1, h2, h3] at h
  have hf := inB_iff.1 h2
  have hm := massB_parts h1 h3
  exact ⟨h1, hf.1, hf.2, hm.1, fun x hx => (hm.2.1 x hx).1, hm.2.2⟩
def massR (g : Grid) (ms : List Int) (fr : Int) : List Int := if runC g ms fr = 0 then (stT g fr ms (runN g fr ms)).settled else []
def massN (g : Grid) (ms : List Int) (fr : Int) : Int := if runC g ms fr = 0 then (runN g fr ms : Int) else 0
theorem massR_len (g : Grid) (ms : List Int) (fr : Int) : (massR g ms fr).length ≤ 1048576 := by
  unfold massR
  by_cases h : runC g ms fr = 0
  · rw [if_pos h]
    have hk := runC_zero h
    rw [(stT_ok (fr := fr) hk.grid hk.len hk.f1 hk.pos _).l2, hk.len]
    have hp := gridB_parts hk.grid
    have hm := (mul_i64 hp.1 hp.2.1).2.2
    have := hp.2.2.2.1
    omega
  · rw [if_neg h]; simp

end Go.Proofs.Ythlgfmdlecdchaa
