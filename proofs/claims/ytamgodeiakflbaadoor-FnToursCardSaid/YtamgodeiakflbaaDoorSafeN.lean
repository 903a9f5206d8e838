/- The reference's search for the safest route: next. -/
import Derived.Test.YtamgodeiakflbaaDoorSafeT
namespace Go.Proofs.YtamgodeiakflbaaDoor
open Go.RowKit

def searchC (n g : Nat) (limit budget : Int) (A : Option Addr) (nl c : Nat) (vr vb : Value) (st : St) : Array Value := #[.int .i64 n, .slice A nl c, .int .i64 g, .int .i64 limit, vr, vb, .int .i64 st.least, .int .i64 (budget - st.bud), .int .i64 budget]
theorem search_cells {n g : Nat} {limit budget : Int} {A : Option Addr} {nl c : Nat} {T : TypeId} {w0 w : World} {bs : Nat} {rt : List Int} {st : St} {vr vb : Value} (h : TourAt (searchC n g limit budget A nl c) T w0 bs rt st vr vb w) :
    w.cell? ⟨bs, 0, none⟩ = some (.int .i64 n) ∧ w.cell? ⟨bs, 1, none⟩ = some (.slice A nl c) ∧ w.cell? ⟨bs, 2, none⟩ = some (.int .i64 g) ∧ w.cell? ⟨bs, 3, none⟩ = some (.int .i64 limit) ∧ w.cell? ⟨bs, 4, none⟩ = some vr ∧ w.cell? ⟨bs, 5, none⟩ = some vb ∧ w.cell? ⟨bs, 6, none⟩ = some (.int .i64 st.least) ∧ w.cell? ⟨bs, 7, none⟩ = some (.int .i64 (budget - st.bud)) ∧ w.cell? ⟨bs, 8, none⟩ = some (.int .i64 budget) ∧ (∀ i, w.frozen? ⟨bs, i, none⟩ = false) ∧ bs < w.heap.size :=
  ⟨h.box.cell 0, h.box.cell 1, h.box.cell 2, h.box.cell 3, h.box.cell 4, h.box.cell 5, h.box.cell 6, h.box.cell 7, h.box.cell 8, h.box.frozen, h.box.lt⟩
theorem search_bud {n g : Nat} {limit budget N : Int} {A : Option Addr} {nl c : Nat} {vr vb : Value} {st : St} (h : budget - st.bud = N) : searchC n g limit budget A nl c vr vb { st with bud := st.bud - 1 } = (searchC n g limit budget A nl c vr vb st).setIfInBounds 7 (.int .i64 (N + 1)) := by
  unfold searchC
  simp only [← h]
  rw [show budget - (st.bud - 1) = budget - st.bud + 1 by omega]
  rfl
def Sought (C : Value → Value → St → Array Value) (T : TypeId) (w0 : World) (bs : Nat) (rt : List Int) (st : St) (e : Ending) (w' : World) : Prop := ∃ (b : Bool) (rt' : List Int) (vr' vb' : Value), e = .returned (.bool b) ∧ TourAt C T w0 bs rt' st vr' vb' w' ∧ (b = true → st.bud < 0) ∧ (b = false → 0 ≤ st.bud ∧ rt' = rt)

end Go.Proofs.YtamgodeiakflbaaDoor
