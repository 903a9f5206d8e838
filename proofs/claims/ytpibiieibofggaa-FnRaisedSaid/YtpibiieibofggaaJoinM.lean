/- The memory of a search outwards: what has been seen, the sets so far, the queue. -/
import Derived.Test.YtpibiieibofggaaBase
import Derived.Test.YtpibiieibofggaaMem
import Derived.Test.YtpibiieibofggaaTInt64
import Derived.Test.YtpibiieibofggaaTRow
import Derived.Test.YtpibiieibofggaaPush2
import Derived.Test.YtpibiieibofggaaOwn2
import Derived.Test.YtpibiieibofggaaSortW
namespace Go.Proofs.Ytpibiieibofggaa
open Go.RowKit

structure QAt (w0 : World) (bs : Nat) (sv : List Bool) (vs : Value) (ps : List RowR) (vq : Value) (q : List Int) (w : World) : Prop where
  seen : Own w bs 4 (sv.map Value.bool).toArray
  sets : OwnsL w w0.heap.size 27 1 RowR.cells vs ps
  que : OwnsL w w0.heap.size 2 1 i64cells vq q
  below : Below w0.heap.size w0 w
  base : w0.heap.size ≤ bs
  ns : ∀ k, vs.ownBlock = some k → k ≠ bs
  nq : ∀ k, vq.ownBlock = some k → k ≠ bs
  ne : ∀ k, vq.ownBlock = some k → vs.ownBlock ≠ some k
section
variable {w0 w w' : World} {bs : Nat} {sv : List Bool} {vs vq v' : Value} {ps : List RowR} {q q' : List Int}
theorem QAt.grow (h : QAt w0 bs sv vs ps vq q w) (hb : Below w.heap.size w w') : QAt w0 bs sv vs ps vq q w' :=
  ⟨h.seen.below' hb, h.sets.below' hb, h.que.below' hb, h.below.trans (hb.mono h.below.size), h.base, h.ns, h.nq, h.ne⟩
theorem QAt.cell (h : QAt w0 bs sv vs ps vq q w) {i : Nat} {b : Bool} (hi : sv[i]? = some b) : w.cell? ⟨bs, i, none⟩ = some (.bool b) := by
  refine (h.seen.cell i).trans ?_
  simp [hi]
theorem QAt.mark (h : QAt w0 bs sv vs ps vq q w) (i : Nat) : QAt w0 bs (sv.set i true) vs ps vq q (w.setCell ⟨bs, i, none⟩ (.bool true)) := by
  refine ⟨?_, h.sets.kept (fun k hk => Below.heap_setCell w ⟨bs, i, none⟩ _ k (h.ns k hk)), h.que.kept (fun k hk => Below.heap_setCell w ⟨bs, i, none⟩ _ k (h.nq k hk)), h.below.setCell h.base _, h.base, h.ns, h.nq, h.ne⟩
  have := h.seen.put i (.bool true)
  rw [List.map_set]
  simpa using this
/-- A new queue of one. -/
theorem QAt.one (h : QAt w0 bs sv vs ps (.slice none 0 0) [] w) (x : Int) : QAt w0 bs sv vs ps (.slice (some ⟨w.heap.size, 0, none⟩) 1 1) [x] (w.alloc (.cells #[.int .i64 x] 2)) := by
  have hg := h.grow ((Below.refl _ _).alloc (Nat.le_refl _) (.cells #[.int .i64 x] 2))
  refine ⟨hg.seen, hg.sets, ⟨rfl, .inr ⟨w.heap.size, 1, #[.int .i64 x], rfl, h.below.size, Own.new w 2 _, by simp, by simp [maxLen], rfl, rfl⟩⟩, hg.below, hg.base, hg.ns, fun k hk => ?_, fun k hk hv => ?_⟩
  · have h1 : w.heap.size = k := by simpa [Value.ownBlock] using hk
    have h2 := h.seen.lt
    omega
  · have h1 : w.heap.size = k := by simpa [Value.ownBlock] using hk
    have h2 := (h.sets.lt k hv).2
    omega
theorem QAt.push (h : QAt w0 bs sv vs ps vq q w) (hown : OwnsL w' w0.heap.size 2 1 i64cells v' q') (hb : Below w0.heap.size w w') (hkp : ∀ b, b < w.heap.size → some b ≠ vq.ownBlock → w'.heap[b]? = w.heap[b]?) (hob : v'.ownBlock = vq.ownBlock ∨ v'.ownBlock = some (w.heap.size + 1)) : QAt w0 bs sv vs ps v' q' w' := by
  refine ⟨(hkp bs h.seen.lt (fun e => h.nq bs e.symm rfl)).trans h.seen, h.sets.kept (fun k hk => hkp k (h.sets.lt k hk).2 (fun e => h.ne k e.symm hk)), hown, h.below.trans hb, h.base, h.ns, fun k hk => ?_, fun k hk hv => ?_⟩
  · rcases hob with e | e
    · exact h.nq k (e ▸ hk)
    · rw [e] at hk; injection hk with hk; have := h.seen.lt; omega
  · rcases hob with e | e
    · exact h.ne k (e ▸ hk) hv
    · rw [e] at hk; injection hk with hk; have := (h.sets.lt k hv).2; omega
/-- The queue's own block written over. -/
theorem QAt.sorted {g : Nat} (h : QAt w0 bs sv vs ps vq q w) (hv : vq.ownBlock = some g) (hown : OwnsL w' w0.heap.size 2 1 i64cells vq q') (hg : w.grownBy w' (some g)) : QAt w0 bs sv vs ps vq q' w' := by
  have hkp : ∀ b, b < w.heap.size → b ≠ g → w'.heap[b]? = w.heap[b]? := fun b hb hne => hg.block b hb (fun e => hne (by injection e))
  refine ⟨(hkp bs h.seen.lt (fun e => h.nq g hv e.symm)).trans h.seen, h.sets.kept (fun k hk => hkp k (h.sets.lt k hk).2 (fun e => h.ne k (e ▸ hv) hk)), hown, h.below.trans (Below.grownI hg h.below.size (h.que.lt g hv).1), h.base, h.ns, h.nq, h.ne⟩
/-- A set more, the queue given up. -/
theorem QAt.pushSet {ps' : List RowR} (h : QAt w0 bs sv vs ps vq q w) (hown : OwnsL w' w0.heap.size 27 1 RowR.cells v' ps') (hb : Below w0.heap.size w w') (hkp : ∀ b, b < w.heap.size → some b ≠ vs.ownBlock → w'.heap[b]? = w.heap[b]?) (hob : v'.ownBlock = vs.ownBlock ∨ v'.ownBlock = some (w.heap.size + 1)) : QAt w0 bs sv v' ps' (.slice none 0 0) [] w' := by
  refine ⟨(hkp bs h.seen.lt (fun e => h.ns bs e.symm rfl)).trans h.seen, hown, OwnsL.nil_ _ _ _ _ _, h.below.trans hb, h.base, fun k hk => ?_, fun k hk => by simp [Value.ownBlock] at hk, fun k hk => by simp [Value.ownBlock] at hk⟩
  rcases hob with e | e
  · exact h.ns k (e ▸ hk)
  · rw [e] at hk; injection hk with hk; have := h.seen.lt; omega
end

end Go.Proofs.Ytpibiieibofggaa
