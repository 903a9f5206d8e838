/- append to a slice of one's own, with the word on the new block. -/
import Derived.Test.YtllchmacipacnaaGreatDoorBase
import Derived.Test.YtllchmacipacnaaGreatDoorMem
import Derived.Maps.AppendAt
namespace Go.Proofs.YtllchmacipacnaaGreatDoor
open Go.RowKit

theorem wpList_push2 {α : Type} {P : Program} {ops : Array Oper} {rest : List Oper} {o : Oper} {a : Act} {Q : Exit → Act → World → Prop} {w : World} (hgd : o.guard = none) (s x : Operand) (t : TypeId)
    (ho : o.op = .call { callee := .builtin .append, args := #[s, x], argTypes := #[t, t] })
    (base : Nat) (e : TypeId) {z : Value} (sz : Nat) {bytes : Nat} (ht : P.underlying t = some (.slice e)) (hinfo : (P.info? e).map (fun i => (i.zero, i.size, i.bytes)) = some (some z, sz, bytes)) (hzs : z.cells.size = sz) (hsz : 0 < sz)
    (cells : α → List Value) (hcl : ∀ y, (cells y).length = sz) (hc1 : ∀ y, ∀ u ∈ cells y, u.oneCell' = true) (cs : Array Value)
    (v : Value) (xs : List α) (y : α) (hcs : cs.toList = cells y) (hs : a.eval s = v) (hown : OwnsL w base e sz cells v xs) (hx : a.eval x = .slice (some ⟨w.heap.size, 0, none⟩) 1 1)
    (hlen : xs.length ≤ 1048576) (hby : bytes ≤ 1024) (hbase : base ≤ w.heap.size)
    (h : ∀ v' w', OwnsL w' base e sz cells v' (xs ++ [y]) → Below base w w' → (∀ b, b < w.heap.size → some b ≠ v.ownBlock → w'.heap[b]? = w.heap[b]?) → (v'.ownBlock = v.ownBlock ∨ v'.ownBlock = some (w.heap.size + 1)) → wpList P ops Q rest (a.put o.dst v') w') : wpList P ops Q (o :: rest) a (w.alloc (.cells cs e)) := by
  obtain ⟨i, hi, hz, hsize, hbytes⟩ := info_parts hinfo
  refine wpList_append_own_at (w := w.alloc (.cells cs e)) hgd s x t ho base e i z sz bytes ht hi hz hsize hbytes hzs hsz v xs.length (xs.flatMap cells) hs (World.ownsRow.alloc hown _) ⟨w.heap.size, 0, none⟩ 1 1 (cells y) hx (by rw [hcl]; omega) ?_ (hc1 y) ?_ ?_ ?_ ?_
  · intro j u hu
    rw [← hcs] at hu
    rw [addr_add0, World.cell?_alloc_new]
    simpa using hu
  · simp [maxLen]; omega
  · have : (xs.length + 1) * bytes ≤ 1048577 * 1024 := Nat.mul_le_mul (by omega) hby
    omega
  · simp; omega
  · intro v' w' h1 h2 _ h4
    have hrow := World.ownsRow.lt hown
    refine h v' w' (by unfold OwnsL; simpa using h1) (((Below.refl base w).alloc hbase _).grown h2 (by simp; omega) (fun k hk => (hrow k hk).1)) (fun b hb hne => ?_) (by simpa using h4)
    rw [h2.block b (by simp; omega) hne]
    exact Below.heap_alloc w _ b hb
/-- A slice of one's own is not touched by a writer of another block. -/
theorem OwnsL.kept {α : Type} {w w' : World} {base : Nat} {e : TypeId} {sz : Nat} {cells : α → List Value} {v : Value} {xs : List α} (h : OwnsL w base e sz cells v xs) (hb : ∀ k, v.ownBlock = some k → w'.heap[k]? = w.heap[k]?) : OwnsL w' base e sz cells v xs := by
  refine ⟨h.1, ?_⟩
  rcases h.2 with h2 | ⟨g, cap, cur, hv, hg, hh, h3⟩
  · exact .inl h2
  · exact .inr ⟨g, cap, cur, hv, hg, (hb g (by rw [hv]; rfl)).trans hh, h3⟩

end Go.Proofs.YtllchmacipacnaaGreatDoor
