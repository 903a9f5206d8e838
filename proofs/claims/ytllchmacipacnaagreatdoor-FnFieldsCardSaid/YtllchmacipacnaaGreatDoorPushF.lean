/- An append of one number, as a step of a region that draws its order. -/
import Derived.Test.YtllchmacipacnaaGreatDoorBase
import Derived.Test.YtllchmacipacnaaGreatDoorMem
import Derived.Test.YtllchmacipacnaaGreatDoorOwn2
import Derived.Deep.AppendLies
namespace Go.Proofs.YtllchmacipacnaaGreatDoor
open Go.RowKit

theorem step_push2 {P : Program} {ops : Array Oper} {o : Oper} {a : Act} {K : Act → World → Prop} {Q : Exit → Act → World → Prop} {E : Prop} {w : World} (hw : Region.wanted o (yielded ops a.tmps) = true) (s x : Operand) (t : TypeId)
    (ho : o.op = .call { callee := .builtin .append, args := #[s, x], argTypes := #[t, t] })
    (base : Nat) (e : TypeId) {z : Value} {bytes : Nat} (ht : P.underlying t = some (.slice e)) (hinfo : (P.info? e).map (fun i => (i.zero, i.size, i.bytes)) = some (some z, 1, bytes)) (hzs : z.cells.size = 1)
    (v : Value) (xs : List Int) (y : Int) (gx : Nat) (hs : a.eval s = v) (hown : OwnsL w base e 1 i64cells v xs) (hx : a.eval x = .slice (some ⟨gx, 0, none⟩) 1 1) (hcx : w.cell? ⟨gx, 0, none⟩ = some (.int .i64 y))
    (hlen : xs.length ≤ 1048576) (hby : bytes ≤ 1024) (hbase : base ≤ w.heap.size)
    (h : ∀ g cap w', OwnsL w' base e 1 i64cells (.slice (some ⟨g, 0, none⟩) (xs.length + 1) cap) (xs ++ [y]) → Below base w w' → (∀ b, b < w.heap.size → some b ≠ v.ownBlock → w'.heap[b]? = w.heap[b]?) → (v.ownBlock = some g ∨ g = w.heap.size) → K (a.put o.dst (.slice (some ⟨g, 0, none⟩) (xs.length + 1) cap)) w') : if Region.wanted o (yielded ops a.tmps) = true then Oper.wp P o a w K Q else E := by
  rw [if_pos hw]
  obtain ⟨i, hi, hz, hsize, hbytes⟩ := info_parts hinfo
  refine wp_append_lies w s x t ho base e i z 1 bytes ht hi hz hsize hbytes hzs (by decide) v xs.length (xs.flatMap i64cells) hs hown ⟨gx, 0, none⟩ 1 1 (i64cells y) hx (by rw [i64cells_len]) ?_ (i64cells_one y) (by decide) ?_ ?_ hbase _ rfl ?_
  · intro j u hu
    match j, hu with
    | 0, hu => rw [addr_add0]; simp [i64cells] at hu; subst hu; exact hcx
    | j + 1, hu => simp [i64cells] at hu
  · simp [maxLen]; omega
  · have : (xs.length + 1) * bytes ≤ 1048577 * 1024 := Nat.mul_le_mul (by omega) hby
    omega
  · intro g cap w' h1 h2 h3 _
    have hrow := World.ownsRow.lt hown
    exact h g cap w' (by unfold OwnsL; simpa using h1) ((Below.refl base w).grown h2 hbase (fun k hk => (hrow k hk).1)) h2.block h3
theorem cellR_new (w : World) (x : Value) (t : TypeId) : (w.alloc (.cells #[x] t)).cell? ⟨w.heap.size, 0, none⟩ = some x := by rw [World.cell?_alloc_new]; rfl
theorem Span.new {lo hi : Nat} {a w : World} (h : Span lo hi a w) {p : Addr} (hp : a.heap.size ≤ p.block) (u : Value) : Span lo hi a (w.setCell p u) :=
  ⟨h.os, h.tape, h.output, by simpa using h.size, fun k hk ho => (Below.heap_setCell w p u k (by omega)).trans (h.block k hk ho)⟩
theorem Span.low {lo hi : Nat} {a w w' : World} (h : Span lo hi a w) (hb : Below a.heap.size w w') : Span lo hi a w' :=
  ⟨hb.os.trans h.os, hb.tape.trans h.tape, hb.output.trans h.output, Nat.le_trans h.size hb.size, fun k hk ho => (hb.block k hk).trans (h.block k hk ho)⟩

end Go.Proofs.YtllchmacipacnaaGreatDoor
