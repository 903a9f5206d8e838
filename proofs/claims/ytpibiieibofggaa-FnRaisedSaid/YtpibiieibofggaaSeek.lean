/- The memory of a search behind a pointer: its box, the list so far, the best one. -/
import Derived.Test.YtpibiieibofggaaOwn2
namespace Go.Proofs.Ytpibiieibofggaa
open Go.RowKit

structure SeekAt {σ : Type} (C : Value → Value → σ → Array Value) (best : σ → List Int) (T : TypeId) (w0 : World) (bs : Nat) (rt : List Int) (st : σ) (vr vb : Value) (w : World) : Prop where
  box : Own w bs T (C vr vb st)
  route : OwnsL w w0.heap.size 2 1 i64cells vr rt
  best : OwnsL w w0.heap.size 2 1 i64cells vb (best st)
  rb : ∀ k, vr.ownBlock = some k → k ≠ bs
  bb : ∀ k, vb.ownBlock = some k → k ≠ bs
  ne : ∀ k, vr.ownBlock = some k → vb.ownBlock ≠ some k
  below : Below w0.heap.size w0 w
  base : w0.heap.size ≤ bs
section
variable {σ : Type} {C : Value → Value → σ → Array Value} {best : σ → List Int} {T : TypeId} {w0 w w' : World} {bs : Nat} {rt rt' : List Int} {st st' : σ} {vr vb vr' vb' : Value}
theorem SeekAt.grow (h : SeekAt C best T w0 bs rt st vr vb w) (hb : Below w.heap.size w w') : SeekAt C best T w0 bs rt st vr vb w' :=
  ⟨h.box.below' hb, h.route.below' hb, h.best.below' hb, h.rb, h.bb, h.ne, h.below.trans (hb.mono h.below.size), h.base⟩
/-- A store into the box. -/
theorem SeekAt.put (h : SeekAt C best T w0 bs rt st vr vb w) (i : Nat) (u : Value) (hc : C vr' vb' st' = (C vr vb st).setIfInBounds i u) (hr : OwnsL w w0.heap.size 2 1 i64cells vr' rt') (hb : OwnsL w w0.heap.size 2 1 i64cells vb' (best st')) (rb : ∀ k, vr'.ownBlock = some k → k ≠ bs) (bb : ∀ k, vb'.ownBlock = some k → k ≠ bs) (ne : ∀ k, vr'.ownBlock = some k → vb'.ownBlock ≠ some k) : SeekAt C best T w0 bs rt' st' vr' vb' (w.setCell ⟨bs, i, none⟩ u) :=
  ⟨by rw [hc]; exact h.box.put i u, hr.kept (fun k hk => Below.heap_setCell w ⟨bs, i, none⟩ u k (rb k hk)), hb.kept (fun k hk => Below.heap_setCell w ⟨bs, i, none⟩ u k (bb k hk)), rb, bb, ne, h.below.setCell h.base u, h.base⟩
theorem SeekAt.num (h : SeekAt C best T w0 bs rt st vr vb w) (i : Nat) (u : Value) (hc : C vr vb st' = (C vr vb st).setIfInBounds i u) (hb : best st' = best st) : SeekAt C best T w0 bs rt st' vr vb (w.setCell ⟨bs, i, none⟩ u) :=
  h.put i u hc h.route (by rw [hb]; exact h.best) h.rb h.bb h.ne
/-- The same memory under another name of the state. -/
theorem SeekAt.same (h : SeekAt C best T w0 bs rt st vr vb w) (hc : C vr vb st' = C vr vb st) (hb : best st' = best st) : SeekAt C best T w0 bs rt st' vr vb w :=
  ⟨by rw [hc]; exact h.box, h.route, by rw [hb]; exact h.best, h.rb, h.bb, h.ne, h.below, h.base⟩
theorem SeekAt.append {i : Nat} {v' : Value} (h : SeekAt C best T w0 bs rt st vr vb w) (hown : OwnsL w' w0.heap.size 2 1 i64cells v' rt') (hb : Below w0.heap.size w w') (hkp : ∀ b, b < w.heap.size → some b ≠ vr.ownBlock → w'.heap[b]? = w.heap[b]?) (hob : v'.ownBlock = vr.ownBlock ∨ v'.ownBlock = some (w.heap.size + 1)) (hc : C v' vb st = (C vr vb st).setIfInBounds i v') :
    Own w' bs T (C vr vb st) ∧ SeekAt C best T w0 bs rt' st v' vb (w'.setCell ⟨bs, i, none⟩ v') := by
  have hbox : Own w' bs T (C vr vb st) := (hkp bs h.box.lt (fun e => h.rb bs e.symm rfl)).trans h.box
  have hbest : OwnsL w' w0.heap.size 2 1 i64cells vb (best st) := h.best.kept (fun k hk => hkp k (h.best.lt k hk).2 (fun e => h.ne k e.symm hk))
  have rb : ∀ k, v'.ownBlock = some k → k ≠ bs := fun k hk => by
    rcases hob with e | e
    · exact h.rb k (e ▸ hk)
    · rw [e] at hk; injection hk with hk; have := h.box.lt; omega
  have ne : ∀ k, v'.ownBlock = some k → vb.ownBlock ≠ some k := fun k hk hv => by
    rcases hob with e | e
    · exact h.ne k (e ▸ hk) hv
    · rw [e] at hk; injection hk with hk; have := (h.best.lt k hv).2; omega
  have below := h.below.trans hb
  refine ⟨hbox, ⟨by rw [hc]; exact hbox.put i v', hown.kept (fun k hk => Below.heap_setCell w' ⟨bs, i, none⟩ v' k (rb k hk)), hbest.kept (fun k hk => Below.heap_setCell w' ⟨bs, i, none⟩ v' k (h.bb k hk)), rb, h.bb, ne, below.setCell h.base v', h.base⟩⟩
/-- The best list turned to one in a new block. -/
theorem SeekAt.best_new {base : Nat} (h : SeekAt C best T w0 bs rt st vr vb w) (hb : Below w.heap.size w w') (hn : OwnsL w' base 2 1 i64cells vb' rt') (hbase : w.heap.size ≤ base) : Own w' bs T (C vr vb st) ∧ OwnsL w' w0.heap.size 2 1 i64cells vr rt ∧ OwnsL w' w0.heap.size 2 1 i64cells vb' rt' ∧ (∀ k, vb'.ownBlock = some k → k ≠ bs) ∧ ∀ k, vr.ownBlock = some k → vb'.ownBlock ≠ some k :=
  ⟨h.box.below' hb, h.route.below' hb, hn.rebase (Nat.le_trans h.below.size hbase), fun k hk => by have := (hn.lt k hk).1; have := h.box.lt; omega, fun k hk hv => by have := (hn.lt k hv).1; have := (h.route.lt k hk).2; omega⟩
end
/-- The last element dropped by slicing. -/
theorem OwnsL.shrink {w : World} {base g n cap : Nat} {T : TypeId} {xs : List Int} {y : Int} (h : OwnsL w base T 1 i64cells (.slice (some ⟨g, 0, none⟩) (n + 1) cap) (xs ++ [y])) : OwnsL w base T 1 i64cells (.slice (some ⟨g, 0, none⟩) n cap) xs := by
  rcases h.2 with ⟨h2, _⟩ | ⟨g', cap', cur, hv, hg, hh, hc, hm, hsz, htk⟩
  · cases h2
  · injection hv with e1 e2 e3
    injection e1 with e1
    injection e1 with e1 _ _
    subst e1
    rw [List.length_append, List.length_singleton] at e2 hc htk
    refine ⟨by rw [flat_i64]; simp, .inr ⟨g, cap', cur, ?_, hg, hh, by omega, hm, hsz, ?_⟩⟩
    · rw [show n = xs.length by omega, e3]
    · rw [flat_i64] at htk ⊢
      have := congrArg (List.take xs.length) htk
      rw [List.take_take, List.map_append, List.take_append_of_le_length (by simp)] at this
      rw [show min xs.length ((xs.length + 1) * 1) = xs.length * 1 by omega] at this
      rw [this, List.take_of_length_le (by simp)]
/-- How an owned slice's value looks. -/
theorem OwnsL.look {w : World} {base : Nat} {T : TypeId} {v : Value} {xs : List Int} (h : OwnsL w base T 1 i64cells v xs) : ∃ (B : Option Addr) (c : Nat), v = .slice B xs.length c ∧ xs.length ≤ c ∧ c ≤ maxLen ∧ ((B = none ∧ c = 0) ∨ ∃ b, B = some ⟨b, 0, none⟩) := by
  rcases h.form with ⟨rfl, rfl⟩ | ⟨g, cap, cur, rfl, _, _, hc, hm, _⟩
  · exact ⟨none, 0, rfl, Nat.le_refl _, by simp [maxLen], .inl ⟨rfl, rfl⟩⟩
  · exact ⟨some ⟨g, 0, none⟩, cap, rfl, hc, hm, .inr ⟨g, rfl⟩⟩

end Go.Proofs.Ytpibiieibofggaa
