/- The memory of the reference's count of turns: its box, the turns so far, the first way, and the rows that are known to be dead. -/
import Derived.Test.YtjidibohbbdboaaDoorCountP
import Derived.Test.YtjidibohbbdboaaDoorSeek
import Derived.Test.YtjidibohbbdboaaDoorTRow
import Derived.Test.YtjidibohbbdboaaDoorPush2
namespace Go.Proofs.YtjidibohbbdboaaDoor
open Go.RowKit

structure CntV where
  st : CSt
  vd : Value
def CntV.first (s : CntV) : List Int := s.st.first
def cntC (n m g : Nat) (A : Option Addr) (na ca : Nat) (vr vf : Value) (s : CntV) : Array Value := #[.int .i64 n, .int .i64 m, .int .i64 g, .slice A na ca, vr, vf, .int .i64 s.st.count, s.vd]
/-- The rows that are known to be dead, and rows that may yet be (qs), apart from all else of the search. -/
structure DeadAt (w0 : World) (bs : Nat) (vr vf vd : Value) (ps qs : List RowR) (w : World) : Prop where
  outer : OwnsL w w0.heap.size 29 1 RowR.cells vd ps
  inner : ∀ p ∈ ps ++ qs, OwnsL w w0.heap.size 2 1 i64cells (.slice p.listA p.listN p.listC) p.list
  oa : ∀ k, vd.ownBlock = some k → k ≠ bs ∧ vr.ownBlock ≠ some k ∧ vf.ownBlock ≠ some k
  ia : ∀ p ∈ ps ++ qs, ∀ k, p.own = some k → k ≠ bs ∧ vr.ownBlock ≠ some k ∧ vf.ownBlock ≠ some k ∧ vd.ownBlock ≠ some k
section
variable {w0 w w' : World} {bs : Nat} {vr vf vd vr' vf' : Value} {ps qs : List RowR}
theorem DeadAt.lt (h : DeadAt w0 bs vr vf vd ps qs w) {p : RowR} (hp : p ∈ ps ++ qs) {k : Nat} (hk : p.own = some k) : k < w.heap.size := ((h.inner p hp).lt k hk).2
theorem DeadAt.grow (h : DeadAt w0 bs vr vf vd ps qs w) (hb : Below w.heap.size w w') : DeadAt w0 bs vr vf vd ps qs w' :=
  ⟨h.outer.below' hb, fun p hp => (h.inner p hp).below' hb, h.oa, h.ia⟩
/-- What writes only at the box and at the turns' own block, or in new memory, leaves the dead rows be. -/
theorem DeadAt.kept (h : DeadAt w0 bs vr vf vd ps qs w) (hk : ∀ b, b < w.heap.size → b ≠ bs → some b ≠ vr.ownBlock → w'.heap[b]? = w.heap[b]?) (hr : ∀ k, vr'.ownBlock = some k → vr.ownBlock = some k ∨ w.heap.size ≤ k) (hf : ∀ k, vf'.ownBlock = some k → vf.ownBlock = some k ∨ w.heap.size ≤ k) : DeadAt w0 bs vr' vf' vd ps qs w' := by
  refine ⟨h.outer.kept (fun k e => hk k (h.outer.lt k e).2 (h.oa k e).1 (fun e2 => (h.oa k e).2.1 e2.symm)), fun p hp => (h.inner p hp).kept (fun k e => hk k (h.lt hp e) (h.ia p hp k e).1 (fun e2 => (h.ia p hp k e).2.1 e2.symm)), fun k e => ⟨(h.oa k e).1, fun e2 => ?_, fun e2 => ?_⟩, fun p hp k e => ⟨(h.ia p hp k e).1, fun e2 => ?_, fun e2 => ?_, (h.ia p hp k e).2.2.2⟩⟩
  · rcases hr k e2 with h3 | h3
    · exact (h.oa k e).2.1 h3
    · have := (h.outer.lt k e).2; omega
  · rcases hf k e2 with h3 | h3
    · exact (h.oa k e).2.2 h3
    · have := (h.outer.lt k e).2; omega
  · rcases hr k e2 with h3 | h3
    · exact (h.ia p hp k e).2.1 h3
    · have := h.lt hp e; omega
  · rcases hf k e2 with h3 | h3
    · exact (h.ia p hp k e).2.2.1 h3
    · have := h.lt hp e; omega
/-- The dead rows under new values of the turns and of the first way. -/
theorem DeadAt.name (h : DeadAt w0 bs vr vf vd ps qs w) (hr : ∀ k, vr'.ownBlock = some k → vr.ownBlock = some k ∨ w.heap.size ≤ k) (hf : ∀ k, vf'.ownBlock = some k → vf.ownBlock = some k ∨ w.heap.size ≤ k) : DeadAt w0 bs vr' vf' vd ps qs w := h.kept (fun _ _ _ _ => rfl) hr hf
/-- A store into the box. -/
theorem DeadAt.put (h : DeadAt w0 bs vr vf vd ps qs w) (i : Nat) (u : Value) : DeadAt w0 bs vr vf vd ps qs (w.setCell ⟨bs, i, none⟩ u) := h.kept (fun b _ hb _ => Below.heap_setCell w ⟨bs, i, none⟩ u b hb) (fun _ e => .inl e) (fun _ e => .inl e)
/-- One more row that may yet be dead, in a new block. -/
theorem DeadAt.pend {p : RowR} (h : DeadAt w0 bs vr vf vd ps qs w) (hb : Below w.heap.size w w') (hp : OwnsL w' w.heap.size 2 1 i64cells (.slice p.listA p.listN p.listC) p.list) (h0 : w0.heap.size ≤ w.heap.size) (hbs : bs < w.heap.size) (hvr : ∀ k, vr.ownBlock = some k → k < w.heap.size) (hvf : ∀ k, vf.ownBlock = some k → k < w.heap.size) : DeadAt w0 bs vr vf vd ps (p :: qs) w' := by
  have hl : ∀ k, p.own = some k → w.heap.size ≤ k := fun k e => (hp.lt k e).1
  refine ⟨h.outer.below' hb, fun q hq => ?_, h.oa, fun q hq k e => ?_⟩
  · rcases List.mem_append.1 hq with hq | hq
    · exact (h.inner q (List.mem_append.2 (.inl hq))).below' hb
    · rcases List.mem_cons.1 hq with rfl | hq
      · exact hp.rebase h0
      · exact (h.inner q (List.mem_append.2 (.inr hq))).below' hb
  · rcases List.mem_append.1 hq with hq | hq
    · exact h.ia q (List.mem_append.2 (.inl hq)) k e
    · rcases List.mem_cons.1 hq with rfl | hq
      · have h1 := hl k e
        exact ⟨by omega, fun e2 => by have := hvr k e2; omega, fun e2 => by have := hvf k e2; omega, fun e2 => by have := (h.outer.lt k e2).2; omega⟩
      · exact h.ia q (List.mem_append.2 (.inr hq)) k e
theorem DeadAt.drop {p : RowR} (h : DeadAt w0 bs vr vf vd ps (p :: qs) w) : DeadAt w0 bs vr vf vd ps qs w := by
  have hs : ∀ q, q ∈ ps ++ qs → q ∈ ps ++ p :: qs := fun q hq => by
    rcases List.mem_append.1 hq with hq | hq
    · exact List.mem_append.2 (.inl hq)
    · exact List.mem_append.2 (.inr (List.mem_cons.2 (.inr hq)))
  exact ⟨h.outer, fun q hq => h.inner q (hs q hq), h.oa, fun q hq => h.ia q (hs q hq)⟩
/-- A row is dead: it is appended. -/
theorem DeadAt.add {p : RowR} {vd' : Value} (h : DeadAt w0 bs vr vf vd ps (p :: qs) w) (hown : OwnsL w' w0.heap.size 29 1 RowR.cells vd' (ps ++ [p])) (hkp : ∀ b, b < w.heap.size → some b ≠ vd.ownBlock → w'.heap[b]? = w.heap[b]?) (hob : vd'.ownBlock = vd.ownBlock ∨ vd'.ownBlock = some (w.heap.size + 1)) (hrl : ∀ k, vr.ownBlock = some k → k < w.heap.size) (hfl : ∀ k, vf.ownBlock = some k → k < w.heap.size) (hbl : bs < w.heap.size) : DeadAt w0 bs vr vf vd' (ps ++ [p]) qs w' := by
  have hs : ∀ q, q ∈ (ps ++ [p]) ++ qs → q ∈ ps ++ p :: qs := fun q hq => by simpa using hq
  refine ⟨hown, fun q hq => (h.inner q (hs q hq)).kept (fun k e => hkp k (h.lt (hs q hq) e) (fun e2 => (h.ia q (hs q hq) k e).2.2.2 e2.symm)), fun k e => ?_, fun q hq k e => ?_⟩
  · rcases hob with e2 | e2
    · exact h.oa k (e2 ▸ e)
    · rw [e2] at e
      injection e with e
      exact ⟨by omega, fun e3 => by have := hrl k e3; omega, fun e3 => by have := hfl k e3; omega⟩
  · have hi := h.ia q (hs q hq) k e
    refine ⟨hi.1, hi.2.1, hi.2.2.1, fun e3 => ?_⟩
    rcases hob with e2 | e2
    · exact hi.2.2.2 (e2 ▸ e3)
    · rw [e2] at e3; injection e3 with e3; have := h.lt (hs q hq) e; omega
theorem DeadAt.in_ (h : DeadAt w0 bs vr vf vd ps qs w) : ∀ p ∈ ps, p.In w := fun p hp => RowR.in_of (h.inner p (List.mem_append.2 (.inl hp)))
theorem DeadAt.pending {p : RowR} (h : DeadAt w0 bs vr vf vd ps (p :: qs) w) : OwnsL w w0.heap.size 2 1 i64cells (.slice p.listA p.listN p.listC) p.list := h.inner p (List.mem_append.2 (.inr (List.mem_cons.2 (.inl rfl))))
end
section
variable {C : Value → Value → CntV → Array Value} {T : TypeId} {w0 w w' : World} {bs : Nat} {vr vf : Value} {ps qs : List RowR} {rt : List Int} {st : CntV}
/-- The search's memory behind the append of a dead row, and behind the store of what it hands back. -/
theorem SeekAt.dead {i : Nat} {vd' : Value} {st' : CntV} (h : SeekAt C CntV.first T w0 bs rt st vr vf w) (hd : DeadAt w0 bs vr vf st.vd ps qs w) (hb : Below w0.heap.size w0 w') (hkp : ∀ b, b < w.heap.size → some b ≠ st.vd.ownBlock → w'.heap[b]? = w.heap[b]?) (hc : C vr vf st' = (C vr vf st).setIfInBounds i vd') (hf : st'.first = st.first) :
    Own w' bs T (C vr vf st) ∧ SeekAt C CntV.first T w0 bs rt st' vr vf (w'.setCell ⟨bs, i, none⟩ vd') := by
  have hbox : Own w' bs T (C vr vf st) := (hkp bs h.box.lt (fun e => (hd.oa bs e.symm).1 rfl)).trans h.box
  have hr : OwnsL w' w0.heap.size 2 1 i64cells vr rt := h.route.kept (fun k hk => hkp k (h.route.lt k hk).2 (fun e => (hd.oa k e.symm).2.1 hk))
  have hf2 : OwnsL w' w0.heap.size 2 1 i64cells vf st.first := h.best.kept (fun k hk => hkp k (h.best.lt k hk).2 (fun e => (hd.oa k e.symm).2.2 hk))
  have h' : SeekAt C CntV.first T w0 bs rt st vr vf w' := ⟨hbox, hr, hf2, h.rb, h.bb, h.ne, hb, h.base⟩
  exact ⟨hbox, h'.put i vd' hc hr (by rw [hf]; exact hf2) h.rb h.bb h.ne⟩
end

end Go.Proofs.YtjidibohbbdboaaDoor
