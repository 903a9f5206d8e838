/- The memory of a search for routes: its box, the route so far, the best one. -/
import Derived.Test.YtamgodeiakflbaaDoorSafeP
import Derived.Test.YtamgodeiakflbaaDoorOwn2
import Derived.Test.YtamgodeiakflbaaDoorHas
import Derived.Test.YtamgodeiakflbaaDoorTours
import Derived.Test.YtamgodeiakflbaaDoorFastS
namespace Go.Proofs.YtamgodeiakflbaaDoor
open Go.RowKit

structure TourAt (C : Value → Value → St → Array Value) (T : TypeId) (w0 : World) (bs : Nat) (rt : List Int) (st : St) (vr vb : Value) (w : World) : Prop where
  box : Own w bs T (C vr vb st)
  route : OwnsL w w0.heap.size 2 1 i64cells vr rt
  best : OwnsL w w0.heap.size 2 1 i64cells vb st.best
  rb : ∀ k, vr.ownBlock = some k → k ≠ bs
  bb : ∀ k, vb.ownBlock = some k → k ≠ bs
  ne : ∀ k, vr.ownBlock = some k → vb.ownBlock ≠ some k
  below : Below w0.heap.size w0 w
  base : w0.heap.size ≤ bs
section
variable {C : Value → Value → St → Array Value} {T : TypeId} {w0 w w' : World} {bs : Nat} {rt rt' : List Int} {st st' : St} {vr vb vr' vb' : Value}
theorem TourAt.grow (h : TourAt C T w0 bs rt st vr vb w) (hb : Below w.heap.size w w') : TourAt C T w0 bs rt st vr vb w' :=
  ⟨h.box.below' hb, h.route.below' hb, h.best.below' hb, h.rb, h.bb, h.ne, h.below.trans (hb.mono h.below.size), h.base⟩
/-- A store into the box. -/
theorem TourAt.put (h : TourAt C T w0 bs rt st vr vb w) (i : Nat) (u : Value) (hc : C vr' vb' st' = (C vr vb st).setIfInBounds i u) (hr : OwnsL w w0.heap.size 2 1 i64cells vr' rt') (hb : OwnsL w w0.heap.size 2 1 i64cells vb' st'.best) (rb : ∀ k, vr'.ownBlock = some k → k ≠ bs) (bb : ∀ k, vb'.ownBlock = some k → k ≠ bs) (ne : ∀ k, vr'.ownBlock = some k → vb'.ownBlock ≠ some k) : TourAt C T w0 bs rt' st' vr' vb' (w.setCell ⟨bs, i, none⟩ u) :=
  ⟨by rw [hc]; exact h.box.put i u, hr.kept (fun k hk => Below.heap_setCell w ⟨bs, i, none⟩ u k (rb k hk)), hb.kept (fun k hk => Below.heap_setCell w ⟨bs, i, none⟩ u k (bb k hk)), rb, bb, ne, h.below.setCell h.base u, h.base⟩
theorem TourAt.num (h : TourAt C T w0 bs rt st vr vb w) (i : Nat) (u : Value) (hc : C vr vb st' = (C vr vb st).setIfInBounds i u) (hb : st'.best = st.best) : TourAt C T w0 bs rt st' vr vb (w.setCell ⟨bs, i, none⟩ u) :=
  h.put i u hc h.route (by rw [hb]; exact h.best) h.rb h.bb h.ne
end
/-- The last element dropped by slicing. -/
theorem OwnsL.shrink {w : World} {base g n cap : Nat} {T : TypeId} {xs : List Int} {y : Int} (h : OwnsL w base T 1 i64cells (.slice (some ⟨g, 0, none⟩) (n + 1) cap) (xs ++ [y])) : OwnsL w base T 1 i64cells (.slice (some ⟨g, 0, none⟩) n cap) xs := by
  rcases h.2 with ⟨h2, _⟩ | ⟨g', cap', cur, hv, hg, hh, hc, hm, hsz, htk⟩
  · cases h2
  · injection hv with e1 e2 e3
    injection e1 with e1
    injection e1 with e1 _ _
    subst e1
    rw [List.length_append, List.length_singleton] at e2 hc htk
    refine ⟨by rw [flat_i64]; simp, .inr ⟨g, cap', cur, ?_, hg, hh, by omega, hm, hsz, ?_⟩⟩
    · rw [show n = xs.length by omega, e3]
    · rw [flat_i64] at htk ⊢
      have := congrArg (List.take xs.length) htk
      rw [List.take_take, List.map_append, List.take_append_of_le_length (by simp)] at this
      rw [show min xs.length ((xs.length + 1) * 1) = xs.length * 1 by omega] at this
      rw [this, List.take_of_length_le (by simp)]
theorem lastI_snoc (l : List Int) (x : Int) : lastI (l ++ [x]) = x := by unfold lastI; simp
theorem last_get {rt : List Int} {r : Nat} (h : rt.length = r + 1) : rt[r]? = some (lastI rt) := by
  have hne : rt ≠ [] := fun e => by rw [e] at h; cases h
  unfold lastI
  rw [List.getLastD_eq_getLast?, List.getLast?_eq_getElem?, h, Nat.add_sub_cancel, List.getElem?_eq_getElem (by omega)]
  rfl
theorem stepOk_cases (xs : List Leg) (rt : List Int) (left : Int) (p : Nat) : (hasLeg xs (lastI rt, (p : Int)) = false ∧ stepOk xs rt left p = false) ∨ (hasLeg xs (lastI rt, (p : Int)) = true ∧ decide (left < (legOf xs rt p).minutes) = true ∧ stepOk xs rt left p = false) ∨ (hasLeg xs (lastI rt, (p : Int)) = true ∧ decide (left < (legOf xs rt p).minutes) = false ∧ hasB rt (p : Int) = true ∧ stepOk xs rt left p = false) ∨ (hasLeg xs (lastI rt, (p : Int)) = true ∧ decide (left < (legOf xs rt p).minutes) = false ∧ hasB rt (p : Int) = false ∧ stepOk xs rt left p = true) := by
  unfold stepOk
  cases h1 : hasLeg xs (lastI rt, (p : Int))
  · exact .inl ⟨rfl, by simp⟩
  · by_cases h2 : left < (legOf xs rt p).minutes
    · exact .inr (.inl ⟨rfl, decide_eq_true h2, by rw [decide_eq_false (by omega : ¬ (legOf xs rt p).minutes ≤ left)]; simp⟩)
    · cases h3 : hasB rt (p : Int)
      · exact .inr (.inr (.inr ⟨rfl, decide_eq_false h2, rfl, by rw [decide_eq_true (by omega : (legOf xs rt p).minutes ≤ left)]; rfl⟩))
      · exact .inr (.inr (.inl ⟨rfl, decide_eq_false h2, rfl, by simp⟩))
/-- What is asked of a route so far. -/
structure RtOk (n f : Nat) (rt : List Int) (left expo : Int) : Prop where
  ne : 1 ≤ rt.length
  mem : ∀ x ∈ rt, 0 ≤ x ∧ x < n
  fuel : unseen n rt < f
  len : rt.length + unseen n rt ≤ n + 1
  l0 : 0 ≤ left
  l1 : left ≤ 10000
  e0 : 0 ≤ expo
  e1 : expo ≤ 1000 * rt.length
theorem RtOk.next {n f : Nat} {rt : List Int} {left expo : Int} {pts : Int} {xs : List Leg} {p : Nat} (hv : legsOk pts xs = true) (h : RtOk n (f + 1) rt left expo) (hp : p < n) (hs : stepOk xs rt left p = true) : RtOk n f (rt ++ [(p : Int)]) (left - (legOf xs rt p).minutes) (expo + (legOf xs rt p).exposure) := by
  unfold stepOk at hs
  simp only [Bool.and_eq_true, decide_eq_true_eq, Bool.not_eq_true'] at hs
  have hu := unseen_lt hp hs.2.2
  have hb := legD_bounds (p := (lastI rt, (p : Int))) hv
  have e : legOf xs rt p = legD xs (lastI rt, (p : Int)) := rfl
  rw [← e] at hb
  have h2 := h.fuel
  have h3 := h.len
  have h4 := h.l1
  have h5 := h.e0
  have h6 := h.e1
  refine ⟨by simp, fun x hx => ?_, by omega, by rw [List.length_append]; simp; omega, by omega, by omega, by omega, by rw [List.length_append]; simp; omega⟩
  rcases List.mem_append.1 hx with h' | h'
  · exact h.mem x h'
  · simp at h'; omega
theorem RtOk.last {n f : Nat} {rt : List Int} {left expo : Int} (h : RtOk n f rt left expo) : ∃ a : Nat, lastI rt = a ∧ a < n ∧ ((a : Nat) : Int) ∈ rt := by
  have h1 := h.ne
  have h2 := last_get (rt := rt) (r := rt.length - 1) (by omega)
  have h3 := List.mem_of_getElem? h2
  have h4 := h.mem _ h3
  refine ⟨(lastI rt).toNat, by omega, by omega, ?_⟩
  rw [show (((lastI rt).toNat : Nat) : Int) = lastI rt by omega]
  exact h3
theorem safeR_len (pts : Int) (xs : List Leg) (s g limit budget : Int) : (safeR pts xs s g limit budget).length ≤ 1048576 := by
  unfold safeR
  split
  · rename_i h
    have h1 := safe_zero h
    have h2 := legsOk_pts h1.1
    have := (safe0_in (xs := xs) (n := pts.toNat) (s := s) (g := g) (limit := limit) (budget := budget) (by omega) h1.2).len
    omega
  · simp
theorem TourAt.append {C : Value → Value → St → Array Value} {T : TypeId} {w0 w w' : World} {bs i : Nat} {rt rt' : List Int} {st : St} {vr vb v' : Value} (h : TourAt C T w0 bs rt st vr vb w) (hown : OwnsL w' w0.heap.size 2 1 i64cells v' rt') (hb : Below w0.heap.size w w') (hkp : ∀ b, b < w.heap.size → some b ≠ vr.ownBlock → w'.heap[b]? = w.heap[b]?) (hob : v'.ownBlock = vr.ownBlock ∨ v'.ownBlock = some (w.heap.size + 1)) (hc : C v' vb st = (C vr vb st).setIfInBounds i v') :
    Own w' bs T (C vr vb st) ∧ TourAt C T w0 bs rt' st v' vb (w'.setCell ⟨bs, i, none⟩ v') := by
  have hbox : Own w' bs T (C vr vb st) := (hkp bs h.box.lt (fun e => h.rb bs e.symm rfl)).trans h.box
  have hbest : OwnsL w' w0.heap.size 2 1 i64cells vb st.best := h.best.kept (fun k hk => hkp k (h.best.lt k hk).2 (fun e => h.ne k e.symm hk))
  have rb : ∀ k, v'.ownBlock = some k → k ≠ bs := fun k hk => by
    rcases hob with e | e
    · exact h.rb k (e ▸ hk)
    · rw [e] at hk; injection hk with hk; have := h.box.lt; omega
  have ne : ∀ k, v'.ownBlock = some k → vb.ownBlock ≠ some k := fun k hk hv => by
    rcases hob with e | e
    · exact h.ne k (e ▸ hk) hv
    · rw [e] at hk; injection hk with hk; have := (h.best.lt k hv).2; omega
  have below := h.below.trans hb
  refine ⟨hbox, ⟨by rw [hc]; exact hbox.put i v', hown.kept (fun k hk => Below.heap_setCell w' ⟨bs, i, none⟩ v' k (rb k hk)), hbest.kept (fun k hk => Below.heap_setCell w' ⟨bs, i, none⟩ v' k (h.bb k hk)), rb, h.bb, ne, below.setCell h.base v', h.base⟩⟩

end Go.Proofs.YtamgodeiakflbaaDoor
