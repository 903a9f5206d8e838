/- append in a region that draws its order: of a whole slice; a list of regions of one's own that grows. -/
import Derived.Test.YtpibiieibofggaaRaiM
import Derived.Test.YtpibiieibofggaaCloneR
import Derived.Test.YtpibiieibofggaaCloneQ
import Derived.Deep.AppendLies
import Derived.Deep.Upon
namespace Go.Proofs.Ytpibiieibofggaa
open Go.RowKit

theorem step_pushAll {α : Type} {P : Program} {ops : Array Oper} {o : Oper} {a : Act} {K : Act → World → Prop} {Q : Exit → Act → World → Prop} {E : Prop} {w : World} (hw : Region.wanted o (yielded ops a.tmps) = true) (s x : Operand) (t : TypeId)
    (ho : o.op = .call { callee := .builtin .append, args := #[s, x], argTypes := #[t, t] })
    (base : Nat) (e : TypeId) {z : Value} (sz : Nat) {bytes : Nat} (ht : P.underlying t = some (.slice e)) (hinfo : (P.info? e).map (fun i => (i.zero, i.size, i.bytes)) = some (some z, sz, bytes)) (hzs : z.cells.size = sz) (hsz : 0 < sz)
    (cells : α → List Value) (hcl : ∀ y, (cells y).length = sz) (hc1 : ∀ y, ∀ u ∈ cells y, u.oneCell' = true)
    (v : Value) (xs ys : List α) (b off m c : Nat) (hs : a.eval s = v) (hown : OwnsL w base e sz cells v xs) (hx : a.eval x = .slice (some ⟨b, off, none⟩) m c) (hsl : SliceOf w sz cells (some ⟨b, off, none⟩) m ys) (hm : 0 < m)
    (hlen : xs.length + m ≤ 1048577) (hby : bytes ≤ 1024) (hbase : base ≤ w.heap.size)
    (h : ∀ g cap w', OwnsL w' base e sz cells (.slice (some ⟨g, 0, none⟩) (xs.length + m) cap) (xs ++ ys) → Below base w w' → (∀ b, b < w.heap.size → some b ≠ v.ownBlock → w'.heap[b]? = w.heap[b]?) → (v.ownBlock = some g ∨ g = w.heap.size) → K (a.put o.dst (.slice (some ⟨g, 0, none⟩) (xs.length + m) cap)) w') : if Region.wanted o (yielded ops a.tmps) = true then Oper.wp P o a w K Q else E := by
  rw [if_pos hw]
  obtain ⟨i, hi, hz, hsize, hbytes⟩ := info_parts hinfo
  have hl := hsl.len
  obtain ⟨b', off', hA, hlt, hc⟩ := hsl.2.2 hm
  injection hA with hA
  injection hA with e1 e2 _
  subst e1 e2
  refine wp_append_lies w s x t ho base e i z sz bytes ht hi hz hsize hbytes hzs hsz v xs.length (xs.flatMap cells) hs hown ⟨b, off, none⟩ m c (ys.flatMap cells) hx (by rw [flat_len hcl, hl]) ?_ ?_ hm (by unfold maxLen; omega) ?_ hbase _ rfl ?_
  · intro j u hu
    have hj : j < ys.length * sz := by rw [← flat_len hcl]; exact (List.getElem?_eq_some_iff.1 hu).1
    obtain ⟨q, r, hr, hq, rfl⟩ : ∃ q r, r < sz ∧ q < ys.length ∧ q * sz + r = j := ⟨j / sz, j % sz, Nat.mod_lt _ hsz, Nat.div_lt_of_lt_mul (by rw [Nat.mul_comm]; exact hj), by rw [Nat.mul_comm]; exact Nat.div_add_mod j sz⟩
    obtain ⟨y, hy⟩ : ∃ y, ys[q]? = some y := ⟨_, List.getElem?_eq_getElem hq⟩
    have hr2 : r < (cells y).length := by rw [hcl]; exact hr
    have h2 := flat_get hcl ys q r y _ hy (List.getElem?_eq_getElem hr2)
    rw [h2] at hu
    injection hu with hu
    subst hu
    have := hc q y r _ hy (List.getElem?_eq_getElem hr2)
    rw [Nat.add_assoc] at this
    rw [addr_addR]; exact this
  · intro u hu
    obtain ⟨y, _, hy⟩ := List.mem_flatMap.1 hu
    exact hc1 y u hy
  · have : (xs.length + m) * bytes ≤ 1048577 * 1024 := Nat.mul_le_mul (by omega) hby
    omega
  · intro g cap w' h1 h2 h3 _
    have hrow := World.ownsRow.lt hown
    exact h g cap w' (by unfold OwnsL; rw [List.flatMap_append, List.length_append, hl]; exact h1) ((Below.refl base w).grown h2 hbase (fun k hk => (hrow k hk).1)) h2.block h3
theorem step_pushNone {P : Program} {ops : Array Oper} {o : Oper} {a : Act} {K : Act → World → Prop} {Q : Exit → Act → World → Prop} {E : Prop} {w : World} (hw : Region.wanted o (yielded ops a.tmps) = true) (s x : Operand) (t : TypeId)
    (ho : o.op = .call { callee := .builtin .append, args := #[s, x], argTypes := #[t, t] })
    (e : TypeId) {z : Value} (sz : Nat) {bytes : Nat} (ht : P.underlying t = some (.slice e)) (hinfo : (P.info? e).map (fun i => (i.zero, i.size, i.bytes)) = some (some z, sz, bytes))
    (A B : Option Addr) (n cap c : Nat) (hn : n ≤ cap) (hs : a.eval s = .slice A n cap) (hx : a.eval x = .slice B 0 c)
    (h : K (a.put o.dst (.slice A n cap)) w) : if Region.wanted o (yielded ops a.tmps) = true then Oper.wp P o a w K Q else E := by
  rw [if_pos hw]
  obtain ⟨i, hi, hz, hsize, hbytes⟩ := info_parts hinfo
  have hsrc : Src P i.size t (.slice B 0 c) 0 [] w := by
    cases B with
    | none => exact Src.ofNil w ht c
    | some ad => exact Src.ofSlice w ht ad 0 c [] (by simp) (fun j u hu => by simp at hu) (fun u hu => by simp at hu)
  have hr := run_append_nothing w t t o.type e i ht hi A n cap hn (.slice B 0 c) hsrc
  unfold Oper.wp execOp
  simp only [ho, resolve, invoke, builtin, Sem.run_bind, Sem.run_pure, Result.andThen_ok, List.map_toArray, List.map_cons, List.map_nil, hs, hx, hr]
  exact h
theorem sliceOne {α : Type} {w : World} {g : Nat} {e : TypeId} {sz : Nat} {cells : α → List Value} {y : α} (h : Own w g e (cells y).toArray) : SliceOf w sz cells (some ⟨g, 0, none⟩) 1 [y] :=
  ⟨rfl, by decide, fun _ => ⟨g, 0, rfl, h.lt, fun i x j v hx hv => by
    match i, hx with
    | 0, hx =>
      simp at hx
      subst hx
      rw [Nat.zero_mul, Nat.zero_add]
      exact (h.cell j).trans (by simpa using hv)
    | i + 1, hx => simp at hx⟩⟩
/-- A region more in a list of one's own, whose names lie in a new block. -/
theorem Region.Own.push {w W3 W4 : World} {base g n cap : Nat} {v : Value} {ps : List RegionR} {q : RegionR} {xs : List Region} (ho : OwnsL w base 34 3 RegionR.cells v ps) (hi : ∀ p ∈ ps, OwnsL w base 9 1 strcells (.slice p.nearA p.nearN p.nearC) p.near) (ha : RegionR.Apart v ps) (hxs : xs = ps.map RegionR.val)
    (hb3 : Below w.heap.size w W3) (hq : OwnsL W3 w.heap.size 9 1 strcells (.slice q.nearA q.nearN q.nearC) q.near) (hbase : base ≤ w.heap.size)
    (h4 : OwnsL W4 base 34 3 RegionR.cells (.slice (some ⟨g, 0, none⟩) n cap) (ps ++ [q])) (hkp : ∀ b, b < W3.heap.size → some b ≠ v.ownBlock → W4.heap[b]? = W3.heap[b]?) (hob : v.ownBlock = some g ∨ W3.heap.size ≤ g) : Region.Own W4 base (.slice (some ⟨g, 0, none⟩) n cap) (xs ++ [q.val]) := by
  have hvlt := ho.lt
  have hqlt := hq.lt
  have hsz := hb3.size
  have hq4 : OwnsL W4 base 9 1 strcells (.slice q.nearA q.nearN q.nearC) q.near := (hq.kept (fun k hk => hkp k (hqlt k hk).2 (fun e => by have h1 := hvlt k e.symm; have h2 := hqlt k hk; omega))).rebase hbase
  refine ⟨ps ++ [q], h4, fun p hp => ?_, ⟨fun p hp b hb e => ?_, ?_⟩, by rw [hxs, List.map_append]; rfl⟩
  · rcases List.mem_append.1 hp with h1 | h1
    · have hlt := (hi p h1).lt
      exact (hi p h1).kept (fun k hk => (hkp k (Nat.lt_of_lt_of_le (hlt k hk).2 hsz) (fun e => ha.1 p h1 k hk e.symm)).trans (hb3.block k (hlt k hk).2))
    · simp at h1; subst h1; exact hq4
  · have e1 : g = b := by simpa [Value.ownBlock] using e
    subst e1
    rcases List.mem_append.1 hp with h1 | h1
    · have hlt := ((hi p h1).lt g hb).2
      rcases hob with h2 | h2
      · exact ha.1 p h1 g hb h2
      · omega
    · simp at h1; subst h1
      have hlt := hqlt g hb
      rcases hob with h2 | h2
      · have := (hvlt g h2).2; omega
      · omega
  · rw [List.pairwise_append]
    refine ⟨ha.2, List.pairwise_singleton _ _, fun p hp r hr b hb e => ?_⟩
    simp at hr; subst hr
    have h1 := ((hi p hp).lt b hb).2
    have h2 := (hqlt b e).1
    omega
theorem psL_near {ps : List RegionR} {lv : List Int} {q : RegionR} (h : q ∈ psL ps lv) : ∃ p ∈ ps, q.nearA = p.nearA ∧ q.nearN = p.nearN ∧ q.nearC = p.nearC ∧ q.near = p.near := by
  obtain ⟨i, hi, rfl⟩ := List.getElem_of_mem h
  unfold psL at hi ⊢
  rw [List.length_zipWith] at hi
  exact ⟨ps[i]'(by omega), List.getElem_mem _, by rw [List.getElem_zipWith], by rw [List.getElem_zipWith], by rw [List.getElem_zipWith], by rw [List.getElem_zipWith]⟩
theorem psL_pair {R : RegionR → RegionR → Prop} (hR : ∀ p q a b, R p q → R { p with level := a } { q with level := b }) : ∀ (ps : List RegionR) (lv : List Int), ps.Pairwise R → (psL ps lv).Pairwise R
  | [], lv, _ => by simp [psL]
  | p :: ps, [], _ => by simp [psL]
  | p :: ps, l :: lv, h => by
    have ih := psL_pair hR ps lv (List.pairwise_cons.1 h).2
    unfold psL at ih ⊢
    rw [List.zipWith_cons_cons]
    refine List.pairwise_cons.2 ⟨fun q hq => ?_, ih⟩
    obtain ⟨i, hi, rfl⟩ := List.getElem_of_mem hq
    rw [List.getElem_zipWith]
    exact hR _ _ _ _ ((List.pairwise_cons.1 h).1 _ (List.getElem_mem _))
theorem psL_same (qs : List RegionR) : psL qs ((qs.map RegionR.val).map Region.level) = qs := by
  induction qs with
  | nil => rfl
  | cons q qs ih =>
    unfold psL at ih ⊢
    simp only [List.map_cons, List.zipWith_cons_cons]
    rw [ih]
    rfl
/-- A level of a region in a list of one's own is written. -/
theorem Region.Own.level {w : World} {base g n cap : Nat} {xs : List Region} (h : Region.Own w base (.slice (some ⟨g, 0, none⟩) n cap) xs) (k : Nat) (l : Int) : Region.Own (w.setCell ⟨g, k * 3 + 1, none⟩ (.int .i64 l)) base (.slice (some ⟨g, 0, none⟩) n cap) (withLv xs ((xs.map Region.level).set k l)) := by
  obtain ⟨ps, h1, h2, h3, rfl⟩ := h
  have h1' := h1
  rw [← psL_same ps] at h1'
  refine ⟨psL ps (((ps.map RegionR.val).map Region.level).set k l), OwnsL.level h1' k l, fun q hq => ?_, ⟨fun q hq b hb e => ?_, ?_⟩, psL_val.symm⟩
  · obtain ⟨p, hp, e1, e2, e3, e4⟩ := psL_near hq
    rw [e1, e2, e3, e4]
    refine (h2 p hp).kept (fun b hb => Below.heap_setCell w ⟨g, k * 3 + 1, none⟩ _ b (fun e => ?_))
    subst e
    exact h3.1 p hp _ hb rfl
  · obtain ⟨p, hp, e1, e2, e3, e4⟩ := psL_near hq
    refine h3.1 p hp b ?_ e
    unfold RegionR.own at hb ⊢
    rw [← e1, ← e2, ← e3]; exact hb
  · exact psL_pair (fun _ _ _ _ h => h) ps _ h3.2

end Go.Proofs.Ytpibiieibofggaa
