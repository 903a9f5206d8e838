/- The memory of the program's search for the least raise of levels. -/
import Derived.Test.YtpibiieibofggaaRaiS
import Derived.Deep.AppendLies
namespace Go.Proofs.Ytpibiieibofggaa
open Go.RowKit

theorem step_push2 {P : Program} {ops : Array Oper} {o : Oper} {a : Act} {K : Act → World → Prop} {Q : Exit → Act → World → Prop} {E : Prop} {w : World} (hw : Region.wanted o (yielded ops a.tmps) = true) (s x : Operand) (t : TypeId)
    (ho : o.op = .call { callee := .builtin .append, args := #[s, x], argTypes := #[t, t] })
    (base : Nat) (e : TypeId) {z : Value} {bytes : Nat} (ht : P.underlying t = some (.slice e)) (hinfo : (P.info? e).map (fun i => (i.zero, i.size, i.bytes)) = some (some z, 1, bytes)) (hzs : z.cells.size = 1)
    (v : Value) (xs : List Int) (y : Int) (gx : Nat) (hs : a.eval s = v) (hown : OwnsL w base e 1 i64cells v xs) (hx : a.eval x = .slice (some ⟨gx, 0, none⟩) 1 1) (hcx : w.cell? ⟨gx, 0, none⟩ = some (.int .i64 y))
    (hlen : xs.length ≤ 1048576) (hby : bytes ≤ 1024) (hbase : base ≤ w.heap.size)
    (h : ∀ g cap w', OwnsL w' base e 1 i64cells (.slice (some ⟨g, 0, none⟩) (xs.length + 1) cap) (xs ++ [y]) → Below base w w' → (∀ b, b < w.heap.size → some b ≠ v.ownBlock → w'.heap[b]? = w.heap[b]?) → (v.ownBlock = some g ∨ g = w.heap.size) → K (a.put o.dst (.slice (some ⟨g, 0, none⟩) (xs.length + 1) cap)) w') : if Region.wanted o (yielded ops a.tmps) = true then Oper.wp P o a w K Q else E := by
  rw [if_pos hw]
  obtain ⟨i, hi, hz, hsize, hbytes⟩ := info_parts hinfo
  refine wp_append_lies w s x t ho base e i z 1 bytes ht hi hz hsize hbytes hzs (by decide) v xs.length (xs.flatMap i64cells) hs hown ⟨gx, 0, none⟩ 1 1 (i64cells y) hx (by rw [i64cells_len]) ?_ (i64cells_one y) (by decide) ?_ ?_ hbase _ rfl ?_
  · intro j u hu
    match j, hu with
    | 0, hu => rw [addr_add0]; simp [i64cells] at hu; subst hu; exact hcx
    | j + 1, hu => simp [i64cells] at hu
  · simp [maxLen]; omega
  · have : (xs.length + 1) * bytes ≤ 1048577 * 1024 := Nat.mul_le_mul (by omega) hby
    omega
  · intro g cap w' h1 h2 h3 _
    have hrow := World.ownsRow.lt hown
    exact h g cap w' (by unfold OwnsL; simpa using h1) ((Below.refl base w).grown h2 hbase (fun k hk => (hrow k hk).1)) h2.block h3
theorem Span.new {lo hi : Nat} {a w : World} (h : Span lo hi a w) {p : Addr} (hp : a.heap.size ≤ p.block) (u : Value) : Span lo hi a (w.setCell p u) :=
  ⟨h.os, h.tape, h.output, by simpa using h.size, fun k hk ho => (Below.heap_setCell w p u k (by omega)).trans (h.block k hk ho)⟩
theorem Span.more {lo hi : Nat} {a w w' : World} (h : Span lo hi a w) (hb : Below w.heap.size w w') : Span lo hi a w' := h.trans (Span.of_below hb (Nat.le_refl _))
theorem Span.low {lo hi : Nat} {a w w' : World} (h : Span lo hi a w) (hb : Below a.heap.size w w') : Span lo hi a w' :=
  ⟨hb.os.trans h.os, hb.tape.trans h.tape, hb.output.trans h.output, Nat.le_trans h.size hb.size, fun k hk ho => (hb.block k hk).trans (h.block k hk ho)⟩
/-- The regions as they lie, with other levels. -/
def psL (ps : List RegionR) (lv : List Int) : List RegionR := List.zipWith (fun p l => { p with level := l }) ps lv
theorem psL_len {ps : List RegionR} {lv : List Int} (h : lv.length = ps.length) : (psL ps lv).length = ps.length := by
  unfold psL; rw [List.length_zipWith, h, Nat.min_self]
theorem psL_val {ps : List RegionR} {lv : List Int} : (psL ps lv).map RegionR.val = withLv (ps.map RegionR.val) lv := by
  unfold psL withLv
  rw [List.map_zipWith, List.zipWith_map_left]
  rfl
theorem psL_in {ps : List RegionR} {lv : List Int} {w : World} (h : ∀ p ∈ ps, p.In w) : ∀ p ∈ psL ps lv, p.In w := fun q hq => by
  obtain ⟨i, hi, rfl⟩ := List.getElem_of_mem hq
  unfold psL at hi ⊢
  rw [List.getElem_zipWith]
  rw [List.length_zipWith] at hi
  exact h ps[i] (List.getElem_mem _)
theorem flat_level : ∀ (ps : List RegionR) (lv : List Int) (k : Nat) (l : Int), ((psL ps lv).flatMap RegionR.cells).set (k * 3 + 1) (.int .i64 l) = (psL ps (lv.set k l)).flatMap RegionR.cells
  | [], lv, k, l => by simp [psL]
  | p :: ps, [], k, l => by simp [psL]
  | p :: ps, m :: lv, 0, l => by simp [psL, RegionR.cells]
  | p :: ps, m :: lv, k + 1, l => by
    have ih := flat_level ps lv k l
    simp only [psL, List.zipWith_cons_cons, List.flatMap_cons, List.set_cons_succ] at ih ⊢
    rw [show (k + 1) * 3 + 1 = (RegionR.cells { p with level := m }).length + (k * 3 + 1) by rw [RegionR.cells_len]; omega, List.set_append_right _ _ (by omega)]
    rw [show (RegionR.cells { p with level := m }).length + (k * 3 + 1) - (RegionR.cells { p with level := m }).length = k * 3 + 1 by omega, ih]
theorem OwnsL.level {w : World} {base g n cap : Nat} {ps : List RegionR} {lv : List Int} (h : OwnsL w base 34 3 RegionR.cells (.slice (some ⟨g, 0, none⟩) n cap) (psL ps lv)) (k : Nat) (l : Int) : OwnsL (w.setCell ⟨g, k * 3 + 1, none⟩ (.int .i64 l)) base 34 3 RegionR.cells (.slice (some ⟨g, 0, none⟩) n cap) (psL ps (lv.set k l)) := by
  have hlen : (psL ps (lv.set k l)).length = (psL ps lv).length := by unfold psL; simp
  rcases h.2 with ⟨h2, _⟩ | ⟨g', cap', cur, hv, hg, hh, hc, hm, hsz, htk⟩
  · cases h2
  · injection hv with e1 e2 e3
    injection e1 with e1
    injection e1 with e1 _ _
    subst e1
    have hp := Own.put hh (k * 3 + 1) (.int .i64 l)
    refine ⟨by rw [flat_len RegionR.cells_len], .inr ⟨g, cap', cur.setIfInBounds (k * 3 + 1) (.int .i64 l), ?_, hg, hp, by rw [hlen]; exact hc, hm, by simpa using hsz, ?_⟩⟩
    · rw [hlen, e2, e3]
    · rw [hlen, ← flat_level, ← htk]
      simp [List.take_set]
structure VisAt (w0 : World) (bs bl : Nat) (LA : Option Addr) (n cap : Nat) (A : Option Addr) (c : Nat) (most : Int) (ps : List RegionR) (lv : List Int) (b least : Int) (best : List Int) (vb : Value) (w : World) : Prop where
  box : Own w bs 61 #[.slice LA n cap, .slice A n c, .int .i64 most, .int .i64 b, vb, .int .i64 least]
  list : OwnsL w 0 34 3 RegionR.cells (.slice LA n cap) (psL ps lv)
  best : OwnsL w w0.heap.size 2 1 i64cells vb best
  bb : ∀ k, vb.ownBlock = some k → k ≠ bs
  below : Span bl (bl + 1) w0 w
  base : w0.heap.size ≤ bs
  lt : ∀ k, (Value.slice LA n cap).ownBlock = some k → k < w0.heap.size
  own : ∀ k, (Value.slice LA n cap).ownBlock = some k → bl = k
section
variable {w0 w w' : World} {bs bl n cap : Nat} {LA A : Option Addr} {c : Nat} {most : Int} {ps : List RegionR} {lv : List Int} {b least : Int} {best : List Int} {vb : Value}
theorem VisAt.cells (h : VisAt w0 bs bl LA n cap A c most ps lv b least best vb w) : w.cell? ⟨bs, 0, none⟩ = some (.slice LA n cap) ∧ w.cell? ⟨bs, 1, none⟩ = some (.slice A n c) ∧ w.cell? ⟨bs, 2, none⟩ = some (.int .i64 most) ∧ w.cell? ⟨bs, 3, none⟩ = some (.int .i64 b) ∧ w.cell? ⟨bs, 4, none⟩ = some vb ∧ w.cell? ⟨bs, 5, none⟩ = some (.int .i64 least) ∧ (∀ o, w.frozen? ⟨bs, o, none⟩ = false) ∧ bs < w.heap.size :=
  ⟨h.box.cell 0, h.box.cell 1, h.box.cell 2, h.box.cell 3, h.box.cell 4, h.box.cell 5, h.box.frozen, h.box.lt⟩
theorem VisAt.sl (h : VisAt w0 bs bl LA n cap A c most ps lv b least best vb w) (hp : ∀ p ∈ ps, p.In w) : Region.Sl w LA n (withLv (ps.map RegionR.val) lv) :=
  ⟨psL ps lv, h.list.sl RegionR.cells_len, psL_in hp, psL_val.symm⟩
theorem VisAt.grow (h : VisAt w0 bs bl LA n cap A c most ps lv b least best vb w) (hb : Below w.heap.size w w') : VisAt w0 bs bl LA n cap A c most ps lv b least best vb w' :=
  ⟨h.box.below' hb, h.list.below' hb, h.best.below' hb, h.bb, h.below.more hb, h.base, h.lt, h.own⟩
theorem VisAt.bud (h : VisAt w0 bs bl LA n cap A c most ps lv b least best vb w) (b' : Int) : VisAt w0 bs bl LA n cap A c most ps lv b' least best vb (w.setCell ⟨bs, 3, none⟩ (.int .i64 b')) :=
  ⟨by have := h.box.put 3 (.int .i64 b'); simpa using this, h.list.kept (fun k hk => Below.heap_setCell w _ _ k (by have h1 : bl = k := h.own k hk
                                                                                                                    have := h.lt k hk; have := h.base; simp; omega)), h.best.kept (fun k hk => Below.heap_setCell w _ _ k (h.bb k hk)), h.bb, h.below.new h.base _, h.base, h.lt, h.own⟩
theorem VisAt.nil (h : VisAt w0 bs bl LA n cap A c most ps lv b least best vb w) (l : Int) : VisAt w0 bs bl LA n cap A c most ps lv b l [] (.slice none 0 0) ((w.setCell ⟨bs, 4, none⟩ (.slice none 0 0)).setCell ⟨bs, 5, none⟩ (.int .i64 l)) := by
  have hne : ∀ k, (Value.slice LA n cap).ownBlock = some k → k ≠ bs := fun k hk => by
    have h1 : bl = k := h.own k hk
    have := h.lt k hk; have := h.base; omega
  refine ⟨by have := (h.box.put 4 (.slice none 0 0)).put 5 (.int .i64 l); simpa using this, (h.list.kept (fun k hk => Below.heap_setCell w ⟨bs, 4, none⟩ _ k (hne k hk))).kept (fun k hk => Below.heap_setCell _ ⟨bs, 5, none⟩ _ k (hne k hk)), OwnsL.nil_ _ _ _ _ _, fun k hk => by simp [Value.ownBlock] at hk, (h.below.new h.base _).new h.base _, h.base, h.lt, h.own⟩
theorem VisAt.level (hla : LA = some ⟨bl, 0, none⟩) (h : VisAt w0 bs bl LA n cap A c most ps lv b least best vb w) (k : Nat) (l : Int) : VisAt w0 bs bl LA n cap A c most ps (lv.set k l) b least best vb (w.setCell ⟨bl, k * 3 + 1, none⟩ (.int .i64 l)) := by
  subst hla
  have hne : bs ≠ bl := by have := h.lt bl rfl; have := h.base; omega
  refine ⟨(Below.heap_setCell w ⟨bl, k * 3 + 1, none⟩ _ bs hne).trans h.box, h.list.level k l, h.best.kept (fun q hq => Below.heap_setCell w ⟨bl, k * 3 + 1, none⟩ _ q (by have := (h.best.lt q hq).1; have := h.lt bl rfl; simp; omega)), h.bb, h.below.setCell (Nat.le_refl _) (Nat.lt_succ_self _) _, h.base, h.lt, h.own⟩
theorem VisAt.push {v' : Value} {best' : List Int} (h : VisAt w0 bs bl LA n cap A c most ps lv b least best vb w) (hown : OwnsL w' w0.heap.size 2 1 i64cells v' best') (hb : Below w0.heap.size w w') (hkp : ∀ b, b < w.heap.size → some b ≠ vb.ownBlock → w'.heap[b]? = w.heap[b]?) (hne : ∀ k, v'.ownBlock = some k → k ≠ bs) :
    Own w' bs 61 #[.slice LA n cap, .slice A n c, .int .i64 most, .int .i64 b, vb, .int .i64 least] ∧ VisAt w0 bs bl LA n cap A c most ps lv b least best' v' (w'.setCell ⟨bs, 4, none⟩ v') := by
  have hbox := (hkp bs h.box.lt (fun e => h.bb bs e.symm rfl)).trans h.box
  have hbl := h.own
  refine ⟨hbox, ⟨by have := Own.put hbox 4 v'; simpa using this, (h.list.kept (fun k hk => hkp k (h.list.lt k hk).2 (fun e => by have h1 := (h.best.lt k e.symm).1; have h2 := hbl k hk; have := h.lt k hk; omega))).kept (fun k hk => Below.heap_setCell w' ⟨bs, 4, none⟩ _ k (by have h2 := hbl k hk; have := h.lt k hk; have := h.base; simp; omega)), hown.kept (fun k hk => Below.heap_setCell w' ⟨bs, 4, none⟩ _ k (hne k hk)), hne, (h.below.low hb).new h.base _, h.base, h.lt, h.own⟩⟩
end

end Go.Proofs.Ytpibiieibofggaa
