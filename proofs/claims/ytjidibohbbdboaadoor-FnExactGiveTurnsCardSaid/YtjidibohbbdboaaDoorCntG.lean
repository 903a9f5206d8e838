/- GiveTurns of the program. -/
import Derived.Test.YtjidibohbbdboaaDoorCntJ
namespace Go.Proofs.YtjidibohbbdboaaDoor
open Go.RowKit

/-- What the search for the next person looks at: the turns' box, the box of those given so far, and they themselves. -/
structure GiveAt (na m g : Nat) (A : Option Addr) (ca b bt bg : Nat) (w0 : World) (v : Value) (given : List Int) (w : World) : Prop where
  box : Own w bt 41 #[.int .i64 (na : Int), .int .i64 (m : Int), .int .i64 (g : Int), .slice A na ca, .map (some b)]
  cell : Own w bg 29 #[v]
  route : OwnsL w w0.heap.size 2 1 i64cells v given
  below : Below w0.heap.size w0 w
  bb : w0.heap.size ≤ b
  bbt : w0.heap.size ≤ bt
  bbg : w0.heap.size ≤ bg
  n1 : bt ≠ b
  n2 : bg ≠ b
  n3 : bt ≠ bg
  vb : ∀ k, v.ownBlock = some k → k ≠ b ∧ k ≠ bt ∧ k ≠ bg
section
variable {na m g : Nat} {A : Option Addr} {ca b bt bg : Nat} {w0 w w' : World} {v : Value} {given : List Int}
theorem GiveAt.span (h : GiveAt na m g A ca b bt bg w0 v given w) (hs : Span b (b + 1) w w') : GiveAt na m g A ca b bt bg w0 v given w' :=
  ⟨(hs.block _ h.box.lt (by have := h.n1; omega)).trans h.box, (hs.block _ h.cell.lt (by have := h.n2; omega)).trans h.cell, h.route.span hs (fun k hk => by have := (h.vb k hk).1; omega), Below.span h.below hs h.below.size h.bb, h.bb, h.bbt, h.bbg, h.n1, h.n2, h.n3, h.vb⟩
theorem GiveAt.append {x : Int} {v' : Value} {ab : List Row} {N : Nat} (h : GiveAt na m g A ca b bt bg w0 v given w) (hm : MapAt na m g ab b N w) (hown : OwnsL w' w0.heap.size 2 1 i64cells v' (given ++ [x])) (hb : Below w0.heap.size w w') (hkp : ∀ b, b < w.heap.size → some b ≠ v.ownBlock → w'.heap[b]? = w.heap[b]?) (hob : v'.ownBlock = v.ownBlock ∨ v'.ownBlock = some (w.heap.size + 1)) :
    Own w' bg 29 #[v] ∧ GiveAt na m g A ca b bt bg w0 v' (given ++ [x]) (w'.setCell ⟨bg, 0, none⟩ v') ∧ MapAt na m g ab b N (w'.setCell ⟨bg, 0, none⟩ v') := by
  have hbl := hm.lt
  have e0 : w'.heap[bt]? = w.heap[bt]? := hkp bt h.box.lt (fun e => (h.vb bt e.symm).2.1 rfl)
  have e1 : w'.heap[bg]? = w.heap[bg]? := hkp bg h.cell.lt (fun e => (h.vb bg e.symm).2.2 rfl)
  have e2 : w'.heap[b]? = w.heap[b]? := hkp b hbl (fun e => (h.vb b e.symm).1 rfl)
  have hc : Own w' bg 29 #[v] := e1.trans h.cell
  have hv : ∀ k, v'.ownBlock = some k → k ≠ b ∧ k ≠ bt ∧ k ≠ bg := fun k hk => by
    rcases hob with e | e
    · exact h.vb k (e ▸ hk)
    · rw [e] at hk
      injection hk with hk
      have h1 := h.box.lt
      have h2 := h.cell.lt
      exact ⟨by omega, by omega, by omega⟩
  refine ⟨hc, ⟨?_, ?_, ?_, ?_, h.bb, h.bbt, h.bbg, h.n1, h.n2, h.n3, hv⟩, hm.grow ((Below.heap_setCell w' ⟨bg, 0, none⟩ v' b (fun e => h.n2 e.symm)).trans e2)⟩
  · exact (Below.heap_setCell w' ⟨bg, 0, none⟩ v' bt h.n3).trans (e0.trans h.box)
  · have h5 := hc.put 0 v'
    simpa using h5
  · exact hown.kept (fun k hk => Below.heap_setCell w' ⟨bg, 0, none⟩ v' k (hv k hk).2.2)
  · exact (h.below.trans hb).setCell h.bbg v'
theorem GiveAt.cells (h : GiveAt na m g A ca b bt bg w0 v given w) : w.cell? ⟨bt, 0, none⟩ = some (.int .i64 (na : Int)) ∧ w.cell? ⟨bt, 1, none⟩ = some (.int .i64 (m : Int)) ∧ w.cell? ⟨bt, 2, none⟩ = some (.int .i64 (g : Int)) ∧ w.cell? ⟨bt, 3, none⟩ = some (.slice A na ca) ∧ w.cell? ⟨bt, 4, none⟩ = some (.map (some b)) ∧ w.cell? ⟨bg, 0, none⟩ = some v :=
  ⟨h.box.cell 0, h.box.cell 1, h.box.cell 2, h.box.cell 3, h.box.cell 4, h.cell.cell 0⟩
end
def okG (n g : Nat) (ab : List Row) (f : Nat) (given : List Int) (p : Nat) : Bool := mayB g ab given p && decide (0 < waysN n g ab f (given ++ [(p : Int)]))
def CloD (n m g : Nat) (ab : List Row) (b N : Nat) (r : Bool) (w : World) (e : Ending) (w' : World) : Prop := e = .returned (.bool r) ∧ MapAt n m g ab b N w' ∧ Span b (b + 1) w w'
set_option maxRecDepth 100000 in
set_option maxHeartbeats 2000000 in
theorem giveClo_any (na m g : Nat) (A : Option Addr) (ca : Nat) (ab : List Row) (b bt bg : Nat) (w0 : World) (hx : Row.Sl w0 A na ab) (hok : TurnsOk na m g ab) (ht : TabAt w0.heap.size w0) (f : Nat) (given : List Int) (v : Value) (p N : Nat) (w : World) (hG : GiveAt na m g A ca b bt bg w0 v given w) (hM : MapAt na m g ab b N w) (hl : given.length + (f + 1) = m) (hpp : Ppl given) (hp : p < na) (hcap : N + capI f ≤ 1000000000000000) :
    Calls Tryd.prog 23 #[.int .i64 (p : Int), .pointer (some ⟨bt, 0, none⟩), .pointer (some ⟨bg, 0, none⟩)] w (CloD na m g ab b (N + capI f) (okG na g ab f given p) w) := by
  have HX := Lib.hid hx
  have HT := Lib.hid ht
  have HOK := Lib.hid hok
  obtain ⟨hn1, hn8, hm12, hg1, hg12, _, _⟩ := hok
  obtain ⟨B, c, rfl, hc1, hc2, hB⟩ := hG.route.look
  obtain ⟨l, hll⟩ : ∃ l, given.length = l := ⟨_, rfl⟩
  rw [hll] at hG hc1 hl
  have HG := Lib.hid hG
  have HM := Lib.hid hM
  have HL := Lib.hid hll
  have HLM := Lib.hid hl
  have HPP := Lib.hid hpp
  have HCAP := Lib.hid hcap
  have HC1 := Lib.hid hc1
  have HB := Lib.hid hB
  have HBL : Hid (b < w.heap.size) := hM.lt
  obtain ⟨y0, y1, y2, y3, y4, y5⟩ := hG.cells
  have lt1 := hG.box.lt
  have lt2 := hG.cell.lt
  clear hx ht hG hM hll hl hpp hcap hc1 hB
  have HSH : Hid (∀ w', Span b (b + 1) w w' → w'.cell? ⟨bt, 0, none⟩ = some (.int .i64 (na : Int)) ∧ w'.cell? ⟨bt, 1, none⟩ = some (.int .i64 (m : Int)) ∧ w'.cell? ⟨bt, 2, none⟩ = some (.int .i64 (g : Int)) ∧ w'.cell? ⟨bt, 3, none⟩ = some (.slice A na ca) ∧ w'.cell? ⟨bt, 4, none⟩ = some (.map (some b)) ∧ w'.cell? ⟨bg, 0, none⟩ = some (.slice B l c) ∧ Span b (b + 1) w w') := fun w' h => by
    obtain ⟨q0, q1, q2, q3, q4, q5⟩ := (HG.out.span h).cells
    exact ⟨q0, q1, q2, q3, q4, q5, h⟩
  have HMY : Hid (∀ W : World, Span b (b + 1) w W → Calls Tryd.prog 24 #[.agg #[.int .i64 (na : Int), .int .i64 (m : Int), .int .i64 (g : Int), .slice A na ca, .map (some b)], .slice B l c, .int .i64 (p : Int)] W (Ret (.bool (mayB g ab given p)) W)) := fun W h => by
    have h2 := HG.out.span h
    have h3 := h2.route.sl i64cells_len
    exact turnMay_any na m g A na ca (.map (some b)) ab B l c given p W (HX.out.below h2.below) h3 HC1.out HB.out hg1 hg12 (by have := HLM.out; omega) hp
  cases hmay : mayB g ab given p
  · have HR : Hid (okG na g ab f given p = false) := by rw [Hid, okG, hmay]; rfl
    have HM2 := Lib.hid (HM.out.mono (Nat.le_add_right N (capI f)))
    have HMB : Hid (∀ W : World, Below w.heap.size w W → Calls Tryd.prog 24 #[.agg #[.int .i64 (na : Int), .int .i64 (m : Int), .int .i64 (g : Int), .slice A na ca, .map (some b)], .slice B l c, .int .i64 (p : Int)] W (Ret (.bool false) W)) := fun W h => by
      have h2 := HMY.out W (Span.of_below h (Nat.le_refl _))
      rw [hmay] at h2
      exact h2
    clear HMY HSH hmay
    go_enter Tryd.func23, Tryd.ntmps23
    have hsub := fun (g : Sub w) b o (h : b < w.heap.size) => g.cell b o h
    go_wp2_with fail
    refine wp_region_sub (by kernel_rfl) (by kernel_rfl) ?_
    repeat (go_big_quiet_step (exact Calls.sub_of (HMB.out _ (Sub.below _))))
    refine wpQuiet_nil ?_
    intro wg hg
    have HM3 := Lib.hid (HM2.out.below hg)
    have HS3 := Lib.hid (Span.of_below (lo := b) (hi := b + 1) hg (Nat.le_refl _))
    clear y0 y1 y2 y3 y4 y5 hsub hg
    go_wp2
    go_ret
    exact ⟨by rw [HR.out]; rfl, HM3.out, HS3.out⟩
  · rw [hmay] at HMY
    obtain ⟨R0, hR0⟩ : ∃ R0, waysN na g ab f (given ++ [(p : Int)]) = R0 := ⟨_, rfl⟩
    have HR : Hid (okG na g ab f given p = decide (0 < R0)) := by rw [Hid, okG, hmay, hR0, Bool.true_and]
    have hR8 : R0 ≤ 68719476736 := by rw [← hR0]; exact waysN_le12 hn8 (by have := HLM.out; omega) _
    have HGL : Hid (given.length ≤ 1048576) := by rw [Hid, HL.out]; have := HLM.out; omega
    have HCL : Hid (∀ W : World, Span b (b + 1) w W → Calls Tryd.prog 25 #[.slice B l c] W (RetL 2 1 i64cells given W)) := fun W h => cloneI_look (HG.out.span h).route HGL.out
    have HCT : Hid (∀ (W : World) (va : Value), OwnsL W w.heap.size 2 1 i64cells va (given ++ [(p : Int)]) → Below w.heap.size w W → Calls Tryd.prog 21 #[.agg #[.int .i64 (na : Int), .int .i64 (m : Int), .int .i64 (g : Int), .slice A na ca, .map (some b)], va] W (CntD na m g ab b (N + capI f) R0 W)) := fun W va h h2 => by
      have h3 := count_any na m g A ca ab b w0 HX.out HOK.out HG.out.bb HT.out f (given ++ [(p : Int)]) va N W (h.rebase (Nat.zero_le _)) (fun k2 hk2 => by have := (h.lt k2 hk2).1; have := HBL.out; omega) (by have := HLM.out; have := HL.out; simp; omega) (HPP.out.snoc (by rw [HL.out]; have := HLM.out; omega) (by omega)) (HG.out.below.trans (h2.mono HG.out.below.size)) (HM.out.below h2) HCAP.out
      rw [hR0] at h3
      exact h3
    clear hmay
    go_enter Tryd.func23, Tryd.ntmps23
    go_upto_region 1 with fail
    go_region_held3 (fun w' => w'.cell? ⟨bt, 0, none⟩ = some (.int .i64 (na : Int)) ∧ w'.cell? ⟨bt, 1, none⟩ = some (.int .i64 (m : Int)) ∧ w'.cell? ⟨bt, 2, none⟩ = some (.int .i64 (g : Int)) ∧ w'.cell? ⟨bt, 3, none⟩ = some (.slice A na ca) ∧ w'.cell? ⟨bt, 4, none⟩ = some (.map (some b)) ∧ w'.cell? ⟨bg, 0, none⟩ = some (.slice B l c) ∧ Span b (b + 1) w w') (first | exact HSH.out _ (by (first | (with_reducible exact (And.right (And.right (And.right (And.right (And.right (And.right (by assumption)))))))) | repeat (first | (with_reducible exact Span.refl _ _ _) | (with_reducible refine spanC_drew ?_) | (with_reducible refine spanC_alc ?_ _) | (with_reducible refine spanC_below (by assumption) ?_) | (with_reducible refine spanC_low (by assumption) ?_) | (with_reducible refine spanC_span (by assumption) ?_))))) (first | (go_at_call 24; (with_reducible refine Calls.mono (HMY.out _ (by (first | (with_reducible exact (And.right (And.right (And.right (And.right (And.right (And.right (by assumption)))))))) | repeat (first | (with_reducible exact Span.refl _ _ _) | (with_reducible refine spanC_drew ?_) | (with_reducible refine spanC_alc ?_ _) | (with_reducible refine spanC_below (by assumption) ?_) | (with_reducible refine spanC_low (by assumption) ?_) | (with_reducible refine spanC_span (by assumption) ?_))))) ?_); rintro e w3 ⟨rfl, hb3⟩) | (go_at_call 25; (with_reducible refine Calls.mono (HCL.out _ (by (first | (with_reducible exact (And.right (And.right (And.right (And.right (And.right (And.right (by assumption)))))))) | repeat (first | (with_reducible exact Span.refl _ _ _) | (with_reducible refine spanC_drew ?_) | (with_reducible refine spanC_alc ?_ _) | (with_reducible refine spanC_below (by assumption) ?_) | (with_reducible refine spanC_low (by assumption) ?_) | (with_reducible refine spanC_span (by assumption) ?_))))) ?_); rintro e wc3 ⟨vc, rfl, hoc, hbc⟩) | (refine step_pushAt (by first | rfl | simp [Region.wanted]) (.tmp 12) (.tmp 14) 29 (by rfl) w.heap.size 2 Tryd.underlying29 infoI64 (by rfl) _ given (p : Int) _ (by rfl) (ownC hoc (by exact (by (repeat (first | (with_reducible exact Below.refl _ _) | (with_reducible refine Below.drew ?_) | (with_reducible refine belowC_alc ?_ _) | (with_reducible refine belowC_step (by assumption) ?_) | (with_reducible refine belowC_low (by assumption) ?_))) : Below w.heap.size w _).size) (by (repeat (first | (with_reducible exact Below.refl _ _) | (with_reducible refine Below.drew ?_) | (with_reducible refine belowC_alc ?_ _) | (with_reducible refine belowC_step (by assumption) ?_) | (with_reducible refine belowC_low (by assumption) ?_))))) (by first | rfl | simp [go_sem]) (by first | exact cellC_new _ _ _ | exact cellC_keep (w := w3) _ _ (by (repeat (first | (with_reducible exact Below.refl _ _) | (with_reducible refine Below.drew ?_) | (with_reducible refine belowC_alc ?_ _) | (with_reducible refine belowC_step (by assumption) ?_) | (with_reducible refine belowC_low (by assumption) ?_)))) | exact cellC_keep (w := w3.drew) _ _ (by (repeat (first | (with_reducible exact Below.refl _ _) | (with_reducible refine Below.drew ?_) | (with_reducible refine belowC_alc ?_ _) | (with_reducible refine belowC_step (by assumption) ?_) | (with_reducible refine belowC_low (by assumption) ?_))))) HGL.out (by decide) (by first | exact (by (repeat (first | (with_reducible exact Below.refl _ _) | (with_reducible refine Below.drew ?_) | (with_reducible refine belowC_alc ?_ _) | (with_reducible refine belowC_step (by assumption) ?_) | (with_reducible refine belowC_low (by assumption) ?_))) : Below w.heap.size w _).size) ?_; intro va wa hoa hba) | (go_at_call 21; (with_reducible refine Calls.mono (HCT.out _ _ hoa (by (repeat (first | (with_reducible exact Below.refl _ _) | (with_reducible refine Below.drew ?_) | (with_reducible refine belowC_alc ?_ _) | (with_reducible refine belowC_step (by assumption) ?_) | (with_reducible refine belowC_low (by assumption) ?_))))) ?_); rintro e wz ⟨rfl, hmz, hsz⟩))
    all_goals (rename_i hH; have HM3 := Lib.hid hmz; have HS3 := Lib.hid hH.2.2.2.2.2.2; clear hH hmz hsz; go_wp2; go_ret; exact ⟨by rw [HR.out]; rfl, HM3.out, HS3.out⟩)

end Go.Proofs.YtjidibohbbdboaaDoor
