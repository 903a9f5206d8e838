/- What the call itself makes: a slice that it appends to, read as a list of elements. -/
import Derived.Test.YtllchmacipacnaaGreatDoorKit
namespace Go.Proofs.YtllchmacipacnaaGreatDoor
open Go.RowKit

theorem flat_len {α : Type} {cells : α → List Value} {sz : Nat} (hsz : ∀ x, (cells x).length = sz) : ∀ xs : List α, (xs.flatMap cells).length = xs.length * sz
  | [] => by simp
  | x :: xs => by rw [List.flatMap_cons, List.length_append, hsz, flat_len hsz xs, List.length_cons, Nat.succ_mul]; omega
theorem flat_get {α : Type} {cells : α → List Value} {sz : Nat} (hsz : ∀ x, (cells x).length = sz) : ∀ (xs : List α) (i j : Nat) (x : α) (v : Value), xs[i]? = some x → (cells x)[j]? = some v → (xs.flatMap cells)[i * sz + j]? = some v
  | [], i, j, x, v, hx, _ => by simp at hx
  | y :: xs, 0, j, x, v, hx, hv => by
    simp only [List.getElem?_cons_zero, Option.some.injEq] at hx
    subst hx
    rw [List.flatMap_cons, Nat.zero_mul, Nat.zero_add, List.getElem?_append_left ((List.getElem?_eq_some_iff.1 hv).1)]
    exact hv
  | y :: xs, i + 1, j, x, v, hx, hv => by
    simp only [List.getElem?_cons_succ] at hx
    rw [List.flatMap_cons, List.getElem?_append_right (by rw [hsz, Nat.succ_mul]; omega), hsz, show (i + 1) * sz + j - sz = i * sz + j by rw [Nat.succ_mul]; omega]
    exact flat_get hsz xs i j x v hx hv

theorem addr_add0 (g n : Nat) : (⟨g, 0, none⟩ : Addr).add n = ⟨g, n, none⟩ := by
  unfold Addr.add
  split
  · simp only [Addr.mk.injEq, true_and, and_true]; omega
  · simp only [Addr.mk.injEq, true_and, and_true]; omega

/-- The slice value v holds the elements xs and lies in a row of the call's own (nil where nothing was appended), at or above block base. -/
def OwnsL {α : Type} (w : World) (base : Nat) (e : TypeId) (sz : Nat) (cells : α → List Value) (v : Value) (xs : List α) : Prop := w.ownsRow base e sz v xs.length (xs.flatMap cells)

section
variable {α : Type} {w w' : World} {base : Nat} {e : TypeId} {sz : Nat} {cells : α → List Value} {v : Value} {xs : List α}
theorem OwnsL.nil_ (w : World) (base : Nat) (e : TypeId) (sz : Nat) (cells : α → List Value) : OwnsL w base e sz cells (.slice none 0 0) [] := World.ownsRow_nil w base e sz
theorem OwnsL.made (w : World) (base : Nat) (e : TypeId) (sz : Nat) (cells : α → List Value) (hb : base ≤ w.heap.size) : OwnsL (w.alloc (.cells #[] e)) base e sz cells (.slice (some ⟨w.heap.size, 0, none⟩) 0 0) [] :=
  World.ownsRow_made w #[] 0 hb (by simp [maxLen]) (by simp)
theorem OwnsL.lt (h : OwnsL w base e sz cells v xs) : ∀ k, v.ownBlock = some k → base ≤ k ∧ k < w.heap.size := World.ownsRow.lt h
theorem OwnsL.rebase {base' : Nat} (h : OwnsL w base e sz cells v xs) (hb : base' ≤ base) : OwnsL w base' e sz cells v xs := by
  refine ⟨h.1, ?_⟩
  rcases h.2 with h2 | ⟨g, cap, cur, hv, hg, h3⟩
  · exact .inl h2
  · exact .inr ⟨g, cap, cur, hv, Nat.le_trans hb hg, h3⟩
theorem OwnsL.alloc (h : OwnsL w base e sz cells v xs) (o : Obj) : OwnsL (w.alloc o) base e sz cells v xs := World.ownsRow.alloc h o
theorem OwnsL.below {B : Nat} (h : OwnsL w base e sz cells v xs) (hB : w.heap.size ≤ B) (hb : Below B w w') : OwnsL w' base e sz cells v xs := by
  have hlt := h.lt
  refine ⟨h.1, ?_⟩
  rcases h.2 with h2 | ⟨g, cap, cur, hv, hg, hh, h3⟩
  · exact .inl h2
  · exact .inr ⟨g, cap, cur, hv, hg, (hb.block g (Nat.lt_of_lt_of_le (hlt g (by rw [hv]; rfl)).2 hB)).trans hh, h3⟩
theorem OwnsL.below' (h : OwnsL w base e sz cells v xs) (hb : Below w.heap.size w w') : OwnsL w' base e sz cells v xs := h.below (Nat.le_refl _) hb
theorem OwnsL.slice (hsz : ∀ x, (cells x).length = sz) (h : OwnsL w base e sz cells v xs) : ∃ A c, v = .slice A xs.length c ∧ xs.length ≤ c ∧ c ≤ maxLen ∧ SliceOf w sz cells A xs.length xs := by
  have hlt := h.lt
  have hce := fun g hg => World.ownsRow.cells h (g := g) hg
  rcases h.2 with ⟨hv, hn⟩ | ⟨g, cap, cur, hv, hg, hh, hc, hm, h3⟩
  · refine ⟨none, 0, by rw [hv, hn], by omega, by simp [maxLen], rfl, by omega, fun hp => absurd hp (by omega)⟩
  · refine ⟨some ⟨g, 0, none⟩, cap, hv, hc, hm, rfl, by simp [maxLen] at hm; omega, fun _ => ⟨g, 0, rfl, (hlt g (by rw [hv]; rfl)).2, fun i x j u hx hu => ?_⟩⟩
    have := hce g (by rw [hv]; rfl) (i * sz + j) u (flat_get hsz xs i j x u hx hu)
    rw [Nat.zero_add]
    rwa [addr_add0] at this
end

/-- A slice value's parts, as numbers. -/
theorem OwnsL.sl {α : Type} {w : World} {base : Nat} {e : TypeId} {sz : Nat} {cells : α → List Value} {A : Option Addr} {n c : Nat} {xs : List α} (h : OwnsL w base e sz cells (.slice A n c) xs) (hsz : ∀ x, (cells x).length = sz) : SliceOf w sz cells A n xs := by
  obtain ⟨A', c', h1, _, _, h2⟩ := h.slice hsz
  injection h1 with e1 e2 e3
  subst e1 e2 e3
  exact h2

/-- 'append(out, y)' of one element. -/
theorem wpList_push {α : Type} {P : Program} {ops : Array Oper} {rest : List Oper} {o : Oper} {a : Act} {Q : Exit → Act → World → Prop} {w : World} (hgd : o.guard = none) (s x : Operand) (t : TypeId)
    (ho : o.op = .call { callee := .builtin .append, args := #[s, x], argTypes := #[t, t] })
    (base : Nat) (e : TypeId) {z : Value} (sz : Nat) {bytes : Nat} (ht : P.underlying t = some (.slice e)) (hinfo : (P.info? e).map (fun i => (i.zero, i.size, i.bytes)) = some (some z, sz, bytes)) (hzs : z.cells.size = sz) (hsz : 0 < sz)
    (cells : α → List Value) (hcl : ∀ y, (cells y).length = sz) (hc1 : ∀ y, ∀ u ∈ cells y, u.oneCell' = true) (cs : Array Value)
    (v : Value) (xs : List α) (y : α) (hcs : cs.toList = cells y) (hs : a.eval s = v) (hown : OwnsL w base e sz cells v xs) (hx : a.eval x = .slice (some ⟨w.heap.size, 0, none⟩) 1 1)
    (hlen : xs.length ≤ 1048576) (hby : bytes ≤ 1024) (hbase : base ≤ w.heap.size)
    (h : ∀ v' w', OwnsL w' base e sz cells v' (xs ++ [y]) → Below base w w' → (∀ b, b < w.heap.size → some b ≠ v.ownBlock → w'.heap[b]? = w.heap[b]?) → wpList P ops Q rest (a.put o.dst v') w') : wpList P ops Q (o :: rest) a (w.alloc (.cells cs e)) := by
  obtain ⟨i, hi, hz, hsize, hbytes⟩ := info_parts hinfo
  refine wpList_append_own (w.alloc (.cells cs e)) hgd s x t ho base e i z sz bytes ht hi hz hsize hbytes hzs hsz v xs.length (xs.flatMap cells) hs (World.ownsRow.alloc hown _) ⟨w.heap.size, 0, none⟩ 1 1 (cells y) hx (by rw [hcl]; omega) ?_ (hc1 y) ?_ ?_ ?_ ?_
  · intro j u hu
    rw [← hcs] at hu
    rw [addr_add0, World.cell?_alloc_new]
    simpa using hu
  · simp [maxLen]; omega
  · have : (xs.length + 1) * bytes ≤ 1048577 * 1024 := Nat.mul_le_mul (by omega) hby
    omega
  · simp; omega
  · intro v' w' h1 h2 _
    have hrow := World.ownsRow.lt hown
    refine h v' w' (by unfold OwnsL; simpa using h1) (((Below.refl base w).alloc hbase _).grown h2 (by simp; omega) (fun k hk => (hrow k hk).1)) (fun b hb hne => ?_)
    rw [h2.block b (by simp; omega) hne]
    exact Below.heap_alloc w _ b hb

/-! ### Made slices; what a writer of blocks lo .. hi - 1 leaves -/

theorem FilledTo.toList {α : Type} {cells : α → List Value} {sz : Nat} (hsz : ∀ x, (cells x).length = sz) {xs : List α} {cs : Array Value} (hn : cs.size = xs.length * sz) (hf : FilledTo sz cells xs xs.length cs) : cs.toList = xs.flatMap cells := by
  apply List.ext_getElem?
  intro p
  rcases Nat.eq_zero_or_pos sz with h0 | h0
  · subst h0
    rw [List.getElem?_eq_none (by simp; omega), List.getElem?_eq_none (by rw [flat_len hsz]; omega)]
  · by_cases hp : p < xs.length * sz
    · have e : p = p / sz * sz + p % sz := by rw [Nat.mul_comm]; exact (Nat.div_add_mod p sz).symm
      have hj : p % sz < sz := Nat.mod_lt _ h0
      have hi : p / sz < xs.length := by rw [Nat.div_lt_iff_lt_mul h0]; exact hp
      have hx := List.getElem?_eq_getElem hi
      have hv : (cells xs[p / sz])[p % sz]? = some ((cells xs[p / sz])[p % sz]'(by rw [hsz]; exact hj)) := List.getElem?_eq_getElem _
      have h1 := hf _ _ _ _ hi hx hv
      have h2 := flat_get hsz xs _ _ _ _ hx hv
      rw [e, h2]
      simpa using h1
    · rw [List.getElem?_eq_none (by simp; omega), List.getElem?_eq_none (by rw [flat_len hsz]; omega)]

theorem Own.ownsL {α : Type} {w : World} {g : Nat} {T : TypeId} {cs : Array Value} {sz base n : Nat} {cells : α → List Value} {xs : List α} (h : Own w g T cs) (hsz : ∀ x, (cells x).length = sz) (hbase : base ≤ g) (hl : xs.length = n) (hn : cs.size = n * sz) (hle : n ≤ 1048576) (hf : FilledTo sz cells xs n cs) :
    OwnsL w base T sz cells (.slice (some ⟨g, 0, none⟩) n n) xs := by
  subst hl
  refine ⟨flat_len hsz xs, .inr ⟨g, xs.length, cs, rfl, hbase, h, Nat.le_refl _, by simp [maxLen]; omega, hn, ?_⟩⟩
  rw [List.take_of_length_le (by simp; omega)]
  exact hf.toList hsz hn

/-- Only blocks lo .. hi - 1, and new ones, differ. -/
structure Span (lo hi : Nat) (w w' : World) : Prop where
  os : w'.os = w.os
  tape : w'.tape = w.tape
  output : w'.output = w.output
  size : w.heap.size ≤ w'.heap.size
  block : ∀ k, k < w.heap.size → (k < lo ∨ hi ≤ k) → w'.heap[k]? = w.heap[k]?
theorem Span.refl (lo hi : Nat) (w : World) : Span lo hi w w := ⟨rfl, rfl, rfl, Nat.le_refl _, fun _ _ _ => rfl⟩
theorem Span.trans {lo hi : Nat} {a b c : World} (h : Span lo hi a b) (k : Span lo hi b c) : Span lo hi a c :=
  ⟨k.os.trans h.os, k.tape.trans h.tape, k.output.trans h.output, Nat.le_trans h.size k.size, fun i hi' ho => (k.block i (Nat.lt_of_lt_of_le hi' h.size) ho).trans (h.block i hi' ho)⟩
theorem Span.mono {lo hi lo' hi' : Nat} {w w' : World} (h : Span lo hi w w') (h1 : lo' ≤ lo) (h2 : hi ≤ hi') : Span lo' hi' w w' :=
  ⟨h.os, h.tape, h.output, h.size, fun k hk ho => h.block k hk (by omega)⟩
theorem Span.of_below {lo hi B : Nat} {w w' : World} (h : Below B w w') (hB : w.heap.size ≤ B) : Span lo hi w w' :=
  ⟨h.os, h.tape, h.output, h.size, fun k hk _ => h.block k (Nat.lt_of_lt_of_le hk hB)⟩
theorem Below.span {B lo hi : Nat} {a w w' : World} (h : Below B a w) (hs : Span lo hi w w') (hB : B ≤ w.heap.size) (hlo : B ≤ lo) : Below B a w' :=
  ⟨hs.os.trans h.os, hs.tape.trans h.tape, hs.output.trans h.output, Nat.le_trans h.size hs.size, fun k hk => (hs.block k (Nat.lt_of_lt_of_le hk hB) (.inl (Nat.lt_of_lt_of_le hk hlo))).trans (h.block k hk)⟩
theorem Span.setCell {lo hi : Nat} {a w : World} (h : Span lo hi a w) {p : Addr} (h1 : lo ≤ p.block) (h2 : p.block < hi) (u : Value) : Span lo hi a (w.setCell p u) :=
  ⟨h.os, h.tape, h.output, by simpa using h.size, fun k hk ho => (Below.heap_setCell w p u k (by omega)).trans (h.block k hk ho)⟩
theorem SliceOf.span {α : Type} {w w' : World} {sz n b o lo hi : Nat} {cells : α → List Value} {xs : List α} (h : SliceOf w sz cells (some ⟨b, o, none⟩) n xs) (hs : Span lo hi w w') (hb : b < lo ∨ hi ≤ b) : SliceOf w' sz cells (some ⟨b, o, none⟩) n xs :=
  ⟨h.1, h.2.1, fun hn => by
    obtain ⟨b', off, hA, hlt, hc⟩ := h.2.2 hn
    injection hA with hA
    injection hA with e1 e2 _
    subst e1 e2
    exact ⟨b, o, rfl, Nat.lt_of_lt_of_le hlt hs.size, fun i x j v hx hv => (World.cell?_of_block (a := ⟨b, _, none⟩) (hs.block b hlt hb)).trans (hc i x j v hx hv)⟩⟩
theorem OwnsL.span {α : Type} {w w' : World} {base lo hi : Nat} {e : TypeId} {sz : Nat} {cells : α → List Value} {v : Value} {xs : List α} (h : OwnsL w base e sz cells v xs) (hs : Span lo hi w w') (hb : ∀ k, v.ownBlock = some k → k < lo ∨ hi ≤ k) : OwnsL w' base e sz cells v xs := by
  have hlt := h.lt
  refine ⟨h.1, ?_⟩
  rcases h.2 with h2 | ⟨g, cap, cur, hv, hg, hh, h3⟩
  · exact .inl h2
  · exact .inr ⟨g, cap, cur, hv, hg, (hs.block g (hlt g (by rw [hv]; rfl)).2 (hb g (by rw [hv]; rfl))).trans hh, h3⟩
/-- The row's cells overwritten. -/
theorem OwnsL.form {α : Type} {w : World} {base : Nat} {e : TypeId} {sz : Nat} {cells : α → List Value} {v : Value} {xs : List α} (h : OwnsL w base e sz cells v xs) :
    (v = .slice none 0 0 ∧ xs = []) ∨ ∃ g cap cur, v = .slice (some ⟨g, 0, none⟩) xs.length cap ∧ base ≤ g ∧ Own w g e cur ∧ xs.length ≤ cap ∧ cap ≤ maxLen ∧ cur.size = cap * sz := by
  rcases h.2 with ⟨h2, h3⟩ | ⟨g, cap, cur, hv, hg, hh, h3, h4, h5, _⟩
  · exact .inl ⟨h2, List.eq_nil_of_length_eq_zero h3⟩
  · exact .inr ⟨g, cap, cur, hv, hg, hh, h3, h4, h5⟩
/-- The slice value v was written over, nothing else. -/
def Marked (v : Value) (w w' : World) : Prop := ((∃ g, v.ownBlock = some g ∧ Span g (g + 1) w w') ∨ (v.ownBlock = none ∧ w = w')) ∧ w'.heap.size = w.heap.size
theorem Marked.span {v : Value} {w w' : World} (h : Marked v w w') {lo hi : Nat} (hb : ∀ k, v.ownBlock = some k → lo ≤ k ∧ k < hi) : Span lo hi w w' := by
  rcases h.1 with ⟨g, hg, hs⟩ | ⟨_, rfl⟩
  · have := hb g hg
    exact hs.mono (by omega) (by omega)
  · exact Span.refl _ _ _
/-- A call that hands back a slice of its own. -/
def RetL {α : Type} (e : TypeId) (sz : Nat) (cells : α → List Value) (xs : List α) (w : World) : Ending → World → Prop := RetP (fun v w' => OwnsL w' w.heap.size e sz cells v xs) w
/-- A call that hands back a slice of its own, and further values. -/
def RetLT {α : Type} (e : TypeId) (sz : Nat) (cells : α → List Value) (xs : List α) (rest : List Value) (w : World) (en : Ending) (w' : World) : Prop := ∃ v, en = .returned (.tuple (v :: rest).toArray) ∧ OwnsL w' w.heap.size e sz cells v xs ∧ Below w.heap.size w w'
/-- A call that writes over blocks lo .. hi - 1 alone and hands back v. -/
def RetW (lo hi : Nat) (v : Value) (w : World) (e : Ending) (w' : World) : Prop := e = .returned v ∧ Span lo hi w w'

end Go.Proofs.YtllchmacipacnaaGreatDoor
