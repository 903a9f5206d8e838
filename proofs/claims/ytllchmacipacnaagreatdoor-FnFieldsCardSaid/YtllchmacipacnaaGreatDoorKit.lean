/- The small library of this seat: what a call leaves ('Ret', 'RetS'); a region that draws its order over worlds that only grew; slices that hold rows of cells; arguments opened. -/
import Derived.Test.YtllchmacipacnaaGreatDoorPlain
import Derived.WalkKit
import Derived.WalkSpells
import Derived.WalkLawsBesides
import Derived.BigQuiet
import Derived.StillTail
import Derived.Lib.Hide
import Derived.Deep.LoopGhost
import Derived.Deep.Cut
import Derived.Deep.DeepCutAuto
import Derived.Deep.DeepFit
import Derived.Deep.DeepMust
import Derived.Deep.Light
import Derived.Deep.Slices
import Derived.Deep.Fields
import Derived.ChangeSame
import Derived.ProofKit
import Derived.OpenShut
import Derived.ShutString
import Derived.ChangeOld
namespace Go.Proofs.YtllchmacipacnaaGreatDoor
open Go.RowKit Go.ChangeShapes Go.WideShapes

/-! ### What a call leaves -/

/-- A call that hands back v and at most makes new blocks. -/
def Ret (v : Value) (w : World) (e : Ending) (w' : World) : Prop := e = .returned v ∧ Below w.heap.size w w'
/-- A call that hands back v and leaves the world as it was. -/
def RetS (v : Value) (w : World) (e : Ending) (w' : World) : Prop := e = .returned v ∧ w = w'
/-- A call that hands back some v of which R holds in the world behind it, and at most makes new blocks. -/
def RetP (R : Value → World → Prop) (w : World) (e : Ending) (w' : World) : Prop := ∃ v, e = .returned v ∧ R v w' ∧ Below w.heap.size w w'

theorem Ret.mk {v u : Value} {w w' : World} (h : v = u) (hb : Below w.heap.size w w') : Ret u w (.returned v) w' := ⟨by rw [h], hb⟩
theorem Ret.b {b c : Bool} {w w' : World} (h : b = c) (hb : Below w.heap.size w w') : Ret (.bool c) w (.returned (.bool b)) w' := ⟨by rw [h], hb⟩
theorem Ret.i {k : IntKind} {m n : Int} {w w' : World} (h : m = n) (hb : Below w.heap.size w w') : Ret (.int k n) w (.returned (.int k m)) w' := ⟨by rw [h], hb⟩
theorem RetS.mk {v u : Value} {w : World} (h : v = u) : RetS u w (.returned v) w := ⟨by rw [h], rfl⟩
theorem RetS.b {b c : Bool} {w : World} (h : b = c) : RetS (.bool c) w (.returned (.bool b)) w := ⟨by rw [h], rfl⟩
theorem RetS.i {k : IntKind} {m n : Int} {w : World} (h : m = n) : RetS (.int k n) w (.returned (.int k m)) w := ⟨by rw [h], rfl⟩
theorem RetS.ret {v : Value} {w : World} {e : Ending} {w' : World} (h : RetS v w e w') : Ret v w e w' := ⟨h.1, by rw [← h.2]; exact Below.refl _ _⟩
theorem RetP.mk {R : Value → World → Prop} {v : Value} {w w' : World} (h : R v w') (hb : Below w.heap.size w w') : RetP R w (.returned v) w' := ⟨v, rfl, h, hb⟩

theorem RetS.ii {j k : IntKind} {m n p q : Int} {w : World} (h : m = n) (h' : p = q) : RetS (.tuple #[.int j n, .int k q]) w (.returned (.tuple #[.int j m, .int k p])) w := ⟨by rw [h, h'], rfl⟩
theorem Ret.ii {j k : IntKind} {m n p q : Int} {w w' : World} (h : m = n) (h' : p = q) (hb : Below w.heap.size w w') : Ret (.tuple #[.int j n, .int k q]) w (.returned (.tuple #[.int j m, .int k p])) w' := ⟨by rw [h, h'], hb⟩
theorem Ret.bb {b : Bool} {w w' : World} (h : b = true) (hb : Below w.heap.size w w') : Ret (.bool true) w (.returned (.bool b)) w' := ⟨by rw [h], hb⟩

/-! ### A region that draws its order, over worlds that only grew -/

/-- The worlds that only grew out of w. -/
structure Sub (w : World) where
  val : World
  below : Below w.heap.size w val
instance (w : World) : Nonempty (Sub w) := ⟨⟨w, Below.refl _ _⟩⟩

theorem Sub.cell {w : World} (g : Sub w) (b o : Nat) (h : b < w.heap.size) : g.val.cell? ⟨b, o, none⟩ = w.cell? ⟨b, o, none⟩ := g.below.cell (p := ⟨b, o, none⟩) h

theorem Calls.sub_of {P : Program} {f : FuncId} {args : Array Value} {w : World} {g : Sub w} {v : Value} (h : Calls P f args g.val (Ret v g.val)) :
    Calls P f args g.val fun e w'' => e = .returned v ∧ ∃ g' : Sub w, w'' = g'.val :=
  h.mono fun _ _ ⟨he, hb⟩ => ⟨he, ⟨_, g.below.trans (hb.mono g.below.size)⟩, rfl⟩
theorem Calls.sub_of_eq {P : Program} {f : FuncId} {args : Array Value} {w : World} {g : Sub w} {v u : Value} (h : Calls P f args g.val (Ret v g.val)) (e : v = u) :
    Calls P f args g.val fun e w'' => e = .returned u ∧ ∃ g' : Sub w, w'' = g'.val := e ▸ Calls.sub_of h
theorem Calls.sub_of_same {P : Program} {f : FuncId} {args : Array Value} {w : World} {g : Sub w} {v : Value} (h : Calls P f args g.val (RetS v g.val)) :
    Calls P f args g.val fun e w'' => e = .returned v ∧ ∃ g' : Sub w, w'' = g'.val := Calls.sub_of (h.mono fun _ _ h => h.ret)
theorem Calls.sub_of_same_eq {P : Program} {f : FuncId} {args : Array Value} {w : World} {g : Sub w} {v u : Value} (h : Calls P f args g.val (RetS v g.val)) (e : v = u) :
    Calls P f args g.val fun e w'' => e = .returned u ∧ ∃ g' : Sub w, w'' = g'.val := e ▸ Calls.sub_of_same h

theorem wpQuiet_imp {P : Program} {C : World → Prop} {ops : Array Oper} {Q Q' : Act → Prop} (hq : ∀ a, Q a → Q' a) : ∀ (l : List Oper) (a : Act), wpQuiet P ops C Q l a → wpQuiet P ops C Q' l a
  | [], _, h => hq _ h
  | o :: l, a, h => by
    unfold wpQuiet at h ⊢
    split
    · rename_i hw; rw [if_pos hw] at h; exact Oper.quiet_mono (fun a => wpQuiet_imp hq l a) h
    · rename_i hw; rw [if_neg hw] at h; exact wpQuiet_imp hq l _ h

/-- A region that draws its order, every operation of which yields one value in all worlds that grew out of w. -/
theorem wp_region_sub {P : Program} {id : Nat} {Q : Exit → Act → World → Prop} {a : Act} {w : World} {l : List Oper} (hm : P.follows .mixedOrders = true) (hB : Region.lexB .any l.toArray = true)
    (h : wpQuiet P l.toArray (fun w' => ∃ g : Sub w, w' = g.val) (fun a' => ∀ w', Below w.heap.size w w' → Q .normal a' w') l a) : (Code.region id l.toArray true).wp P Q a w :=
  wp_region_quiet (C := fun w' => ∃ g : Sub w, w' = g.val) hm hB ⟨⟨_, (Below.refl _ _).drew⟩, rfl⟩ (by simpa using wpQuiet_imp (fun a (h : ∀ w', Below w.heap.size w w' → Q .normal a w') => (fun w' ⟨g, e⟩ => h w' (e ▸ g.below) : ∀ w', (∃ g : Sub w, w' = g.val) → Q .normal a w')) l a h)

section
variable {P : Program} {ops : Array Oper} {md : Region.Mode} {C : World → Prop}
/-- Whatever order is picked among the first n operations; L holds when they are through. -/
def wpAnyLC (P : Program) (md : Region.Mode) (ops : Array Oper) (C : World → Prop) (n : Nat) (L : Array Bool → Act → Prop) : Nat → Array Bool → Act → Prop
  | 0, listed, a => L listed a
  | f + 1, listed, a => Region.ready md ops listed ≠ [] ∧ ∀ i ∈ Region.ready md ops listed, i < n ∧ qOp P ops C i (wpAnyLC P md ops C n L f (listed.setIfInBounds i true)) a

theorem wpAny_of_headC {n g : Nat} {L : Array Bool → Act → Prop} {Q' : Exit → Act → World → Prop} (hL : ∀ listed a w, C w → L listed a → wpAny P md ops Q' g listed a w) :
    ∀ (f : Nat) (listed : Array Bool) (a : Act) (w : World), C w → wpAnyLC P md ops C n L f listed a → wpAny P md ops Q' (f + g) listed a w
  | 0, listed, a, w, hw, h => by rw [Nat.zero_add]; exact hL _ _ _ hw h
  | f + 1, listed, a, w, hw, h => by
    rw [show f + 1 + g = (f + g) + 1 by omega]
    exact ⟨fun h0 => absurd h0 h.1, fun i hi => wpOp_of_qOp hw (fun a' w' hw' h' => wpAny_of_headC hL f _ a' w' hw' h') (h.2 i hi).2⟩

theorem wpAnyLC_first {n i : Nat} {oi : Oper} {v : Value} {L : Array Bool → Act → Prop} (hi : ops[i]? = some oi) (hsel : ∀ (j : Nat) (o : Oper) cs b, ops[j]? = some o → o.op ≠ .select cs b)
    (hs : Region.sinkB md ops n = true) (hc : Region.chainB md ops n = true) (hn : n < ops.size) (hin : i < n)
    (hdone : ∀ listed a, L listed a → ∀ j ∈ Region.ready md ops listed, n ≤ j) :
    ∀ (f : Nat) (listed : Array Bool) (a : Act), HeadInv md ops n listed →
      (∀ j oj, ops[j]? = some oj → j ≠ i → listed.getD j true = false → (∀ e ∈ oj.after, Region.binds md e = true → e.on ≠ i) → oi.apart ops oj = true) →
      i ∈ Region.ready md ops listed → YieldsIn P ops C oi v a →
      wpAnyLC P md ops C n L f (listed.setIfInBounds i true) (a.put oi.dst v) → wpAnyLC P md ops C n L (f + 1) listed a := by
  intro f
  induction f with
  | zero =>
    intro listed a inv _ hr hy H
    have hun := (mem_ready.1 hr).1
    refine ⟨fun h => (by rw [h] at hr; cases hr), fun j hj => ?_⟩
    have hjn : j < n := by
      rcases Nat.lt_or_ge j n with h | h
      · exact h
      · exact absurd hj (tail_waits hs hc hn inv _ i rfl hin hun j h)
    refine ⟨hjn, ?_⟩
    by_cases hji : j = i
    · subst hji; exact hy.qOp hi H
    · have := hdone _ _ H j (ready_mono hj hji)
      omega
  | succ f ih =>
    intro listed a inv hfree hr hy H
    have hun := (mem_ready.1 hr).1
    refine ⟨fun h => (by rw [h] at hr; cases hr), fun j hj => ?_⟩
    have hjn : j < n := by
      rcases Nat.lt_or_ge j n with h | h
      · exact h
      · exact absurd hj (tail_waits hs hc hn inv _ i rfl hin hun j h)
    refine ⟨hjn, ?_⟩
    by_cases hji : j = i
    · subst hji; exact hy.qOp hi H
    · have h1 := (H.2 j (ready_mono hj hji)).2
      obtain ⟨hjun, oj, hoj, hall⟩ := mem_ready.1 hj
      have hnot : ∀ e ∈ oj.after, Region.binds md e = true → e.on ≠ i := fun e he hb heq => by
        have h1 := hall e he hb
        rw [heq, getD_both hun] at h1
        cases h1
      have h2 := qOp_put hoj (hfree j oj hoj hji hjun hnot) (fun cs b => hsel i oi cs b hi) (fun cs b => hsel j oj cs b hoj) hy h1
      have hfree' : ∀ k ok, ops[k]? = some ok → k ≠ i → (listed.setIfInBounds j true).getD k true = false →
          (∀ e ∈ ok.after, Region.binds md e = true → e.on ≠ i) → oi.apart ops ok = true := fun k ok hk hki hun hno => by
        refine hfree k ok hk hki ?_ hno
        by_cases hjk : j = k
        · subst hjk; exact hjun
        · rw [getD_set_ne true hjk] at hun; exact hun
      refine qOp_mono (fun a' h3 => ih (listed.setIfInBounds j true) a' (inv.set hj hjn) hfree' (ready_mono hr (Ne.symm hji)) h3.1 ?_) h2
      rw [Array.setIfInBounds_comm _ _ hji]
      exact h3.2

theorem wpAnyLC_lex {n g : Nat} {Lq : Act → Prop} (hsel : Region.noSelect ops = true) (hs : Region.sinkB md ops n = true) (hc : Region.chainB md ops n = true) (hn : n < ops.size) :
    ∀ (l : List Oper) (k : Nat) (listed : Array Bool) (a : Act), (∀ j, j < l.length → l[j]? = ops[k + j]?) → k + l.length = n → HeadInv md ops n listed →
    Region.lexHead md ops g l.length k listed = true → wpQuiet P ops C Lq l a →
    wpAnyLC P md ops C n (fun listed' a' => Region.seqB md ops g n listed' = true ∧ Lq a') l.length listed a
  | [], k, listed, a, _, hk, _, hB, h => by
    have : k = n := by simpa using hk
    subst this
    exact ⟨by simpa [Region.lexHead] using hB, h⟩
  | o :: l, k, listed, a, hl, hk, inv, hB, h => by
    have h0 : ops[k]? = some o := by simpa using (hl 0 (by simp)).symm
    simp only [List.length_cons, Region.lexHead, Bool.and_eq_true] at hB
    obtain ⟨⟨hr, hf⟩, hB'⟩ := hB
    have hkn : k < n := by simp only [List.length_cons] at hk; omega
    have hr' : k ∈ Region.ready md ops listed := by simpa using hr
    have hst : qOp P ops C k (wpQuiet P ops C Lq l) a := by unfold qOp; simp only [h0]; exact h
    obtain ⟨v, hy, hK⟩ := yieldsIn_of_qOp h0 hst
    exact wpAnyLC_first h0 (Region.noSelect_spec hsel) hs hc hn hkn (fun listed' a' hL => seqB_ready hL.1) l.length listed a inv (Region.free_spec h0 hf) hr' hy
      (wpAnyLC_lex hsel hs hc hn l (k + 1) _ _ (fun j hj => by have := hl (j + 1) (by simp; omega); simpa [Nat.add_assoc, Nat.add_comm 1 j] using this) (by simp only [List.length_cons] at hk; omega) (inv.set hr' hkn) hB' hK)

/-- A region that draws its order: the first n operations, in whatever order, each yield one value in all worlds of the class C; behind them the order is forced. -/
theorem wp_region_class_tail {id : Nat} {Q : Exit → Act → World → Prop} {a : Act} {w : World} {l : List Oper} (n : Nat) (hm : P.follows .mixedOrders = true) (hB : Region.lexTailB .any l.toArray n = true) (hC : C { w with drawn := w.drawn + 1 })
    (h : wpQuiet P l.toArray C (fun a' => ∀ w', C w' → wpList P l.toArray Q (l.drop n) a' w') (l.take n) a) : (Code.region id l.toArray true).wp P Q a w := by
  simp only [Region.lexTailB, Bool.and_eq_true, decide_eq_true_eq] at hB
  obtain ⟨⟨⟨⟨hsel, hn⟩, hs⟩, hc⟩, hlex⟩ := hB
  have hn' : n < l.length := by simpa using hn
  have htl : (l.take n).length = n := by simp; omega
  have hdl : (l.drop n).length = l.toArray.size - n := by simp
  have inv0 : HeadInv .any l.toArray n (Array.replicate l.toArray.size false) :=
    ⟨by simp, fun j oj _ hl => (by rw [getD_replicate_false] at hl; cases hl), fun t _ ht => getD_in (by simpa using ht) (getD_replicate_false _ _)⟩
  have H := wpAnyLC_lex (md := .any) (C := C) (g := l.toArray.size - n) hsel hs hc hn (l.take n) 0 _ a (fun j hj => by
    have hj' : j < n := by rw [htl] at hj; exact hj
    simp [hj']) (by simpa using htl) inv0 (by rw [htl]; exact hlex) h
  refine wp_region_any hm ?_
  have := wpAny_of_headC (Q' := Q) (g := l.toArray.size - n) (fun listed a' w' hw' hL => by
    have := wpAny_of_seq (md := .any) (Q' := Q) (l.drop n) n listed a' w' (fun j => by simp [List.getElem?_drop]) (by rw [hdl]; exact hL.1) (hL.2 w' hw')
    rwa [hdl] at this) _ _ _ _ hC H
  rw [htl, show n + (l.toArray.size - n) = l.toArray.size by omega] at this
  exact this
end

/-- The same at the worlds that only grew out of w. -/
theorem wp_region_sub_tail {P : Program} {id : Nat} {Q : Exit → Act → World → Prop} {a : Act} {w : World} {l : List Oper} (n : Nat) (hm : P.follows .mixedOrders = true) (hB : Region.lexTailB .any l.toArray n = true)
    (h : wpQuiet P l.toArray (fun w' => ∃ g : Sub w, w' = g.val) (fun a' => ∀ w', Below w.heap.size w w' → wpList P l.toArray Q (l.drop n) a' w') (l.take n) a) : (Code.region id l.toArray true).wp P Q a w :=
  wp_region_class_tail (C := fun w' => ∃ g : Sub w, w' = g.val) n hm hB ⟨⟨_, (Below.refl _ _).drew⟩, rfl⟩ (wpQuiet_imp (fun a (h : ∀ w', Below w.heap.size w w' → wpList P l.toArray Q (l.drop n) a w') => (fun w' ⟨g, e⟩ => h w' (e ▸ g.below) : ∀ w', (∃ g : Sub w, w' = g.val) → wpList P l.toArray Q (l.drop n) a w')) _ a h)

/-! ### Slices that hold rows of cells -/

/-- The slice value '.slice A n c' holds the rows 'cells x' of the elements, of sz cells each, and lies in memory that is there. -/
def SliceOf {α : Type} (w : World) (sz : Nat) (cells : α → List Value) (A : Option Addr) (n : Nat) (xs : List α) : Prop :=
  xs.length = n ∧ n ≤ 9223372036854775807 ∧ (0 < n → ∃ b off, A = some ⟨b, off, none⟩ ∧ b < w.heap.size ∧ ∀ i x j v, xs[i]? = some x → (cells x)[j]? = some v → w.cell? ⟨b, off + i * sz + j, none⟩ = some v)

section
variable {α : Type} {w w' : World} {sz : Nat} {cells : α → List Value} {A : Option Addr} {n : Nat} {xs : List α}
theorem SliceOf.len (h : SliceOf w sz cells A n xs) : xs.length = n := h.1
theorem SliceOf.le (h : SliceOf w sz cells A n xs) : n ≤ 9223372036854775807 := h.2.1
theorem SliceOf.nil_ : SliceOf w sz cells A 0 ([] : List α) := ⟨rfl, by omega, fun h => absurd h (by omega)⟩

theorem SliceOf.sub (h : SliceOf w sz cells A n xs) {B : Nat} (hB : w.heap.size ≤ B) (hb : Below B w w') : SliceOf w' sz cells A n xs :=
  ⟨h.1, h.2.1, fun hn => by
    obtain ⟨b, off, hA, hlt, hc⟩ := h.2.2 hn
    exact ⟨b, off, hA, Nat.lt_of_lt_of_le hlt hb.size, fun i x j v hx hv => (hb.cell (p := ⟨b, _, none⟩) (Nat.lt_of_lt_of_le hlt hB)).trans (hc i x j v hx hv)⟩⟩
theorem SliceOf.below (h : SliceOf w sz cells A n xs) (hb : Below w.heap.size w w') : SliceOf w' sz cells A n xs := h.sub (Nat.le_refl _) hb

/-- Element number k of such a slice. -/
theorem SliceOf.at_ (h : SliceOf w sz cells A n xs) {k : Nat} (hk : k < n) :
    ∃ b off x, A = some ⟨b, off, none⟩ ∧ b < w.heap.size ∧ xs[k]? = some x ∧ ∀ j v, (cells x)[j]? = some v → w.cell? ⟨b, off + k * sz + j, none⟩ = some v := by
  obtain ⟨b, off, hA, hlt, hc⟩ := h.2.2 (by omega)
  have hl : k < xs.length := by have := h.1; omega
  exact ⟨b, off, xs[k], hA, hlt, List.getElem?_eq_getElem hl, fun j v hv => hc k _ j v (List.getElem?_eq_getElem hl) hv⟩

/-- Every element below k, at a slice that has one. -/
theorem SliceOf.base_ (h : SliceOf w sz cells A n xs) (hn : 0 < n) :
    ∃ b off, A = some ⟨b, off, none⟩ ∧ b < w.heap.size ∧ ∀ i x j v, xs[i]? = some x → (cells x)[j]? = some v → w.cell? ⟨b, off + i * sz + j, none⟩ = some v := h.2.2 hn
end

/-- Slices of numbers, of texts. -/
def i64cells (x : Int) : List Value := [.int .i64 x]
def strcells (x : ByteArray) : List Value := [.string x]
theorem ints_at {w : World} {A : Option Addr} {n : Nat} {xs : List Int} (h : SliceOf w 1 i64cells A n xs) {k : Nat} (hk : k < n) :
    ∃ b off x, A = some ⟨b, off, none⟩ ∧ b < w.heap.size ∧ xs[k]? = some x ∧ w.cell? ⟨b, off + k, none⟩ = some (.int .i64 x) := by
  obtain ⟨b, off, x, hA, hb, hx, hc⟩ := h.at_ hk
  exact ⟨b, off, x, hA, hb, hx, by have := hc 0 _ rfl; simpa using this⟩
theorem strs_at {w : World} {A : Option Addr} {n : Nat} {xs : List ByteArray} (h : SliceOf w 1 strcells A n xs) {k : Nat} (hk : k < n) :
    ∃ b off x, A = some ⟨b, off, none⟩ ∧ b < w.heap.size ∧ xs[k]? = some x ∧ w.cell? ⟨b, off + k, none⟩ = some (.string x) := by
  obtain ⟨b, off, x, hA, hb, hx, hc⟩ := h.at_ hk
  exact ⟨b, off, x, hA, hb, hx, by have := hc 0 _ rfl; simpa using this⟩

/-! ### A block that is known whole -/

/-- Block g is just the cells cs of type t, none of them frozen. -/
def Own (w : World) (g : Nat) (t : TypeId) (cs : Array Value) : Prop := w.heap[g]? = some (.cells cs t (0, 0))

section
variable {w w' : World} {g : Nat} {t : TypeId} {cs : Array Value}
theorem Own.lt (h : Own w g t cs) : g < w.heap.size := by
  rcases Nat.lt_or_ge g w.heap.size with hlt | hge
  · exact hlt
  · unfold Own at h; rw [Array.getElem?_eq_none hge] at h; cases h
theorem Own.cell (h : Own w g t cs) (i : Nat) : w.cell? ⟨g, i, none⟩ = cs[i]? := cell_of_row w g i cs t (0, 0) h
theorem Own.frozen (h : Own w g t cs) (i : Nat) : w.frozen? ⟨g, i, none⟩ = false := by
  unfold Own at h
  simp [World.frozen?, h]
theorem Own.new (w : World) (t : TypeId) (cs : Array Value) : Own (w.alloc (.cells cs t)) w.heap.size t cs := heap_alloc_new w _
theorem Own.drew (h : Own w g t cs) : Own w.drew g t cs := h
theorem Own.alloc (h : Own w g t cs) (o : Obj) : Own (w.alloc o) g t cs := (Below.heap_alloc w o g h.lt).trans h
theorem Own.put (h : Own w g t cs) (i : Nat) (u : Value) : Own (w.setCell ⟨g, i, none⟩ u) g t (cs.setIfInBounds i u) := by
  unfold Own at h ⊢
  simp [World.setCell, Array.getElem?_modify, h]
theorem Own.far (h : Own w g t cs) {p : Addr} (hp : g ≠ p.block) (u : Value) : Own (w.setCell p u) g t cs := (Below.heap_setCell w p u g hp).trans h
theorem Own.below {B : Nat} (h : Own w g t cs) (hb : Below B w w') (hg : g < B) : Own w' g t cs := (hb.block g hg).trans h
theorem Own.below' (h : Own w g t cs) (hb : Below w.heap.size w w') : Own w' g t cs := h.below hb h.lt
end

/-- 'make([]T, n)'. -/
theorem make_n {P : Program} {t e : TypeId} {z : Value} {sz bytes n : Nat} (ht : P.underlying t = some (.slice e)) (hinfo : (P.info? e).map (fun i => (i.zero, i.size, i.bytes)) = some (some z, sz, bytes)) (hb : bytes * n ≤ 281474976710656) (hn : n ≤ 9223372036854775807) (w : World) :
    (Instr.makeSlice t (.int .i64 (n : Int)) (.int .i64 (n : Int))).run P w = .ok (.slice (some ⟨w.heap.size, 0, none⟩) n n) (w.alloc (.cells (madeCells z.cells (n * sz)) e)) := by
  cases hi : P.info? e with
  | none => rw [hi] at hinfo; cases hinfo
  | some i =>
    rw [hi] at hinfo
    simp only [Option.map_some, Option.some.injEq, Prod.mk.injEq] at hinfo
    obtain ⟨h1, rfl, rfl⟩ := hinfo
    have h2 : ((i.bytes * n : Nat) : Int) ≤ 281474976710656 := by omega
    rw [Int.natCast_mul] at h2
    have h := run_make (P := P) w t e i z ht hi h1 .i64 .i64 (n : Int) (n : Int) (by omega) (by omega) h2 (by omega)
    simpa using h

/-- The first k elements of xs lie in the cells cs, sz cells each. -/
def FilledTo {α : Type} (sz : Nat) (cells : α → List Value) (xs : List α) (k : Nat) (cs : Array Value) : Prop :=
  ∀ i x j v, i < k → xs[i]? = some x → (cells x)[j]? = some v → cs[i * sz + j]? = some v
theorem FilledTo.zero {α : Type} {sz : Nat} {cells : α → List Value} {xs : List α} {cs : Array Value} : FilledTo sz cells xs 0 cs := fun _ _ _ _ h => absurd h (by omega)

/-- The cells vs put from place o on. -/
def putAll (cs : Array Value) (o : Nat) : List Value → Array Value
  | [] => cs
  | v :: vs => putAll (cs.setIfInBounds o v) (o + 1) vs
theorem putAll_size : ∀ (vs : List Value) (cs : Array Value) (o : Nat), (putAll cs o vs).size = cs.size
  | [], _, _ => rfl
  | v :: vs, cs, o => by rw [putAll, putAll_size vs]; simp
theorem putAll_get : ∀ (vs : List Value) (cs : Array Value) (o p : Nat), o + vs.length ≤ cs.size → (putAll cs o vs)[p]? = if o ≤ p ∧ p < o + vs.length then vs[p - o]? else cs[p]?
  | [], cs, o, p, _ => by
    have : ¬ (o ≤ p ∧ p < o + ([] : List Value).length) := by simp
    rw [if_neg this]; rfl
  | v :: vs, cs, o, p, h => by
    simp only [List.length_cons] at h ⊢
    rw [putAll, putAll_get vs _ _ _ (by simp; omega)]
    by_cases h1 : o + 1 ≤ p ∧ p < o + 1 + vs.length
    · rw [if_pos h1, if_pos (by omega), show p - o = (p - (o + 1)) + 1 by omega, List.getElem?_cons_succ]
    · rw [if_neg h1]
      by_cases h2 : p = o
      · subst h2
        have hp : p < cs.size := by omega
        rw [if_pos (by omega)]
        simp [hp]
      · rw [if_neg (by omega), Array.getElem?_setIfInBounds]
        rw [if_neg (by omega)]
theorem FilledTo.step {α : Type} {sz : Nat} {cells : α → List Value} {xs : List α} {k n : Nat} {cs : Array Value} {x : α} (hsz : ∀ y, (cells y).length = sz) (h : FilledTo sz cells xs k cs) (hk : k < n) (hn : cs.size = n * sz) (hx : xs[k]? = some x) :
    FilledTo sz cells xs (k + 1) (putAll cs (k * sz) (cells x)) := by
  intro i y j v hi hy hv
  have hj : j < sz := by rw [← hsz y]; exact (List.getElem?_eq_some_iff.1 hv).1
  have hle : k * sz + sz ≤ cs.size := by
    rw [hn]
    calc k * sz + sz = (k + 1) * sz := by rw [Nat.succ_mul]
      _ ≤ n * sz := Nat.mul_le_mul_right _ hk
  rw [putAll_get _ _ _ _ (by rw [hsz]; exact hle), hsz]
  by_cases e : i = k
  · subst e
    rw [hx] at hy; cases hy
    rw [if_pos (by omega), show i * sz + j - i * sz = j by omega]
    exact hv
  · have hik : (i + 1) * sz ≤ k * sz := Nat.mul_le_mul_right _ (by omega)
    rw [Nat.succ_mul] at hik
    rw [if_neg (by omega)]
    exact h i y j v (by omega) hy hv

theorem Own.sliceOf {α : Type} {w : World} {g : Nat} {t : TypeId} {cs : Array Value} {sz n : Nat} {cells : α → List Value} {xs : List α} (h : Own w g t cs) (hn : n ≤ 1048576) (hl : xs.length = n) (hf : FilledTo sz cells xs n cs) :
    SliceOf w sz cells (some ⟨g, 0, none⟩) n xs :=
  ⟨hl, by omega, fun _ => ⟨g, 0, rfl, h.lt, fun i x j v hx hv => by
    rw [h.cell, Nat.zero_add]
    exact hf i x j v (by have := (List.getElem?_eq_some_iff.1 hx).1; omega) hx hv⟩⟩

theorem filled_ints (xs : List Int) : FilledTo 1 i64cells xs xs.length (xs.map (Value.int .i64)).toArray := by
  intro i x j v hi hx hv
  cases j with
  | zero =>
    simp only [i64cells, List.getElem?_cons_zero, Option.some.injEq] at hv
    subst hv
    simp [hx]
  | succ j => simp [i64cells] at hv
theorem sliceOf_new (w : World) (t : TypeId) (xs : List Int) (h : xs.length ≤ 1048576) : SliceOf (w.alloc (.cells (xs.map (Value.int .i64)).toArray t)) 1 i64cells (some ⟨w.heap.size, 0, none⟩) xs.length xs :=
  (Own.new w t _).sliceOf h rfl (filled_ints xs)
theorem bytes_inj (a b : ByteArray) : a.toList = b.toList ↔ a = b := by
  constructor
  · intro h
    rw [ByteArray.toList_eq, ByteArray.toList_eq] at h
    exact ByteArray.ext (Array.toList_inj.mp h)
  · rintro rfl; rfl

/-! ### Arguments opened -/

theorem list1 {α : Type} {l : List α} (h : l.length = 1) : ∃ a0, l = [a0] := by match l, h with | [a0], _ => exact ⟨_, rfl⟩
theorem list2 {α : Type} {l : List α} (h : l.length = 2) : ∃ a0 a1, l = [a0, a1] := by match l, h with | [a0, a1], _ => exact ⟨_, _, rfl⟩
theorem list3 {α : Type} {l : List α} (h : l.length = 3) : ∃ a0 a1 a2, l = [a0, a1, a2] := by match l, h with | [a0, a1, a2], _ => exact ⟨_, _, _, rfl⟩
theorem list4 {α : Type} {l : List α} (h : l.length = 4) : ∃ a0 a1 a2 a3, l = [a0, a1, a2, a3] := by match l, h with | [a0, a1, a2, a3], _ => exact ⟨_, _, _, _, rfl⟩
theorem list5 {α : Type} {l : List α} (h : l.length = 5) : ∃ a0 a1 a2 a3 a4, l = [a0, a1, a2, a3, a4] := by match l, h with | [a0, a1, a2, a3, a4], _ => exact ⟨_, _, _, _, _, rfl⟩
theorem list6 {α : Type} {l : List α} (h : l.length = 6) : ∃ a0 a1 a2 a3 a4 a5, l = [a0, a1, a2, a3, a4, a5] := by match l, h with | [a0, a1, a2, a3, a4, a5], _ => exact ⟨_, _, _, _, _, _, rfl⟩
theorem list7 {α : Type} {l : List α} (h : l.length = 7) : ∃ a0 a1 a2 a3 a4 a5 a6, l = [a0, a1, a2, a3, a4, a5, a6] := by match l, h with | [a0, a1, a2, a3, a4, a5, a6], _ => exact ⟨_, _, _, _, _, _, _, rfl⟩
theorem list8 {α : Type} {l : List α} (h : l.length = 8) : ∃ a0 a1 a2 a3 a4 a5 a6 a7, l = [a0, a1, a2, a3, a4, a5, a6, a7] := by match l, h with | [a0, a1, a2, a3, a4, a5, a6, a7], _ => exact ⟨_, _, _, _, _, _, _, _, rfl⟩

/-- An int64. -/
def I64 (x : Int) : Prop := -9223372036854775808 ≤ x ∧ x ≤ 9223372036854775807
theorem I64.of_wf {x : Int} (h : (Lit.int .i64 x).wf = true) : I64 x := bounds_i64 h

section
variable {H : Type} {enc : TypeId × Value → H} {P : Program} {w : World} {spare : Nat → Bool} {held : Bool}

/-- A slice that came in, its elements opened by 'hel'. -/
theorem sliceOf_trod {α : Type} [Inhabited α] {t e : TypeId} {sz fuel : Nat} {cells : α → List Value} {Good : α → Prop} (ht : P.underlying t = some (.slice e)) (hC : P.cellsOf e = sz) (hsz : 0 < sz)
    (hel : ∀ n cs y, DataW.trod enc P w 0 spare held n e cs = some y → ∃ x : α, cells x = cs ∧ Good x) {cs : List Value} {x : DataW H × List MemPlace} (h : DataW.trod enc P w 0 spare held fuel t cs = some x) :
    ∃ (A : Option Addr) (n c : Nat) (xs : List α), cs = [.slice A n c] ∧ n ≤ c ∧ c ≤ maxLen ∧ SliceOf w sz cells A n xs ∧ ∀ x ∈ xs, Good x := by
  rcases Go.Deep.open_slice ht h with ⟨h0, _⟩ | ⟨a, len, cap, m, n, D, Pl, hcs, _, hl, hm, hmm, _, hi⟩
  · exact ⟨none, 0, 0, [], h0, Nat.le_refl _, by simp [maxLen], SliceOf.nil_, by simp⟩
  · rw [hC] at hi
    have hlm : len ≤ m := by rw [hmm]; split <;> omega
    have key : ∀ i, i < len → ∃ x : α, Good x ∧ (cells x).length = sz ∧ ∀ j v, (cells x)[j]? = some v → w.cell? ((a.add (i * sz)).add j) = some v := fun i hil => by
      obtain ⟨cs', hc, ht'⟩ := hi i (Nat.lt_of_lt_of_le hil hlm)
      obtain ⟨x, rfl, hg⟩ := hel _ _ _ ht'
      obtain ⟨_, hcl, hat⟩ := World.cells?_some hc
      refine ⟨x, hg, hcl, fun j v hv => ?_⟩
      have hj : j < sz := by rw [← hcl]; exact (List.getElem?_eq_some_iff.1 hv).1
      rw [hat j hj, hv]
    obtain ⟨f, hf⟩ := Go.Deep.choose_lt key
    refine ⟨some a, len, cap, (List.range len).map f, hcs, hl, hm, ⟨by simp, by simp [maxLen] at hm; omega, fun hpos => ?_⟩, fun x hx => ?_⟩
    · obtain ⟨b, off, spot⟩ := a
      have hspot : spot = none := by
        obtain ⟨_, hlen0, hc0⟩ := hf 0 hpos
        have h1 := hc0 0 ((cells (f 0))[0]'(by omega)) (List.getElem?_eq_getElem (by omega))
        have h2 := World.cell?_spot h1
        simpa [Addr.add] using h2
      subst hspot
      refine ⟨b, off, rfl, ?_, fun i x j v hx hv => ?_⟩
      · obtain ⟨_, hlen0, hc0⟩ := hf 0 hpos
        have h1 := hc0 0 ((cells (f 0))[0]'(by omega)) (List.getElem?_eq_getElem (by omega))
        have h2 := World.block_lt_of_cell? w _ h1
        simpa [Addr.add] using h2
      · have hil : i < len := by have := (List.getElem?_eq_some_iff.1 hx).1; simpa using this
        have hxe : x = f i := by simp [hil] at hx; exact hx.symm
        subst hxe
        have h1 := (hf i hil).2.2 j v hv
        rw [Go.Deep.add_add] at h1
        have e : (⟨b, off, none⟩ : Addr).add (i * sz + j) = ⟨b, off + i * sz + j, none⟩ := by
          unfold Addr.add
          split
          · simp only [Addr.mk.injEq, true_and, and_true]; omega
          · simp only [Addr.mk.injEq, true_and, and_true]; omega
        rw [← e]; exact h1
    · simp only [List.mem_map, List.mem_range] at hx
      obtain ⟨i, hil, rfl⟩ := hx
      exact (hf i hil).1

theorem trod_int64 {t : TypeId} {n : Nat} {cs : List Value} {y : DataW H × List MemPlace} (ht : P.underlying t = some (.int .i64)) (h : DataW.trod enc P w 0 spare held n t cs = some y) : ∃ x : Int, [Value.int .i64 x] = cs ∧ I64 x := by
  obtain ⟨x, rfl, _, hw⟩ := DataW.trod_int ht h
  exact ⟨x, rfl, I64.of_wf hw⟩
theorem trod_bool' {t : TypeId} {n : Nat} {cs : List Value} {y : DataW H × List MemPlace} (ht : P.underlying t = some .bool) (h : DataW.trod enc P w 0 spare held n t cs = some y) : ∃ x : Bool, [Value.bool x] = cs ∧ True := by
  obtain ⟨x, rfl, _⟩ := DataW.trod_bool ht h
  exact ⟨x, rfl, trivial⟩
theorem trod_str {t : TypeId} {n : Nat} {cs : List Value} {y : DataW H × List MemPlace} (ht : P.underlying t = some .string) (h : DataW.trod enc P w 0 spare held n t cs = some y) : ∃ x : ByteArray, [Value.string x] = cs ∧ x.size ≤ maxLen := by
  obtain ⟨x, rfl, _, hl⟩ := DataW.trod_string ht h
  exact ⟨x, rfl, hl⟩

theorem arg_int64 {r : Reach} {b0 : Nat} {t : TypeId} {v : Value} {d : DataW H} {p : List MemPlace} (ht : P.underlying t = some (.int .i64)) (hv : Value.okWide P w r b0 t v) (h : DataW.Trod enc P w 0 spare held t v d p) : ∃ x : Int, v = .int .i64 x ∧ I64 x := by
  obtain ⟨x, h1, _, _, hw⟩ := open_int ht hv h
  exact ⟨x, h1, I64.of_wf hw⟩
theorem arg_bool {r : Reach} {b0 : Nat} {t : TypeId} {v : Value} {d : DataW H} {p : List MemPlace} (ht : P.underlying t = some .bool) (hv : Value.okWide P w r b0 t v) (h : DataW.Trod enc P w 0 spare held t v d p) : ∃ x : Bool, v = .bool x := by
  obtain ⟨x, h1, _, _⟩ := open_bool ht hv h
  exact ⟨x, h1⟩
theorem arg_str {r : Reach} {b0 : Nat} {t : TypeId} {v : Value} {d : DataW H} {p : List MemPlace} (ht : P.underlying t = some .string) (hv : Value.okWide P w r b0 t v) (h : DataW.Trod enc P w 0 spare held t v d p) : ∃ x : ByteArray, v = .string x ∧ x.size ≤ maxLen := by
  obtain ⟨x, h1, _, _, hl⟩ := Go.ChangeMaps.open_string ht hv h
  exact ⟨x, h1, hl⟩
theorem arg_slice {α : Type} [Inhabited α] {r : Reach} {b0 : Nat} {t e : TypeId} {sz : Nat} {cells : α → List Value} {Good : α → Prop} {v : Value} {d : DataW H} {p : List MemPlace} (ht : P.underlying t = some (.slice e)) (hC : P.cellsOf e = sz) (hsz : 0 < sz)
    (hel : ∀ n cs y, DataW.trod enc P w 0 spare held n e cs = some y → ∃ x : α, cells x = cs ∧ Good x) (hv : Value.okWide P w r b0 t v) (h : DataW.Trod enc P w 0 spare held t v d p) :
    ∃ (A : Option Addr) (n c : Nat) (xs : List α), v = .slice A n c ∧ n ≤ c ∧ c ≤ maxLen ∧ SliceOf w sz cells A n xs ∧ ∀ x ∈ xs, Good x := by
  obtain ⟨A, n, c, rfl⟩ := okWide_slice ht hv
  obtain ⟨fuel, hf⟩ := h
  obtain ⟨A', n', c', xs, hcs, h1, h2, h3, h4⟩ := sliceOf_trod ht hC hsz hel hf
  simp [Value.cells] at hcs
  obtain ⟨rfl, rfl, rfl⟩ := hcs
  exact ⟨_, _, _, xs, rfl, h1, h2, h3, h4⟩
theorem arg_struct {α : Type} {r : Reach} {b0 : Nat} {t : TypeId} {fs : Array Field} {cells : α → List Value} {Good : α → Prop} {v : Value} {d : DataW H} {p : List MemPlace} (ht : P.underlying t = some (.struct fs))
    (hel : ∀ n cs y, DataW.trod enc P w 0 spare held n t cs = some y → ∃ x : α, cells x = cs ∧ Good x) (hv : Value.okWide P w r b0 t v) (h : DataW.Trod enc P w 0 spare held t v d p) :
    ∃ x : α, v = .agg (cells x).toArray ∧ Good x := by
  obtain ⟨cs, rfl, _⟩ := okWide_struct ht hv
  obtain ⟨fuel, hf⟩ := h
  obtain ⟨x, hx, hg⟩ := hel _ _ _ hf
  refine ⟨x, ?_, hg⟩
  rw [hx]
  simp [Value.cells]

/-- ARGS of the row: below the heap's old size nothing has turned: all arguments read as they did. -/
theorem trodAll_below {W W' : World} (hl : laidOutB P = true) (hb : Below W.heap.size W W') : ∀ (ts : List TypeId) (vs : List Value) (ds : List (DataW H)) (ps : List MemPlace), (ts.all fun t => P.readableRec t && decide (t < P.types.size)) = true →
    DataW.TrodAll enc P W 0 (fun _ => true) true ts vs ds ps → (∀ x ∈ ps, x.block < W.heap.size) → DataW.TrodAll enc P W' 0 (fun b => decide (b < W.heap.size)) true ts vs ds ps
  | [], [], [], _, _, h, _ => h
  | t :: ts, v :: vs, d :: ds, ps, ht, h, hlt => by
    obtain ⟨p, q, hd, hr, rfl⟩ := h
    simp only [List.all_cons, Bool.and_eq_true, decide_eq_true_eq] at ht
    exact ⟨p, q, Below.trod hl ht.1.1 ht.1.2 hd hb (fun x hx => hlt x (by simp [hx])), trodAll_below hl hb ts vs ds q ht.2 hr (fun x hx => hlt x (by simp [hx])), rfl⟩
  | [], _ :: _, _, _, _, h, _ => by simp [DataW.TrodAll] at h
  | [], [], _ :: _, _, _, h, _ => by simp [DataW.TrodAll] at h
  | _ :: _, [], _, _, _, h, _ => by simp [DataW.TrodAll] at h
  | _ :: _, _ :: _, [], _, _, h, _ => by simp [DataW.TrodAll] at h

theorem trodAll_lt {W : World} : ∀ (ts : List TypeId) (vs : List Value) (ds : List (DataW H)) (ps : List MemPlace), DataW.TrodAll enc P W 0 (fun _ => true) true ts vs ds ps → ∀ x ∈ ps, x.block < W.heap.size
  | [], [], [], ps, h => by
    have : ps = [] := h
    subst this; simp
  | t :: ts, v :: vs, d :: ds, ps, h => by
    obtain ⟨p, q, ⟨m, hm⟩, hr, rfl⟩ := h
    intro x hx
    rcases List.mem_append.1 hx with h1 | h1
    · exact DataW.trod_lt m _ _ _ hm x h1
    · exact trodAll_lt ts vs ds q hr x h1
  | [], _ :: _, _, _, h => by simp [DataW.TrodAll] at h
  | [], [], _ :: _, _, h => by simp [DataW.TrodAll] at h
  | _ :: _, [], _, _, h => by simp [DataW.TrodAll] at h
  | _ :: _, _ :: _, [], _, h => by simp [DataW.TrodAll] at h
end

end Go.Proofs.YtllchmacipacnaaGreatDoor
