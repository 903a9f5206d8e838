/- Fields of snow: how one lies in memory, which one is valid, and how the wind drifts it. -/
import Derived.Test.YtllchmacipacnaaGreatDoorBase
import Derived.Test.YtllchmacipacnaaGreatDoorMem
import Derived.Test.YtllchmacipacnaaGreatDoorTInt64
import Derived.Test.YtllchmacipacnaaGreatDoorCells
import Derived.Test.YtllchmacipacnaaGreatDoorOwn2
namespace Go.Proofs.YtllchmacipacnaaGreatDoor
open Go.RowKit

structure Field where
  rows : Int
  columns : Int
  masses : List Int
structure FieldR where
  rows : Int
  columns : Int
  massesA : Option Addr
  massesN : Nat
  massesC : Nat
  masses : List Int
def FieldR.val (x : FieldR) : Field := ⟨x.rows, x.columns, x.masses⟩
instance : Inhabited FieldR := ⟨⟨0, 0, none, 0, 0, []⟩⟩
def FieldR.In (x : FieldR) (w : World) : Prop := SliceOf w 1 i64cells x.massesA x.massesN x.masses ∧ x.massesN ≤ x.massesC ∧ x.massesC ≤ maxLen
theorem FieldR.In.below {x : FieldR} {w w' : World} (h : x.In w) (hb : Below w.heap.size w w') : x.In w' := ⟨h.1.below hb, h.2⟩
theorem FieldR.in_of {w : World} {base : Nat} {e : TypeId} {p : FieldR} (h : OwnsL w base e 1 i64cells (.slice p.massesA p.massesN p.massesC) p.masses) : p.In w := by
  obtain ⟨A', c', h1, h2, h3, h4⟩ := h.slice i64cells_len
  injection h1 with e1 e2 e3
  unfold FieldR.In
  rw [e1, e2, e3]
  exact ⟨h4, h2, h3⟩
structure BoxF (X : Nat) (f : FieldR) (w : World) : Prop where
  own : Own w X 26 #[.int .i64 f.rows, .int .i64 f.columns, .slice f.massesA f.massesN f.massesC]
  gi : f.In w
theorem BoxF.grow {X : Nat} {f : FieldR} {w w' : World} (h : BoxF X f w) (hb : Below w.heap.size w w') : BoxF X f w' := ⟨h.own.below' hb, h.gi.below hb⟩
theorem BoxF.cells {X : Nat} {f : FieldR} {w : World} (h : BoxF X f w) : w.cell? ⟨X, 0, none⟩ = some (.int .i64 f.rows) ∧ w.cell? ⟨X, 1, none⟩ = some (.int .i64 f.columns) ∧ w.cell? ⟨X, 2, none⟩ = some (.slice f.massesA f.massesN f.massesC) ∧ X < w.heap.size :=
  ⟨h.own.cell 0, h.own.cell 1, h.own.cell 2, h.own.lt⟩
theorem BoxF.new {f : FieldR} {w : World} (h : f.In w) : BoxF w.heap.size f (w.alloc (.cells #[.int .i64 f.rows, .int .i64 f.columns, .slice f.massesA f.massesN f.massesC] 26)) := ⟨Own.new w 26 #[.int .i64 f.rows, .int .i64 f.columns, .slice f.massesA f.massesN f.massesC], h.below ((Below.refl _ _).alloc (Nat.le_refl _) _)⟩
def massB (ms : List Int) : Bool := ms.all fun y => inB y 0 1000000
theorem massB_at {ms : List Int} (h : massB ms = true) {k : Nat} {x : Int} (hx : ms[k]? = some x) : 0 ≤ x ∧ x ≤ 1000000 := inB_iff.1 (List.all_eq_true.1 h x (List.mem_of_getElem? hx))
def fieldB (f : Field) : Bool := inB f.rows 1 8 && inB f.columns 1 8 && decide ((f.masses.length : Int) = f.rows * f.columns) && massB f.masses
theorem fieldB_iff (f : Field) : fieldB f = true ↔ inB f.rows 1 8 = true ∧ inB f.columns 1 8 = true ∧ decide ((f.masses.length : Int) = f.rows * f.columns) = true ∧ massB f.masses = true := by simp [fieldB, and_assoc]
theorem mul_i64 {a b : Int} (ha : 1 ≤ a ∧ a ≤ 8) (hb : 1 ≤ b ∧ b ≤ 8) : IntKind.i64.wrap (a * b) = a * b ∧ 1 ≤ a * b ∧ a * b ≤ 64 := by
  have h1 : 1 ≤ a * b := by have := Int.mul_le_mul ha.1 hb.1 (by omega) (by omega); omega
  have h2 : a * b ≤ 64 := by have := Int.mul_le_mul ha.2 hb.2 (by omega) (by omega); omega
  exact ⟨IntWalk.i64_in _ (by omega), h1, h2⟩
theorem fieldB_nat {f : Field} (h : fieldB f = true) : ∃ R C : Nat, f.rows = (R : Int) ∧ f.columns = (C : Int) ∧ 1 ≤ R ∧ R ≤ 8 ∧ 1 ≤ C ∧ C ≤ 8 ∧ f.masses.length = R * C ∧ R * C ≤ 64 ∧ massB f.masses = true := by
  obtain ⟨h1, h2, h3, h4⟩ := (fieldB_iff f).1 h
  rw [inB_iff] at h1 h2
  have h3 := of_decide_eq_true h3
  refine ⟨f.rows.toNat, f.columns.toNat, by omega, by omega, by omega, by omega, by omega, by omega, ?_, ?_, h4⟩
  · have e1 : ((f.rows.toNat : Nat) : Int) = f.rows := by omega
    have e2 : ((f.columns.toNat : Nat) : Int) = f.columns := by omega
    have : ((f.rows.toNat * f.columns.toNat : Nat) : Int) = f.rows * f.columns := by rw [Int.natCast_mul, e1, e2]
    omega
  · have := Nat.mul_le_mul (show f.rows.toNat ≤ 8 by omega) (show f.columns.toNat ≤ 8 by omega)
    omega
theorem fieldB_of {R C : Nat} {ms : List Int} (h1 : 1 ≤ R) (h2 : R ≤ 8) (h3 : 1 ≤ C) (h4 : C ≤ 8) (hl : ms.length = R * C) (hm : massB ms = true) : fieldB ⟨R, C, ms⟩ = true := by
  rw [fieldB_iff]
  refine ⟨inB_iff.2 (by simp only; omega), inB_iff.2 (by simp only; omega), decide_eq_true ?_, hm⟩
  simp only [hl, Int.natCast_mul]
def rowD (d : Int) (r : Int) : Int := if d = 0 then r + 1 else if d = 2 then r - 1 else r
def colD (d : Int) (c : Int) : Int := if d = 1 then c - 1 else if d = 3 then c + 1 else c
/-- The cell to which snow of a cell is blown, or -1. -/
def nextF (R C : Nat) (cell : Nat) (d : Int) : Int :=
  if 0 ≤ rowD d ((cell / C : Nat) : Int) ∧ rowD d ((cell / C : Nat) : Int) < R ∧ 0 ≤ colD d ((cell % C : Nat) : Int) ∧ colD d ((cell % C : Nat) : Int) < C then rowD d ((cell / C : Nat) : Int) * C + colD d ((cell % C : Nat) : Int) else -1
theorem nextF_lt {R C : Nat} {cell : Nat} {d : Int} (h : 0 ≤ nextF R C cell d) : (nextF R C cell d).toNat < R * C ∧ nextF R C cell d = (((nextF R C cell d).toNat : Nat) : Int) := by
  refine ⟨?_, by omega⟩
  unfold nextF at h ⊢
  split
  · rename_i hc
    obtain ⟨h1, h2, h3, h4⟩ := hc
    generalize rowD d ((cell / C : Nat) : Int) = r at h1 h2 ⊢
    generalize colD d ((cell % C : Nat) : Int) = c at h3 h4 ⊢
    have h5 : (r + 1) * C ≤ (R : Int) * C := Int.mul_le_mul_of_nonneg_right (by omega) (by omega)
    rw [Int.add_mul, Int.one_mul] at h5
    have h6 : ((R * C : Nat) : Int) = (R : Int) * C := Int.natCast_mul R C
    have h7 : 0 ≤ r * C := Int.mul_nonneg h1 (by omega)
    omega
  · rename_i hc
    rw [if_neg hc] at h
    omega
def lvF (l : List Int) (k : Nat) : Int := (l[k]?).getD 0
theorem lvF_at {l : List Int} {k : Nat} {x : Int} (h : l[k]? = some x) : lvF l k = x := by unfold lvF; rw [h]; rfl
theorem lvF_get {l : List Int} {k : Nat} (h : k < l.length) : l[k]? = some (lvF l k) := by unfold lvF; rw [List.getElem?_eq_getElem h]; rfl
/-- How much of a mass a share is. -/
def moveF (share m : Int) : Int := rndDiv (m * share) 1000
theorem moveF_le {share m : Int} (hs : 0 ≤ share ∧ share ≤ 1000) (hm : 0 ≤ m ∧ m ≤ 1000000) : -1000000000 ≤ moveF share m ∧ moveF share m ≤ 1000000000 := by
  have h1 : 0 ≤ m * share := Int.mul_nonneg hm.1 hs.1
  have h2 : m * share ≤ 1000000 * 1000 := Int.mul_le_mul hm.2 hs.2 hs.1 (by omega)
  unfold moveF rndDiv
  rw [if_neg (by omega)]
  exact rnd_bounds (by omega) 1000000000 (by omega) (by omega)
/-- A mass moved from a cell to another one. -/
def putF (o : List Int) (c : Nat) (tg : Int) (mv : Int) : List Int := if tg < 0 then o else (o.set c (lvF o c - mv)).set tg.toNat (lvF (o.set c (lvF o c - mv)) tg.toNat + mv)
def stepTo (R C : Nat) (d share : Int) (ms : List Int) : Nat → List Int
  | 0 => ms
  | k + 1 => putF (stepTo R C d share ms k) k (nextF R C k d) (moveF share (lvF ms k))
theorem putF_len {o : List Int} {c : Nat} {tg mv : Int} : (putF o c tg mv).length = o.length := by unfold putF; split <;> simp
theorem stepTo_len {R C : Nat} {d share : Int} {ms : List Int} : ∀ k, (stepTo R C d share ms k).length = ms.length
  | 0 => rfl
  | k + 1 => by rw [stepTo, putF_len, stepTo_len k]
theorem lvF_set (o : List Int) (c i : Nat) (x : Int) : lvF (o.set c x) i = lvF o i ∨ (lvF (o.set c x) i = x ∧ i = c) := by
  unfold lvF
  rw [List.getElem?_set]
  by_cases h : c = i
  · subst h
    rw [if_pos rfl]
    by_cases h2 : c < o.length
    · rw [if_pos h2]; exact .inr ⟨rfl, rfl⟩
    · rw [if_neg h2]; left; rw [List.getElem?_eq_none (by omega)]
  · rw [if_neg h]; exact .inl rfl
theorem putF_bound {o : List Int} {c : Nat} {tg mv B : Int} (hb : ∀ i, -B ≤ lvF o i ∧ lvF o i ≤ B) (hm : -1000000000 ≤ mv ∧ mv ≤ 1000000000) : (∀ i, -(B + 2000000000) ≤ lvF (putF o c tg mv) i ∧ lvF (putF o c tg mv) i ≤ B + 2000000000) ∧ ∀ i, -(B + 1000000000) ≤ lvF (o.set c (lvF o c - mv)) i ∧ lvF (o.set c (lvF o c - mv)) i ≤ B + 1000000000 := by
  have h1 : ∀ i, -(B + 1000000000) ≤ lvF (o.set c (lvF o c - mv)) i ∧ lvF (o.set c (lvF o c - mv)) i ≤ B + 1000000000 := fun i => by
    have hi := hb i
    have hc := hb c
    rcases lvF_set o c i (lvF o c - mv) with h | ⟨h, _⟩ <;> omega
  refine ⟨fun i => ?_, h1⟩
  unfold putF
  split
  · have := hb i; omega
  · have hi := h1 i
    have ht := h1 tg.toNat
    rcases lvF_set (o.set c (lvF o c - mv)) tg.toNat i (lvF (o.set c (lvF o c - mv)) tg.toNat + mv) with h | ⟨h, _⟩ <;> omega
theorem lvF_mass {ms : List Int} (h : massB ms = true) (k : Nat) : 0 ≤ lvF ms k ∧ lvF ms k ≤ 1000000 := by
  by_cases hk : k < ms.length
  · exact massB_at h (lvF_get hk)
  · unfold lvF; rw [List.getElem?_eq_none (by omega)]; simp
theorem stepTo_bound {R C : Nat} {d share : Int} {ms : List Int} (hm : massB ms = true) (hs : 0 ≤ share ∧ share ≤ 1000) : ∀ (k i : Nat), -(1000000 + 2000000000 * (k : Int)) ≤ lvF (stepTo R C d share ms k) i ∧ lvF (stepTo R C d share ms k) i ≤ 1000000 + 2000000000 * (k : Int)
  | 0, i => by have := lvF_mass hm i; rw [stepTo]; omega
  | k + 1, i => by
    have := (putF_bound (o := stepTo R C d share ms k) (c := k) (tg := nextF R C k d) (mv := moveF share (lvF ms k)) (stepTo_bound hm hs k) (moveF_le hs (lvF_mass hm k))).1 i
    rw [stepTo]
    omega
def stepF (R C : Nat) (d share : Int) (ms : List Int) : List Int := stepTo R C d share ms ms.length
theorem stepF_len {R C : Nat} {d share : Int} {ms : List Int} : (stepF R C d share ms).length = ms.length := stepTo_len _
/-- Masses after steps, as long as they stay in their bounds. -/
def runP (R C : Nat) (share : Int) (ds : Nat → Int) (ms : List Int) : Nat → Option (List Int)
  | 0 => some ms
  | k + 1 => match runP R C share ds ms k with
    | none => none
    | some m => if massB (stepF R C (ds k) share m) = true then some (stepF R C (ds k) share m) else none
section
variable {R C : Nat} {share : Int} {ds : Nat → Int} {ms : List Int}
theorem runP_ok (hm : massB ms = true) : ∀ (k : Nat) {m : List Int}, runP R C share ds ms k = some m → m.length = ms.length ∧ massB m = true
  | 0, m, h => by
    rw [runP] at h
    injection h with h
    rw [← h]; exact ⟨rfl, hm⟩
  | k + 1, m, h => by
    rw [runP] at h
    cases hk : runP R C share ds ms k with
    | none => rw [hk] at h; cases h
    | some m0 =>
      rw [hk] at h
      simp only at h
      have ih := runP_ok hm k hk
      by_cases hc : massB (stepF R C (ds k) share m0) = true
      · rw [if_pos hc] at h
        injection h with h
        rw [← h]
        exact ⟨stepF_len.trans ih.1, hc⟩
      · rw [if_neg hc] at h; cases h
theorem runP_on {k : Nat} {m : List Int} (h : runP R C share ds ms k = some m) (hc : massB (stepF R C (ds k) share m) = true) : runP R C share ds ms (k + 1) = some (stepF R C (ds k) share m) := by
  rw [runP, h]; simp only; rw [if_pos hc]
theorem runP_back {k : Nat} {m : List Int} (h : runP R C share ds ms (k + 1) = some m) : ∃ m0, runP R C share ds ms k = some m0 ∧ m = stepF R C (ds k) share m0 ∧ massB (stepF R C (ds k) share m0) = true := by
  rw [runP] at h
  cases hk : runP R C share ds ms k with
  | none => rw [hk] at h; cases h
  | some m0 =>
    rw [hk] at h
    simp only at h
    by_cases hc : massB (stepF R C (ds k) share m0) = true
    · rw [if_pos hc] at h
      injection h with h
      exact ⟨m0, rfl, h.symm, hc⟩
    · rw [if_neg hc] at h; cases h
theorem runP_prefix : ∀ (n : Nat) {m : List Int}, runP R C share ds ms n = some m → ∀ k, k ≤ n → ∃ m0, runP R C share ds ms k = some m0
  | 0, m, h, k, hk => by obtain rfl : k = 0 := by omega
                         exact ⟨_, h⟩
  | n + 1, m, h, k, hk => by
    by_cases e : k = n + 1
    · subst e; exact ⟨_, h⟩
    · obtain ⟨m0, h0, _, _⟩ := runP_back h
      exact runP_prefix n h0 k (by omega)
end
theorem runP_one {R C : Nat} {share d : Int} {ms : List Int} {m : List Int} (h : runP R C share (fun k => lvF [d] k) ms 1 = some m) : m = stepF R C d share ms ∧ massB (stepF R C d share ms) = true := by
  obtain ⟨m0, h0, h1, h2⟩ := runP_back h
  rw [runP] at h0
  injection h0 with h0
  subst h0
  exact ⟨h1, h2⟩
def gainF (ms out : List Int) : List Int := List.zipWith (fun a b => a - b) out ms
theorem gainF_at {ms out : List Int} {k : Nat} {x y : Int} (hx : out[k]? = some x) (hy : ms[k]? = some y) : (gainF ms out)[k]? = some (x - y) := by unfold gainF; rw [List.getElem?_zipWith, hx, hy]
theorem gainF_len {ms out : List Int} (h : out.length = ms.length) : (gainF ms out).length = ms.length := by unfold gainF; rw [List.length_zipWith, h, Nat.min_self]
/-- The places of the gains that are great enough, among the first ones. -/
def cellsTo (gs : List Int) (least : Int) : Nat → List Int
  | 0 => []
  | k + 1 => if least ≤ lvF gs k then cellsTo gs least k ++ [(k : Int)] else cellsTo gs least k
theorem cellsTo_mem {gs : List Int} {least : Int} {x : Int} : ∀ {k : Nat}, x ∈ cellsTo gs least k ↔ ∃ i : Nat, i < k ∧ x = (i : Int) ∧ least ≤ lvF gs i
  | 0 => by simp [cellsTo]
  | k + 1 => by
    rw [cellsTo]
    split
    · rename_i h
      rw [List.mem_append, cellsTo_mem]
      constructor
      · rintro (⟨i, h1, h2, h3⟩ | h1)
        · exact ⟨i, by omega, h2, h3⟩
        · simp at h1; exact ⟨k, by omega, h1, h⟩
      · rintro ⟨i, h1, h2, h3⟩
        by_cases e : i = k
        · subst e; right; simp [h2]
        · left; exact ⟨i, by omega, h2, h3⟩
    · rename_i h
      rw [cellsTo_mem]
      constructor
      · rintro ⟨i, h1, h2, h3⟩; exact ⟨i, by omega, h2, h3⟩
      · rintro ⟨i, h1, h2, h3⟩
        by_cases e : i = k
        · subst e; exact absurd h3 h
        · exact ⟨i, by omega, h2, h3⟩
theorem cellsTo_len {gs : List Int} {least : Int} : ∀ (k : Nat), (cellsTo gs least k).length ≤ k
  | 0 => by simp [cellsTo]
  | k + 1 => by
    have := cellsTo_len (gs := gs) (least := least) k
    rw [cellsTo]
    split
    · simp; omega
    · omega
theorem cellsTo_rise {gs : List Int} {least : Int} : ∀ (k j : Nat) (x y : Int), (cellsTo gs least k)[j]? = some x → (cellsTo gs least k)[j + 1]? = some y → x < y
  | 0, j, x, y, h, _ => by simp [cellsTo] at h
  | k + 1, j, x, y, h1, h2 => by
    rw [cellsTo] at h1 h2
    split at h1
    · rename_i hc
      rw [if_pos hc] at h2
      by_cases hj : j + 1 < (cellsTo gs least k).length
      · rw [List.getElem?_append_left (by omega)] at h1
        rw [List.getElem?_append_left hj] at h2
        exact cellsTo_rise k j x y h1 h2
      · have hl := (List.getElem?_eq_some_iff.1 h2).1
        rw [List.length_append, List.length_singleton] at hl
        rw [List.getElem?_append_left (by omega)] at h1
        rw [List.getElem?_append_right (by omega), show j + 1 - (cellsTo gs least k).length = 0 by omega] at h2
        simp at h2
        obtain ⟨i, hi, rfl, _⟩ := cellsTo_mem.1 (List.mem_of_getElem? h1)
        omega
    · rename_i hc
      rw [if_neg hc] at h2
      exact cellsTo_rise k j x y h1 h2
def sumF (l : List Int) : Nat → Int
  | 0 => 0
  | k + 1 => sumF l k + lvF l k
theorem sumF_bound {l : List Int} (h : massB l = true) : ∀ k : Nat, 0 ≤ sumF l k ∧ sumF l k ≤ 1000000 * k
  | 0 => by simp [sumF]
  | k + 1 => by
    have := sumF_bound h k
    have := lvF_mass h k
    rw [sumF]; omega
def addF (mass : Int) (ms : List Int) : List Int := List.zipWith (fun a b => a + b) ms (ms.map fun _ => mass)
theorem addF_len {mass : Int} {ms : List Int} : (addF mass ms).length = ms.length := by unfold addF; rw [List.length_zipWith, List.length_map, Nat.min_self]
theorem addF_at {mass : Int} {ms : List Int} {k : Nat} (h : k < ms.length) : lvF (addF mass ms) k = lvF ms k + mass := by
  unfold lvF addF
  rw [List.getElem?_zipWith, List.getElem?_map, List.getElem?_eq_getElem h]; rfl
theorem sumF_add {mass : Int} {ms : List Int} : ∀ k : Nat, k ≤ ms.length → sumF (addF mass ms) k = sumF ms k + mass * (k : Int)
  | 0, _ => by simp [sumF]
  | k + 1, h => by
    rw [sumF, sumF, sumF_add k (by omega), addF_at (by omega)]
    have : mass * ((k + 1 : Nat) : Int) = mass * (k : Int) + mass := by rw [show ((k + 1 : Nat) : Int) = (k : Int) + 1 by omega, Int.mul_add, Int.mul_one]
    omega

end Go.Proofs.YtllchmacipacnaaGreatDoor
