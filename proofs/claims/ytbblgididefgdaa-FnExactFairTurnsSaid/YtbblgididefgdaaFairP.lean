/- The fairest turns, in plain Lean: the search over all ways to give them, by what is left of its budget. -/
import Derived.Test.YtbblgididefgdaaTurnP
namespace Go.Proofs.Ytbblgididefgdaa
open Go.RowKit

theorem takeI_snoc {l : List Int} {k : Nat} {x : Int} (h : l[k]? = some x) : l.take (k + 1) = l.take k ++ [x] := by
  obtain ⟨hk, rfl⟩ := List.getElem?_eq_some_iff.1 h
  rw [List.take_succ_eq_append_getElem hk]
structure FSt where
  bud : Int
  best : List Int
  least : Int
/-- How many turns the person with most of them has, among the first k people. -/
def mostN (given : List Int) : Nat → Nat
  | 0 => 0
  | k + 1 => max (mostN given k) (given.count (k : Int))
def leafS (n : Nat) (given : List Int) (st : FSt) : FSt := if st.least < 0 ∨ (mostN given n : Int) < st.least then ⟨st.bud, given, mostN given n⟩ else st
theorem leafS_yes {n M : Nat} {given : List Int} {st : FSt} (hM : mostN given n = M) (h : st.least < 0 ∨ (M : Int) < st.least) : leafS n given st = ⟨st.bud, given, M⟩ := by
  unfold leafS; rw [hM, if_pos h]
theorem leafS_no {n M : Nat} {given : List Int} {st : FSt} (hM : mostN given n = M) (h : ¬ (st.least < 0 ∨ (M : Int) < st.least)) : leafS n given st = st := by
  unfold leafS; rw [hM, if_neg h]
def goF (n g : Nat) (ab : List Row) : Nat → List Int → FSt → FSt
  | 0, given, st => leafS n given st
  | f + 1, given, st => (List.range n).foldl (fun s p => if s.bud < 0 then s else if mayB g ab given p = true then (if s.bud - 1 < 0 then { s with bud := s.bud - 1 } else goF n g ab f (given ++ [(p : Int)]) { s with bud := s.bud - 1 }) else s) st
/-- The search at a list of turns, gone through the people below k. -/
def goK (n g : Nat) (ab : List Row) (f : Nat) (given : List Int) (st : FSt) (k : Nat) : FSt :=
  (List.range k).foldl (fun s p => if s.bud < 0 then s else if mayB g ab given p = true then (if s.bud - 1 < 0 then { s with bud := s.bud - 1 } else goF n g ab f (given ++ [(p : Int)]) { s with bud := s.bud - 1 }) else s) st
theorem goF_zero (n g : Nat) (ab : List Row) (given : List Int) (st : FSt) : goF n g ab 0 given st = leafS n given st := rfl
theorem goF_succ (n g : Nat) (ab : List Row) (f : Nat) (given : List Int) (st : FSt) : goF n g ab (f + 1) given st = goK n g ab f given st n := rfl
theorem goK_zero (n g : Nat) (ab : List Row) (f : Nat) (given : List Int) (st : FSt) : goK n g ab f given st 0 = st := rfl
theorem goK_succ (n g : Nat) (ab : List Row) (f : Nat) (given : List Int) (st : FSt) (k : Nat) : goK n g ab f given st (k + 1) = (if (goK n g ab f given st k).bud < 0 then goK n g ab f given st k else if mayB g ab given k = true then (if (goK n g ab f given st k).bud - 1 < 0 then { goK n g ab f given st k with bud := (goK n g ab f given st k).bud - 1 } else goF n g ab f (given ++ [(k : Int)]) { goK n g ab f given st k with bud := (goK n g ab f given st k).bud - 1 }) else goK n g ab f given st k) := by
  unfold goK
  rw [List.range_succ, List.foldl_append]
  rfl
theorem goK_no {n g : Nat} {ab : List Row} {f : Nat} {given : List Int} {st s : FSt} {k : Nat} (h : goK n g ab f given st k = s) (hm : mayB g ab given k = false) : goK n g ab f given st (k + 1) = s := by
  rw [goK_succ, h, if_neg (show ¬ mayB g ab given k = true by rw [hm]; simp)]
  split <;> rfl
theorem goK_out {n g : Nat} {ab : List Row} {f : Nat} {given : List Int} {st s : FSt} {k : Nat} (h : goK n g ab f given st k = s) (h0 : 0 ≤ s.bud) (hm : mayB g ab given k = true) (hb : s.bud - 1 < 0) : goK n g ab f given st (k + 1) = { s with bud := s.bud - 1 } := by
  rw [goK_succ, h, if_neg (Int.not_lt.2 h0), if_pos hm, if_pos hb]
theorem goK_on {n g : Nat} {ab : List Row} {f : Nat} {given : List Int} {st s : FSt} {k : Nat} (h : goK n g ab f given st k = s) (h0 : 0 ≤ s.bud) (hm : mayB g ab given k = true) (hb : ¬ s.bud - 1 < 0) : goK n g ab f given st (k + 1) = goF n g ab f (given ++ [(k : Int)]) { s with bud := s.bud - 1 } := by
  rw [goK_succ, h, if_neg (Int.not_lt.2 h0), if_pos hm, if_neg hb]
theorem goK_stop {n g : Nat} {ab : List Row} {f : Nat} {given : List Int} {st : FSt} {k : Nat} (h : (goK n g ab f given st k).bud < 0) : ∀ d, goK n g ab f given st (k + d) = goK n g ab f given st k
  | 0 => rfl
  | d + 1 => by
    have ih := goK_stop h d
    rw [show k + (d + 1) = (k + d) + 1 by omega, goK_succ, ih, if_pos h]
/-- What holds of a search's state. -/
structure FIn (b M : Int) (st : FSt) : Prop where
  lo : -1 ≤ st.bud
  hi : st.bud ≤ b
  len : (st.best.length : Int) ≤ M
  least : -1 ≤ st.least ∧ st.least ≤ M
theorem mostN_le (given : List Int) : ∀ k, mostN given k ≤ given.length
  | 0 => Nat.zero_le _
  | k + 1 => by
    unfold mostN
    have := mostN_le given k
    have h2 := List.count_le_length (a := (k : Int)) (l := given)
    omega
theorem leafS_in {n : Nat} {given : List Int} {b M : Int} {st : FSt} (h : FIn b M st) (hg : (given.length : Int) ≤ M) : FIn b M (leafS n given st) := by
  unfold leafS
  split
  · have := mostN_le given n
    exact ⟨h.lo, h.hi, hg, by simp only; omega, by simp only; omega⟩
  · exact h
theorem goF_in (n g : Nat) (ab : List Row) (b M : Int) : ∀ (f : Nat) (given : List Int) (st : FSt), 0 ≤ st.bud → FIn b M st → (given.length : Int) + f ≤ M → FIn b M (goF n g ab f given st)
  | 0, given, st, _, h, hg => by rw [goF_zero]; exact leafS_in h (by omega)
  | f + 1, given, st, h0, h, hg => by
    rw [goF_succ]
    have key : ∀ k, FIn b M (goK n g ab f given st k) := by
      intro k
      induction k with
      | zero => exact h
      | succ k ih =>
        rw [goK_succ]
        split
        · exact ih
        · rename_i hb
          split
          · split
            · exact ⟨by simp only; omega, by have := ih.hi; simp only; omega, ih.len, ih.least⟩
            · exact goF_in n g ab b M f _ _ (by simp only; omega) ⟨by simp only; omega, by have := ih.hi; simp only; omega, ih.len, ih.least⟩ (by simp; omega)
          · exact ih
    exact key n
theorem goK_in {n g : Nat} {ab : List Row} {b M : Int} {f : Nat} {given : List Int} {st : FSt} (h : FIn b M st) (hg : (given.length : Int) + (f + 1 : Nat) ≤ M) : ∀ k, FIn b M (goK n g ab f given st k) := by
  intro k
  induction k with
  | zero => exact h
  | succ k ih =>
    rw [goK_succ]
    split
    · exact ih
    · rename_i hb
      split
      · split
        · exact ⟨by simp only; omega, by have := ih.hi; simp only; omega, ih.len, ih.least⟩
        · exact goF_in n g ab b M f _ _ (by simp only; omega) ⟨by simp only; omega, by have := ih.hi; simp only; omega, ih.len, ih.least⟩ (by simp; omega)
      · exact ih
def fair0 (n m g : Nat) (ab : List Row) (budget : Int) : FSt := goF n g ab m [] ⟨budget, [], -1⟩
def fairC (people turns gap : Int) (ab : List Row) (budget : Int) : Int :=
  if turnsC people turns gap ab = 2 ∨ inB budget 1 20000 = false then 2 else if turnsC people turns gap ab ≠ 0 then turnsC people turns gap ab else
  if (fair0 people.toNat turns.toNat gap.toNat ab budget).bud < 0 then 5 else if (fair0 people.toNat turns.toNat gap.toNat ab budget).least < 0 then 3 else 0
def fairL (people turns gap : Int) (ab : List Row) (budget : Int) : Int := if fairC people turns gap ab budget = 0 then (fair0 people.toNat turns.toNat gap.toNat ab budget).least else 0
def fairR (people turns gap : Int) (ab : List Row) (budget : Int) : List Int := if fairC people turns gap ab budget = 0 then (fair0 people.toNat turns.toNat gap.toNat ab budget).best else []
theorem fair_no {people turns gap : Int} {ab : List Row} {budget : Int} (h : fairC people turns gap ab budget ≠ 0) : fairL people turns gap ab budget = 0 ∧ fairR people turns gap ab budget = [] := by
  unfold fairL fairR; rw [if_neg h, if_neg h]; exact ⟨rfl, rfl⟩
theorem fairC_range {people turns gap : Int} {ab : List Row} {budget : Int} (h : turnsC people turns gap ab = 2 ∨ inB budget 1 20000 = false) : fairC people turns gap ab budget = 2 := by
  unfold fairC; rw [if_pos h]
theorem fairC_code {people turns gap : Int} {ab : List Row} {budget : Int} (h2 : turnsC people turns gap ab ≠ 2) (h0 : turnsC people turns gap ab ≠ 0) (hb : inB budget 1 20000 = true) : fairC people turns gap ab budget = turnsC people turns gap ab := by
  unfold fairC; rw [if_neg (by rw [hb]; simp [h2]), if_pos h0]
theorem fairC_on {n m g : Nat} {ab : List Row} {budget : Int} (h0 : turnsC n m g ab = 0) (hb : inB budget 1 20000 = true) : fairC n m g ab budget = if (fair0 n m g ab budget).bud < 0 then 5 else if (fair0 n m g ab budget).least < 0 then 3 else 0 := by
  unfold fairC; rw [if_neg (by rw [hb, h0]; simp), if_neg (by rw [h0]; simp)]
  simp only [Int.toNat_natCast]
theorem fair_yes {n m g : Nat} {ab : List Row} {budget : Int} (h : fairC n m g ab budget = 0) : fairL n m g ab budget = (fair0 n m g ab budget).least ∧ fairR n m g ab budget = (fair0 n m g ab budget).best := by
  unfold fairL fairR; rw [if_pos h, if_pos h, Int.toNat_natCast, Int.toNat_natCast, Int.toNat_natCast]; exact ⟨rfl, rfl⟩
theorem fairR_len (people turns gap : Int) (ab : List Row) (budget : Int) : (fairR people turns gap ab budget).length ≤ 1048576 := by
  unfold fairR
  split
  · rename_i h
    unfold fairC at h
    split at h
    · cases h
    · split at h
      · rename_i h1 h2; rw [h] at h2; exact absurd rfl h2
      · rename_i h1 h2
        have h2' : turnsC people turns gap ab = 0 := by simpa using h2
        obtain ⟨n, m, g, rfl, rfl, rfl, hok⟩ := turnsC_zero h2'
        simp only [not_or, Bool.not_eq_false, inB_iff] at h1
        have hm := hok.m12
        have := (goF_in n g ab budget 12 m [] ⟨budget, [], -1⟩ (by simp only; omega) ⟨by simp only; omega, Int.le_refl _, by simp, by simp, by simp⟩ (by simp; omega)).len
        unfold fair0
        simp only [Int.toNat_natCast]
        omega
  · simp

end Go.Proofs.Ytbblgididefgdaa
