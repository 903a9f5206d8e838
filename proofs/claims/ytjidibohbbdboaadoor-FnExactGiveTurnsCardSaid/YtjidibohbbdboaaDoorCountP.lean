/- In how many ways turns can be given, in plain Lean: the count, the reference's search with what is known to be dead, and the first way. -/
import Derived.Test.YtjidibohbbdboaaDoorTurnP
namespace Go.Proofs.YtjidibohbbdboaaDoor
open Go.RowKit

def keyL (g : Nat) (given : List Int) : List Int := given.drop (recLo g given.length)
def waysN (n g : Nat) (ab : List Row) : Nat → List Int → Nat
  | 0, _ => 1
  | f + 1, given => ((List.range n).map fun p => if mayB g ab given p then waysN n g ab f (given ++ [(p : Int)]) else 0).sum
theorem keyL_snoc {g : Nat} (hg : 1 ≤ g) (given : List Int) (p : Int) : keyL g (given ++ [p]) = (keyL g given ++ [p]).drop (recLo g (given.length + 1) - recLo g given.length) := by
  unfold keyL
  have hl : (given ++ [p]).length = given.length + 1 := by simp
  rw [hl]
  have h1 : recLo g given.length ≤ given.length := by unfold recLo; omega
  have h2 : recLo g (given.length + 1) = recLo g given.length + (recLo g (given.length + 1) - recLo g given.length) := by unfold recLo; omega
  rw [← List.drop_append_of_le_length h1, List.drop_drop, ← h2]
theorem mayB_key {g : Nat} {ab : List Row} {x y : List Int} (hl : x.length = y.length) (hk : keyL g x = keyL g y) (p : Nat) : mayB g ab x p = mayB g ab y p := by
  unfold mayB
  rw [show x.drop (recLo g x.length) = y.drop (recLo g y.length) from hk, hl]
/-- What can follow hangs on the turn and on the last ones within the gap only. -/
theorem waysN_key {n g : Nat} {ab : List Row} (hg : 1 ≤ g) : ∀ (f : Nat) (x y : List Int), x.length = y.length → keyL g x = keyL g y → waysN n g ab f x = waysN n g ab f y
  | 0, _, _, _, _ => rfl
  | f + 1, x, y, hl, hk => by
    unfold waysN
    congr 1
    refine List.map_congr_left fun p _ => ?_
    rw [mayB_key hl hk p]
    split
    · exact waysN_key hg f _ _ (by simp [hl]) (by rw [keyL_snoc hg, keyL_snoc hg, hk, hl])
    · rfl
theorem sum_zero {l : List Nat} (h : ∀ x ∈ l, x = 0) : l.sum = 0 := by
  induction l with
  | nil => rfl
  | cons a l ih =>
    rw [List.sum_cons, h a (by simp), ih (fun x hx => h x (by simp [hx]))]
theorem sum_pos_of {l : List Nat} {x : Nat} (h : x ∈ l) : x ≤ l.sum := by
  induction l with
  | nil => simp at h
  | cons a l ih =>
    rw [List.sum_cons]
    rcases List.mem_cons.1 h with rfl | h
    · omega
    · have := ih h; omega
/-- No more of one's own kind fit than there are. -/
theorem full_all : ∀ (n : Nat) (l : List Int), l.Pairwise (· ≠ ·) → (∀ y ∈ l, ∃ q : Nat, q < n ∧ y = q) → l.length ≤ n ∧ (l.length = n → ∀ p : Nat, p < n → (p : Int) ∈ l)
  | 0, l, _, h => by
    cases l with
    | nil => exact ⟨Nat.le_refl _, fun _ p hp => absurd hp (by omega)⟩
    | cons y l => obtain ⟨q, hq, _⟩ := h y (by simp); omega
  | n + 1, l, hp, h => by
    by_cases hm : (n : Int) ∈ l
    · obtain ⟨l1, l2, rfl⟩ := List.append_of_mem hm
      have hp2 : (l1 ++ l2).Pairwise (· ≠ ·) := List.Pairwise.sublist (by simp) hp
      rw [List.pairwise_append, List.pairwise_cons] at hp
      obtain ⟨_, ⟨hn2, _⟩, hn1⟩ := hp
      have hin : ∀ y ∈ l1 ++ l2, ∃ q : Nat, q < n ∧ y = q := fun y hy => by
        have hy2 : y ∈ l1 ++ (n : Int) :: l2 := by
          rcases List.mem_append.1 hy with hy | hy
          · exact List.mem_append.2 (.inl hy)
          · exact List.mem_append.2 (.inr (List.mem_cons.2 (.inr hy)))
        obtain ⟨q, hq, rfl⟩ := h y hy2
        refine ⟨q, ?_, rfl⟩
        have hne : (q : Int) ≠ (n : Int) := by
          rcases List.mem_append.1 hy with hy | hy
          · exact hn1 _ hy _ (by simp)
          · exact (hn2 _ hy).symm
        omega
      have ih := full_all n (l1 ++ l2) hp2 hin
      have hl : (l1 ++ (n : Int) :: l2).length = (l1 ++ l2).length + 1 := by simp; omega
      rw [hl]
      refine ⟨by omega, fun e p hpn => ?_⟩
      by_cases e2 : p = n
      · subst e2; exact hm
      · have := ih.2 (by omega) p (by omega)
        rcases List.mem_append.1 this with h3 | h3
        · exact List.mem_append.2 (.inl h3)
        · exact List.mem_append.2 (.inr (List.mem_cons.2 (.inr h3)))
    · have hin : ∀ y ∈ l, ∃ q : Nat, q < n ∧ y = q := fun y hy => by
        obtain ⟨q, hq, rfl⟩ := h y hy
        have hne : q ≠ n := fun e => hm (by rw [← e]; exact hy)
        exact ⟨q, by omega, rfl⟩
      have ih := full_all n l hp hin
      exact ⟨by omega, fun e => absurd ih.1 (by omega)⟩
/-- Where the gap is wider than there are people, and turns are more, no way is left. -/
theorem ways_none {n g : Nat} {ab : List Row} (hng : n < g) : ∀ (f : Nat) (given : List Int), given.length ≤ n → given.Pairwise (· ≠ ·) → (∀ y ∈ given, ∃ q : Nat, q < n ∧ y = q) → n < given.length + f → waysN n g ab f given = 0
  | 0, given, hl, _, _, hf => absurd hf (by omega)
  | f + 1, given, hl, hp, hin, hf => by
    unfold waysN
    refine sum_zero fun x hx => ?_
    obtain ⟨p, hpr, rfl⟩ := List.mem_map.1 hx
    rw [List.mem_range] at hpr
    have hk : given.drop (recLo g given.length) = given := by
      have : recLo g given.length = 0 := by unfold recLo; omega
      rw [this]; rfl
    split
    · rename_i hm
      have hnm : (p : Int) ∉ given := fun hmem => by
        unfold mayB at hm
        rw [hk, Bool.and_eq_true] at hm
        have h1 := hm.1
        rw [hasB_iff.2 hmem] at h1
        cases h1
      have hp2 : (given ++ [(p : Int)]).Pairwise (· ≠ ·) := by
        rw [List.pairwise_append]
        exact ⟨hp, List.pairwise_singleton _ _, fun a ha b hb => by rw [List.mem_singleton.1 hb]; exact fun e => hnm (e ▸ ha)⟩
      have hin2 : ∀ y ∈ given ++ [(p : Int)], ∃ q : Nat, q < n ∧ y = q := fun y hy => by
        rcases List.mem_append.1 hy with hy | hy
        · exact hin y hy
        · exact ⟨p, hpr, List.mem_singleton.1 hy⟩
      have hle := (full_all n _ hp2 hin2).1
      exact ways_none hng f _ hle hp2 hin2 (by simp; omega)
    · rfl
/-! ### The reference's search -/
structure CSt where
  first : List Int
  count : Nat
  dead : List (List Int)
def keyC (g : Nat) (given : List Int) : List Int := (given.length : Int) :: keyL g given
def knownB (dead : List (List Int)) (key : List Int) : Bool := dead.any fun d => decide (d = key)
def runS (n m g : Nat) (ab : List Row) : Nat → List Int → CSt → CSt
  | 0, given, st => ⟨if st.count = 0 then given else st.first, st.count + 1, st.dead⟩
  | f + 1, given, st => if knownB st.dead (keyC g given) then st else if n < min g m then st else
    if ((List.range n).foldl (fun s p => if s.count < 20000 ∧ mayB g ab given p = true then runS n m g ab f (given ++ [(p : Int)]) s else s) st).count = st.count then
      { ((List.range n).foldl (fun s p => if s.count < 20000 ∧ mayB g ab given p = true then runS n m g ab f (given ++ [(p : Int)]) s else s) st) with dead := ((List.range n).foldl (fun s p => if s.count < 20000 ∧ mayB g ab given p = true then runS n m g ab f (given ++ [(p : Int)]) s else s) st).dead ++ [keyC g given] }
    else (List.range n).foldl (fun s p => if s.count < 20000 ∧ mayB g ab given p = true then runS n m g ab f (given ++ [(p : Int)]) s else s) st
def loopS (n m g : Nat) (ab : List Row) (f : Nat) (given : List Int) (st : CSt) (k : Nat) : CSt := (List.range k).foldl (fun s p => if s.count < 20000 ∧ mayB g ab given p = true then runS n m g ab f (given ++ [(p : Int)]) s else s) st
theorem runS_succ (n m g : Nat) (ab : List Row) (f : Nat) (given : List Int) (st : CSt) : runS n m g ab (f + 1) given st = if knownB st.dead (keyC g given) then st else if n < min g m then st else if (loopS n m g ab f given st n).count = st.count then { (loopS n m g ab f given st n) with dead := (loopS n m g ab f given st n).dead ++ [keyC g given] } else loopS n m g ab f given st n := rfl
theorem loopS_succ (n m g : Nat) (ab : List Row) (f : Nat) (given : List Int) (st : CSt) (k : Nat) : loopS n m g ab f given st (k + 1) = if (loopS n m g ab f given st k).count < 20000 ∧ mayB g ab given k = true then runS n m g ab f (given ++ [(k : Int)]) (loopS n m g ab f given st k) else loopS n m g ab f given st k := by
  unfold loopS; rw [List.range_succ, List.foldl_append]; rfl
/-- The ways that begin with one of the first k people. -/
def waysK (n g : Nat) (ab : List Row) (f : Nat) (given : List Int) (k : Nat) : Nat := ((List.range k).map fun p => if mayB g ab given p then waysN n g ab f (given ++ [(p : Int)]) else 0).sum
theorem waysK_succ (n g : Nat) (ab : List Row) (f : Nat) (given : List Int) (k : Nat) : waysK n g ab f given (k + 1) = waysK n g ab f given k + (if mayB g ab given k then waysN n g ab f (given ++ [(k : Int)]) else 0) := by
  unfold waysK; rw [List.range_succ, List.map_append, List.sum_append]; simp
def DeadOk (n m g : Nat) (ab : List Row) (dead : List (List Int)) : Prop := ∀ (given : List Int) (f : Nat), given.length + f = m → keyC g given ∈ dead → waysN n g ab f given = 0
/-- The first way, person by person. -/
def firstW (n g : Nat) (ab : List Row) : Nat → List Int → Option (List Int)
  | 0, given => some given
  | f + 1, given => (List.range n).findSome? fun p => if mayB g ab given p then firstW n g ab f (given ++ [(p : Int)]) else none
theorem firstW_none {n g : Nat} {ab : List Row} : ∀ (f : Nat) (given : List Int), firstW n g ab f given = none ↔ waysN n g ab f given = 0
  | 0, given => by simp [firstW, waysN]
  | f + 1, given => by
    unfold firstW waysN
    rw [List.findSome?_eq_none_iff]
    constructor
    · intro h
      refine sum_zero fun x hx => ?_
      obtain ⟨p, hp, rfl⟩ := List.mem_map.1 hx
      have h1 := h p hp
      split
      · rename_i hm
        rw [if_pos hm] at h1
        exact (firstW_none f _).1 h1
      · rfl
    · intro h p hp
      have h1 := sum_pos_of (List.mem_map.2 ⟨p, hp, rfl⟩ : (if mayB g ab given p then waysN n g ab f (given ++ [(p : Int)]) else 0) ∈ (List.range n).map fun p => if mayB g ab given p then waysN n g ab f (given ++ [(p : Int)]) else 0)
      rw [h] at h1
      split
      · rename_i hm
        rw [if_pos hm] at h1
        exact (firstW_none f _).2 (by omega)
      · rfl
def firstK (n g : Nat) (ab : List Row) (f : Nat) (given : List Int) (k : Nat) : Option (List Int) := (List.range k).findSome? fun p => if mayB g ab given p then firstW n g ab f (given ++ [(p : Int)]) else none
theorem firstK_succ (n g : Nat) (ab : List Row) (f : Nat) (given : List Int) (k : Nat) : firstK n g ab f given (k + 1) = (firstK n g ab f given k).or (if mayB g ab given k then firstW n g ab f (given ++ [(k : Int)]) else none) := by
  unfold firstK; rw [List.range_succ, List.findSome?_append]; simp
/-- What the search leaves: the count up to the bound, and the first way. -/
structure RunsTo (n m g : Nat) (ab : List Row) (st : CSt) (W : Nat) (F : Option (List Int)) (r : CSt) : Prop where
  count : r.count = min (st.count + W) 20000
  dead : DeadOk n m g ab r.dead
  first : r.first = if st.count = 0 then F.getD st.first else st.first
theorem known_iff {dead : List (List Int)} {key : List Int} : knownB dead key = true ↔ key ∈ dead := by
  unfold knownB
  rw [List.any_eq_true]
  constructor
  · rintro ⟨d, hd, h⟩
    rw [decide_eq_true_eq] at h
    exact h ▸ hd
  · intro h
    exact ⟨key, h, by simp⟩
theorem runS_spec {n m g : Nat} {ab : List Row} (hg : 1 ≤ g) (hw : ¬ n < min g m) : ∀ (f : Nat) (given : List Int) (st : CSt), given.length + f = m → st.count < 20000 → DeadOk n m g ab st.dead → RunsTo n m g ab st (waysN n g ab f given) (firstW n g ab f given) (runS n m g ab f given st)
  | 0, given, st, _, hc, hd => ⟨by show st.count + 1 = min (st.count + 1) 20000; omega, hd, by show (if st.count = 0 then given else st.first) = _; split <;> rfl⟩
  | f + 1, given, st, hm, hc, hd => by
    have hloop : ∀ k, k ≤ n → RunsTo n m g ab st (waysK n g ab f given k) (firstK n g ab f given k) (loopS n m g ab f given st k) := by
      intro k
      induction k with
      | zero => exact fun _ => ⟨by show st.count = min (st.count + 0) 20000; omega, hd, by show st.first = _; split <;> rfl⟩
      | succ k ih =>
        intro hk
        have h := ih (by omega)
        rw [loopS_succ, waysK_succ, firstK_succ]
        by_cases hc2 : (loopS n m g ab f given st k).count < 20000 ∧ mayB g ab given k = true
        · rw [if_pos hc2, if_pos hc2.2, if_pos hc2.2]
          have hr := runS_spec hg hw f (given ++ [(k : Int)]) (loopS n m g ab f given st k) (by simp; omega) hc2.1 h.dead
          have e1 := h.count
          have e2 := hr.count
          refine ⟨by omega, hr.dead, ?_⟩
          rw [hr.first, h.first]
          by_cases h0 : st.count = 0
          · rw [if_pos h0, if_pos h0]
            by_cases h1 : (loopS n m g ab f given st k).count = 0
            · rw [if_pos h1]
              have hz : waysK n g ab f given k = 0 := by omega
              have hn : firstK n g ab f given k = none := by
                unfold firstK
                rw [List.findSome?_eq_none_iff]
                intro p hp
                have h3 := sum_pos_of (List.mem_map.2 ⟨p, hp, rfl⟩ : (if mayB g ab given p then waysN n g ab f (given ++ [(p : Int)]) else 0) ∈ (List.range k).map fun p => if mayB g ab given p then waysN n g ab f (given ++ [(p : Int)]) else 0)
                unfold waysK at hz
                rw [hz] at h3
                split
                · rename_i hm2
                  rw [if_pos hm2] at h3
                  exact (firstW_none f _).2 (by omega)
                · rfl
              rw [hn]; rfl
            · rw [if_neg h1]
              cases hF : firstK n g ab f given k with
              | some v => rfl
              | none =>
                exfalso
                apply h1
                have hz : waysK n g ab f given k = 0 := by
                  unfold waysK
                  refine sum_zero fun x hx => ?_
                  obtain ⟨p, hp, rfl⟩ := List.mem_map.1 hx
                  unfold firstK at hF
                  have h4 := (List.findSome?_eq_none_iff.1 hF) p hp
                  split
                  · rename_i hm2
                    rw [if_pos hm2] at h4
                    exact (firstW_none f _).1 h4
                  · rfl
                omega
          · rw [if_neg h0, if_neg h0, if_neg (by omega)]
        · rw [if_neg hc2]
          by_cases hmy : mayB g ab given k = true
          · have hfull : ¬ (loopS n m g ab f given st k).count < 20000 := fun h5 => hc2 ⟨h5, hmy⟩
            have e1 := h.count
            refine ⟨by omega, h.dead, ?_⟩
            rw [h.first]
            by_cases h0 : st.count = 0
            · rw [if_pos h0, if_pos h0]
              cases hF : firstK n g ab f given k with
              | some v => rfl
              | none =>
                exfalso
                have hz : waysK n g ab f given k = 0 := by
                  unfold waysK
                  refine sum_zero fun x hx => ?_
                  obtain ⟨p, hp, rfl⟩ := List.mem_map.1 hx
                  unfold firstK at hF
                  have h4 := (List.findSome?_eq_none_iff.1 hF) p hp
                  split
                  · rename_i hm2
                    rw [if_pos hm2] at h4
                    exact (firstW_none f _).1 h4
                  · rfl
                omega
            · rw [if_neg h0, if_neg h0]
          · rw [if_neg hmy, if_neg hmy]
            exact ⟨by rw [Nat.add_zero]; exact h.count, h.dead, by rw [h.first]; cases firstK n g ab f given k <;> rfl⟩
    have hl := hloop n (Nat.le_refl _)
    have hW : waysK n g ab f given n = waysN n g ab (f + 1) given := rfl
    have hF : firstK n g ab f given n = firstW n g ab (f + 1) given := rfl
    rw [hW, hF] at hl
    rw [runS_succ]
    by_cases hk : knownB st.dead (keyC g given) = true
    · rw [if_pos hk]
      have hz := hd given (f + 1) hm (known_iff.1 hk)
      rw [(firstW_none (f + 1) given).2 hz, hz]
      exact ⟨by omega, hd, by split <;> rfl⟩
    · rw [if_neg hk, if_neg hw]
      by_cases hs : (loopS n m g ab f given st n).count = st.count
      · rw [if_pos hs]
        have hz : waysN n g ab (f + 1) given = 0 := by have := hl.count; omega
        refine ⟨hl.count, fun x f' hx hm' => ?_, hl.first⟩
        rcases List.mem_append.1 hm' with hm' | hm'
        · exact hl.dead x f' hx hm'
        · have he := List.mem_singleton.1 hm'
          unfold keyC at he
          injection he with e1 e2
          have hlen : x.length = given.length := by omega
          have hf : f' = f + 1 := by omega
          rw [hf, waysN_key hg (f + 1) x given hlen e2]; exact hz
      · rw [if_neg hs]; exact hl
/-- What the reference counts and finds first. -/
theorem run_all {n m g : Nat} {ab : List Row} (hg : 1 ≤ g) : (runS n m g ab m [] ⟨[], 0, []⟩).count = min (waysN n g ab m []) 20000 ∧ (0 < waysN n g ab m [] → (runS n m g ab m [] ⟨[], 0, []⟩).first = (firstW n g ab m []).getD []) := by
  by_cases hw : n < min g m
  · have hz : waysN n g ab m [] = 0 := ways_none (by omega) m [] (by simp) List.Pairwise.nil (by simp) (by simp; omega)
    rw [hz]
    refine ⟨?_, fun h => absurd h (by omega)⟩
    obtain ⟨f, rfl⟩ : ∃ f, m = f + 1 := ⟨m - 1, by omega⟩
    rw [runS_succ, if_neg (by simp [knownB]), if_pos hw]
    rfl
  · have h := runS_spec (ab := ab) hg hw m [] ⟨[], 0, []⟩ (by simp) (by decide) (fun _ _ _ hm => by simp at hm)
    refine ⟨by have := h.count; simpa using this, fun _ => ?_⟩
    have := h.first
    simpa using this
/-- The first person with whom a way is left. -/
theorem first_next {n g : Nat} {ab : List Row} {f : Nat} {given : List Int} {p : Nat} (hp : p < n) (hm : mayB g ab given p = true) (hw : 0 < waysN n g ab f (given ++ [(p : Int)])) (hmin : ∀ q, q < p → mayB g ab given q = true → waysN n g ab f (given ++ [(q : Int)]) = 0) : firstW n g ab (f + 1) given = firstW n g ab f (given ++ [(p : Int)]) := by
  have hb : ∀ k, k ≤ p → firstK n g ab f given k = none := fun k hk => by
    unfold firstK
    rw [List.findSome?_eq_none_iff]
    intro q hq
    rw [List.mem_range] at hq
    split
    · rename_i h; exact (firstW_none f _).2 (hmin q (by omega) h)
    · rfl
  have ha : ∀ d, firstK n g ab f given (p + 1 + d) = firstW n g ab f (given ++ [(p : Int)]) := fun d => by
    obtain ⟨v, hv⟩ : ∃ v, firstW n g ab f (given ++ [(p : Int)]) = some v := by
      cases hF : firstW n g ab f (given ++ [(p : Int)]) with
      | some v => exact ⟨v, rfl⟩
      | none => have := (firstW_none f _).1 hF; omega
    induction d with
    | zero => rw [Nat.add_zero, firstK_succ, hb p (Nat.le_refl _), if_pos hm]; rfl
    | succ d ih => rw [← Nat.add_assoc, firstK_succ, ih, hv]; rfl
  have h := ha (n - (p + 1))
  rw [show p + 1 + (n - (p + 1)) = n by omega] at h
  exact h
theorem ways_next {n g : Nat} {ab : List Row} {f : Nat} {given : List Int} (hw : 0 < waysN n g ab (f + 1) given) : ∃ p, p < n ∧ mayB g ab given p = true ∧ 0 < waysN n g ab f (given ++ [(p : Int)]) := by
  apply Classical.byContradiction
  intro h
  have hz : waysN n g ab (f + 1) given = 0 := by
    unfold waysN
    refine sum_zero fun x hx => ?_
    obtain ⟨p, hp, rfl⟩ := List.mem_map.1 hx
    rw [List.mem_range] at hp
    split
    · rename_i hm
      rcases Nat.eq_zero_or_pos (waysN n g ab f (given ++ [(p : Int)])) with h0 | h0
      · exact h0
      · exact absurd ⟨p, hp, hm, h0⟩ h
    · rfl
  omega
/-- The count is small: a machine's number holds it. -/
theorem waysN_le {n g : Nat} {ab : List Row} (hn : n ≤ 8) : ∀ (f : Nat) (given : List Int), waysN n g ab f given ≤ 8 ^ f
  | 0, _ => Nat.le_refl _
  | f + 1, given => by
    have h : ∀ k, waysK n g ab f given k ≤ k * 8 ^ f := by
      intro k
      induction k with
      | zero => simp [waysK]
      | succ k ih =>
        rw [waysK_succ]
        have h1 : (if mayB g ab given k then waysN n g ab f (given ++ [(k : Int)]) else 0) ≤ 8 ^ f := by
          split
          · exact waysN_le hn f _
          · exact Nat.zero_le _
        rw [Nat.succ_mul]
        omega
    have h2 := h n
    have h3 : n * 8 ^ f ≤ 8 * 8 ^ f := Nat.mul_le_mul_right _ hn
    show waysK n g ab f given n ≤ 8 ^ (f + 1)
    rw [Nat.pow_succ, Nat.mul_comm (8 ^ f) 8]
    omega
theorem waysK_le {n g : Nat} {ab : List Row} (hn : n ≤ 8) (f : Nat) (given : List Int) (k : Nat) : waysK n g ab f given k ≤ k * 8 ^ f := by
  induction k with
  | zero => simp [waysK]
  | succ k ih =>
    rw [waysK_succ, Nat.succ_mul]
    have h1 : (if mayB g ab given k then waysN n g ab f (given ++ [(k : Int)]) else 0) ≤ 8 ^ f := by
      split
      · exact waysN_le hn f _
      · exact Nat.zero_le _
    omega

end Go.Proofs.YtjidibohbbdboaaDoor
