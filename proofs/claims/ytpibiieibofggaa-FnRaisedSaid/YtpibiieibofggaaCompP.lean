/- Joined regions: how many sets there are, in plain Lean, and what a search that goes outwards from a region finds. -/
import Derived.Test.YtpibiieibofggaaRegV
namespace Go.Proofs.Ytpibiieibofggaa
open Go.RowKit

theorem count_set_false : ∀ (l : List Bool) (b : Nat), l[b]? = some false → (l.set b true).count false + 1 = l.count false
  | [], b, h => by simp at h
  | x :: l, 0, h => by simp at h; subst h; simp
  | x :: l, b + 1, h => by
    have ih := count_set_false l b (by simpa using h)
    simp only [List.set_cons_succ, List.count_cons]
    omega
def adjR (ys : List Region) (a b : Nat) : Prop := ∃ x y, ys[a]? = some x ∧ ys[b]? = some y ∧ x.level = y.level ∧ y.id ∈ x.near
/-- b can be come to from a: it lies in each set that holds a and all neighbours of its own. -/
def Conn (ys : List Region) (a b : Nat) : Prop := ∀ S : Nat → Prop, S a → (∀ b c, S b → adjR ys b c → S c) → S b
theorem Conn.refl {ys : List Region} {a : Nat} : Conn ys a a := fun _ h _ => h
theorem Conn.step {ys : List Region} {a b c : Nat} (h : Conn ys a b) (k : adjR ys b c) : Conn ys a c := fun S h0 hs => hs b c (h S h0 hs) k
theorem Conn.trans {ys : List Region} {a b c : Nat} (h : Conn ys a b) (k : Conn ys b c) : Conn ys a c := fun S h0 hs => k S (h S h0 hs) hs
theorem Conn.lt {ys : List Region} {a b : Nat} (h : Conn ys a b) (ha : a < ys.length) : b < ys.length :=
  h (fun b => b < ys.length) ha (fun _ _ _ ⟨_, _, _, hy, _⟩ => (List.getElem?_eq_some_iff.1 hy).1)
theorem Conn.level {ys : List Region} {a b : Nat} (h : Conn ys a b) {x y : Region} (hx : ys[a]? = some x) (hy : ys[b]? = some y) : x.level = y.level := by
  have h1 := h (fun b => ∀ y, ys[b]? = some y → x.level = y.level) (fun y hy => by rw [hx] at hy; cases hy; rfl) (fun b c hb ⟨u, v, hu, hv, hl, _⟩ z hz => by
    rw [hv] at hz; cases hz
    exact (hb u hu).trans hl)
  exact h1 y hy
/-- Seen from the first k regions. -/
def SeenK (ys : List Region) (k b : Nat) : Prop := ∃ j, j < k ∧ Conn ys j b
theorem SeenK.lt {ys : List Region} {k b : Nat} (h : SeenK ys k b) (hk : k ≤ ys.length) : b < ys.length := by
  obtain ⟨j, hj, hc⟩ := h
  exact hc.lt (by omega)
theorem SeenK.step {ys : List Region} {k b c : Nat} (h : SeenK ys k b) (ha : adjR ys b c) : SeenK ys k c := by
  obtain ⟨j, hj, hc⟩ := h
  exact ⟨j, hj, hc.step ha⟩
open Classical in
noncomputable def compsK (ys : List Region) : Nat → Nat
  | 0 => 0
  | k + 1 => compsK ys k + if SeenK ys k k then 0 else 1
/-- How many sets of joined regions there are. -/
noncomputable def compsR (ys : List Region) : Nat := compsK ys ys.length
theorem compsK_old {ys : List Region} {k : Nat} (h : SeenK ys k k) : compsK ys (k + 1) = compsK ys k := by
  rw [compsK, if_pos h, Nat.add_zero]
theorem compsK_new {ys : List Region} {k : Nat} (h : ¬ SeenK ys k k) : compsK ys (k + 1) = compsK ys k + 1 := by
  rw [compsK, if_neg h]
theorem compsK_le (ys : List Region) : ∀ k, compsK ys k ≤ k
  | 0 => Nat.zero_le _
  | k + 1 => by
    have := compsK_le ys k
    by_cases h : SeenK ys k k
    · rw [compsK_old h]; omega
    · rw [compsK_new h]; omega
/-- What has been seen where the first k regions are done. -/
structure OutS (ys : List Region) (k : Nat) (sv : List Bool) : Prop where
  len : sv.length = ys.length
  seen : ∀ b, sv[b]? = some true ↔ SeenK ys k b
theorem OutS.zero (ys : List Region) : OutS ys 0 (List.replicate ys.length false) :=
  ⟨by simp, fun b => ⟨fun h => by
    rw [List.getElem?_replicate] at h
    split at h <;> simp at h, fun ⟨j, hj, _⟩ => absurd hj (by omega)⟩⟩
theorem OutS.old {ys : List Region} {k : Nat} {sv : List Bool} (h : OutS ys k sv) (hk : sv[k]? = some true) : SeenK ys k k ∧ OutS ys (k + 1) sv := by
  have h1 := (h.seen k).1 hk
  refine ⟨h1, h.len, fun b => (h.seen b).trans ⟨fun ⟨j, hj, hc⟩ => ⟨j, by omega, hc⟩, fun ⟨j, hj, hc⟩ => ?_⟩⟩
  by_cases e : j = k
  · subst e
    obtain ⟨i, hi, hd⟩ := h1
    exact ⟨i, hi, hd.trans hc⟩
  · exact ⟨j, by omega, hc⟩
/-- A search outwards from region k: what has been seen, the queue, and how many of it are done. -/
structure Bfs (ys : List Region) (k : Nat) (sv : List Bool) (q : List Int) (done : Nat) : Prop where
  len : sv.length = ys.length
  seen : ∀ b : Nat, sv[b]? = some true ↔ SeenK ys k b ∨ (b : Int) ∈ q
  conn : ∀ y ∈ q, ∃ b : Nat, y = (b : Int) ∧ b < ys.length ∧ Conn ys k b
  root : (k : Int) ∈ q
  far : ∀ i x, i < done → q[i]? = some x → ∀ b, adjR ys x.toNat b → sv[b]? = some true
  cnt : q.length + sv.count false ≤ ys.length
  dl : done ≤ q.length
theorem Bfs.start {ys : List Region} {k : Nat} {sv : List Bool} (h : OutS ys k sv) (hk : sv[k]? = some false) : ¬ SeenK ys k k ∧ Bfs ys k (sv.set k true) [(k : Int)] 0 := by
  have hkl : k < sv.length := (List.getElem?_eq_some_iff.1 hk).1
  have hkn : k < ys.length := by rw [← h.len]; exact hkl
  refine ⟨fun h1 => ?_, ?_, fun b => ?_, fun y hy => ?_, by simp, fun i x hi => absurd hi (by omega), ?_, ?_⟩
  · have := (h.seen k).2 h1
    rw [hk] at this; cases this
  · rw [List.length_set]; exact h.len
  · by_cases e : k = b
    · subst e
      rw [List.getElem?_set_self hkl]
      simp
    · rw [List.getElem?_set_ne e, h.seen b]
      simp only [List.mem_singleton]
      constructor
      · exact .inl
      · rintro (h1 | h1)
        · exact h1
        · exact absurd (by omega : k = b) e
  · simp at hy
    exact ⟨k, hy, hkn, .refl⟩
  · have h1 := count_set_false sv k hk
    have h2 := List.count_le_length (a := false) (l := sv)
    rw [h.len] at h2
    simp
    omega
  · exact Nat.zero_le _
theorem Bfs.push {ys : List Region} {k done a b : Nat} {sv : List Bool} {q : List Int} (h : Bfs ys k sv q done) (hb : sv[b]? = some false) (hq : (a : Int) ∈ q) (ha : adjR ys a b) : Bfs ys k (sv.set b true) (q ++ [(b : Int)]) done := by
  have hbl : b < sv.length := (List.getElem?_eq_some_iff.1 hb).1
  have hmono : ∀ c : Nat, sv[c]? = some true → (sv.set b true)[c]? = some true := fun c hc => by
    by_cases e : b = c
    · subst e; rw [List.getElem?_set_self hbl]
    · rw [List.getElem?_set_ne e]; exact hc
  obtain ⟨a', ha', han, hca⟩ := h.conn _ hq
  have hab : a = a' := by omega
  subst hab
  refine ⟨by rw [List.length_set]; exact h.len, fun c => ?_, fun y hy => ?_, List.mem_append_left _ h.root, fun i x hi hx c hc => ?_, ?_, ?_⟩
  · rw [List.mem_append, List.mem_singleton]
    by_cases e : b = c
    · subst e
      rw [List.getElem?_set_self hbl]
      simp
    · rw [List.getElem?_set_ne e, h.seen c]
      constructor
      · rintro (h1 | h1)
        · exact .inl h1
        · exact .inr (.inl h1)
      · rintro (h1 | h1 | h1)
        · exact .inl h1
        · exact .inr h1
        · exact absurd (by omega : b = c) e
  · rcases List.mem_append.1 hy with h1 | h1
    · exact h.conn y h1
    · simp at h1
      exact ⟨b, h1, by rw [← h.len]; exact hbl, hca.step ha⟩
  · rw [List.getElem?_append_left (Nat.lt_of_lt_of_le hi h.dl)] at hx
    exact hmono c (h.far i x hi hx c hc)
  · have h1 := count_set_false sv b hb
    have h2 := h.cnt
    rw [List.length_append, List.length_singleton]
    omega
  · have := h.dl
    rw [List.length_append]
    omega
theorem Bfs.mono {ys : List Region} {k a : Nat} {sv : List Bool} {q : List Int} {done : Nat} (h : Bfs ys k sv q done) (hx : q[done]? = some (a : Int)) (hall : ∀ b, adjR ys a b → sv[b]? = some true) : Bfs ys k sv q (done + 1) := by
  refine ⟨h.len, h.seen, h.conn, h.root, fun i x hi hx' c hc => ?_, h.cnt, (List.getElem?_eq_some_iff.1 hx).1⟩
  by_cases e : i = done
  · subst e
    rw [hx] at hx'
    injection hx' with hx'
    subst hx'
    exact hall c (by simpa using hc)
  · exact h.far i x (by omega) hx' c hc
theorem Bfs.done {ys : List Region} {k : Nat} {sv : List Bool} {q : List Int} {d : Nat} (h : Bfs ys k sv q d) (hd : q.length ≤ d) : OutS ys (k + 1) sv := by
  refine ⟨h.len, fun b => ⟨fun hb => ?_, fun hs => ?_⟩⟩
  · rcases (h.seen b).1 hb with ⟨j, hj, hc⟩ | hq
    · exact ⟨j, by omega, hc⟩
    · obtain ⟨b', hb', _, hc⟩ := h.conn _ hq
      have : b = b' := by omega
      subst this
      exact ⟨k, by omega, hc⟩
  · obtain ⟨j, hj, hc⟩ := hs
    by_cases e : j = k
    · subst e
      refine hc (fun b => sv[b]? = some true) ((h.seen j).2 (.inr h.root)) (fun b c ih ha => ?_)
      rcases (h.seen b).1 ih with h1 | h1
      · exact (h.seen c).2 (.inl (h1.step ha))
      · obtain ⟨i, hi, hiq⟩ := List.getElem_of_mem h1
        exact h.far i (b : Int) (by omega) (by rw [List.getElem?_eq_getElem hi, hiq]) c (by simpa using ha)
    · exact (h.seen b).2 (.inl ⟨j, by omega, hc⟩)
theorem Bfs.qlen {ys : List Region} {k : Nat} {sv : List Bool} {q : List Int} {d : Nat} (h : Bfs ys k sv q d) : q.length ≤ ys.length := by have := h.cnt; omega
/-- Ids and neighbours as they are asked for: each id once, each neighbour there. -/
structure MapOk (ys : List Region) : Prop where
  uniq : ∀ (i j : Nat) (x y : Region), ys[i]? = some x → ys[j]? = some y → x.id = y.id → i = j
  near : ∀ x ∈ ys, ∀ nm ∈ x.near, ∃ y ∈ ys, y.id = nm
theorem MapOk.find {ys : List Region} (h : MapOk ys) {nm : ByteArray} {x : Region} (hx : x ∈ ys) (hn : nm ∈ x.near) : ∃ (j : Nat) (y : Region), ys[j]? = some y ∧ y.id = nm ∧ findR ys nm = (j : Int) := by
  rcases link_cases ys nm nm with ⟨h1, _⟩ | ⟨j, y, hy, h2, h3, _⟩
  · obtain ⟨y, hy, hyn⟩ := h.near x hx nm hn
    have h2 := (findI_neg (p := fun r : Region => decide (r.id = nm)) (xs := ys)).1 (by have h4 : findR ys nm = -1 := h1; show findR ys nm < 0; omega)
    obtain ⟨i, hi, rfl⟩ := List.getElem_of_mem hy
    have h3 := h2 i _ (List.getElem?_eq_getElem hi)
    rw [hyn] at h3
    simp at h3
  · exact ⟨j, y, hy, h2, h3⟩
theorem regionsB_len {xs : List Region} (h : regionsB xs = true) : xs.length ≤ 8 := (validL_spec.1 h).1
theorem regionsB_map {xs : List Region} (h : regionsB xs = true) : MapOk xs := by
  have hg := (validL_spec.1 h).2
  constructor
  · intro i j x y hx hy e
    rcases Nat.lt_trichotomy i j with h1 | h1 | h1
    · exact absurd e (rise_ne (hg (j + 1)) h1 (by omega) hx hy)
    · exact h1
    · exact absurd e.symm (rise_ne (hg (i + 1)) h1 (by omega) hy hx)
  · intro x hx nm hn
    obtain ⟨i, hi, rfl⟩ := List.getElem_of_mem hx
    have h1 := validL_good h (List.getElem?_eq_getElem hi)
    rw [oneR, Bool.and_eq_true] at h1
    obtain ⟨t, ht, rfl⟩ := List.getElem_of_mem hn
    have h2 := validL_good h1.2 (List.getElem?_eq_getElem ht)
    rw [nearB, Bool.and_eq_true] at h2
    rcases link_cases xs (xs[i].near[t]) xs[i].id with ⟨_, h4⟩ | ⟨j, y, hy, h4, _, _⟩
    · rw [h4] at h2; cases h2.2
    · exact ⟨y, List.mem_of_getElem? hy, h4⟩
theorem regionsB_level {xs : List Region} (h : regionsB xs = true) {x : Region} (hx : x ∈ xs) : 1 ≤ x.level ∧ x.level ≤ 5 := by
  obtain ⟨i, hi, rfl⟩ := List.getElem_of_mem hx
  have h1 := validL_good h (List.getElem?_eq_getElem hi)
  rw [oneR, Bool.and_eq_true, Bool.and_eq_true, inB_iff] at h1
  exact h1.1.2

end Go.Proofs.Ytpibiieibofggaa
