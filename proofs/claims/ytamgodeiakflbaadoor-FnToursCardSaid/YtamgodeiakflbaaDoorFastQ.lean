/- Least times to a goal, in plain Lean: edges relaxed in turn reach what no edge betters, in as many sweeps as there are points. -/
import Derived.Test.YtamgodeiakflbaaDoorBase
namespace Go.Proofs.YtamgodeiakflbaaDoor
open Go.RowKit

def val (f : List Int) (p : Nat) : Int := f.getD p (-1)
/-- Does the edge better what is known of its end? -/
def eff (f : List Int) (e : Nat × Nat × Int) : Bool := decide (0 ≤ val f e.1) && (decide (val f e.2.1 < 0) || decide (val f e.1 + e.2.2 < val f e.2.1))
def relax (f : List Int) (e : Nat × Nat × Int) : List Int := if eff f e = true then f.set e.2.1 (val f e.1 + e.2.2) else f
def sweep (es : List (Nat × Nat × Int)) (f : List Int) : List Int := es.foldl relax f
def far0 (n g : Nat) : List Int := (List.replicate n (-1)).set g 0
def farN (es : List (Nat × Nat × Int)) (n g : Nat) : Nat → List Int
  | 0 => far0 n g
  | k + 1 => sweep es (farN es n g k)
def EdgesOk (n : Nat) (es : List (Nat × Nat × Int)) : Prop := ∀ e ∈ es, e.1 < n ∧ e.2.1 < n ∧ 1 ≤ e.2.2
/-- What is known by f is no worse than by g. -/
def Leq (f g : List Int) : Prop := ∀ p, 0 ≤ val g p → 0 ≤ val f p ∧ val f p ≤ val g p
theorem Leq.refl (f : List Int) : Leq f f := fun _ h => ⟨h, Int.le_refl _⟩
theorem Leq.trans {f g h : List Int} (a : Leq f g) (b : Leq g h) : Leq f h := fun p hp => by
  have h1 := b p hp
  have h2 := a p h1.1
  omega
theorem eff_iff {f : List Int} {e : Nat × Nat × Int} : eff f e = true ↔ 0 ≤ val f e.1 ∧ (val f e.2.1 < 0 ∨ val f e.1 + e.2.2 < val f e.2.1) := by simp [eff]
theorem val_set {f : List Int} {b : Nat} (hb : b < f.length) (x : Int) (p : Nat) : val (f.set b x) p = if p = b then x else val f p := by
  unfold val
  rw [List.getD_eq_getElem?_getD, List.getElem?_set, List.getD_eq_getElem?_getD]
  by_cases h : p = b
  · subst h; simp [hb]
  · have : ¬ b = p := fun e => h e.symm
    simp [h, this]
theorem relax_len (f : List Int) (e : Nat × Nat × Int) : (relax f e).length = f.length := by unfold relax; split <;> simp
theorem sweep_len (es : List (Nat × Nat × Int)) : ∀ f : List Int, (es.foldl relax f).length = f.length := by
  induction es with
  | nil => intro f; rfl
  | cons e es ih => intro f; rw [List.foldl_cons, ih, relax_len]
theorem relax_val {f : List Int} {e : Nat × Nat × Int} (hb : e.2.1 < f.length) (p : Nat) : val (relax f e) p = if eff f e = true ∧ p = e.2.1 then val f e.1 + e.2.2 else val f p := by
  unfold relax
  by_cases h : eff f e = true
  · rw [if_pos h, val_set hb]
    by_cases hp : p = e.2.1 <;> simp [h, hp]
  · rw [if_neg h]; simp [h]
theorem relax_le {f : List Int} {e : Nat × Nat × Int} (hb : e.2.1 < f.length) (hm : 1 ≤ e.2.2) : Leq (relax f e) f := fun p hp => by
  rw [relax_val hb]
  split
  · rename_i h
    have := eff_iff.1 h.1
    rw [h.2] at hp ⊢
    omega
  · exact ⟨hp, Int.le_refl _⟩
theorem sweep_le {n : Nat} : ∀ (es : List (Nat × Nat × Int)) (f : List Int), EdgesOk n es → f.length = n → Leq (es.foldl relax f) f
  | [], f, _, _ => Leq.refl f
  | e :: es, f, h, hn => by
    have he := h e (by simp)
    rw [List.foldl_cons]
    exact (sweep_le es (relax f e) (fun x hx => h x (by simp [hx])) (by rw [relax_len, hn])).trans (relax_le (by omega) he.2.2)
theorem noeff {f : List Int} {e : Nat × Nat × Int} (hb : e.2.1 < f.length) (hm : 1 ≤ e.2.2) (h : Leq f (relax f e)) : eff f e = false := by
  cases he : eff f e with
  | false => rfl
  | true =>
    have h1 := eff_iff.1 he
    have h2 := h e.2.1
    rw [relax_val hb, if_pos ⟨he, rfl⟩] at h2
    have := h2 (by omega)
    omega
theorem relax_no {f : List Int} {e : Nat × Nat × Int} (h : eff f e = false) : relax f e = f := by unfold relax; rw [h]; rfl
theorem sweep_fix {n : Nat} : ∀ (es : List (Nat × Nat × Int)) (f : List Int), EdgesOk n es → f.length = n → Leq f (es.foldl relax f) → (∀ e ∈ es, eff f e = false) ∧ es.foldl relax f = f
  | [], f, _, _, _ => ⟨by simp, rfl⟩
  | e :: es, f, h, hn, hl => by
    have he := h e (by simp)
    have hes : EdgesOk n es := fun x hx => h x (by simp [hx])
    rw [List.foldl_cons] at hl
    have h1 : eff f e = false := noeff (by omega) he.2.2 (hl.trans (sweep_le es _ hes (by rw [relax_len, hn])))
    rw [relax_no h1] at hl
    have h2 := sweep_fix es f hes hn hl
    refine ⟨fun x hx => ?_, by rw [List.foldl_cons, relax_no h1]; exact h2.2⟩
    rcases List.mem_cons.1 hx with rfl | hx
    · exact h1
    · exact h2.1 x hx
theorem sweep_noeff : ∀ (es : List (Nat × Nat × Int)) (f : List Int), (∀ e ∈ es, eff f e = false) → es.foldl relax f = f
  | [], _, _ => rfl
  | e :: es, f, h => by rw [List.foldl_cons, relax_no (h e (by simp))]; exact sweep_noeff es f (fun x hx => h x (by simp [hx]))
/-- No edge betters F. -/
def Closed (F : List Int) (es : List (Nat × Nat × Int)) : Prop := ∀ e ∈ es, 0 ≤ val F e.1 → 0 ≤ val F e.2.1 ∧ val F e.2.1 ≤ val F e.1 + e.2.2
theorem closed_of {F : List Int} {es : List (Nat × Nat × Int)} (h : ∀ e ∈ es, eff F e = false) : Closed F es := fun e he h0 => by
  have h1 := h e he
  rw [← Bool.not_eq_true, eff_iff] at h1
  omega
theorem relax_above {F f : List Int} {e : Nat × Nat × Int} (hb : e.2.1 < f.length) (hc : 0 ≤ val F e.1 → 0 ≤ val F e.2.1 ∧ val F e.2.1 ≤ val F e.1 + e.2.2) (h : Leq F f) : Leq F (relax f e) := fun p hp => by
  rw [relax_val hb] at hp ⊢
  split at hp
  · rename_i h1
    rw [if_pos h1, h1.2]
    have h2 := eff_iff.1 h1.1
    have h3 := h e.1 h2.1
    have h4 := hc h3.1
    omega
  · rename_i h1
    rw [if_neg h1]
    exact h p hp
theorem sweep_above {n : Nat} {F : List Int} : ∀ (es : List (Nat × Nat × Int)) (f : List Int), EdgesOk n es → f.length = n → Closed F es → Leq F f → Leq F (es.foldl relax f)
  | [], _, _, _, _, h => h
  | e :: es, f, ho, hn, hc, h => by
    rw [List.foldl_cons]
    exact sweep_above es _ (fun x hx => ho x (by simp [hx])) (by rw [relax_len, hn]) (fun x hx => hc x (by simp [hx])) (relax_above (by have := (ho e (by simp)).2.1; omega) (hc e (by simp)) h)
/-- What is known of a point but the goal comes over an edge. -/
structure Tight (g : Nat) (ES : List (Nat × Nat × Int)) (f : List Int) : Prop where
  goal : val f g = 0
  two : ∀ p, 0 ≤ val f p ∨ val f p = -1
  pred : ∀ p, 0 ≤ val f p → p ≠ g → ∃ e ∈ ES, e.2.1 = p ∧ 0 ≤ val f e.1 ∧ val f e.1 + e.2.2 ≤ val f p
theorem Tight.relax {g : Nat} {ES : List (Nat × Nat × Int)} {f : List Int} {e : Nat × Nat × Int} (h : Tight g ES f) (he : e ∈ ES) (hb : e.2.1 < f.length) (hm : 1 ≤ e.2.2) : Tight g ES (relax f e) := by
  have hle := relax_le hb hm
  by_cases hf : eff f e = true
  · have h1 := eff_iff.1 hf
    have hgb : e.2.1 ≠ g := fun h2 => by rw [h2, h.goal] at h1; omega
    have hab : e.1 ≠ e.2.1 := fun h2 => by rw [h2] at h1; omega
    refine ⟨?_, fun p => ?_, fun p hp hg => ?_⟩
    · rw [relax_val hb, if_neg (fun h2 => hgb h2.2.symm)]; exact h.goal
    · rw [relax_val hb]
      split
      · omega
      · exact h.two p
    · by_cases hpb : p = e.2.1
      · refine ⟨e, he, hpb.symm, ?_, ?_⟩
        · rw [relax_val hb, if_neg (fun h2 => hab h2.2)]; exact h1.1
        · rw [relax_val hb, if_neg (fun h2 => hab h2.2), relax_val hb, if_pos ⟨hf, hpb⟩]; omega
      · rw [relax_val hb, if_neg (fun h2 => hpb h2.2)] at hp ⊢
        obtain ⟨d, hd, hdp, hd0, hd1⟩ := h.pred p hp hg
        have := hle d.1 hd0
        exact ⟨d, hd, hdp, this.1, by omega⟩
  · rw [relax_no (by simpa using hf)]; exact h
theorem Tight.sweep {n g : Nat} {ES : List (Nat × Nat × Int)} : ∀ (es : List (Nat × Nat × Int)) (f : List Int), (∀ e ∈ es, e ∈ ES) → EdgesOk n es → f.length = n → Tight g ES f → Tight g ES (es.foldl Go.Proofs.YtamgodeiakflbaaDoor.relax f)
  | [], _, _, _, _, h => h
  | e :: es, f, hs, ho, hn, h => by
    rw [List.foldl_cons]
    exact Tight.sweep es _ (fun x hx => hs x (by simp [hx])) (fun x hx => ho x (by simp [hx])) (by rw [relax_len, hn]) (h.relax (hs e (by simp)) (by have := (ho e (by simp)).2.1; omega) (ho e (by simp)).2.2)
section
variable {n g : Nat} {es : List (Nat × Nat × Int)}
theorem far0_len : (far0 n g).length = n := by simp [far0]
theorem far0_val (hg : g < n) (p : Nat) : val (far0 n g) p = if p = g then 0 else -1 := by
  unfold far0
  rw [val_set (by simpa using hg)]
  split
  · rfl
  · unfold val
    rw [List.getD_eq_getElem?_getD, List.getElem?_replicate]
    split <;> rfl
theorem farN_len (k : Nat) : (farN es n g k).length = n := by
  induction k with
  | zero => exact far0_len
  | succ k ih => unfold farN sweep; rw [sweep_len, ih]
theorem farN_tight (hg : g < n) (ho : EdgesOk n es) (k : Nat) : Tight g es (farN es n g k) := by
  induction k with
  | zero =>
    refine ⟨?_, fun p => ?_, fun p hp hpg => ?_⟩
    · unfold farN; rw [far0_val hg, if_pos rfl]
    · unfold farN; rw [far0_val hg]; split <;> omega
    · unfold farN at hp; rw [far0_val hg, if_neg hpg] at hp; omega
  | succ k ih => exact Tight.sweep es _ (fun _ h => h) ho (farN_len k) ih
theorem farN_step (ho : EdgesOk n es) (k : Nat) : Leq (farN es n g (k + 1)) (farN es n g k) := sweep_le es _ ho (farN_len k)
theorem farN_mono (ho : EdgesOk n es) (k : Nat) : ∀ d, Leq (farN es n g (k + d)) (farN es n g k)
  | 0 => Leq.refl _
  | d + 1 => (farN_step ho (k + d)).trans (farN_mono ho k d)
/-- A sequence that only falls, from -1 or above, comes to rest. -/
theorem rest_one (s : Nat → Int) (h2 : ∀ k, 0 ≤ s k ∨ s k = -1) (hd : ∀ k, 0 ≤ s k → 0 ≤ s (k + 1) ∧ s (k + 1) ≤ s k) : ∃ K, ∀ k, K ≤ k → s k = s K := by
  have mono : ∀ k d, 0 ≤ s k → 0 ≤ s (k + d) ∧ s (k + d) ≤ s k := fun k d h => by
    induction d with
    | zero => exact ⟨h, Int.le_refl _⟩
    | succ d ih => have := hd (k + d) ih.1; rw [show k + (d + 1) = k + d + 1 by omega]; omega
  have key : ∀ (m : Nat) (k0 : Nat), 0 ≤ s k0 → (s k0).toNat = m → ∃ K, ∀ k, K ≤ k → s k = s K := by
    intro m
    induction m using Nat.strongRecOn with
    | _ m ih =>
      intro k0 h0 hm
      by_cases hall : ∀ k, k0 ≤ k → s k = s k0
      · exact ⟨k0, hall⟩
      · rw [Classical.not_forall] at hall
        obtain ⟨k, hk⟩ := hall
        rw [Classical.not_imp] at hk
        have h1 := mono k0 (k - k0) h0
        rw [show k0 + (k - k0) = k by omega] at h1
        exact ih (s k).toNat (by omega) k h1.1 rfl
  by_cases hall : ∀ k, s k = -1
  · exact ⟨0, fun k _ => by rw [hall, hall]⟩
  · rw [Classical.not_forall] at hall
    obtain ⟨k, hk⟩ := hall
    exact key _ k (by have := h2 k; omega) rfl
theorem rest_all (s : Nat → Nat → Int) (h2 : ∀ p k, 0 ≤ s p k ∨ s p k = -1) (hd : ∀ p k, 0 ≤ s p k → 0 ≤ s p (k + 1) ∧ s p (k + 1) ≤ s p k) : ∀ n, ∃ K, ∀ p, p < n → ∀ k, K ≤ k → s p k = s p K
  | 0 => ⟨0, fun _ h => absurd h (by omega)⟩
  | n + 1 => by
    obtain ⟨K, hK⟩ := rest_all s h2 hd n
    obtain ⟨L, hL⟩ := rest_one (s n) (h2 n) (hd n)
    refine ⟨max K L, fun p hp k hk => ?_⟩
    by_cases e : p = n
    · subst e
      rw [hL k (by omega), hL (max K L) (by omega)]
    · rw [hK p (by omega) k (by omega), hK p (by omega) (max K L) (by omega)]
theorem val_out {f : List Int} {p : Nat} (h : f.length ≤ p) : val f p = -1 := by
  unfold val; rw [List.getD_eq_getElem?_getD, List.getElem?_eq_none h]; rfl
theorem ext_val {f h : List Int} (hl : f.length = h.length) (hv : ∀ p, p < f.length → val f p = val h p) : f = h := by
  apply List.ext_getElem hl
  intro i h1 h2
  have := hv i h1
  unfold val at this
  rw [List.getD_eq_getElem?_getD, List.getD_eq_getElem?_getD, List.getElem?_eq_getElem h1, List.getElem?_eq_getElem h2] at this
  simpa using this
theorem far_rest (hg : g < n) (ho : EdgesOk n es) : ∃ K, farN es n g (K + 1) = farN es n g K ∧ ∀ k, Leq (farN es n g K) (farN es n g k) := by
  obtain ⟨K, hK⟩ := rest_all (fun p k => val (farN es n g k) p) (fun p k => (farN_tight hg ho k).two p) (fun p k h => farN_step ho k p h) n
  refine ⟨K, ext_val (by rw [farN_len, farN_len]) (fun p hp => hK p (by rwa [farN_len] at hp) (K + 1) (by omega)), fun k => ?_⟩
  rcases Nat.le_total k K with h | h
  · have := farN_mono (g := g) ho k (K - k)
    rwa [show k + (K - k) = K by omega] at this
  · have : farN es n g k = farN es n g K := ext_val (by rw [farN_len, farN_len]) (fun p hp => hK p (by rwa [farN_len] at hp) k h)
    rw [this]; exact Leq.refl _
/-- How many points lie nearer. -/
def rankOf (n : Nat) (F : List Int) (p : Nat) : Nat := ((List.range n).filter fun q => decide (0 ≤ val F q) && decide (val F q < val F p)).length
theorem filter_lt {α : Type} {P Q : α → Bool} : ∀ (l : List α), (∀ x ∈ l, P x = true → Q x = true) → ∀ y ∈ l, Q y = true → P y = false → (l.filter P).length < (l.filter Q).length
  | [], _, y, hy, _, _ => absurd hy (by simp)
  | x :: l, h, y, hy, hQ, hP => by
    have hle : ∀ l' : List α, (∀ x ∈ l', P x = true → Q x = true) → (l'.filter P).length ≤ (l'.filter Q).length := fun l' => by
      induction l' with
      | nil => intro _; simp
      | cons z l' ih =>
        intro hz
        have := ih (fun x hx => hz x (by simp [hx]))
        rw [List.filter_cons, List.filter_cons]
        cases h1 : P z with
        | true => rw [hz z (by simp) h1]; simpa using this
        | false => cases Q z <;> simp <;> omega
    rw [List.filter_cons, List.filter_cons]
    rcases List.mem_cons.1 hy with rfl | hy
    · rw [hQ, hP]
      have := hle l (fun x hx => h x (by simp [hx]))
      simp; omega
    · have ih := filter_lt l (fun x hx => h x (by simp [hx])) y hy hQ hP
      cases h1 : P x with
      | true => rw [h x (by simp) h1]; simpa using ih
      | false => cases Q x <;> simp <;> omega
theorem rank_lt {F : List Int} {p q : Nat} (hq : q < n) (h0 : 0 ≤ val F q) (h : val F q < val F p) : rankOf n F q < rankOf n F p := by
  unfold rankOf
  refine filter_lt _ (fun x _ hx => ?_) q (List.mem_range.2 hq) (by simp [h0, h]) (by simp)
  simp only [Bool.and_eq_true, decide_eq_true_eq] at hx ⊢
  omega
theorem rank_lt_n {F : List Int} {p : Nat} (hp : p < n) : rankOf n F p < n := by
  unfold rankOf
  have := filter_lt (P := fun q => decide (0 ≤ val F q) && decide (val F q < val F p)) (Q := fun _ => true) (List.range n) (fun _ _ _ => rfl) p (List.mem_range.2 hp) rfl (by simp)
  rw [List.filter_eq_self.2 (fun _ _ => rfl), List.length_range] at this
  exact this
theorem foldl_mid {n : Nat} {F : List Int} {e : Nat × Nat × Int} : ∀ (l : List (Nat × Nat × Int)) (f : List Int), EdgesOk n l → f.length = n → Closed F l → Leq F f → e ∈ l → val f e.1 = val F e.1 → 0 ≤ val F e.1 → 0 ≤ val (l.foldl Go.Proofs.YtamgodeiakflbaaDoor.relax f) e.2.1 ∧ val (l.foldl Go.Proofs.YtamgodeiakflbaaDoor.relax f) e.2.1 ≤ val F e.1 + e.2.2
  | [], _, _, _, _, _, h, _, _ => absurd h (by simp)
  | d :: l, f, ho, hn, hc, hl, he, hv, h0 => by
    have hd := ho d (by simp)
    have hl' := relax_above (F := F) (by omega : d.2.1 < f.length) (hc d (by simp)) hl
    have hle := relax_le (f := f) (by omega : d.2.1 < f.length) hd.2.2
    have hol : EdgesOk n l := fun x hx => ho x (by simp [hx])
    have hnl : (Go.Proofs.YtamgodeiakflbaaDoor.relax f d).length = n := by rw [relax_len, hn]
    rw [List.foldl_cons]
    rcases List.mem_cons.1 he with rfl | he
    · have h1 : 0 ≤ val (Go.Proofs.YtamgodeiakflbaaDoor.relax f e) e.2.1 ∧ val (Go.Proofs.YtamgodeiakflbaaDoor.relax f e) e.2.1 ≤ val F e.1 + e.2.2 := by
        rw [relax_val (by omega)]
        by_cases hf : eff f e = true
        · rw [if_pos ⟨hf, rfl⟩, hv]; omega
        · rw [if_neg (fun h => hf h.1)]
          rw [eff_iff] at hf
          omega
      have h2 := sweep_le l _ hol hnl e.2.1 h1.1
      omega
    · refine foldl_mid l _ hol hnl (fun x hx => hc x (by simp [hx])) hl' he ?_ h0
      have h1 := hle e.1 (by omega)
      have h2 := hl' e.1 h1.1
      omega
theorem far_rank (hg : g < n) (ho : EdgesOk n es) {F : List Int} (hF : Tight g es F) (hc : Closed F es) (hb : ∀ k, Leq F (farN es n g k)) : ∀ (r p : Nat), 0 ≤ val F p → rankOf n F p ≤ r → val (farN es n g r) p = val F p
  | r, p, h0, hr => by
    by_cases hp : p = g
    · rw [hp, (farN_tight hg ho r).goal, hF.goal]
    · obtain ⟨e, he, hep, he0, he1⟩ := hF.pred p h0 hp
      have ho' := ho e he
      have hlt := rank_lt (F := F) (p := p) ho'.1 he0 (by omega)
      match r, hr with
      | 0, hr => omega
      | r + 1, hr =>
        have ih := far_rank hg ho hF hc hb r e.1 he0 (by omega)
        have h1 := foldl_mid (F := F) es (farN es n g r) ho (farN_len r) hc (hb r) he ih he0
        rw [hep] at h1
        have h2 := hb (r + 1) p
        have h3 : val (farN es n g (r + 1)) p = val (es.foldl Go.Proofs.YtamgodeiakflbaaDoor.relax (farN es n g r)) p := rfl
        rw [h3] at h2 ⊢
        have := h2 h1.1
        omega
/-- After as many sweeps as there are points nothing is bettered any more. -/
theorem far_end (hg : g < n) (ho : EdgesOk n es) (k : Nat) (hk : n ≤ k + 1) : farN es n g k = farN es n g n ∧ (∀ e ∈ es, eff (farN es n g k) e = false) ∧ Closed (farN es n g k) es := by
  obtain ⟨K, hK, hb⟩ := far_rest (es := es) hg ho
  have hfx := sweep_fix es (farN es n g K) ho (farN_len K) (by
    have : es.foldl relax (farN es n g K) = farN es n g (K + 1) := rfl
    rw [this, hK]; exact Leq.refl _)
  have hc := closed_of hfx.1
  have key : ∀ j, n ≤ j + 1 → farN es n g j = farN es n g K := fun j hj => by
    refine ext_val (by rw [farN_len, farN_len]) (fun p hp => ?_)
    rw [farN_len] at hp
    rcases (farN_tight hg ho K).two p with h0 | h0
    · exact far_rank hg ho (farN_tight hg ho K) hc hb j p h0 (by have := rank_lt_n (F := farN es n g K) hp; omega)
    · rcases (farN_tight hg ho j).two p with h1 | h1
      · have := hb j p h1; omega
      · omega
  rw [key k hk, key n (by omega)]
  exact ⟨rfl, hfx.1, hc⟩
theorem farN_stay {k : Nat} (h : ∀ e ∈ es, eff (farN es n g k) e = false) : ∀ d, farN es n g (k + d) = farN es n g k
  | 0 => rfl
  | d + 1 => by
    have ih := farN_stay h d
    show sweep es (farN es n g (k + d)) = _
    rw [ih]
    exact sweep_noeff es _ h
end
theorem relax_bnd {f : List Int} {e : Nat × Nat × Int} {M : Int} (hb : e.2.1 < f.length) (hm : 0 ≤ e.2.2 ∧ e.2.2 ≤ 600) (h : ∀ p, val f p ≤ M) : ∀ p, val (relax f e) p ≤ M + 600 := fun p => by
  rw [relax_val hb]
  have h1 := h p
  have h2 := h e.1
  split <;> omega
theorem sweep_bnd {n : Nat} : ∀ (es : List (Nat × Nat × Int)) (f : List Int) (M : Int), EdgesOk n es → (∀ e ∈ es, e.2.2 ≤ 600) → f.length = n → (∀ p, val f p ≤ M) → ∀ p, val (es.foldl relax f) p ≤ M + 600 * es.length
  | [], f, M, _, _, _, h, p => by have := h p; simpa using this
  | e :: es, f, M, ho, hm, hn, h, p => by
    have he := ho e (by simp)
    rw [List.foldl_cons]
    have := sweep_bnd es (relax f e) (M + 600) (fun x hx => ho x (by simp [hx])) (fun x hx => hm x (by simp [hx])) (by rw [relax_len, hn]) (relax_bnd (by omega) ⟨by omega, hm e (by simp)⟩ h) p
    rw [List.length_cons]
    push_cast
    omega
theorem farN_bnd {n g : Nat} {es : List (Nat × Nat × Int)} (hg : g < n) (ho : EdgesOk n es) (hm : ∀ e ∈ es, e.2.2 ≤ 600) (hl : es.length ≤ 48) : ∀ k p, val (farN es n g k) p ≤ 28800 * k
  | 0, p => by unfold farN; rw [far0_val hg]; split <;> omega
  | k + 1, p => by
    have := sweep_bnd es (farN es n g k) (28800 * k) ho hm (farN_len k) (farN_bnd hg ho hm hl k) p
    unfold farN sweep
    omega

end Go.Proofs.YtamgodeiakflbaaDoor
