/- What the fastest and the safest way promise (plain law of FnTours, third part). -/
import Derived.Test.YtamgodeiakflbaaDoorTourR
namespace Go.Proofs.YtamgodeiakflbaaDoor
open Go.RowKit

theorem ex_of_list {xs : List Leg} : ∀ (r : List Nat) (a : Nat), (exM xs a r = minutesF xs ((a : Int) :: r.map Int.ofNat)) ∧ (exE xs a r = exposeF xs ((a : Int) :: r.map Int.ofNat)) ∧ (exL a r = lastI ((a : Int) :: r.map Int.ofNat)) ∧ (exW xs a r ↔ Walk xs ((a : Int) :: r.map Int.ofNat))
  | [], a => ⟨rfl, rfl, rfl, ⟨fun _ p hp => (by cases hp), fun _ => trivial⟩⟩
  | b :: r, a => by
    obtain ⟨h1, h2, h3, h4⟩ := ex_of_list (xs := xs) r b
    refine ⟨?_, ?_, ?_, ?_⟩
    · rw [exM, h1, List.map_cons]; exact (min_cons xs a b _).symm
    · rw [exE, h2, List.map_cons]
      unfold exposeF
      show _ = sumBy _ (pairs ((a : Int) :: (b : Int) :: r.map Int.ofNat))
      rw [pairs_cons2, sum_cons]
    · rw [exL, h3, List.map_cons]; exact (lastI_cons2 a b _).symm
    · rw [exW, h4, List.map_cons]; exact walk_cons.symm
theorem nats_of {n : Nat} : ∀ (L : List Int), (∀ z, z ∈ L → ∃ p : Nat, z = p ∧ p < n) → ∃ r : List Nat, L = r.map Int.ofNat ∧ ∀ p, p ∈ r → p < n
  | [], _ => ⟨[], rfl, fun _ h => (by cases h)⟩
  | z :: L, h => by
    obtain ⟨p, rfl, hp⟩ := h z (List.mem_cons_self ..)
    obtain ⟨r, rfl, hr⟩ := nats_of L (fun y hy => h y (List.mem_cons_of_mem _ hy))
    exact ⟨p :: r, rfl, fun q hq => by
      rcases List.mem_cons.1 hq with rfl | hq
      · exact hp
      · exact hr q hq⟩
/-- A simple way from s to g. -/
structure SimpleWay (xs : List Leg) (n s g : Nat) (L : List Int) : Prop where
  head : ∃ r, L = (s : Int) :: r
  last : lastI L = (g : Int)
  walk : Walk xs L
  in_ : ∀ z, z ∈ L → ∃ p : Nat, z = p ∧ p < n
  nodup : L.Nodup
section
variable {pts : Int} {xs : List Leg} {n s g : Nat} {limit budget : Int}
/-- The search's end, where the budget is enough. -/
theorem safe0_bud (hn6 : n ≤ 6) (hb : 2000 ≤ budget) : 0 ≤ (safe0 xs n s g limit budget).bud := by
  have h1 := goS_budget (xs := xs) (n := n) (g := g) (n + 1) [(s : Int)] limit 0 ⟨budget, [], -1⟩ 6 (Nat.le_trans (unseen_le n _) hn6) (by rw [cost_six]; show (1957 : Int) ≤ budget; omega)
  rw [cost_six] at h1
  have h2 : budget - 1957 ≤ (safe0 xs n s g limit budget).bud := h1
  omega
theorem safe0_found (hs : s < n) (hl : 0 ≤ limit) : (safe0 xs n s g limit budget).least < 0 ∨ ∃ left, Pre xs n s limit (safe0 xs n s g limit budget).best left (safe0 xs n s g limit budget).least ∧ lastI (safe0 xs n s g limit budget).best = (g : Int) :=
  goS_found (n + 1) [(s : Int)] limit 0 ⟨budget, [], -1⟩ ⟨⟨[], rfl⟩, fun _ h => (by cases h), by rw [min_one]; omega, hl, rfl, fun z hz => ⟨s, List.mem_singleton.1 hz, hs⟩, by simp⟩ (.inl (by show (-1 : Int) < 0; decide))
theorem unseen_ext {n : Nat} : ∀ (r : List Nat) (l : List Int), (∀ p, p ∈ r → p < n ∧ (p : Int) ∉ l) → r.Nodup → unseen n (l ++ r.map Int.ofNat) + r.length ≤ unseen n l
  | [], l, _, _ => by simp
  | p :: r, l, h, hnd => by
    have hp := h p (List.mem_cons_self ..)
    have hf : hasB l (p : Int) = false := by
      cases e : hasB l (p : Int)
      · rfl
      · exact absurd (hasB_iff.1 e) hp.2
    have h1 := unseen_lt (n := n) hp.1 hf
    have ih := unseen_ext r (l ++ [(p : Int)]) (fun q hq => ⟨(h q (List.mem_cons_of_mem _ hq)).1, fun hm => by
      rcases List.mem_append.1 hm with hm | hm
      · exact (h q (List.mem_cons_of_mem _ hq)).2 hm
      · have h4 := List.mem_singleton.1 hm
        have h5 : q = p := by omega
        rw [h5] at hq
        exact (List.nodup_cons.1 hnd).1 hq⟩) (List.nodup_cons.1 hnd).2
    rw [List.append_assoc] at ih
    rw [List.length_cons]
    have e : l ++ (p :: r).map Int.ofNat = l ++ ([(p : Int)] ++ r.map Int.ofNat) := rfl
    rw [e]
    omega
theorem nodup_len {n : Nat} {r : List Nat} (h : r.Nodup) (hr : ∀ p, p ∈ r → p < n) : r.length ≤ n := by
  have h1 := unseen_ext (n := n) r [] (fun p hp => ⟨hr p hp, by simp⟩) h
  have h2 := unseen_le n []
  omega
theorem safe0_all (hv : legsOk pts xs = true) (hb0 : 0 ≤ (safe0 xs n s g limit budget).bud) {L : List Int} (h : SimpleWay xs n s g L) (hm : minutesF xs L ≤ limit) : Cov (safe0 xs n s g limit budget) (exposeF xs L) := by
  obtain ⟨r0, hr0⟩ := h.head
  have hin := h.in_
  have hnd := h.nodup
  have hlast := h.last
  have hwalk := h.walk
  rw [hr0] at hin hnd hlast hwalk hm ⊢
  obtain ⟨r, rfl, hr⟩ := nats_of r0 (fun z hz => hin z (List.mem_cons_of_mem _ hz))
  obtain ⟨e1, e2, e3, e4⟩ := ex_of_list (xs := xs) r s
  have hnd2 := List.nodup_cons.1 hnd
  have hndr : r.Nodup := by
    have := hnd2.2
    exact List.Pairwise.of_map Int.ofNat (fun a b h e => h (by rw [e])) this
  have hlen := nodup_len hndr hr
  have := goS_all (xs := xs) (n := n) (g := (g : Int)) hv r (n + 1) [(s : Int)] limit 0 ⟨budget, [], -1⟩ (by simp) (by omega) (Int.le_refl _) (e4.2 hwalk) (by show exL (s : Int) r = _; rw [e3]; exact hlast) (by show exM xs (s : Int) r ≤ limit; rw [e1]; exact hm) (fun p hp => ⟨hr p hp, fun hps => hnd2.1 (by rw [← List.mem_singleton.1 hps]; exact List.mem_map_of_mem hp)⟩) hndr hb0
  rw [show (0 : Int) + exE xs (lastI [(s : Int)]) r = exposeF xs ((s : Int) :: r.map Int.ofNat) by rw [← e2]; show (0 : Int) + exE xs (s : Int) r = _; omega] at this
  exact this
end

end Go.Proofs.YtamgodeiakflbaaDoor
