/- A region's names in a list of one's own are replaced. -/
import Derived.Test.YtpibiieibofggaaStepA
import Derived.Test.YtpibiieibofggaaSetL
namespace Go.Proofs.Ytpibiieibofggaa
open Go.RowKit

theorem pair_at {R : RegionR → RegionR → Prop} {ps : List RegionR} (h : ps.Pairwise R) {j k : Nat} {x y : RegionR} (hjk : j < k) (hx : ps[j]? = some x) (hy : ps[k]? = some y) : R x y := by
  obtain ⟨hj, rfl⟩ := List.getElem?_eq_some_iff.1 hx
  obtain ⟨hk, rfl⟩ := List.getElem?_eq_some_iff.1 hy
  exact List.pairwise_iff_getElem.1 h j k hj hk hjk
theorem apart_at {v : Value} {ps : List RegionR} (h : RegionR.Apart v ps) {j k : Nat} {x y : RegionR} (hjk : j ≠ k) (hx : ps[j]? = some x) (hy : ps[k]? = some y) {b : Nat} (hb : x.own = some b) : y.own ≠ some b := by
  rcases Nat.lt_or_gt_of_ne hjk with h1 | h1
  · exact pair_at h.2 h1 hx hy b hb
  · exact fun e => pair_at h.2 h1 hy hx b e hb
theorem set_at {α : Type} {l : List α} {i : Nat} {q : α} {j : Nat} {r : α} (h : (l.set i q)[j]? = some r) : (j = i ∧ r = q) ∨ (j ≠ i ∧ l[j]? = some r) := by
  rw [List.getElem?_set] at h
  by_cases e : i = j
  · rw [if_pos e] at h
    split at h
    · injection h with h; exact .inl ⟨e.symm, h.symm⟩
    · cases h
  · rw [if_neg e] at h
    exact .inr ⟨fun e2 => e e2.symm, h⟩
theorem Region.Own.setNear {w w3 : World} {base g n cap i m d : Nat} {B : Option Addr} {ps : List RegionR} {p : RegionR} {nr : List ByteArray}
    (h1 : OwnsL w base 34 3 RegionR.cells (.slice (some ⟨g, 0, none⟩) n cap) ps) (h2 : ∀ p ∈ ps, OwnsL w base 9 1 strcells (.slice p.nearA p.nearN p.nearC) p.near) (h3 : RegionR.Apart (.slice (some ⟨g, 0, none⟩) n cap) ps) (hp : ps[i]? = some p)
    (hkp : ∀ b, b < w.heap.size → some b ≠ p.own → w3.heap[b]? = w.heap[b]?) (hnew : OwnsL w3 base 9 1 strcells (.slice B m d) nr) (hob : ∀ b, (Value.slice B m d).ownBlock = some b → p.own = some b ∨ w.heap.size ≤ b) :
    Region.Own (w3.setCell ⟨g, i * 3 + 2, none⟩ (.slice B m d)) base (.slice (some ⟨g, 0, none⟩) n cap) ((ps.map RegionR.val).set i ⟨p.id, p.level, nr⟩) := by
  have hpm := List.mem_of_getElem? hp
  have hgp : ∀ b, p.own = some b → b ≠ g := fun b hb e => h3.1 p hpm b hb (by rw [e]; rfl)
  have hg := (h1.lt g rfl).2
  have h1' : OwnsL w3 base 34 3 RegionR.cells (.slice (some ⟨g, 0, none⟩) n cap) ps := h1.kept (fun k hk => by
    have e : g = k := by simpa [Value.ownBlock] using hk
    subst e
    exact hkp g hg (fun e => hgp g e.symm rfl))
  obtain ⟨hi, hpe⟩ := List.getElem?_eq_some_iff.1 hp
  have hsplit : ps = ps.take i ++ p :: ps.drop (i + 1) := by
    conv => lhs; rw [← List.take_append_drop i ps, List.drop_eq_getElem_cons hi, hpe]
  have hset : ps.set i (⟨p.id, p.level, B, m, d, nr⟩ : RegionR) = ps.take i ++ (⟨p.id, p.level, B, m, d, nr⟩ : RegionR) :: ps.drop (i + 1) := by
    rw [List.set_eq_take_append_cons_drop, if_pos hi]
  have hlen : (ps.take i).length = i := by rw [List.length_take]; omega
  have h4 := h1'
  rw [hsplit] at h4
  have h5 := OwnsL.near (B := B) (m := m) (d := d) h4 nr
  rw [hlen, ← hset] at h5
  have hng : ∀ b, (Value.slice B m d).ownBlock = some b → b ≠ g := fun b hb => by
    rcases hob b hb with e | e
    · exact hgp b e
    · omega
  have hkept : ∀ {b : Nat}, b < w.heap.size → some b ≠ p.own → b ≠ g → (w3.setCell ⟨g, i * 3 + 2, none⟩ (.slice B m d)).heap[b]? = w.heap[b]? := fun {b} hb hbp hbg => (Below.heap_setCell w3 ⟨g, i * 3 + 2, none⟩ _ b hbg).trans (hkp b hb hbp)
  refine ⟨ps.set i ⟨p.id, p.level, B, m, d, nr⟩, h5, fun q hq => ?_, ⟨fun q hq b hb e => ?_, ?_⟩, by rw [List.map_set]; rfl⟩
  · obtain ⟨j, hj⟩ := List.getElem?_of_mem hq
    rcases set_at hj with ⟨_, rfl⟩ | ⟨hne, hj⟩
    · exact hnew.kept (fun b hb => Below.heap_setCell w3 ⟨g, i * 3 + 2, none⟩ _ b (hng b hb))
    · have hqm := List.mem_of_getElem? hj
      exact (h2 q hqm).kept (fun b hb => hkept ((h2 q hqm).lt b hb).2 (fun e => apart_at h3 hne hj hp hb e.symm) (fun e => h3.1 q hqm b hb (by rw [e]; rfl)))
  · have e1 : g = b := by simpa [Value.ownBlock] using e
    obtain ⟨j, hj⟩ := List.getElem?_of_mem hq
    rcases set_at hj with ⟨_, rfl⟩ | ⟨hne, hj⟩
    · exact hng b hb e1.symm
    · exact h3.1 q (List.mem_of_getElem? hj) b hb e
  · rw [List.pairwise_iff_getElem]
    intro j k hj hk hjk b hb e
    have hjx := List.getElem?_eq_getElem hj
    have hkx := List.getElem?_eq_getElem hk
    rcases set_at hjx with ⟨ej, hj1⟩ | ⟨hjn, hj1⟩
    · rcases set_at hkx with ⟨ek, hk1⟩ | ⟨hkn, hk1⟩
      · omega
      · rw [hj1] at hb
        rcases hob b hb with e2 | e2
        · exact apart_at h3 (by omega) hp hk1 e2 e
        · have := ((h2 _ (List.mem_of_getElem? hk1)).lt b e).2; omega
    · rcases set_at hkx with ⟨ek, hk1⟩ | ⟨hkn, hk1⟩
      · rw [hk1] at e
        rcases hob b e with e2 | e2
        · exact apart_at h3 (by omega) hj1 hp hb e2
        · have := ((h2 _ (List.mem_of_getElem? hj1)).lt b hb).2; omega
      · exact apart_at h3 (by omega) hj1 hk1 hb e

end Go.Proofs.Ytpibiieibofggaa
