/- cloneRegions of the program. -/
import Derived.Test.YtpibiieibofggaaCloneR
import Derived.Test.YtpibiieibofggaaRaiM
namespace Go.Proofs.Ytpibiieibofggaa
open Go.RowKit

theorem near_len {xs : List Region} (h : regionsB xs = true) {x : Region} (hx : x ∈ xs) : x.near.length ≤ 8 := by
  have hg := (validL_spec.1 h).2
  obtain ⟨i, hi, rfl⟩ := List.getElem_of_mem hx
  have h1 := validL_good h (List.getElem?_eq_getElem hi)
  rw [oneR, Bool.and_eq_true] at h1
  have key : ∀ t (nm : ByteArray), xs[i].near[t]? = some nm → ∃ (j : Nat) (y : Region), xs[j]? = some y ∧ y.id = nm ∧ t ≤ j := by
    intro t
    induction t with
    | zero =>
      intro nm hn
      have h2 := validL_good h1.2 hn
      rw [nearB, Bool.and_eq_true] at h2
      rcases link_cases xs nm xs[i].id with ⟨_, h4⟩ | ⟨j, y, hy, h4, _, _⟩
      · rw [h4] at h2; cases h2.2
      · exact ⟨j, y, hy, h4, Nat.zero_le _⟩
    | succ t ih =>
      intro nm hn
      have hlt := (List.getElem?_eq_some_iff.1 hn).1
      obtain ⟨p, hp⟩ : ∃ p, xs[i].near[t]? = some p := ⟨xs[i].near[t]'(by omega), List.getElem?_eq_getElem (by omega)⟩
      obtain ⟨j, y, hy, hyp, htj⟩ := ih p hp
      have hr := validL_goodrel h1.2 hp hn
      have h2 := validL_good h1.2 hn
      rw [nearB, Bool.and_eq_true] at h2
      rcases link_cases xs nm xs[i].id with ⟨_, h4⟩ | ⟨q, z, hz, h4, _, _⟩
      · rw [h4] at h2; cases h2.2
      · refine ⟨q, z, hz, h4, ?_⟩
        apply Classical.byContradiction
        intro hc
        have hqj : q ≤ j := by omega
        rw [← hyp, ← h4] at hr
        rcases Nat.lt_or_eq_of_le hqj with h5 | h5
        · have h6 := rise_lt (hg (j + 1)) q j z y h5 (by omega) hz hy
          have h7 := lessS_trans hr h6
          rw [lessS_irrefl] at h7; cases h7
        · subst h5
          rw [hy] at hz; cases hz
          rw [lessS_irrefl] at hr; cases hr
  apply Classical.byContradiction
  intro hc
  obtain ⟨j, y, hy, _, hj⟩ := key 8 _ (List.getElem?_eq_getElem (by omega))
  have h8 := regionsB_len h
  have := (List.getElem?_eq_some_iff.1 hy).1
  omega
theorem OwnsL.near {w : World} {base g n cap m d : Nat} {B : Option Addr} {cl rest : List RegionR} {p : RegionR} (h : OwnsL w base 34 3 RegionR.cells (.slice (some ⟨g, 0, none⟩) n cap) (cl ++ p :: rest)) (nr : List ByteArray) : OwnsL (w.setCell ⟨g, cl.length * 3 + 2, none⟩ (.slice B m d)) base 34 3 RegionR.cells (.slice (some ⟨g, 0, none⟩) n cap) (cl ++ (⟨p.id, p.level, B, m, d, nr⟩ : RegionR) :: rest) := by
  have hfl : ((cl ++ p :: rest).flatMap RegionR.cells).set (cl.length * 3 + 2) (.slice B m d) = (cl ++ (⟨p.id, p.level, B, m, d, nr⟩ : RegionR) :: rest).flatMap RegionR.cells := by
    rw [List.flatMap_append, List.flatMap_append, List.flatMap_cons, List.flatMap_cons, List.set_append_right _ _ (by rw [flat_len RegionR.cells_len]; omega), flat_len RegionR.cells_len, show cl.length * 3 + 2 - cl.length * 3 = 2 by omega]
    rfl
  have hlen : (cl ++ (⟨p.id, p.level, B, m, d, nr⟩ : RegionR) :: rest).length = (cl ++ p :: rest).length := by simp
  rcases h.2 with ⟨h2, _⟩ | ⟨g', cap', cur, hv, hg, hh, hc, hm, hsz, htk⟩
  · cases h2
  · injection hv with e1 e2 e3
    injection e1 with e1
    injection e1 with e1 _ _
    subst e1
    have hp := Own.put hh (cl.length * 3 + 2) (.slice B m d)
    refine ⟨by rw [flat_len RegionR.cells_len], .inr ⟨g, cap', cur.setIfInBounds (cl.length * 3 + 2) (.slice B m d), ?_, hg, hp, by rw [hlen]; exact hc, hm, by simpa using hsz, ?_⟩⟩
    · rw [hlen, e2, e3]
    · rw [hlen, ← hfl, ← htk]
      simp [List.take_set]
set_option maxRecDepth 100000 in
set_option maxHeartbeats 2000000 in
theorem cloneRegions_any (A : Option Addr) (n c : Nat) (xs : List Region) (w : World) (hx : Region.Sl w A n xs) (hn : n ≤ 1048576) (hin : ∀ x ∈ xs, x.near.length ≤ 1048576) :
    Calls Try.prog 29 #[.slice A n c] w (RetP (fun v w' => Region.Own w' w.heap.size v xs) w) := by
  have HX := Lib.hid hx
  have HIN := Lib.hid hin
  obtain ⟨ps, hs, hpi, hxs⟩ := hx
  have HS := Lib.hid hs
  have HPI := Lib.hid hpi
  have HXS := Lib.hid hxs
  have HPL := Lib.hid hs.len
  clear hs hpi hxs hin
  go_enter Try.func29, Try.ntmps29
  go_wp2_with fail
  refine (cloneG_any A n c ps _ HS.out hn).mono ?_
  rintro e w1 ⟨v1, rfl, ho1, hb1⟩
  obtain ⟨LA, cap, rfl, hcap, hmax, _⟩ := ho1.slice RegionR.cells_len
  rw [HPL.out] at ho1 hcap ⊢
  have HO1 := Lib.hid ho1
  have HB1 := Lib.hid hb1
  clear ho1 hb1 hmax
  go_wp2
  go_loopg [10] n (fun gk i wr => ∃ (k : Nat) (cl : List RegionR), k ≤ n ∧ gk = n - k ∧ i = .int .i64 k ∧ Below w.heap.size w wr ∧ OwnsL wr w.heap.size 34 3 RegionR.cells (.slice LA n cap) (cl ++ ps.drop k) ∧ cl.length = k ∧ (∀ q ∈ cl, OwnsL wr w.heap.size 9 1 strcells (.slice q.nearA q.nearN q.nearC) q.near) ∧ (∀ q ∈ cl, ∀ b, q.own = some b → (Value.slice LA n cap).ownBlock ≠ some b) ∧ cl.Pairwise (fun p q => ∀ b, p.own = some b → q.own ≠ some b) ∧ cl.map RegionR.val = xs.take k)
  case atStart => exact ⟨0, [], Nat.zero_le _, rfl, rfl, HB1.out, by simpa using HO1.out, rfl, by simp, by simp, List.Pairwise.nil, rfl⟩
  case round =>
    obtain ⟨k, cl, hk, hgk, rfl, hb, ho, hcl, hnr, hap, hpw, hmap⟩ := hrel
    have Hgk := Lib.hid hgk
    have HB := Lib.hid hb
    have HO := Lib.hid ho
    have HCL := Lib.hid hcl
    have HNR := Lib.hid hnr
    have HAP := Lib.hid hap
    have HPW := Lib.hid hpw
    have HMAP := Lib.hid hmap
    clear hgk ho hcl hnr hap hpw hmap
    by_cases hlt : k < n
    rotate_left
    · have hkn : k = n := by omega
      subst hkn
      have HE : Hid (Region.Own wr w.heap.size (.slice LA k cap) xs) := by
        have h := HO.out
        rw [List.drop_of_length_le (by rw [HPL.out]; exact Nat.le_refl _), List.append_nil] at h
        refine ⟨cl, h, HNR.out, ⟨HAP.out, HPW.out⟩, ?_⟩
        rw [HMAP.out, List.take_of_length_le]
        rw [HXS.out, List.length_map, HPL.out]
        exact Nat.le_refl _
      go_wp2
      go_ret
      exact RetP.mk HE.out HB.out
    obtain ⟨b1, o1, ⟨xi, xl, NA, NN, NC, nr⟩, rfl, hb1, hpk, hc⟩ := HS.out.at_ hlt
    have x0 : wr.cell? ⟨b1, o1 + k * 3, none⟩ = some (.string xi) := (hb.cell hb1).trans (hc 0 _ rfl)
    have x1 : wr.cell? ⟨b1, o1 + k * 3 + 1, none⟩ = some (.int .i64 xl) := (hb.cell hb1).trans (hc 1 _ rfl)
    have x2 : wr.cell? ⟨b1, o1 + k * 3 + 2, none⟩ = some (.slice NA NN NC) := (hb.cell hb1).trans (hc 2 _ rfl)
    have hbw : b1 < wr.heap.size := Nat.lt_of_lt_of_le hb1 hb.size
    have HIX : Hid (SliceOf w 1 strcells NA NN nr) := (HPI.out _ (List.mem_of_getElem? hpk)).1
    have hNL : NN ≤ 1048576 := by
      rw [← HIX.out.len]
      exact HIN.out (⟨xi, xl, nr⟩ : Region) (by rw [HXS.out]; exact List.mem_map.2 ⟨_, List.mem_of_getElem? hpk, rfl⟩)
    have hdrop : ps.drop k = (⟨xi, xl, NA, NN, NC, nr⟩ : RegionR) :: ps.drop (k + 1) := by
      rw [List.drop_eq_getElem_cons (by rw [HPL.out]; exact hlt)]
      rw [(List.getElem?_eq_some_iff.1 hpk).2]
    have HDR := Lib.hid hdrop
    have HPK := Lib.hid hpk
    have ho := HO.out
    rw [hdrop] at ho
    obtain ⟨g, cap', hv, hg0, hg1⟩ := ho.block (by simp)
    injection hv with e1 e2 e3
    subst e1 e3
    clear e2
    have HO2 := Lib.hid ho
    clear hpk hc hb1 hdrop ho
    have HBA := Lib.hid (hb.alloc hb.size (.cells #[.string xi, .int .i64 xl, .slice NA NN NC] 34))
    have HOA := Lib.hid (HO2.out.alloc (.cells #[.string xi, .int .i64 xl, .slice NA NN NC] 34))
    have HNA : Hid (∀ q ∈ cl, OwnsL (wr.alloc (.cells #[.string xi, .int .i64 xl, .slice NA NN NC] 34)) w.heap.size 9 1 strcells (.slice q.nearA q.nearN q.nearC) q.near) := fun q hq => (HNR.out q hq).alloc _
    go_wp2_with fail
    obtain ⟨wa, hwa⟩ : ∃ wa, wr.alloc (.cells #[.string xi, .int .i64 xl, .slice NA NN NC] 34) = wa := ⟨_, rfl⟩
    rw [hwa] at HBA HOA HNA ⊢
    clear hwa x0 x1 x2 hbw hb
    (with_reducible refine (cloneS_any NA NN NC nr wa (HIX.out.below HBA.out) hNL).mono ?_)
    rintro e w5 ⟨v5, rfl, ho5, hb5⟩
    obtain ⟨NB, nc, rfl, hz1, hz2, hz3⟩ := ho5.slice strcells_len
    have HBW := Lib.hid (HBA.out.trans (hb5.mono HBA.out.size))
    have HO5 := Lib.hid (HOA.out.below' hb5)
    have HN5 : Hid (∀ q ∈ cl, OwnsL w5 w.heap.size 9 1 strcells (.slice q.nearA q.nearN q.nearC) q.near) := fun q hq => (HNA.out q hq).below' hb5
    have HW5 := Lib.hid ho5
    have hsl := HO5.out.sl RegionR.cells_len
    obtain ⟨b2, o2, r2, hA2, hb2, hr2, hc2⟩ := hsl.at_ hlt
    injection hA2 with hA2
    injection hA2 with he1 he2 _
    subst he1 he2
    obtain ⟨u, hu⟩ : ∃ u, w5.cell? ⟨g, k * 3 + 2, none⟩ = some u := ⟨_, by have h := hc2 2 _ rfl; rw [Nat.zero_add] at h; exact h⟩
    have fl := HO5.out.frozen
    have hOS := HO5.out.near (B := NB) (m := nr.length) (d := nc) nr
    rw [HCL.out] at hOS
    have HOS := Lib.hid hOS
    clear hz1 hz2 hz3 hsl hr2 hc2 hOS ho5 hb5
    have HGA : Hid (g < wa.heap.size) := (HOA.out.lt g rfl).2
    have HSP : Hid (∀ (q : RegionR), OwnsL w5 w.heap.size 9 1 strcells (.slice q.nearA q.nearN q.nearC) q.near → (∀ b, q.own = some b → (Value.slice (some ⟨g, 0, none⟩) n cap).ownBlock ≠ some b) → OwnsL (w5.setCell ⟨g, k * 3 + 2, none⟩ (.slice NB nr.length nc)) w.heap.size 9 1 strcells (.slice q.nearA q.nearN q.nearC) q.near) := fun q h h2 => h.kept (fun b hb => Below.heap_setCell w5 ⟨g, k * 3 + 2, none⟩ _ b (fun e => h2 b hb (by rw [e]; rfl)))
    have HNEW : Hid (∀ b, (⟨xi, xl, NB, nr.length, nc, nr⟩ : RegionR).own = some b → wa.heap.size ≤ b) := fun b hb => (HW5.out.lt b hb).1
    go_wp2
    go_roundg (n - (k + 1))
    case measure => have := Hgk.out; omega
    case rel =>
      refine ⟨k + 1, cl ++ [⟨xi, xl, NB, nr.length, nc, nr⟩], by omega, rfl, by go_num, HBW.out.setCell hg0 _, by rw [List.append_assoc]; exact HOS.out, by rw [List.length_append, HCL.out]; rfl, ?_, ?_, ?_, ?_⟩
      · intro q hq
        rcases List.mem_append.1 hq with h | h
        · exact HSP.out q (HN5.out q h) (HAP.out q h)
        · simp at h
          subst h
          refine HSP.out _ (HW5.out.rebase HBA.out.size) (fun b hb e => ?_)
          have h1 := HNEW.out b hb
          have h2 : g = b := by simpa [Value.ownBlock] using e
          have h3 := HGA.out
          omega
      · intro q hq
        rcases List.mem_append.1 hq with h | h
        · exact HAP.out q h
        · simp at h
          subst h
          intro b hb e
          have h1 := HNEW.out b hb
          have h2 : g = b := by simpa [Value.ownBlock] using e
          have h3 := HGA.out
          omega
      · rw [List.pairwise_append]
        refine ⟨HPW.out, List.pairwise_singleton _ _, fun p hp q hq b hb e => ?_⟩
        simp at hq
        subst hq
        have h1 := HNEW.out b e
        have h2 := ((HNA.out p hp).lt b hb).2
        omega
      · rw [List.map_append, HMAP.out, List.take_succ_eq_append_getElem (by rw [HXS.out, List.length_map, HPL.out]; exact hlt)]
        congr 1
        have h1 : xs[k]? = some (⟨xi, xl, nr⟩ : Region) := by rw [HXS.out, List.getElem?_map, HPK.out]; rfl
        rw [(List.getElem?_eq_some_iff.1 h1).2]
        rfl

end Go.Proofs.Ytpibiieibofggaa
