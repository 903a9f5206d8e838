/- The laws' own helper markRegionS: it writes over the list's own blocks alone. -/
import Derived.Test.YtpibiieibofggaaBase
import Derived.Test.YtpibiieibofggaaMem
import Derived.Test.YtpibiieibofggaaTRegion
import Derived.Test.YtpibiieibofggaaMarkText
import Derived.Test.YtpibiieibofggaaOwn2
namespace Go.Proofs.Ytpibiieibofggaa
open Go.RowKit

def Region.OwnU (w : World) (base hi : Nat) (v : Value) (xs : List Region) : Prop := ∃ ps : List RegionR, OwnsL w base 34 3 RegionR.cells v ps ∧ (∀ p ∈ ps, OwnsL w base 9 1 strcells (.slice p.nearA p.nearN p.nearC) p.near) ∧ RegionR.Apart v ps ∧ ((∀ b, v.ownBlock = some b → b < hi) ∧ ∀ p ∈ ps, ∀ b, p.own = some b → b < hi) ∧ xs = ps.map RegionR.val
section
variable {w w' : World} {base hi : Nat} {v : Value} {xs : List Region}
theorem Region.Own.bound (h : Region.Own w base v xs) : Region.OwnU w base w.heap.size v xs := by
  obtain ⟨ps, h1, h2, h3, h4⟩ := h
  exact ⟨ps, h1, h2, h3, ⟨fun b hb => (h1.lt b hb).2, fun p hp b hb => ((h2 p hp).lt b hb).2⟩, h4⟩
theorem Region.OwnU.own (h : Region.OwnU w base hi v xs) : Region.Own w base v xs := by
  obtain ⟨ps, h1, h2, h3, _, h4⟩ := h
  exact ⟨ps, h1, h2, h3, h4⟩
theorem Region.OwnU.sl {A : Option Addr} {n c : Nat} (h : Region.OwnU w base hi (.slice A n c) xs) : Region.Sl w A n xs := h.own.sl
theorem Region.OwnU.below' (h : Region.OwnU w base hi v xs) (hb : Below w.heap.size w w') : Region.OwnU w' base hi v xs := by
  obtain ⟨ps, h1, h2, h3⟩ := h
  exact ⟨ps, h1.below' hb, fun p hp => (h2 p hp).below' hb, h3⟩
theorem Region.OwnU.span {lo' hi' : Nat} (h : Region.OwnU w base hi v xs) (hs : Span lo' hi' w w') (hb : hi' ≤ base) : Region.OwnU w' base hi v xs := by
  obtain ⟨ps, h1, h2, h3⟩ := h
  exact ⟨ps, h1.span hs (fun k hk => .inr (Nat.le_trans hb (h1.lt k hk).1)), fun p hp => (h2 p hp).span hs (fun k hk => .inr (Nat.le_trans hb ((h2 p hp).lt k hk).1)), h3⟩
end
set_option maxRecDepth 100000 in
set_option maxHeartbeats 1000000 in
theorem markStringS_any (base : Nat) (v : Value) (xs : List ByteArray) (k : Int) (w : World) (h : OwnsL w base 9 1 strcells v xs) (h0 : 0 ≤ k) (h1 : k ≤ 9000000000000) (hle : xs.length ≤ 1048576) :
    Calls Try.prog 47 #[v, .int .i64 k] w (fun e w' => ∃ k' : Int, e = .returned (.int .i64 k') ∧ 0 ≤ k' ∧ k' ≤ k + xs.length ∧ w.grownBy w' v.ownBlock) := by
  have hlt := h.lt
  rcases h.2 with ⟨rfl, hz⟩ | ⟨g, cap, cur, rfl, hg, ho, hcap, hm, hsz, _⟩
  · go_enter Try.func47, Try.ntmps47
    go_wp2
    refine wp_loop_rounds 1 ?_
    rw [rounds_succ]
    go_wp2
    go_ret
    exact ⟨_, rfl, h0, by omega, ⟨rfl, rfl, rfl, Nat.le_refl _, fun _ _ _ => rfl⟩⟩
  · obtain ⟨n, hn⟩ : ∃ n, xs.length = n := ⟨_, rfl⟩
    rw [hn] at hcap hle ⊢
    have HSZ := Lib.hid hsz
    have HO := Lib.hid ho
    clear hsz hn ho h hlt
    go_enter Try.func47, Try.ntmps47
    go_wp2
    go_loopg [1, 5] n (fun gk q i wr => ∃ (j : Nat) (kk : Int) (cs : Array Value), j ≤ n ∧ gk = n - j ∧ i = .int .i64 j ∧ q = .int .i64 kk ∧ 0 ≤ kk ∧ kk ≤ k + j ∧ Own wr g 9 cs ∧ cs.size = cap * 1 ∧ w.grownBy wr (some g))
    case atStart => exact ⟨0, k, cur, Nat.zero_le _, rfl, rfl, rfl, h0, by omega, HO.out, HSZ.out, ⟨rfl, rfl, rfl, Nat.le_refl _, fun _ _ _ => rfl⟩⟩
    case round =>
      obtain ⟨j, kk, cs, hj, hgj, rfl, rfl, hk0, hk1, hor, hcs, hgr⟩ := hrel
      have HGJ := Lib.hid hgj
      have HCS := Lib.hid hcs
      have HGR := Lib.hid hgr
      have HOR := Lib.hid hor
      clear hgj hcs hgr hor
      by_cases hlt : j < n
      rotate_left
      · have hjn : j = n := by omega
        subst hjn
        go_wp2
        go_ret
        exact ⟨kk, rfl, hk0, hk1, HGR.out⟩
      go_wp2_with fail
      refine (markText_any kk _ hk0 (by omega)).mono ?_
      rintro e w1 ⟨u, rfl, ⟨s, rfl⟩, hb1⟩
      have hor1 := HOR.out.below' hb1
      have hcs := HCS.out
      obtain ⟨u0, hu0⟩ : ∃ u, cs[j]? = some u := ⟨_, Array.getElem?_eq_getElem (by omega)⟩
      have f0 : w1.cell? ⟨g, j, none⟩ = some u0 := (hor1.cell _).trans hu0
      have df := hor1.frozen
      have lb := hor1.lt
      have HO2 := Lib.hid (hor1.put j (.string s))
      have HG2 : Hid (w.grownBy (w1.setCell ⟨g, j, none⟩ (.string s)) (some g)) := by
        have h1 := HGR.out
        refine ⟨hb1.os.trans h1.os, hb1.tape.trans h1.tape, hb1.output.trans h1.output, by have := h1.size; have := hb1.size; simp; omega, fun b hb hne => ?_⟩
        rw [Below.heap_setCell w1 ⟨g, j, none⟩ _ b (fun e => hne (by rw [e])), hb1.block b (Nat.lt_of_lt_of_le hb h1.size)]
        exact h1.block b hb hne
      clear hor1 hu0 hb1 hcs
      go_wp2
      go_roundg (n - (j + 1))
      case measure => have := HGJ.out; omega
      case rel => exact ⟨j + 1, kk + 1, _, by omega, rfl, by go_num, by first | rfl | go_num, by omega, by omega, HO2.out, by simpa using HCS.out, HG2.out⟩
set_option maxRecDepth 100000 in
set_option maxHeartbeats 1000000 in
theorem markRegionS_any (base hi : Nat) (A : Option Addr) (n c : Nat) (xs : List Region) (k : Int) (w : World) (h : Region.OwnU w base hi (.slice A n c) xs) (h0 : 0 ≤ k) (h1 : k ≤ 100000000) (hle : n ≤ 1048576) (hin : ∀ x ∈ xs, x.near.length ≤ 1048576) :
    Calls Try.prog 20 #[.slice A n c, .int .i64 k] w (fun e w' => ∃ k' : Int, e = .returned (.int .i64 k') ∧ (0 ≤ k' ∧ k' ≤ k + 1048578 * n) ∧ Span base hi w w') := by
  obtain ⟨ps, hown, hins, hap, hup, rfl⟩ := h
  have HUP := Lib.hid hup
  clear hup
  have hpl : ps.length = n := (hown.sl RegionR.cells_len).len
  have HIN : Hid (∀ p ∈ ps, p.near.length ≤ 1048576) := fun p hp => hin p.val (List.mem_map.2 ⟨p, hp, rfl⟩)
  have HPL := Lib.hid hpl
  clear hin
  by_cases hn : n = 0
  · subst hn
    go_enter Try.func20, Try.ntmps20
    go_wp2
    refine wp_loop_rounds 1 ?_
    rw [rounds_succ]
    go_wp2
    go_ret
    exact ⟨_, rfl, by omega, Span.refl _ _ _⟩
  · obtain ⟨g0, cap, hv, hg0, hg0l'⟩ := hown.block (by intro e; rw [e] at hpl; simp at hpl; omega)
    have hg0l : g0 < hi := HUP.out.1 g0 (by rw [hv]; rfl)
    injection hv with e1 e2 e3
    subst e1
    clear e2 e3
    have hsl := hown.sl RegionR.cells_len
    obtain ⟨cur, hcur, hcsz⟩ : ∃ cur, Own w g0 34 cur ∧ n * 3 ≤ cur.size := by
      rcases hown.2 with ⟨h2, _⟩ | ⟨g, cp, cur, hv, _, hh, hc, _, hsz, _⟩
      · cases h2
      · injection hv with e1 e2 e3
        injection e1 with e1
        injection e1 with e1 _ _
        subst e1
        refine ⟨cur, hh, ?_⟩
        rw [hsz, ← hpl]
        exact Nat.mul_le_mul_right 3 hc
    have hcc : ∀ i p, ps[i]? = some p → cur[i * 3 + 2]? = some (.slice p.nearA p.nearN p.nearC) := fun i p hp => by
      have hi : i < n := by rw [← hpl]; exact (List.getElem?_eq_some_iff.1 hp).1
      obtain ⟨b, off, x, hA, _, hx, hc⟩ := hsl.at_ hi
      injection hA with hA
      injection hA with e1 e2 _
      subst e1 e2
      rw [hp] at hx
      injection hx with hx
      subst hx
      have := hc 2 _ rfl
      rw [Nat.zero_add] at this
      rw [← hcur.cell]
      exact this
    have HAP := Lib.hid hap
    have HCUR := Lib.hid hcur
    have HCC := Lib.hid hcc
    have HINS := Lib.hid hins
    clear hown hins hap hpl hsl hcur hcc
    go_enter Try.func20, Try.ntmps20
    go_wp2
    go_loopg [1, 5] n (fun gk q i wr => ∃ (j : Nat) (v : Int) (cs : Array Value), j ≤ n ∧ gk = n - j ∧ i = .int .i64 j ∧ q = .int .i64 v ∧ 0 ≤ v ∧ v ≤ k + 1048578 * j ∧ Span base hi w wr ∧ Own wr g0 34 cs ∧ n * 3 ≤ cs.size ∧ (∀ i p, ps[i]? = some p → cs[i * 3 + 2]? = some (.slice p.nearA p.nearN p.nearC)) ∧ (∀ i p, j ≤ i → ps[i]? = some p → OwnsL wr base 9 1 strcells (.slice p.nearA p.nearN p.nearC) p.near))
    case atStart => exact ⟨0, k, cur, Nat.zero_le _, rfl, rfl, rfl, h0, by omega, Span.refl _ _ _, HCUR.out, hcsz, HCC.out, fun i p _ hp => HINS.out p (List.mem_of_getElem? hp)⟩
    case round =>
      obtain ⟨j, v, cs, hj, hgj, rfl, rfl, hv0, hv1, hsp, hor, hcz, hcc, hins⟩ := hrel
      have HGJ := Lib.hid hgj
      have HSP := Lib.hid hsp
      have HOR := Lib.hid hor
      have HCZ := Lib.hid hcz
      have HCC2 := Lib.hid hcc
      have HINS2 := Lib.hid hins
      clear hgj hsp hor hcz hcc hins
      by_cases hlt : j < n
      · obtain ⟨p, hp⟩ : ∃ p, ps[j]? = some p := ⟨_, List.getElem?_eq_getElem (by rw [HPL.out]; exact hlt)⟩
        have HP := Lib.hid hp
        have hpl := HIN.out p (List.mem_of_getElem? hp)
        have HPO := Lib.hid (HINS2.out j p (Nat.le_refl _) hp)
        have HPG : Hid (∀ b, (Value.slice p.nearA p.nearN p.nearC).ownBlock = some b → b ≠ g0) := fun b hb e => by
          subst e
          exact HAP.out.1 p (List.mem_of_getElem? hp) b hb rfl
        clear hp
        go_wp2_with fail
        refine (markText_any v _ hv0 (by omega)).mono ?_
        rintro e w1 ⟨u, rfl, ⟨s, rfl⟩, hb1⟩
        have hor1 := HOR.out.below' hb1
        have hcz := HCZ.out
        obtain ⟨u0, hu0⟩ : ∃ u, cs[j * 3]? = some u := ⟨_, Array.getElem?_eq_getElem (by omega)⟩
        have f0 : w1.cell? ⟨g0, j * 3, none⟩ = some u0 := (hor1.cell _).trans hu0
        have df := hor1.frozen
        obtain ⟨u1, hu1⟩ : ∃ u, cs[j * 3 + 1]? = some u := ⟨_, Array.getElem?_eq_getElem (by omega)⟩
        have HOR1 := Lib.hid (hor1.put (j * 3) (.string s))
        have HOR2 := Lib.hid (HOR1.out.put (j * 3 + 1) (.int .i64 (v + 1)))
        have f1 : (w1.setCell ⟨g0, j * 3, none⟩ (.string s)).cell? ⟨g0, j * 3 + 1, none⟩ = some u1 := by
          rw [HOR1.out.cell, Array.getElem?_setIfInBounds, if_neg (by omega)]
          exact hu1
        have f2 : ((w1.setCell ⟨g0, j * 3, none⟩ (.string s)).setCell ⟨g0, j * 3 + 1, none⟩ (.int .i64 (v + 1))).cell? ⟨g0, j * 3 + 2, none⟩ = some (.slice p.nearA p.nearN p.nearC) := by
          rw [HOR2.out.cell, Array.getElem?_setIfInBounds, if_neg (by omega), Array.getElem?_setIfInBounds, if_neg (by omega)]
          exact HCC2.out j p HP.out
        have hkS : ∀ b, b ≠ g0 → ((w1.setCell ⟨g0, j * 3, none⟩ (.string s)).setCell ⟨g0, j * 3 + 1, none⟩ (.int .i64 (v + 1))).heap[b]? = w1.heap[b]? := fun b h1 => (Below.heap_setCell _ ⟨g0, j * 3 + 1, none⟩ _ b h1).trans (Below.heap_setCell _ ⟨g0, j * 3, none⟩ _ b h1)
        have HKS := Lib.hid hkS
        have HPO2 := Lib.hid ((HPO.out.below' hb1).kept (fun b hb => hkS b (HPG.out b hb)))
        have HB1 := Lib.hid hb1
        have HZ1 : Hid (((w1.setCell ⟨g0, j * 3, none⟩ (.string s)).setCell ⟨g0, j * 3 + 1, none⟩ (.int .i64 (v + 1))).heap.size = w1.heap.size) := by rw [Hid]; simp
        clear hor1 hu0 hu1 hb1 hkS hcz
        go_wp2_with fail
        refine (markStringS_any base _ p.near (v + 1 + 1) _ HPO2.out (by omega) (by omega) hpl).mono ?_
        rintro e w3 ⟨k3, rfl, hk30, hk31, hmk⟩
        have hkM : ∀ b, b < w1.heap.size → (Value.slice p.nearA p.nearN p.nearC).ownBlock ≠ some b → w3.heap[b]? = ((w1.setCell ⟨g0, j * 3, none⟩ (.string s)).setCell ⟨g0, j * 3 + 1, none⟩ (.int .i64 (v + 1))).heap[b]? := fun b hb hne => hmk.block b (by rw [HZ1.out]; exact hb) (fun e => hne e.symm)
        have hor3 : Own w3 g0 34 ((cs.setIfInBounds (j * 3) (.string s)).setIfInBounds (j * 3 + 1) (.int .i64 (v + 1))) := (hkM g0 (by have := HOR2.out.lt; rw [HZ1.out] at this; exact this) (fun e => HPG.out g0 e rfl)).trans HOR2.out
        have HOR3 := Lib.hid hor3
        have HKM := Lib.hid hkM
        have HSPB : Hid (Span base hi w w3) := by
          have h1 := ((HSP.out.trans (Span.of_below HB1.out (Nat.le_refl _))).setCell (p := ⟨g0, j * 3, none⟩) hg0 hg0l (.string s)).setCell (p := ⟨g0, j * 3 + 1, none⟩) hg0 hg0l (.int .i64 (v + 1))
          refine h1.trans ⟨hmk.os, hmk.tape, hmk.output, hmk.size, fun k hk ho => hmk.block k hk (fun e => ?_)⟩
          have h2 := HINS.out p (List.mem_of_getElem? HP.out)
          have h3 := (h2.lt k e.symm).1
          have h4 := HUP.out.2 p (List.mem_of_getElem? HP.out) k e.symm
          omega
        have HSZ3 : Hid (w1.heap.size ≤ w3.heap.size) := by have := hmk.size; rw [HZ1.out] at this; exact this
        clear hmk hkM hor3 f0 f1 f2 df
        go_wp2
        go_roundg (n - (j + 1))
        case measure => have := HGJ.out; omega
        case rel =>
          refine ⟨j + 1, k3, (cs.setIfInBounds (j * 3) (.string s)).setIfInBounds (j * 3 + 1) (.int .i64 (v + 1)), by omega, rfl, by go_num, rfl, by omega, by omega, HSPB.out, HOR3.out, by simpa using HCZ.out, fun i q hq => ?_, fun i q hi hq => ?_⟩
          · rw [Array.getElem?_setIfInBounds, if_neg (by omega), Array.getElem?_setIfInBounds, if_neg (by omega)]
            exact HCC2.out i q hq
          · have h1 := (HINS2.out i q (by omega) hq).below' HB1.out
            have hqm := List.mem_of_getElem? hq
            have hne : ∀ b, (Value.slice q.nearA q.nearN q.nearC).ownBlock = some b → b ≠ g0 := fun b hb e => by
              subst e
              exact HAP.out.1 q hqm b hb rfl
            have hpq : ∀ b, (Value.slice p.nearA p.nearN p.nearC).ownBlock = some b → (Value.slice q.nearA q.nearN q.nearC).ownBlock ≠ some b := by
              have hpw := List.pairwise_iff_getElem.1 HAP.out.2
              have hj' := List.getElem?_eq_some_iff.1 HP.out
              have hi' := List.getElem?_eq_some_iff.1 hq
              have := hpw j i hj'.1 hi'.1 (by omega)
              rw [hj'.2, hi'.2] at this
              exact this
            refine h1.kept (fun b hb => ?_)
            rw [HKM.out b (h1.lt b hb).2 (fun e => hpq b e hb), HKS.out b (hne b hb)]
      · have hjn : j = n := by omega
        subst hjn
        go_wp2
        go_ret
        exact ⟨_, rfl, ⟨hv0, by omega⟩, HSP.out⟩

end Go.Proofs.Ytpibiieibofggaa
