/- The laws' own helper markAssetS: it writes over the list's own blocks alone. -/
import Derived.Test.YtdpepdcbgocbcaaBase
import Derived.Test.YtdpepdcbgocbcaaMem
import Derived.Test.YtdpepdcbgocbcaaTInt64
import Derived.Test.YtdpepdcbgocbcaaTAsset
import Derived.Test.YtdpepdcbgocbcaaMarkText
import Derived.Test.YtdpepdcbgocbcaaArr2
namespace Go.Proofs.Ytdpepdcbgocbcaa
open Go.RowKit

def Asset.OwnU (w : World) (base hi : Nat) (v : Value) (xs : List Asset) : Prop := ∃ ps : List AssetR, OwnsL w base 128 3 AssetR.cells v ps ∧ (∀ p ∈ ps, OwnsL w base 2 1 i64cells (.slice p.spotsA p.spotsN p.spotsC) p.spots) ∧ AssetR.Apart v ps ∧ ((∀ b, v.ownBlock = some b → b < hi) ∧ ∀ p ∈ ps, ∀ b, p.own = some b → b < hi) ∧ xs = ps.map AssetR.val
section
variable {w w' : World} {base hi : Nat} {v : Value} {xs : List Asset}
theorem Asset.Own.bound (h : Asset.Own w base v xs) : Asset.OwnU w base w.heap.size v xs := by
  obtain ⟨ps, h1, h2, h3, h4⟩ := h
  exact ⟨ps, h1, h2, h3, ⟨fun b hb => (h1.lt b hb).2, fun p hp b hb => ((h2 p hp).lt b hb).2⟩, h4⟩
theorem Asset.OwnU.own (h : Asset.OwnU w base hi v xs) : Asset.Own w base v xs := by
  obtain ⟨ps, h1, h2, h3, _, h4⟩ := h
  exact ⟨ps, h1, h2, h3, h4⟩
theorem Asset.OwnU.sl {A : Option Addr} {n c : Nat} (h : Asset.OwnU w base hi (.slice A n c) xs) : Asset.Sl w A n xs := h.own.sl
theorem Asset.OwnU.below' (h : Asset.OwnU w base hi v xs) (hb : Below w.heap.size w w') : Asset.OwnU w' base hi v xs := by
  obtain ⟨ps, h1, h2, h3⟩ := h
  exact ⟨ps, h1.below' hb, fun p hp => (h2 p hp).below' hb, h3⟩
theorem Asset.OwnU.span {lo' hi' : Nat} (h : Asset.OwnU w base hi v xs) (hs : Span lo' hi' w w') (hb : hi' ≤ base) : Asset.OwnU w' base hi v xs := by
  obtain ⟨ps, h1, h2, h3⟩ := h
  exact ⟨ps, h1.span hs (fun k hk => .inr (Nat.le_trans hb (h1.lt k hk).1)), fun p hp => (h2 p hp).span hs (fun k hk => .inr (Nat.le_trans hb ((h2 p hp).lt k hk).1)), h3⟩
end
set_option maxRecDepth 100000 in
set_option maxHeartbeats 1000000 in
theorem markAssetS_any (base hi : Nat) (A : Option Addr) (n c : Nat) (xs : List Asset) (k : Int) (w : World) (h : Asset.OwnU w base hi (.slice A n c) xs) (h0 : 0 ≤ k) (h1 : k ≤ 100000000) (hle : n ≤ 1048576) (hin : ∀ x ∈ xs, x.spots.length ≤ 1048576) :
    Calls Try.prog 44 #[.slice A n c, .int .i64 k] w (fun e w' => ∃ k' : Int, e = .returned (.int .i64 k') ∧ (0 ≤ k' ∧ k' ≤ k + 1048578 * n) ∧ Span base hi w w') := by
  obtain ⟨ps, hown, hins, hap, hup, rfl⟩ := h
  have HUP := Lib.hid hup
  clear hup
  have hpl : ps.length = n := (hown.sl AssetR.cells_len).len
  have HIN : Hid (∀ p ∈ ps, p.spots.length ≤ 1048576) := fun p hp => hin p.val (List.mem_map.2 ⟨p, hp, rfl⟩)
  have HPL := Lib.hid hpl
  clear hin
  by_cases hn : n = 0
  · subst hn
    go_enter Try.func44, Try.ntmps44
    go_wp2
    refine wp_loop_rounds 1 ?_
    rw [rounds_succ]
    go_wp2
    go_ret
    exact ⟨_, rfl, by omega, Span.refl _ _ _⟩
  · obtain ⟨g0, cap, hv, hg0, hg0l'⟩ := hown.block (by intro e; rw [e] at hpl; simp at hpl; omega)
    have hg0l : g0 < hi := HUP.out.1 g0 (by rw [hv]; rfl)
    injection hv with e1 e2 e3
    subst e1
    clear e2 e3
    have hsl := hown.sl AssetR.cells_len
    obtain ⟨cur, hcur, hcsz⟩ : ∃ cur, Own w g0 128 cur ∧ n * 3 ≤ cur.size := by
      rcases hown.2 with ⟨h2, _⟩ | ⟨g, cp, cur, hv, _, hh, hc, _, hsz, _⟩
      · cases h2
      · injection hv with e1 e2 e3
        injection e1 with e1
        injection e1 with e1 _ _
        subst e1
        refine ⟨cur, hh, ?_⟩
        rw [hsz, ← hpl]
        exact Nat.mul_le_mul_right 3 hc
    have hcc : ∀ i p, ps[i]? = some p → cur[i * 3 + 1]? = some (.slice p.spotsA p.spotsN p.spotsC) := fun i p hp => by
      have hi : i < n := by rw [← hpl]; exact (List.getElem?_eq_some_iff.1 hp).1
      obtain ⟨b, off, x, hA, _, hx, hc⟩ := hsl.at_ hi
      injection hA with hA
      injection hA with e1 e2 _
      subst e1 e2
      rw [hp] at hx
      injection hx with hx
      subst hx
      have := hc 1 _ rfl
      rw [Nat.zero_add] at this
      rw [← hcur.cell]
      exact this
    have HAP := Lib.hid hap
    have HCUR := Lib.hid hcur
    have HCC := Lib.hid hcc
    have HINS := Lib.hid hins
    clear hown hins hap hpl hsl hcur hcc
    go_enter Try.func44, Try.ntmps44
    go_wp2
    go_loopg [1, 5] n (fun gk q i wr => ∃ (j : Nat) (v : Int) (cs : Array Value), j ≤ n ∧ gk = n - j ∧ i = .int .i64 j ∧ q = .int .i64 v ∧ 0 ≤ v ∧ v ≤ k + 1048578 * j ∧ Span base hi w wr ∧ Own wr g0 128 cs ∧ n * 3 ≤ cs.size ∧ (∀ i p, ps[i]? = some p → cs[i * 3 + 1]? = some (.slice p.spotsA p.spotsN p.spotsC)) ∧ (∀ i p, j ≤ i → ps[i]? = some p → OwnsL wr base 2 1 i64cells (.slice p.spotsA p.spotsN p.spotsC) p.spots))
    case atStart => exact ⟨0, k, cur, Nat.zero_le _, rfl, rfl, rfl, h0, by omega, Span.refl _ _ _, HCUR.out, hcsz, HCC.out, fun i p _ hp => HINS.out p (List.mem_of_getElem? hp)⟩
    case round =>
      obtain ⟨j, v, cs, hj, hgj, rfl, rfl, hv0, hv1, hsp, hor, hcz, hcc, hins⟩ := hrel
      have HGJ := Lib.hid hgj
      have HSP := Lib.hid hsp
      have HOR := Lib.hid hor
      have HCZ := Lib.hid hcz
      have HCC2 := Lib.hid hcc
      have HINS2 := Lib.hid hins
      clear hgj hsp hor hcz hcc hins
      by_cases hlt : j < n
      · obtain ⟨p, hp⟩ : ∃ p, ps[j]? = some p := ⟨_, List.getElem?_eq_getElem (by rw [HPL.out]; exact hlt)⟩
        have HP := Lib.hid hp
        have hpl := HIN.out p (List.mem_of_getElem? hp)
        have HPO := Lib.hid (HINS2.out j p (Nat.le_refl _) hp)
        have HPG : Hid (∀ b, (Value.slice p.spotsA p.spotsN p.spotsC).ownBlock = some b → b ≠ g0) := fun b hb e => by
          subst e
          exact HAP.out.1 p (List.mem_of_getElem? hp) b hb rfl
        clear hp
        go_wp2_with fail
        refine (markText_any v _ hv0 (by omega)).mono ?_
        rintro e w1 ⟨u, rfl, ⟨s, rfl⟩, hb1⟩
        have hor1 := HOR.out.below' hb1
        have hcz := HCZ.out
        obtain ⟨u0, hu0⟩ : ∃ u, cs[j * 3]? = some u := ⟨_, Array.getElem?_eq_getElem (by omega)⟩
        have f0 : w1.cell? ⟨g0, j * 3, none⟩ = some u0 := (hor1.cell _).trans hu0
        have df := hor1.frozen
        have HOR2 : Hid (Own (w1.setCell ⟨g0, j * 3, none⟩ (.string s)) g0 128 (cs.setIfInBounds (j * 3) (.string s))) := hor1.put _ _
        have f1 : (w1.setCell ⟨g0, j * 3, none⟩ (.string s)).cell? ⟨g0, j * 3 + 1, none⟩ = some (.slice p.spotsA p.spotsN p.spotsC) := by
          rw [HOR2.out.cell, Array.getElem?_setIfInBounds, if_neg (by omega)]
          exact HCC2.out j p HP.out
        have hkS : ∀ b, b ≠ g0 → (w1.setCell ⟨g0, j * 3, none⟩ (.string s)).heap[b]? = w1.heap[b]? := fun b h1 => Below.heap_setCell _ ⟨g0, j * 3, none⟩ _ b h1
        have HKS := Lib.hid hkS
        have HPO2 := Lib.hid ((HPO.out.below' hb1).kept (fun b hb => hkS b (HPG.out b hb)))
        have HB1 := Lib.hid hb1
        clear hor1 hu0 hb1 hkS hcz
        go_wp2_with fail
        refine (markInt64S_any base _ p.spots (v + 1) _ HPO2.out (by omega) (by omega) hpl).mono ?_
        rintro e w3 ⟨rfl, _, hmk⟩
        have hsz3 : w3.heap.size = w1.heap.size := by have := hmk.2; simpa using this
        have hspM : ∀ lo hi, (∀ b, (Value.slice p.spotsA p.spotsN p.spotsC).ownBlock = some b → lo ≤ b ∧ b < hi) → Span lo hi (w1.setCell ⟨g0, j * 3, none⟩ (.string s)) w3 := fun lo hi hb => hmk.span hb
        have hkM : ∀ b, b < w1.heap.size → (Value.slice p.spotsA p.spotsN p.spotsC).ownBlock ≠ some b → w3.heap[b]? = (w1.setCell ⟨g0, j * 3, none⟩ (.string s)).heap[b]? := fun b hb hne => by
          rcases hmk.1 with ⟨g, hg, hs⟩ | ⟨_, rfl⟩
          · exact hs.block b (by simpa using hb) (by have : g ≠ b := fun e => hne (by rw [hg, e]); omega)
          · rfl
        have hor3 : Own w3 g0 128 (cs.setIfInBounds (j * 3) (.string s)) := (hkM g0 (by have := HOR2.out.lt; simpa using this) (fun e => HPG.out g0 e rfl)).trans HOR2.out
        have hcz := HCZ.out
        obtain ⟨u2, hu2⟩ : ∃ u, (cs.setIfInBounds (j * 3) (.string s))[j * 3 + 2]? = some u := ⟨_, Array.getElem?_eq_getElem (by simp; omega)⟩
        have f2 : w3.cell? ⟨g0, j * 3 + 2, none⟩ = some u2 := (hor3.cell _).trans hu2
        have df3 := hor3.frozen
        have HOR3 := Lib.hid hor3
        have HKM := Lib.hid hkM
        have HSPB : Hid (Span base hi w w3) := by
          refine (HSP.out.trans (Span.of_below HB1.out (Nat.le_refl _))).setCell (p := ⟨g0, j * 3, none⟩) hg0 hg0l (.string s) |>.trans ?_
          exact hspM _ _ (fun b hb => by
            have h1 := HINS.out p (List.mem_of_getElem? HP.out)
            exact ⟨(h1.lt b hb).1, HUP.out.2 p (List.mem_of_getElem? HP.out) b hb⟩)
        have HPLn := Lib.hid hpl
        clear hmk hspM hkM hor3 hu2 hcz f0 f1 df
        go_wp2
        go_roundg (n - (j + 1))
        case measure => have := HGJ.out; omega
        case rel =>
          refine ⟨j + 1, v + 1 + p.spots.length + 1, (cs.setIfInBounds (j * 3) (.string s)).setIfInBounds (j * 3 + 2) (.int .i64 (v + 1 + p.spots.length)), by omega, rfl, by go_num, by first | rfl | go_num, by omega, by omega, HSPB.out.setCell hg0 hg0l _, HOR3.out.put _ _, by simpa using HCZ.out, fun i q hq => ?_, fun i q hi hq => ?_⟩
          · rw [Array.getElem?_setIfInBounds, if_neg (by omega), Array.getElem?_setIfInBounds, if_neg (by omega)]
            exact HCC2.out i q hq
          · have h1 := (HINS2.out i q (by omega) hq).below' HB1.out
            have hqm := List.mem_of_getElem? hq
            have hne : ∀ b, (Value.slice q.spotsA q.spotsN q.spotsC).ownBlock = some b → b ≠ g0 := fun b hb e => by
              subst e
              exact HAP.out.1 q hqm b hb rfl
            have hpq : ∀ b, (Value.slice p.spotsA p.spotsN p.spotsC).ownBlock = some b → (Value.slice q.spotsA q.spotsN q.spotsC).ownBlock ≠ some b := by
              have hpw := List.pairwise_iff_getElem.1 HAP.out.2
              have hj' := List.getElem?_eq_some_iff.1 HP.out
              have hi' := List.getElem?_eq_some_iff.1 hq
              have := hpw j i hj'.1 hi'.1 (by omega)
              rw [hj'.2, hi'.2] at this
              exact this
            refine h1.kept (fun b hb => ?_)
            rw [Below.heap_setCell _ ⟨g0, j * 3 + 2, none⟩ _ b (hne b hb), HKM.out b (h1.lt b hb).2 (fun e => hpq b e hb), HKS.out b (hne b hb)]
      · have hjn : j = n := by omega
        subst hjn
        go_wp2
        go_ret
        exact ⟨_, rfl, ⟨hv0, by omega⟩, HSP.out⟩

end Go.Proofs.Ytdpepdcbgocbcaa
