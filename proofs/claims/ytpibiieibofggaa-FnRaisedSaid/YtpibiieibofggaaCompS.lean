/- The sets of joined regions: the reference's function. -/
import Derived.Test.YtpibiieibofggaaCompI
import Derived.Test.YtpibiieibofggaaPutW
namespace Go.Proofs.Ytpibiieibofggaa
open Go.RowKit

/-- Regions with other levels. -/
def withLv (xs : List Region) (lv : List Int) : List Region := List.zipWith (fun r l => (⟨r.id, l, r.near⟩ : Region)) xs lv
theorem withLv_len {xs : List Region} {lv : List Int} (h : lv.length = xs.length) : (withLv xs lv).length = xs.length := by
  unfold withLv; rw [List.length_zipWith, h, Nat.min_self]
theorem withLv_at {xs : List Region} {lv : List Int} {b : Nat} {x : Region} {l : Int} (hx : xs[b]? = some x) (hl : lv[b]? = some l) : (withLv xs lv)[b]? = some ⟨x.id, l, x.near⟩ := by
  unfold withLv; rw [List.getElem?_zipWith, hx, hl]
theorem withLv_of {xs : List Region} {lv : List Int} {b : Nat} {y : Region} (h : (withLv xs lv)[b]? = some y) : ∃ x l, xs[b]? = some x ∧ lv[b]? = some l ∧ y = ⟨x.id, l, x.near⟩ := by
  unfold withLv at h
  rw [List.getElem?_zipWith] at h
  cases hx : xs[b]? with
  | none => rw [hx] at h; simp at h
  | some x =>
    cases hl : lv[b]? with
    | none => rw [hx, hl] at h; simp at h
    | some l => rw [hx, hl] at h; simp at h; exact ⟨x, l, rfl, rfl, h.symm⟩
theorem withLv_map {xs : List Region} {lv : List Int} (hlen : lv.length = xs.length) (h : MapOk xs) : MapOk (withLv xs lv) := by
  constructor
  · intro i j x y hx hy e
    obtain ⟨x', _, hx', _, rfl⟩ := withLv_of hx
    obtain ⟨y', _, hy', _, rfl⟩ := withLv_of hy
    exact h.uniq i j x' y' hx' hy' e
  · intro x hx nm hn
    obtain ⟨i, hi, rfl⟩ := List.getElem_of_mem hx
    obtain ⟨x', l, hx', _, e⟩ := withLv_of (List.getElem?_eq_getElem hi)
    rw [e] at hn
    obtain ⟨y, hy, hyn⟩ := h.near x' (List.mem_of_getElem? hx') nm hn
    obtain ⟨j, hj, rfl⟩ := List.getElem_of_mem hy
    have hw := withLv_at (List.getElem?_eq_getElem hj) (List.getElem?_eq_getElem (by omega : j < lv.length))
    exact ⟨_, List.mem_of_getElem? hw, hyn⟩
structure GAt (w0 : World) (bs : Nat) (vq vg : Value) (gl : List Int) (w : World) : Prop where
  grp : OwnsL w w0.heap.size 2 1 i64cells vg gl
  nb : ∀ k, vg.ownBlock = some k → k ≠ bs
  nq : ∀ k, vg.ownBlock = some k → vq.ownBlock ≠ some k
theorem GAt.grow {w0 w w' : World} {bs : Nat} {vq vg : Value} {gl : List Int} (h : GAt w0 bs vq vg gl w) (hb : Below w.heap.size w w') : GAt w0 bs vq vg gl w' := ⟨h.grp.below' hb, h.nb, h.nq⟩
theorem GAt.mark {w0 w : World} {bs : Nat} {vq vg : Value} {gl : List Int} (h : GAt w0 bs vq vg gl w) (i : Nat) (u : Value) : GAt w0 bs vq vg gl (w.setCell ⟨bs, i, none⟩ u) := ⟨h.grp.kept (fun k hk => Below.heap_setCell w ⟨bs, i, none⟩ u k (h.nb k hk)), h.nb, h.nq⟩
theorem GAt.push {w0 w w' : World} {bs : Nat} {vq vg v' : Value} {gl : List Int} (h : GAt w0 bs vq vg gl w) (hkp : ∀ b, b < w.heap.size → some b ≠ vq.ownBlock → w'.heap[b]? = w.heap[b]?) (hob : v'.ownBlock = vq.ownBlock ∨ v'.ownBlock = some (w.heap.size + 1)) : GAt w0 bs v' vg gl w' :=
  ⟨h.grp.kept (fun k hk => hkp k (h.grp.lt k hk).2 (fun e => h.nq k hk e.symm)), h.nb, fun k hk hv => by
    rcases hob with e | e
    · exact h.nq k hk (e ▸ hv)
    · rw [e] at hv; injection hv with hv; have := (h.grp.lt k hk).2; omega⟩
set_option maxRecDepth 100000 in
set_option maxHeartbeats 2000000 in
theorem l18Groups_any (A : Option Addr) (n c : Nat) (xs : List Region) (D : Option Addr) (e : Nat) (lv : List Int) (w : World) (hx : Region.Sl w A n xs) (hlv : SliceOf w 1 i64cells D n lv) (h8 : n ≤ 8) :
    Calls Try.prog 35 #[.slice A n c, .slice D n e] w (RetP (fun v _ => ∃ B cc, v = .slice B (compsR (withLv xs lv)) cc) w) := by
  obtain ⟨ys, hys⟩ : ∃ ys, withLv xs lv = ys := ⟨_, rfl⟩
  have hylen : ys.length = n := by rw [← hys, withLv_len (by rw [hlv.len, hx.len]), hx.len]
  have HYS := Lib.hid hys
  have HYL := Lib.hid hylen
  rw [hys]
  clear hys hylen
  have hmk := make_n (P := Try.prog) (t := 89) (n := n) Try.underlying89 infoBool (by omega) (by omega)
  have HL := Lib.hid hx.len
  have HX := Lib.hid hx
  have HLV := Lib.hid hlv
  have hOM := OwnsL.made w w.heap.size 27 1 RowR.cells (Nat.le_refl _)
  have HOM := Lib.hid hOM
  clear hx hlv hOM
  go_enter Try.func35, Try.ntmps35
  go_wp2
  clear hmk
  rw [madeBools]
  obtain ⟨hs, hhs⟩ : ∃ hs, w.heap.size = hs := ⟨_, rfl⟩
  obtain ⟨bs, hbs⟩ : ∃ bs, hs + 1 = bs := ⟨_, rfl⟩
  have HQ0 : Hid (QAt w bs (List.replicate ys.length false) (.slice (some ⟨hs, 0, none⟩) 0 0) [] (.slice none 0 0) [] ((w.alloc (.cells #[] 27)).alloc (.cells ((List.replicate n false).map Value.bool).toArray 4))) := by
    rw [HYL.out]
    have hn := Own.new (w.alloc (.cells #[] 27)) 4 ((List.replicate n false).map Value.bool).toArray
    have hz : (w.alloc (.cells #[] 27)).heap.size = bs := by simp; omega
    rw [hz] at hn
    have ho := HOM.out.alloc (.cells ((List.replicate n false).map Value.bool).toArray 4)
    rw [hhs] at ho
    refine ⟨hn, hhs ▸ ho, OwnsL.nil_ _ _ _ _ _, ((Below.refl _ _).alloc (Nat.le_refl _) _).alloc (by simp) _, by omega, fun k hk => ?_, fun k hk => by simp [Value.ownBlock] at hk, fun k hk => by simp [Value.ownBlock] at hk⟩
    have h1 : hs = k := by simpa [Value.ownBlock] using hk
    omega
  rw [hhs, hbs]
  clear hbs hhs
  go_loopg [5, 7] n (fun gk s5 i wr => ∃ (k : Nat) (sv : List Bool) (ps : List RowR) (vs : Value), k ≤ n ∧ gk = n - k ∧ i = .int .i64 k ∧ vs = s5 ∧ OutS ys k sv ∧ ps.length = compsK ys k ∧ QAt w bs sv vs ps (.slice none 0 0) [] wr)
  case atStart => exact ⟨0, _, [], _, Nat.zero_le _, rfl, rfl, rfl, OutS.zero ys, rfl, HQ0.out⟩
  case round =>
    obtain ⟨k, sv, ps, vs, hk, hgk, rfl, rfl, hos, hpl, hq⟩ := hrel
    have Hgk := Lib.hid hgk
    have HOS := Lib.hid hos
    have HPL := Lib.hid hpl
    have HQ := Lib.hid hq
    have hsl := hos.len
    rw [HYL.out] at hsl
    clear hgk hos hpl hq
    by_cases hlt : k < n
    rotate_left
    · have hkn : k = n := by omega
      subst hkn
      obtain ⟨B, cc, rfl, _, _, _⟩ := HQ.out.sets.slice RowR.cells_len
      have HV : Hid (ps.length = compsR ys) := by rw [Hid, compsR, HYL.out]; exact HPL.out
      have HB := Lib.hid HQ.out.below
      rw [HV.out]
      clear hsl
      go_wp2
      go_ret
      exact RetP.mk ⟨_, _, rfl⟩ HB.out
    have lbs := HQ.out.seen.lt
    have fbs := HQ.out.seen.frozen
    cases hsk : sv[k]? with
    | none => rw [List.getElem?_eq_none_iff] at hsk; omega
    | some bk =>
    have y0 := HQ.out.cell hsk
    cases bk
    rotate_left
    · have ho := HOS.out.old hsk
      have HO := Lib.hid ho.2
      have HC := Lib.hid (compsK_old ho.1)
      clear ho hsk hsl
      go_wp2
      go_roundg (n - (k + 1))
      case measure => have := Hgk.out; omega
      case rel => exact ⟨k + 1, sv, ps, vs, by omega, rfl, by go_num, rfl, HO.out, by rw [HC.out]; exact HPL.out, HQ.out⟩
    have hst := Bfs.start HOS.out hsk
    have HC := Lib.hid (compsK_new hst.1)
    have HBF := Lib.hid hst.2
    have hq1 := (HQ.out.mark k).one (k : Int)
    have hg1 := OwnsL.made ((wr.setCell ⟨bs, k, none⟩ (.bool true)).alloc (.cells #[.int .i64 (k : Int)] 2)) w.heap.size 2 1 i64cells (by have := HQ.out.below.size; simp; omega)
    have hsz : (wr.setCell ⟨bs, k, none⟩ (.bool true)).heap.size = wr.heap.size := by simp
    have hsz2 : ((wr.setCell ⟨bs, k, none⟩ (.bool true)).alloc (.cells #[.int .i64 (k : Int)] 2)).heap.size = wr.heap.size + 1 := by simp
    rw [hsz] at hq1
    rw [hsz2] at hg1
    have HQ1 := Lib.hid (hq1.grow ((Below.refl _ _).alloc (Nat.le_refl _) (.cells #[] 2)))
    have HG1 : Hid (GAt w bs (.slice (some ⟨wr.heap.size, 0, none⟩) 1 1) (.slice (some ⟨wr.heap.size + 1, 0, none⟩) 0 0) [] (((wr.setCell ⟨bs, k, none⟩ (.bool true)).alloc (.cells #[.int .i64 (k : Int)] 2)).alloc (.cells #[] 2))) := by
      refine ⟨hg1, fun q hq => ?_, fun q hq hv => ?_⟩
      · have h1 : wr.heap.size + 1 = q := by simpa [Value.ownBlock] using hq
        omega
      · have h1 : wr.heap.size + 1 = q := by simpa [Value.ownBlock] using hq
        have h2 : wr.heap.size = q := by simpa [Value.ownBlock] using hv
        omega
    clear hst hsk hsl hq1 hg1 hsz hsz2
    go_wp2
    clear y0 lbs fbs
    go_loopg [8, 9, 10] n (fun gk s8 s9 s10 wr => ∃ (d : Nat) (sv : List Bool) (q gl : List Int) (vg : Value), d ≤ n ∧ gk = n - d ∧ s10 = .int .i64 d ∧ vg = s9 ∧ gl.length ≤ d ∧ Bfs ys k sv q d ∧ QAt w bs sv vs ps s8 q wr ∧ GAt w bs s8 vg gl wr)
    case atStart => exact ⟨0, _, _, [], _, Nat.zero_le _, rfl, rfl, rfl, by simp, HBF.out, HQ1.out, HG1.out⟩
    case round =>
      obtain ⟨d, sv, q, gl, vg, hd, hgd, rfl, rfl, hgl, hbf, hq, hgr⟩ := hrel
      have HGD := Lib.hid hgd
      have HBF := Lib.hid hbf
      obtain ⟨B, cq, rfl, hc1, hc2, hB⟩ := hq.que.look
      obtain ⟨GA, gc, rfl, _, _, _⟩ := hgr.grp.look
      have hql := hbf.qlen
      rw [HYL.out] at hql
      have hdl := hbf.dl
      obtain ⟨L, hL⟩ : ∃ L, q.length = L := ⟨_, rfl⟩
      obtain ⟨G, hG⟩ : ∃ G, gl.length = G := ⟨_, rfl⟩
      rw [hL] at hq hgr hc1 hql hdl ⊢
      rw [hG] at hgr hgl ⊢
      have HLQ := Lib.hid hL
      have HQ := Lib.hid hq
      have HGR := Lib.hid hgr
      clear hgd hbf hq hL hB hgr hG
      by_cases hdlt : d < L
      rotate_left
      · have HO := Lib.hid (HBF.out.done (by rw [HLQ.out]; omega))
        have hpl8 : ps.length ≤ 8 := by have h1 := compsK_le ys k; have h2 := HPL.out; omega
        obtain ⟨SA, sc, rfl, _, _, _⟩ := HQ.out.sets.slice RowR.cells_len
        obtain ⟨P, hP⟩ : ∃ P, ps.length = P := ⟨_, rfl⟩
        rw [hP] at HQ hpl8 ⊢
        have HPP := Lib.hid hP
        clear hP
        obtain rfl : d = L := by omega
        clear hdlt
        go_wp2_with (at_builtin; refine wpList_push2 (by rfl) (.tmp 86) (.tmp 88) 64 (by rfl) w.heap.size 27 1 Try.underlying64 infoRow (by rfl) (by decide) RowR.cells RowR.cells_len RowR.cells_one _ (.slice SA P sc) ps ⟨GA, G, gc, []⟩ (by rfl) (by rfl) HQ.out.sets (by first | rfl | simp [go_sem]) (by rw [HPP.out]; omega) (by decide) HQ.out.below.size ?_)
        intro v' w' hown' hb' hkp hob
        have HQ4 := Lib.hid (HQ.out.pushSet hown' hb' hkp hob)
        clear hown' hb' hkp hob
        go_wp2
        go_roundg (n - (k + 1))
        case measure => have := Hgk.out; omega
        case rel => exact ⟨k + 1, sv, _, v', by omega, rfl, by go_num, rfl, HO.out, by rw [HC.out, ← HPL.out]; simp, HQ4.out⟩
      obtain ⟨b5, o5, xq, rfl, hb5, hxq, z0⟩ := ints_at (HQ.out.que.sl i64cells_len) hdlt
      obtain ⟨a, rfl, ha, hca⟩ := HBF.out.conn xq (List.mem_of_getElem? hxq)
      have HXQ := Lib.hid hxq
      have HCA := Lib.hid hca
      have han : a < n := by rw [← HYL.out]; exact ha
      have HGS := Lib.hid (HGR.out.grp.sl i64cells_len)
      clear hxq ha hc1 hc2 hdl hca
      go_wp2_with fail
      refine (l00Put_any GA G gc gl (a : Int) _ HGS.out (by omega)).mono ?_
      rintro e w5 ⟨v5, g5, rfl, hown5, hlen5, hb6⟩
      have HQX := Lib.hid (HQ.out.grow hb6)
      have HGX : Hid (GAt w bs (.slice (some ⟨b5, o5, none⟩) L cq) v5 g5 w5) := by
        refine ⟨hown5.rebase HQ.out.below.size, fun q hq => ?_, fun q hq hv => ?_⟩
        · have h1 := (hown5.lt q hq).1
          have h2 := HQ.out.seen.lt
          omega
        · have h1 := (hown5.lt q hq).1
          have h2 := (HQ.out.que.lt q hv).2
          omega
      have HLEN5 : Hid (g5.length ≤ d + 1) := by rw [Hid]; omega
      clear hown5 hlen5 hb6 z0 hb5
      go_wp2
      go_loopg [8, 12] n (fun gk s8 s12 wr => ∃ (t : Nat) (sv : List Bool) (q : List Int), t ≤ n ∧ gk = n - t ∧ s12 = .int .i64 t ∧ Bfs ys k sv q d ∧ q[d]? = some (a : Int) ∧ QAt w bs sv vs ps s8 q wr ∧ GAt w bs s8 v5 g5 wr ∧ (∀ b, b < t → adjR ys a b → sv[b]? = some true))
      case atStart => exact ⟨0, sv, q, Nat.zero_le _, rfl, rfl, HBF.out, HXQ.out, HQX.out, HGX.out, fun b h => absurd h (by omega)⟩
      case round =>
        obtain ⟨t, sv, q, ht, hgt, rfl, hbf, hqd, hq, hgr, hpt⟩ := hrel
        have HGT := Lib.hid hgt
        have HBT := Lib.hid hbf
        have HQD := Lib.hid hqd
        have HPT := Lib.hid hpt
        have hql := hbf.qlen
        have hsl := hbf.len
        rw [HYL.out] at hql hsl
        have HSL := Lib.hid hsl
        by_cases htl : t < n
        rotate_left
        · have htn : t = n := by omega
          subst htn
          have HB2 := Lib.hid (hbf.mono hqd (fun b hab => hpt b (by obtain ⟨_, y, _, hy, _⟩ := hab; rw [← HYL.out]; exact (List.getElem?_eq_some_iff.1 hy).1) hab))
          have HQ2 := Lib.hid hq
          have HG2 := Lib.hid hgr
          clear hgt hbf hqd hq hgr hpt hql hsl
          go_wp2
          go_roundg (t - (d + 1))
          case measure => have := HGD.out; omega
          case rel => exact ⟨d + 1, sv, q, g5, v5, by omega, rfl, by go_num, rfl, HLEN5.out, HB2.out, HQ2.out, HG2.out⟩
        obtain ⟨B, cq, rfl, hc1, hc2, hB⟩ := hq.que.look
        have HQ := Lib.hid hq
        have HGR := Lib.hid hgr
        obtain ⟨L, hL⟩ : ∃ L, q.length = L := ⟨_, rfl⟩
        rw [hL] at HQ HGR hc1 hql ⊢
        have HLQ := Lib.hid hL
        have HXW := Lib.hid (HX.out.below hq.below)
        have HLW := Lib.hid (HLV.out.below hq.below)
        clear hgt hbf hqd hq hgr hpt hL hB
        obtain ⟨b1, o1, ⟨xi, xl, NA, NN, NC, nr⟩, hA1, hb1, hxk, hix, x0, x1, x2⟩ := HXW.out.at_ han
        obtain ⟨b2, o2, ⟨yi, yl, MA, MN, MC, mr⟩, hA2, hb2, hyk, hiy, v0, v1, v2⟩ := HXW.out.at_ htl
        subst hA1
        injection hA2 with hA2
        injection hA2 with he1 he2 _
        subst he1 he2
        simp only [RegionR.val] at hxk hyk x2 v0
        obtain ⟨b7, o7, lt, hD1, hb7, hlt7, m0⟩ := ints_at HLW.out htl
        obtain ⟨b8, o8, lk, hD2, hb8, hlk8, m1⟩ := ints_at HLW.out hlt
        obtain ⟨b9, o9, la, hD3, hb9, hla9, m2⟩ := ints_at HLW.out han
        subst hD1
        injection hD2 with hD2
        injection hD2 with he1 he2 _
        subst he1 he2
        have hya : ys[a]? = some ⟨xi, la, nr⟩ := by rw [← HYS.out]; exact withLv_at hxk hla9
        have hyt : ys[t]? = some ⟨yi, lt, mr⟩ := by rw [← HYS.out]; exact withLv_at hyk hlt7
        have hyk' : ∃ z, ys[k]? = some z ∧ z.level = lk := by
          have hxk2 : ∃ z, xs[k]? = some z := ⟨_, List.getElem?_eq_getElem (by rw [HL.out]; exact hlt)⟩
          obtain ⟨z, hz⟩ := hxk2
          exact ⟨_, by rw [← HYS.out]; exact withLv_at hz hlk8, rfl⟩
        obtain ⟨yk, hyk1, hyk2⟩ := hyk'
        have hlka : lk = la := by rw [← hyk2]; exact HCA.out.level hyk1 hya
        have HADJ : Hid (∀ b, adjR ys a b → b = t → la = lt ∧ yi ∈ nr) := fun b ⟨u, v, hu, hv, h1, h2⟩ e => by
          subst e
          rw [hya] at hu; cases hu
          rw [hyt] at hv; cases hv
          exact ⟨h1, h2⟩
        have HADI : Hid (la = lt → yi ∈ nr → adjR ys a t) := fun h1 h2 => ⟨_, _, hya, hyt, h1, h2⟩
        have HNR : Hid (SliceOf wr 1 strcells NA NN nr) := hix.1
        have HLK := Lib.hid hlka
        clear hxk hyk hix hiy x0 x1 v1 v2 hlt7 hlk8 hla9 hD3 hb9 m2 hya hyt hyk1 hyk2 hlka
        have lbs := HQ.out.seen.lt
        cases hsj : sv[t]? with
        | none => rw [List.getElem?_eq_none_iff] at hsj; omega
        | some bj =>
        have y0 := HQ.out.cell hsj
        have hsub := fun (g : Sub wr) b o (h : b < wr.heap.size) => g.cell b o h
        have hsame : (bj = true ∨ (bj = false ∧ lt ≠ lk) ∨ (bj = false ∧ lt = lk ∧ hasS nr yi = false)) ∨ (bj = false ∧ lt = lk ∧ hasS nr yi = true) := by
          cases bj
          · by_cases h1 : lt = lk
            · cases h2 : hasS nr yi
              · exact .inl (.inr (.inr ⟨rfl, h1, rfl⟩))
              · exact .inr ⟨rfl, h1, rfl⟩
            · exact .inl (.inr (.inl ⟨rfl, h1⟩))
          · exact .inl (.inl rfl)
        rcases hsame with hno | ⟨rfl, hll, hnr⟩
        · have HP2 : Hid (∀ b, b < t + 1 → adjR ys a b → sv[b]? = some true) := fun b hb hab => by
            by_cases e : b = t
            · have h1 := HADJ.out b hab e
              rcases hno with h2 | ⟨_, h2⟩ | ⟨_, _, h2⟩
              · rw [e, hsj, h2]
              · exact absurd (by rw [HLK.out]; exact h1.1.symm) h2
              · rw [hasS_iff.2 h1.2] at h2; cases h2
            · exact HPT.out b (by omega) hab
          have hno2 : bj = true ∨ (bj = false ∧ (lt == lk) = false) ∨ (bj = false ∧ (lt == lk) = true ∧ hasS nr yi = false) := by
            rcases hno with h | ⟨h, h2⟩ | ⟨h, h2, h3⟩
            · exact .inl h
            · exact .inr (.inl ⟨h, by simp [h2]⟩)
            · exact .inr (.inr ⟨h, by simp [h2], h3⟩)
          clear hno
          rcases hno2 with rfl | ⟨rfl, hlb⟩ | ⟨rfl, hlb, hnr⟩
          all_goals
            go_wp2_with fail
            refine wp_region_sub (by kernel_rfl) (by kernel_rfl) ?_
            repeat (go_big_quiet_step (exact Calls.sub_of_same_eq (l18Near_any yi _ _ _ _ _ nr _ (HNR.out.below (Sub.below _)) ((hsub _ _ _ hb1).trans x2)) (congrArg Value.bool hnr)))
            refine wpQuiet_nil ?_
            intro wg hg
            have HQ6 := Lib.hid (HQ.out.grow hg)
            have HG6 := Lib.hid (HGR.out.grow hg)
            clear hsub y0 lbs hb1 hb2 hb7 hb8 m0 m1 x2 v0 hg hsj hsl
            try clear hlb
            try clear hnr
            go_wp2
            go_roundg (n - (t + 1))
            case measure => have := HGT.out; omega
            case rel => exact ⟨t + 1, sv, q, by omega, rfl, by go_num, HBT.out, HQD.out, HQ6.out, HG6.out, HP2.out⟩
        have hlb : (lt == lk) = true := by simp [hll]
        have hadj := HADI.out (by rw [hll]; exact HLK.out.symm) (hasS_iff.1 hnr)
        have HB2 := Lib.hid (HBT.out.push hsj (List.mem_of_getElem? HQD.out) hadj)
        have HP2 : Hid (∀ b, b < t + 1 → adjR ys a b → (sv.set t true)[b]? = some true) := fun b hb hab => by
          by_cases e : b = t
          · subst e; exact List.getElem?_set_self (by rw [HSL.out]; exact htl)
          · rw [List.getElem?_set_ne (fun h => e h.symm)]; exact HPT.out b (by omega) hab
        have HQD2 : Hid ((q ++ [(t : Int)])[d]? = some (a : Int)) := by rw [Hid, List.getElem?_append_left (List.getElem?_eq_some_iff.1 HQD.out).1]; exact HQD.out
        clear hll hadj
        go_wp2_with fail
        refine wp_region_sub (by kernel_rfl) (by kernel_rfl) ?_
        repeat (go_big_quiet_step (exact Calls.sub_of_same_eq (l18Near_any yi _ _ _ _ _ nr _ (HNR.out.below (Sub.below _)) ((hsub _ _ _ hb1).trans x2)) (congrArg Value.bool hnr)))
        refine wpQuiet_nil ?_
        intro wg hg
        have HQ6 := Lib.hid (HQ.out.grow hg)
        have HG6 := Lib.hid (HGR.out.grow hg)
        clear hsub y0 lbs hb1 hb2 hb7 hb8 m0 m1 x2 v0 hg hsj hsl hlb hnr
        have y0 := HQ6.out.seen.frozen
        have lbs := HQ6.out.seen.lt
        obtain ⟨z, hz⟩ : ∃ z, wg.cell? ⟨bs, t, none⟩ = some z := by
          refine ⟨_, (HQ6.out.seen.cell t).trans (Array.getElem?_eq_getElem ?_)⟩
          simp [HSL.out]
          exact htl
        have HQ7 := Lib.hid (HQ6.out.mark t)
        have HG7 := Lib.hid (HG6.out.mark t (.bool true))
        go_wp2_with (at_builtin; refine wpList_push2 (by rfl) (.tmp 82) (.tmp 84) 27 (by rfl) w.heap.size 2 1 Try.underlying27 infoI64 (by rfl) (by decide) i64cells i64cells_len i64cells_one _ (.slice B L cq) q (t : Int) (by rfl) (by rfl) HQ7.out.que (by first | rfl | simp [go_sem]) (by rw [HLQ.out]; omega) (by decide) HQ7.out.below.size ?_)
        intro v' w' hown' hb' hkp hob
        have HQ8 := Lib.hid (HQ7.out.push hown' hb' (fun b hb hne => hkp b (by simpa using hb) hne) (by simpa using hob))
        have HG8 := Lib.hid (HG7.out.push (fun b hb hne => hkp b (by simpa using hb) hne) (by simpa using hob))
        clear hown' hb' hkp hob y0 lbs hz
        go_wp2
        go_roundg (n - (t + 1))
        case measure => have := HGT.out; omega
        case rel => exact ⟨t + 1, _, _, by omega, rfl, by go_num, HB2.out, HQD2.out, HQ8.out, HG8.out, HP2.out⟩

end Go.Proofs.Ytpibiieibofggaa
