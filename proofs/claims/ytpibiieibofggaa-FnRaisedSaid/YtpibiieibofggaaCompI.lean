/- The sets of joined regions: the program's function. -/
import Derived.Test.YtpibiieibofggaaCompP
import Derived.Test.YtpibiieibofggaaJoinM
import Derived.Test.YtpibiieibofggaaSeek
namespace Go.Proofs.Ytpibiieibofggaa
open Go.RowKit

theorem infoBool : (Try.prog.info? 4).map (fun i => (i.zero, i.size, i.bytes)) = some (some (.bool false), 1, 1) := by kernel_rfl
theorem madeBools (n : Nat) : madeCells #[Value.bool false] n = ((List.replicate n false).map Value.bool).toArray := by
  apply Array.ext
  · simp [madeCells]
  · intro i h1 h2
    simp [madeCells, Nat.mod_one]
/-- All neighbours among the first t names have been seen. -/
def PartN (ys : List Region) (xl : Int) (nr : List ByteArray) (sv : List Bool) (t : Nat) : Prop := ∀ t' nm, t' < t → nr[t']? = some nm → ∀ (b : Nat) (y : Region), ys[b]? = some y → y.id = nm → y.level = xl → sv[b]? = some true
theorem PartN.zero {ys : List Region} {xl : Int} {nr : List ByteArray} {sv : List Bool} : PartN ys xl nr sv 0 := fun _ _ h => absurd h (by omega)
theorem PartN.set {ys : List Region} {xl : Int} {nr : List ByteArray} {sv : List Bool} {t : Nat} (h : PartN ys xl nr sv t) (j : Nat) : PartN ys xl nr (sv.set j true) t := fun t' nm ht hn b y hy hi hl => by
  have h1 := h t' nm ht hn b y hy hi hl
  by_cases e : j = b
  · subst e; rw [List.getElem?_set_self (List.getElem?_eq_some_iff.1 h1).1]
  · rw [List.getElem?_set_ne e]; exact h1
theorem PartN.step {ys : List Region} {xl : Int} {nr : List ByteArray} {sv : List Bool} {t j : Nat} {nm : ByteArray} {Y : Region} (hm : MapOk ys) (h : PartN ys xl nr sv t) (hn : nr[t]? = some nm) (hY : ys[j]? = some Y) (hi : Y.id = nm) (hs : Y.level = xl → sv[j]? = some true) : PartN ys xl nr sv (t + 1) := fun t' nm' ht hn' b y hy hyi hl => by
  by_cases e : t' = t
  · subst e
    rw [hn] at hn'; cases hn'
    have : b = j := hm.uniq b j y Y hy hY (by rw [hyi, hi])
    subst this
    rw [hY] at hy; cases hy
    exact hs hl
  · exact h t' nm' (by omega) hn' b y hy hyi hl
theorem PartN.all {ys : List Region} {a : Nat} {x : Region} {sv : List Bool} {m : Nat} (h : PartN ys x.level x.near sv m) (hx : ys[a]? = some x) (hm : x.near.length ≤ m) : ∀ b, adjR ys a b → sv[b]? = some true := fun b ⟨x', y, hx', hy, hl, hn⟩ => by
  rw [hx] at hx'; cases hx'
  obtain ⟨t, ht, e⟩ := List.getElem_of_mem hn
  exact h t y.id (by omega) (by rw [List.getElem?_eq_getElem ht, e]) b y hy rfl hl.symm
set_option maxRecDepth 100000 in
set_option maxHeartbeats 2000000 in
theorem joined_any (A : Option Addr) (n c : Nat) (ys : List Region) (w : World) (hx : Region.Sl w A n ys) (hm : MapOk ys) (h8 : n ≤ 8) :
    Calls Try.prog 37 #[.slice A n c] w (RetP (fun v _ => ∃ B cc, v = .slice B (compsR ys) cc) w) := by
  have hmk := make_n (P := Try.prog) (t := 89) (n := n) Try.underlying89 infoBool (by omega) (by omega)
  have HL := Lib.hid hx.len
  have HX := Lib.hid hx
  have HM := Lib.hid hm
  clear hx hm
  go_enter Try.func37, Try.ntmps37
  go_wp2
  clear hmk
  rw [madeBools]
  obtain ⟨bs, hbs⟩ : ∃ bs, w.heap.size = bs := ⟨_, rfl⟩
  have HBS := Lib.hid hbs
  have HQ0 : Hid (QAt w bs (List.replicate ys.length false) (.slice none 0 0) [] (.slice none 0 0) [] (w.alloc (.cells ((List.replicate n false).map Value.bool).toArray 4))) := by
    rw [HL.out]
    exact ⟨hbs ▸ Own.new w _ _, OwnsL.nil_ _ _ _ _ _, OwnsL.nil_ _ _ _ _ _, (Below.refl _ _).alloc (Nat.le_refl _) _, by omega, fun k hk => by simp [Value.ownBlock] at hk, fun k hk => by simp [Value.ownBlock] at hk, fun k hk => by simp [Value.ownBlock] at hk⟩
  rw [hbs]
  clear hbs
  go_loopg [3, 17] n (fun gk s3 i wr => ∃ (k : Nat) (sv : List Bool) (ps : List RowR) (vs : Value), k ≤ n ∧ gk = n - k ∧ i = .int .i64 k ∧ vs = s3 ∧ OutS ys k sv ∧ ps.length = compsK ys k ∧ QAt w bs sv vs ps (.slice none 0 0) [] wr)
  case atStart => exact ⟨0, _, [], _, Nat.zero_le _, rfl, rfl, rfl, OutS.zero ys, rfl, HQ0.out⟩
  case round =>
    obtain ⟨k, sv, ps, vs, hk, hgk, rfl, rfl, hos, hpl, hq⟩ := hrel
    have Hgk := Lib.hid hgk
    have HOS := Lib.hid hos
    have HPL := Lib.hid hpl
    have HQ := Lib.hid hq
    have hsl := hos.len
    rw [HL.out] at hsl
    have HSL := Lib.hid hsl
    clear hgk hos hpl hq
    by_cases hlt : k < n
    rotate_left
    · have hkn : k = n := by omega
      subst hkn
      obtain ⟨B, cc, rfl, _, _, _⟩ := HQ.out.sets.slice RowR.cells_len
      have HV : Hid (ps.length = compsR ys) := by rw [Hid, compsR, HL.out]; exact HPL.out
      have HB := Lib.hid HQ.out.below
      rw [HV.out]
      clear hsl
      go_wp2
      go_ret
      exact RetP.mk ⟨_, _, rfl⟩ HB.out
    have lbs := HQ.out.seen.lt
    have fbs := HQ.out.seen.frozen
    cases hsk : sv[k]? with
    | none => rw [List.getElem?_eq_none_iff] at hsk; omega
    | some bk =>
    have y0 := HQ.out.cell hsk
    cases bk
    rotate_left
    · have ho := HOS.out.old hsk
      have HO := Lib.hid ho.2
      have HC := Lib.hid (compsK_old ho.1)
      clear ho hsk hsl
      go_wp2
      go_roundg (n - (k + 1))
      case measure => have := Hgk.out; omega
      case rel => exact ⟨k + 1, sv, ps, vs, by omega, rfl, by go_num, rfl, HO.out, by rw [HC.out]; exact HPL.out, HQ.out⟩
    have hst := Bfs.start HOS.out hsk
    have HC := Lib.hid (compsK_new hst.1)
    have HBF := Lib.hid hst.2
    have hq1 := (HQ.out.mark k).one (k : Int)
    have hsz : (wr.setCell ⟨bs, k, none⟩ (.bool true)).heap.size = wr.heap.size := by simp
    rw [hsz] at hq1
    have HQ1 := Lib.hid hq1
    clear hq1 hsz
    clear hst hsk hsl
    go_wp2
    clear y0 lbs fbs
    go_loopg [6, 7] n (fun gk s6 s7 wr => ∃ (d : Nat) (sv : List Bool) (q : List Int), d ≤ n ∧ gk = n - d ∧ s7 = .int .i64 d ∧ Bfs ys k sv q d ∧ QAt w bs sv vs ps s6 q wr)
    case atStart => exact ⟨0, _, _, Nat.zero_le _, rfl, rfl, HBF.out, HQ1.out⟩
    case round =>
      obtain ⟨d, sv, q, hd, hgd, rfl, hbf, hq⟩ := hrel
      have HGD := Lib.hid hgd
      have HBF := Lib.hid hbf
      obtain ⟨B, cq, rfl, hc1, hc2, hB⟩ := hq.que.look
      have hql := hbf.qlen
      rw [HL.out] at hql
      have hdl := hbf.dl
      obtain ⟨L, hL⟩ : ∃ L, q.length = L := ⟨_, rfl⟩
      rw [hL] at hq hc1 hql hdl ⊢
      have HLQ := Lib.hid hL
      have HQ := Lib.hid hq
      clear hgd hbf hq hL hB
      by_cases hdlt : d < L
      rotate_left
      · have hne : q ≠ [] := fun e => by have := HBF.out.root; rw [e] at this; cases this
        obtain ⟨g, cap, hv, _, _⟩ := HQ.out.que.block hne
        injection hv with e1 e2 e3
        subst e1 e3
        have HO := Lib.hid (HBF.out.done (by rw [HLQ.out]; omega))
        clear hne e2
        obtain rfl : d = L := by omega
        clear hdlt
        go_wp2_with fail
        (with_reducible refine (sort_own HQ.out.que (by omega)).mono ?_)
        rintro e w3 ⟨rfl, hown3, hg3⟩
        have HQ3 := Lib.hid (HQ.out.sorted rfl hown3 hg3)
        clear hown3 hg3
        have hpl8 : ps.length ≤ 8 := by have h1 := compsK_le ys k; have h2 := HPL.out; omega
        obtain ⟨SA, sc, rfl, _, _, _⟩ := HQ3.out.sets.slice RowR.cells_len
        obtain ⟨P, hP⟩ : ∃ P, ps.length = P := ⟨_, rfl⟩
        rw [hP] at HQ3 hpl8 ⊢
        have HPP := Lib.hid hP
        clear hP
        go_wp2_with (at_builtin; refine wpList_push2 (by rfl) (.tmp 77) (.tmp 79) 64 (by rfl) w.heap.size 27 1 Try.underlying64 infoRow (by rfl) (by decide) RowR.cells RowR.cells_len RowR.cells_one _ (.slice SA P sc) ps ⟨some ⟨g, 0, none⟩, d, cq, []⟩ (by rfl) (by rfl) HQ3.out.sets (by first | rfl | simp [go_sem]) (by rw [HPP.out]; omega) (by decide) HQ3.out.below.size ?_)
        intro v' w' hown' hb' hkp hob
        have HQ4 := Lib.hid (HQ3.out.pushSet hown' hb' hkp hob)
        clear hown' hb' hkp hob
        go_wp2
        go_roundg (n - (k + 1))
        case measure => have := Hgk.out; omega
        case rel => exact ⟨k + 1, sv, _, v', by omega, rfl, by go_num, rfl, HO.out, by rw [HC.out, ← HPL.out]; simp, HQ4.out⟩
      obtain ⟨b5, o5, xq, rfl, hb5, hxq, z0⟩ := ints_at (HQ.out.que.sl i64cells_len) hdlt
      obtain ⟨a, rfl, ha, hca⟩ := HBF.out.conn xq (List.mem_of_getElem? hxq)
      have HXQ := Lib.hid hxq
      have han : a < n := by rw [← HL.out]; exact ha
      obtain ⟨b1, o1, ⟨xi, xl, NA, NN, NC, nr⟩, rfl, hb1, hxk, hix, x0, x1, x2⟩ := HX.out.at_ han
      have HBW := HQ.out.below
      replace x0 := (HBW.cell hb1).trans x0
      replace x1 := (HBW.cell hb1).trans x1
      replace x2 := (HBW.cell hb1).trans x2
      replace hb1 := Nat.lt_of_lt_of_le hb1 HBW.size
      simp only [RegionR.val] at hxk x0 x1 x2
      obtain ⟨X, hX⟩ : ∃ X : Region, X = ⟨xi, xl, nr⟩ := ⟨_, rfl⟩
      rw [← hX] at hxk
      have hXn : X.near = nr := by rw [hX]
      have hXl : X.level = xl := by rw [hX]
      have HXN := Lib.hid hXn
      have HXL := Lib.hid hXl
      have Hx := Lib.hid hxk
      have HIN : Hid (SliceOf w 1 strcells NA NN nr) := hix.1
      have hNN := hix.1.le
      have HBX : Hid (∃ bx, wr.heap.size = bx) := ⟨_, rfl⟩
      have HOX := Lib.hid (Own.new wr 34 #[.string xi, .int .i64 xl, .slice NA NN NC])
      have HQX := Lib.hid (HQ.out.grow ((Below.refl _ _).alloc (Nat.le_refl _) (.cells #[.string xi, .int .i64 xl, .slice NA NN NC] 34)))
      have HNB : Hid (∀ k, (Value.slice (some ⟨b5, o5, none⟩) L cq).ownBlock = some k → k ≠ wr.heap.size) := fun k hk => by have := (HQ.out.que.lt k hk).2; omega
      clear hxq hca ha hxk hix hX hXn hXl HBW hc1 hc2 hdl
      go_wp2
      obtain ⟨wa, hwa⟩ : ∃ wa, wr.alloc (.cells #[.string xi, .int .i64 xl, .slice NA NN NC] 34) = wa := ⟨_, rfl⟩
      rw [hwa] at HOX HQX ⊢
      clear hwa x0 x1 x2 z0 hb5 hb1
      obtain ⟨bx, hbx⟩ := HBX.out
      have HBN : Hid (bx ≠ bs) := by have := HQ.out.seen.lt; rw [Hid]; omega
      rw [hbx] at HOX HNB ⊢
      clear hbx
      go_loopg [6, 45] NN (fun gk s6 s45 wr => ∃ (t : Nat) (sv : List Bool) (q : List Int), t ≤ NN ∧ gk = NN - t ∧ s45 = .int .i64 t ∧ Bfs ys k sv q d ∧ q[d]? = some (a : Int) ∧ QAt w bs sv vs ps s6 q wr ∧ Own wr bx 34 #[.string xi, .int .i64 xl, .slice NA NN NC] ∧ (∀ k, s6.ownBlock = some k → k ≠ bx) ∧ PartN ys xl nr sv t)
      case atStart => exact ⟨0, sv, q, Nat.zero_le _, rfl, rfl, HBF.out, HXQ.out, HQX.out, HOX.out, HNB.out, PartN.zero⟩
      case round =>
        obtain ⟨t, sv, q, ht, hgt, rfl, hbf, hqd, hq, hox, hnb, hpt⟩ := hrel
        have HGT := Lib.hid hgt
        have HBT := Lib.hid hbf
        have HQD := Lib.hid hqd
        have HPT := Lib.hid hpt
        have hql := hbf.qlen
        have hsl := hbf.len
        rw [HL.out] at hql hsl
        have HSL := Lib.hid hsl
        by_cases htl : t < NN
        rotate_left
        · have htn : t = NN := by omega
          subst htn
          have HB2 := Lib.hid (hbf.mono hqd (PartN.all (x := X) (by rw [HXL.out, HXN.out]; exact hpt) Hx.out (by rw [HXN.out, HIN.out.len]; exact Nat.le_refl _)))
          have HQ2 := Lib.hid hq
          clear hgt hbf hqd hq hox hnb hpt hql hsl
          go_wp2
          go_roundg (n - (d + 1))
          case measure => have := HGD.out; omega
          case rel => exact ⟨d + 1, sv, q, by omega, rfl, by go_num, HB2.out, HQ2.out⟩
        obtain ⟨B, cq, rfl, hc1, hc2, hB⟩ := hq.que.look
        obtain ⟨b3, o3, nm, rfl, hb3, hnm, z0⟩ := strs_at (HIN.out.below hq.below) htl
        have HNM := Lib.hid hnm
        have HQ := Lib.hid hq
        have HOX := Lib.hid hox
        have HNB := Lib.hid hnb
        obtain ⟨j, Y, hY, hYi, hfj⟩ := HM.out.find (List.mem_of_getElem? Hx.out) (nm := nm) (by rw [HXN.out]; exact List.mem_of_getElem? hnm)
        have HY := Lib.hid hY
        have HYI := Lib.hid hYi
        have hjn : j < n := by rw [← HL.out]; exact (List.getElem?_eq_some_iff.1 hY).1
        obtain ⟨L, hL⟩ : ∃ L, q.length = L := ⟨_, rfl⟩
        rw [hL] at HQ HNB hc1 hql ⊢
        have HLQ := Lib.hid hL
        have HXW := Lib.hid (HX.out.below hq.below)
        clear hgt hbf hqd hq hox hnb hpt hnm hY hYi hL hB
        go_wp2_with fail
        refine (regionAt_any nm _ _ _ ys _ HXW.out).mono ?_
        rintro e w5 ⟨rfl, hb5⟩
        rw [hfj]
        have HQ5 := Lib.hid (HQ.out.grow hb5)
        have HOX5 := Lib.hid (HOX.out.below' hb5)
        have HXW5 := Lib.hid (HXW.out.below hb5)
        clear hfj hb5 z0 hb3
        obtain ⟨b2, o2, ⟨yi, yl, MA, MN, MC, mr⟩, he, hb2, hyk, hiy, v0, v1, v2⟩ := HXW5.out.at_ hjn
        injection he with he
        injection he with he1 he2 _
        subst he1 he2
        simp only [RegionR.val] at hyk v0 v1 v2
        have HYL : Hid (Y.level = yl) := by rw [HY.out] at hyk; injection hyk with hyk; rw [Hid, hyk]
        have u1 : w5.cell? ⟨bx, 1, none⟩ = some (.int .i64 xl) := HOX5.out.cell 1
        have lx := HOX5.out.lt
        have lbs := HQ5.out.seen.lt
        clear hyk hiy v0 v2
        cases hsj : sv[j]? with
        | none => rw [List.getElem?_eq_none_iff] at hsj; omega
        | some bj =>
        have y0 := HQ5.out.cell hsj
        have hsub := fun (g : Sub w5) b o (h : b < w5.heap.size) => g.cell b o h
        cases bj
        rotate_left
        · have HP2 := Lib.hid (HPT.out.step HM.out HNM.out HY.out HYI.out (fun _ => hsj))
          go_wp2_with fail
          refine wp_region_sub (by kernel_rfl) (by kernel_rfl) ?_
          repeat (go_big_quiet_step (fail))
          refine wpQuiet_nil ?_
          intro wg hg
          have HQ6 := Lib.hid (HQ5.out.grow hg)
          have HOX6 := Lib.hid (HOX5.out.below' hg)
          clear hsub y0 u1 lx lbs v1 hb2 hg hsj hsl
          go_wp2
          go_roundg (NN - (t + 1))
          case measure => have := HGT.out; omega
          case rel => exact ⟨t + 1, sv, q, by omega, rfl, by go_num, HBT.out, HQD.out, HQ6.out, HOX6.out, HNB.out, HP2.out⟩
        by_cases hll : yl = xl
        rotate_left
        · have HP2 := Lib.hid (HPT.out.step HM.out HNM.out HY.out HYI.out (fun h => absurd (HYL.out.symm.trans h) hll))
          have hlb : (yl == xl) = false := by simp [hll]
          clear hll
          go_wp2_with fail
          refine wp_region_sub (by kernel_rfl) (by kernel_rfl) ?_
          repeat (go_big_quiet_step (fail))
          refine wpQuiet_nil ?_
          intro wg hg
          have HQ6 := Lib.hid (HQ5.out.grow hg)
          have HOX6 := Lib.hid (HOX5.out.below' hg)
          clear hsub y0 u1 lx lbs v1 hb2 hg hsj hsl hlb
          go_wp2
          go_roundg (NN - (t + 1))
          case measure => have := HGT.out; omega
          case rel => exact ⟨t + 1, sv, q, by omega, rfl, by go_num, HBT.out, HQD.out, HQ6.out, HOX6.out, HNB.out, HP2.out⟩
        have hlb : (yl == xl) = true := by simp [hll]
        have HADJ : Hid (adjR ys a j) := ⟨X, Y, Hx.out, HY.out, by rw [HXL.out, HYL.out, hll], by rw [HXN.out, HYI.out]; exact List.mem_of_getElem? HNM.out⟩
        have HB2 := Lib.hid (HBT.out.push hsj (List.mem_of_getElem? HQD.out) HADJ.out)
        have HP2 : Hid (PartN ys xl nr (sv.set j true) (t + 1)) := (HPT.out.set j).step HM.out HNM.out HY.out HYI.out (fun _ => List.getElem?_set_self (by rw [HSL.out]; exact hjn))
        have HQD2 : Hid ((q ++ [(j : Int)])[d]? = some (a : Int)) := by rw [Hid, List.getElem?_append_left (List.getElem?_eq_some_iff.1 HQD.out).1]; exact HQD.out
        clear hll
        go_wp2_with fail
        refine wp_region_sub (by kernel_rfl) (by kernel_rfl) ?_
        repeat (go_big_quiet_step (fail))
        refine wpQuiet_nil ?_
        intro wg hg
        have HQ6 := Lib.hid (HQ5.out.grow hg)
        have HOX6 := Lib.hid (HOX5.out.below' hg)
        clear hsub y0 u1 lx lbs v1 hb2 hg hsj hsl hlb
        have y0 := HQ6.out.seen.frozen
        have lbs := HQ6.out.seen.lt
        obtain ⟨z, hz⟩ : ∃ z, wg.cell? ⟨bs, j, none⟩ = some z := by
          refine ⟨_, (HQ6.out.seen.cell j).trans (Array.getElem?_eq_getElem ?_)⟩
          simp [HSL.out]
          exact hjn
        have HQ7 := Lib.hid (HQ6.out.mark j)
        go_wp2_with (at_builtin; refine wpList_push2 (by rfl) (.tmp 70) (.tmp 72) 27 (by rfl) w.heap.size 2 1 Try.underlying27 infoI64 (by rfl) (by decide) i64cells i64cells_len i64cells_one _ (.slice B L cq) q (j : Int) (by rfl) (by rfl) HQ7.out.que (by first | rfl | simp [go_sem]) (by rw [HLQ.out]; omega) (by decide) HQ7.out.below.size ?_)
        intro v' w' hown' hb' hkp hob
        have HQ8 := Lib.hid (HQ7.out.push hown' hb' (fun b hb hne => hkp b (by simpa using hb) hne) (by simpa using hob))
        have HOX8 : Hid (Own w' bx 34 #[.string xi, .int .i64 xl, .slice (some ⟨b3, o3, none⟩) NN NC]) := (hkp bx HOX6.out.lt (fun e => HNB.out bx e.symm rfl)).trans ((Below.heap_setCell wg ⟨bs, j, none⟩ _ bx HBN.out).trans HOX6.out)
        have HNB8 : Hid (∀ k, v'.ownBlock = some k → k ≠ bx) := fun k hk => by
          rcases hob with e | e
          · exact HNB.out k (e ▸ hk)
          · rw [e] at hk; injection hk with hk; have := HOX6.out.lt; omega
        clear hown' hb' hkp hob y0 lbs hz
        go_wp2
        go_roundg (NN - (t + 1))
        case measure => have := HGT.out; omega
        case rel => exact ⟨t + 1, _, _, by omega, rfl, by go_num, HB2.out, HQD2.out, HQ8.out, HOX8.out, HNB8.out, HP2.out⟩

end Go.Proofs.Ytpibiieibofggaa
