/- The program's count of the ways to give turns: what is remembered in its map. -/
import Derived.Test.YtjidibohbbdboaaDoorCntM
import Derived.Test.YtjidibohbbdboaaDoorTurnQ
import Derived.Test.YtjidibohbbdboaaDoorListT
import Derived.Test.YtjidibohbbdboaaDoorCopyN
import Derived.Test.YtjidibohbbdboaaDoorSeek
import Derived.Deep.RegionHeld3
import Derived.BigQuiet
import Derived.Deep.AppendLies
namespace Go.Proofs.YtjidibohbbdboaaDoor
open Go.RowKit

theorem belowC_step {a x y : World} (k : Below x.heap.size x y) (h : Below a.heap.size a x) : Below a.heap.size a y := h.trans (k.mono h.size)
theorem belowC_alc {a x : World} (h : Below a.heap.size a x) (o : Obj) : Below a.heap.size a (x.alloc o) := h.alloc h.size o
theorem belowC_low {a x y : World} (k : Below a.heap.size x y) (h : Below a.heap.size a x) : Below a.heap.size a y := h.trans k
theorem spanC_below {lo hi : Nat} {a x y : World} (k : Below x.heap.size x y) (h : Span lo hi a x) : Span lo hi a y := h.trans (Span.of_below k (Nat.le_refl _))
theorem spanC_alc {lo hi : Nat} {a x : World} (h : Span lo hi a x) (o : Obj) : Span lo hi a (x.alloc o) := spanC_below ((Below.refl _ _).alloc (Nat.le_refl _) o) h
theorem spanC_drew {lo hi : Nat} {a x : World} (h : Span lo hi a x) : Span lo hi a x.drew := spanC_below ((Below.refl _ _).drew) h
theorem spanC_span {lo hi : Nat} {a x y : World} (k : Span lo hi x y) (h : Span lo hi a x) : Span lo hi a y := h.trans k
theorem spanC_low {lo hi : Nat} {a x y : World} (k : Below a.heap.size x y) (h : Span lo hi a x) : Span lo hi a y :=
  ⟨k.os.trans h.os, k.tape.trans h.tape, k.output.trans h.output, Nat.le_trans h.size k.size, fun i hi' ho => (k.block i hi').trans (h.block i hi' ho)⟩
/-- append of one number that lies somewhere, at a step of a region that draws. -/
theorem step_pushAt {P : Program} {ops : Array Oper} {o : Oper} {a : Act} {K : Act → World → Prop} {Q : Exit → Act → World → Prop} {E : Prop} {w : World} (hw : Region.wanted o (yielded ops a.tmps) = true) (s x : Operand) (t : TypeId)
    (ho : o.op = .call { callee := .builtin .append, args := #[s, x], argTypes := #[t, t] })
    (base : Nat) (e : TypeId) {z : Value} {bytes : Nat} (ht : P.underlying t = some (.slice e)) (hinfo : (P.info? e).map (fun i => (i.zero, i.size, i.bytes)) = some (some z, 1, bytes)) (hzs : z.cells.size = 1)
    (v : Value) (xs : List Int) (y : Int) (gx : Nat) (hs : a.eval s = v) (hown : OwnsL w base e 1 i64cells v xs) (hx : a.eval x = .slice (some ⟨gx, 0, none⟩) 1 1) (hcx : w.cell? ⟨gx, 0, none⟩ = some (.int .i64 y))
    (hlen : xs.length ≤ 1048576) (hby : bytes ≤ 1024) (hbase : base ≤ w.heap.size)
    (h : ∀ v' w', OwnsL w' base e 1 i64cells v' (xs ++ [y]) → Below base w w' → K (a.put o.dst v') w') : if Region.wanted o (yielded ops a.tmps) = true then Oper.wp P o a w K Q else E := by
  rw [if_pos hw]
  obtain ⟨i, hi, hz, hsize, hbytes⟩ := info_parts hinfo
  refine wp_append_lies w s x t ho base e i z 1 bytes ht hi hz hsize hbytes hzs (by decide) v xs.length (xs.flatMap i64cells) hs hown ⟨gx, 0, none⟩ 1 1 (i64cells y) hx (by rw [i64cells_len]) ?_ (i64cells_one y) (by decide) ?_ ?_ hbase _ rfl ?_
  · intro j u hu
    match j, hu with
    | 0, hu => rw [addr_add0]; simp [i64cells] at hu; subst hu; exact hcx
    | j + 1, hu => simp [i64cells] at hu
  · simp [maxLen]; omega
  · have : (xs.length + 1) * bytes ≤ 1048577 * 1024 := Nat.mul_le_mul (by omega) hby
    omega
  · intro g cap w' h1 h2 _ _
    have hrow := World.ownsRow.lt hown
    exact h _ w' (by unfold OwnsL; simpa using h1) ((Below.refl base w).grown h2 hbase (fun k hk => (hrow k hk).1))
theorem span_grown {b : Nat} {x y : World} (h : x.grownBy y (some b)) : Span b (b + 1) x y := by
  obtain ⟨h1, h2, h3, h4, h5⟩ := h
  exact ⟨h1, h2, h3, h4, fun i hi ho => h5 i hi (fun e => by injection e with e; omega)⟩
theorem ownC {T : TypeId} {a x y W : World} {v : Value} {xs : List Int} (h : OwnsL y x.heap.size T 1 i64cells v xs) (h1 : a.heap.size ≤ x.heap.size) (h2 : Below y.heap.size y W) : OwnsL W a.heap.size T 1 i64cells v xs := (h.below' h2).rebase h1
theorem cellC_new (w : World) (x : Value) (t : TypeId) : (w.alloc (.cells #[x] t)).cell? ⟨w.heap.size, 0, none⟩ = some x := by rw [World.cell?_alloc_new]; rfl
theorem cellC_keep {w W : World} (x : Value) (t : TypeId) (h : Below (w.alloc (.cells #[x] t)).heap.size (w.alloc (.cells #[x] t)) W) : W.cell? ⟨w.heap.size, 0, none⟩ = some x := by
  rw [World.cell?_of_block (h.block w.heap.size (by simp))]
  exact cellC_new w x t
def capI : Nat → Nat
  | 0 => 0
  | f + 1 => 8 * capI f + 1
def CntD (n m g : Nat) (ab : List Row) (b N r : Nat) (w : World) (e : Ending) (w' : World) : Prop := e = .returned (.int .i64 (r : Int)) ∧ MapAt n m g ab b N w' ∧ Span b (b + 1) w w'
set_option maxRecDepth 100000 in
set_option maxHeartbeats 2000000 in
theorem count_any (na m g : Nat) (A : Option Addr) (ca : Nat) (ab : List Row) (b : Nat) (w0 : World) (hx : Row.Sl w0 A na ab) (hok : TurnsOk na m g ab) (hb0 : w0.heap.size ≤ b) (ht : TabAt w0.heap.size w0) :
    ∀ (f : Nat) (given : List Int) (v : Value) (N : Nat) (w : World), OwnsL w 0 2 1 i64cells v given → (∀ k, v.ownBlock = some k → k ≠ b) → given.length + f = m → Ppl given → Below w0.heap.size w0 w → MapAt na m g ab b N w → N + capI f ≤ 1000000000000000 →
    Calls Tryd.prog 21 #[.agg #[.int .i64 (na : Int), .int .i64 (m : Int), .int .i64 (g : Int), .slice A na ca, .map (some b)], v] w (CntD na m g ab b (N + capI f) (waysN na g ab f given) w) := by
  have HX := Lib.hid hx
  have HT := Lib.hid ht
  obtain ⟨hn1, hn8, hm12, hg1, hg12, hlen, hrow⟩ := hok
  clear hx hlen hrow ht
  intro f
  induction f with
  | zero =>
    intro given v N w hown hvb hgm hpp hbw hmp hcap
    obtain ⟨B, c, rfl, hc1, hc2, hB⟩ := hown.look
    have hgm' : given.length = m := by omega
    rw [hgm']
    have hB : Below w.heap.size w (w.alloc (.cells #[.int .i64 (na : Int), .int .i64 (m : Int), .int .i64 (g : Int), .slice A na ca, .map (some b)] 41)) := (Below.refl _ _).alloc (Nat.le_refl _) _
    have HM := Lib.hid (hmp.below hB)
    have HS : Hid (Span b (b + 1) w (w.alloc (.cells #[.int .i64 (na : Int), .int .i64 (m : Int), .int .i64 (g : Int), .slice A na ca, .map (some b)] 41))) := Span.of_below hB (Nat.le_refl _)
    have hq : ((m : Int) == (m : Int)) = true := by simp
    clear hown hvb hgm hpp hmp hcap hbw hB
    go_enter Tryd.func21, Tryd.ntmps21
    go_wp2
    go_ret
    exact ⟨rfl, HM.out, HS.out⟩
  | succ f ih =>
    intro given v N w hown hvb hgm hpp hbw hmp hcap
    have HIH := Lib.hid ih
    clear ih
    obtain ⟨B, c, rfl, hc1, hc2, hB⟩ := hown.look
    obtain ⟨l, hl⟩ : ∃ l, given.length = l := ⟨_, rfl⟩
    rw [hl] at hown hvb hgm hc1 ⊢
    have HL := Lib.hid hl
    have hl12 : l < 12 := by omega
    have hqf : ((l : Int) == (m : Int)) = false := by simp; omega
    have hB1 : Below w.heap.size w (w.alloc (.cells #[.int .i64 (na : Int), .int .i64 (m : Int), .int .i64 (g : Int), .slice A na ca, .map (some b)] 41)) := (Below.refl _ _).alloc (Nat.le_refl _) _
    obtain ⟨w1, hw1⟩ : ∃ w1, w.alloc (.cells #[.int .i64 (na : Int), .int .i64 (m : Int), .int .i64 (g : Int), .slice A na ca, .map (some b)] 41) = w1 := ⟨_, rfl⟩
    have HO : Hid (Own w1 w.heap.size 41 #[.int .i64 (na : Int), .int .i64 (m : Int), .int .i64 (g : Int), .slice A na ca, .map (some b)]) := by rw [Hid, ← hw1]; exact Own.new w 41 #[.int .i64 (na : Int), .int .i64 (m : Int), .int .i64 (g : Int), .slice A na ca, .map (some b)]
    rw [hw1] at hB1
    have HB1 := Lib.hid hB1
    have HW1 := Lib.hid (hbw.trans (hB1.mono hbw.size))
    have HGV := Lib.hid (hown.below' hB1)
    have HM1 := Lib.hid (hmp.below hB1)
    have HVB := Lib.hid hvb
    have HBL : Hid (b < w.heap.size) := hmp.lt
    have HPP := Lib.hid hpp
    have HCAP := Lib.hid hcap
    have HGM := Lib.hid hgm
    obtain ⟨lo, hlo⟩ : ∃ lo, recLo g l = lo := ⟨_, rfl⟩
    have HKY : Hid (keyL g given = given.drop lo) := by rw [Hid]; unfold keyL; rw [hl, hlo]
    obtain ⟨hz1, hz2⟩ := keyS_size (g := g) hpp
    rw [hl] at hz1
    obtain ⟨T1, hT1⟩ : ∃ T, dec (l : Int) = T := ⟨_, rfl⟩
    obtain ⟨T2, hT2⟩ : ∃ T, textList (keyL g given) = T := ⟨_, rfl⟩
    rw [hT1] at hz1
    rw [hT2] at hz2
    have HKS : Hid (keyS g given = (T1 ++ ⟨#[58]⟩) ++ T2) := by rw [Hid, ← hT1, ← hT2, ← hl]; rfl
    have hC1 : ∀ W : World, Below w1.heap.size w1 W → Calls Tryd.prog 36 #[.int .i64 (l : Int)] W (Ret (.string T1) W) := fun W h => by
      rw [← hT1]
      have hbw2 := HW1.out.trans (h.mono HW1.out.size)
      exact implDecimal_any _ W (by unfold I64; omega) ((HT.out.on hbw2).up hbw2.size)
    have hC2 : ∀ W : World, Below w1.heap.size w1 W → Calls Tryd.prog 38 #[.agg #[.int .i64 (na : Int), .int .i64 (m : Int), .int .i64 (g : Int), .slice A na ca, .map (some b)], .slice B l c] W (Rest W lo l given) := fun W h => by
      have h2 := (HGV.out.below' h).sl i64cells_len
      have h3 := recent_any na m g A na ca (.map (some b)) B l c given W h2 hc1 hB hg1 hg12 (by omega)
      rw [hlo] at h3
      exact h3
    have hC3 : ∀ (W1 W : World) (B' : Option Addr) (c' : Nat), SliceOf W1 1 i64cells B' (l - lo) (given.drop lo) → Below W1.heap.size W1 W → Below w1.heap.size w1 W → Calls Tryd.prog 37 #[.slice B' (l - lo) c'] W (Ret (.string T2) W) := fun W1 W B' c' h h1 h2 => by
      have hbw2 := HW1.out.trans (h2.mono HW1.out.size)
      have h3 := implListText_any B' (l - lo) c' (given.drop lo) W (h.below h1) (by omega) (fun y hy => by have := HPP.out.2 y (List.mem_of_mem_drop hy); omega) ((HT.out.on hbw2).up hbw2.size)
      rw [← HKY.out, hT2] at h3
      exact h3
    have HC1 := Lib.hid hC1
    have HC2 := Lib.hid hC2
    have HC3 := Lib.hid hC3
    have hs1 : ¬ 9223372036854775807 < T1.size + 1 := by omega
    have hs2 : ¬ 9223372036854775807 < T1.size + 1 + T2.size := by omega
    obtain ⟨KS, hKS⟩ : ∃ KS, keyS g given = KS := ⟨_, rfl⟩
    have hKZ : KS.size ≤ 1000 := by
      rw [← hKS, HKS.out, ByteArray.size_append, ByteArray.size_append]
      have : (⟨#[58]⟩ : ByteArray).size = 1 := rfl
      omega
    have HKZ := Lib.hid hKZ
    rw [hKS] at HKS
    have HKK : Hid (keyK g given = .string KS.data.toList) := by rw [Hid, ← hKS]; rfl
    have HCC := Lib.hid hc1
    have HBN := Lib.hid hB
    clear hlo hT1 hT2 hC1 hC2 hC3 hz1 hz2 hown hvb hgm hpp hbw hmp hcap hB1 hl hc1 hc2 hB hKS hKZ
    have HSH : Hid (∀ w', Below w1.heap.size w1 w' → w'.cell? ⟨w.heap.size, 0, none⟩ = some (.int .i64 (na : Int)) ∧ w'.cell? ⟨w.heap.size, 1, none⟩ = some (.int .i64 (m : Int)) ∧ w'.cell? ⟨w.heap.size, 2, none⟩ = some (.int .i64 (g : Int)) ∧ w'.cell? ⟨w.heap.size, 3, none⟩ = some (.slice A na ca) ∧ w'.cell? ⟨w.heap.size, 4, none⟩ = some (.map (some b)) ∧ Below w1.heap.size w1 w') := fun w' h => by
      have h2 := HO.out.below' h
      exact ⟨h2.cell 0, h2.cell 1, h2.cell 2, h2.cell 3, h2.cell 4, h⟩
    obtain ⟨y0, y1, y2, y3, y4, _⟩ := HSH.out w1 (Below.refl _ _)
    go_enter Tryd.func21, Tryd.ntmps21
    go_upto_region 3 with fail
    go_cut [5] from 15 to 23 (fun s5 wx => s5 = .string KS ∧ Below w1.heap.size w1 wx)
    case first =>
      go_region_held3 (fun w' => w'.cell? ⟨w.heap.size, 0, none⟩ = some (.int .i64 (na : Int)) ∧ w'.cell? ⟨w.heap.size, 1, none⟩ = some (.int .i64 (m : Int)) ∧ w'.cell? ⟨w.heap.size, 2, none⟩ = some (.int .i64 (g : Int)) ∧ w'.cell? ⟨w.heap.size, 3, none⟩ = some (.slice A na ca) ∧ w'.cell? ⟨w.heap.size, 4, none⟩ = some (.map (some b)) ∧ Below w1.heap.size w1 w') (first | exact HSH.out _ (by (first | (with_reducible exact (And.right (And.right (And.right (And.right (And.right (by assumption))))))) | repeat (first | (with_reducible exact Below.refl _ _) | (with_reducible refine Below.drew ?_) | (with_reducible refine belowC_alc ?_ _) | (with_reducible refine belowC_step (by assumption) ?_) | (with_reducible refine belowC_low (by assumption) ?_))))) (first | (go_at_call 36; (with_reducible refine Calls.mono (HC1.out _ (by (first | (with_reducible exact (And.right (And.right (And.right (And.right (And.right (by assumption))))))) | repeat (first | (with_reducible exact Below.refl _ _) | (with_reducible refine Below.drew ?_) | (with_reducible refine belowC_alc ?_ _) | (with_reducible refine belowC_step (by assumption) ?_) | (with_reducible refine belowC_low (by assumption) ?_))))) ?_); rintro e wq1 ⟨rfl, hbq1⟩) | (go_at_call 38; (with_reducible refine Calls.mono (HC2.out _ (by (first | (with_reducible exact (And.right (And.right (And.right (And.right (And.right (by assumption))))))) | repeat (first | (with_reducible exact Below.refl _ _) | (with_reducible refine Below.drew ?_) | (with_reducible refine belowC_alc ?_ _) | (with_reducible refine belowC_step (by assumption) ?_) | (with_reducible refine belowC_low (by assumption) ?_))))) ?_); rintro e wq2 ⟨Br, cr, rfl, hsr, hbq2⟩) | (go_at_call 37; (with_reducible refine Calls.mono (HC3.out wq2 _ _ _ hsr (by (first | (with_reducible exact (And.right (And.right (And.right (And.right (And.right (by assumption))))))) | repeat (first | (with_reducible exact Below.refl _ _) | (with_reducible refine Below.drew ?_) | (with_reducible refine belowC_alc ?_ _) | (with_reducible refine belowC_step (by assumption) ?_) | (with_reducible refine belowC_low (by assumption) ?_)))) (by (first | (with_reducible exact (And.right (And.right (And.right (And.right (And.right (by assumption))))))) | repeat (first | (with_reducible exact Below.refl _ _) | (with_reducible refine Below.drew ?_) | (with_reducible refine belowC_alc ?_ _) | (with_reducible refine belowC_step (by assumption) ?_) | (with_reducible refine belowC_low (by assumption) ?_))))) ?_); rintro e wq3 ⟨rfl, hbq3⟩))
      all_goals (go_wp2_with fail; go_meet; exact ⟨congrArg Value.string HKS.out.symm, by (first | (with_reducible exact (And.right (And.right (And.right (And.right (And.right (by assumption))))))) | repeat (first | (with_reducible exact Below.refl _ _) | (with_reducible refine Below.drew ?_) | (with_reducible refine belowC_alc ?_ _) | (with_reducible refine belowC_step (by assumption) ?_) | (with_reducible refine belowC_low (by assumption) ?_)))⟩)
    case rest =>
      obtain ⟨rfl, hb2⟩ := hcut
      obtain ⟨w2, hw2⟩ : ∃ w2, wc = w2 := ⟨_, rfl⟩
      rw [hw2] at hb2 ⊢
      clear hw2 y0 y1 y2 y3 y4 HC1 HC2 HC3 hs1 hs2 HKS
      obtain ⟨D, hown, hmemo⟩ := HM1.out.below hb2
      have HM2 := Lib.hid (HM1.out.below hb2)
      have HO2 := Lib.hid (HO.out.below' hb2)
      have HGV2 := Lib.hid (HGV.out.below' hb2)
      have HW2 := Lib.hid (HW1.out.trans (hb2.mono HW1.out.size))
      have HB2 := Lib.hid (HB1.out.trans (hb2.mono HB1.out.size))
      have hbt : b + 1 ≤ w.heap.size := HBL.out
      obtain ⟨y0, y1, y2, y3, y4, _⟩ := HSH.out w2 hb2
      have hkey := key_of HKZ.out
      clear HSH hb2 HO HGV HM1
      cases hhas : Maps.has D (.string KS.data.toList)
      rotate_left
      · have HV : Hid (∀ cL : Int, D.atKey (.string KS.data.toList) (.lit (.int .i64 0)) = .lit (.int .i64 cL) → cL = (waysN na g ab (f + 1) given : Nat)) := fun cL hat => by
          have h := hmemo given (f + 1) HPP.out (by rw [HL.out]; exact HGM.out) (by rw [HKK.out]; exact hhas)
          rw [HKK.out] at h
          have h2 := hat.symm.trans h
          unfold cntD at h2
          injection h2 with h2
          injection h2
        have HEND : Hid (CntD na m g ab b (N + capI (f + 1)) (waysN na g ab (f + 1) given) w (.returned (.int .i64 (waysN na g ab (f + 1) given : Nat))) w2) := ⟨rfl, HM2.out.mono (Nat.le_add_right _ _), Span.of_below HB2.out (Nat.le_refl _)⟩
        go_wp2_with (at_lookup; refine wpList_lookup_own_ok_int _ (by rfl) _ _ 39 (by rfl) 9 2 .i64 strKeyed Tryd.underlying39 Tryd.underlying2 (zeroI64 _) b N D (by first | rfl | simp [go_sem]) hown _ _ (by rfl) hkey ?_; intro cL hat hwc; rw [hhas])
        go_ret
        rw [HV.out cL hat]
        exact HEND.out
      clear hmemo
      go_wp2_with (at_lookup; refine wpList_lookup_own_ok_int _ (by rfl) _ _ 39 (by rfl) 9 2 .i64 strKeyed Tryd.underlying39 Tryd.underlying2 (zeroI64 _) b N D (by first | rfl | simp [go_sem]) hown _ _ (by rfl) hkey ?_; intro cL hat hwc; rw [hhas])
      clear hat hwc hhas hown hkey y0 y1 y2 y3 y4
      go_loopg [8, 35] na (fun gk s8 s35 wr => ∃ k : Nat, k ≤ na ∧ gk = na - k ∧ s8 = .int .i64 ((waysK na g ab f given k : Nat) : Int) ∧ s35 = .int .i64 k ∧ MapAt na m g ab b (N + k * capI f) wr ∧ Span b (b + 1) w2 wr)
      case atStart => exact ⟨0, Nat.zero_le _, rfl, rfl, rfl, by rw [Nat.zero_mul]; exact HM2.out, Span.refl _ _ _⟩
      case round =>
        obtain ⟨k, hk, hgk, rfl, rfl, hmr, hsr⟩ := hrel
        obtain ⟨wq, hwq⟩ : ∃ wq, wr = wq := ⟨_, rfl⟩
        rw [hwq] at hmr hsr ⊢
        clear hwq
        have Hgk := Lib.hid hgk
        have HMR := Lib.hid hmr
        have HSR := Lib.hid hsr
        have HWQ : Hid (Below w0.heap.size w0 wq) := Below.span HW2.out hsr HW2.out.size hb0
        have HOQ : Hid (Own wq w.heap.size 41 #[.int .i64 (na : Int), .int .i64 (m : Int), .int .i64 (g : Int), .slice A na ca, .map (some b)]) := (hsr.block _ HO2.out.lt (.inr hbt)).trans HO2.out
        have HGQ : Hid (OwnsL wq 0 2 1 i64cells (.slice B l c) given) := HGV2.out.span hsr (fun k2 hk2 => by have := HVB.out k2 hk2; omega)
        have hbs : w.heap.size < wq.heap.size := HOQ.out.lt
        clear hgk hmr hsr
        by_cases hlt : k < na
        · have y0 := HOQ.out.cell 0
          have y1 := HOQ.out.cell 1
          have y2 := HOQ.out.cell 2
          have y3 := HOQ.out.cell 3
          have y4 := HOQ.out.cell 4
          simp at y0 y1 y2 y3 y4
          have hsl : SliceOf wq 1 i64cells B l given := HGQ.out.sl i64cells_len
          go_wp2_with fail
          refine (turnMay_any na m g A na ca (.map (some b)) ab B l c given k _ (HX.out.below HWQ.out) hsl HCC.out HBN.out hg1 hg12 (by omega) hlt).mono ?_
          rintro e w3 ⟨rfl, hb3⟩
          have HM3 := Lib.hid (HMR.out.below hb3)
          have HS3 : Hid (Span b (b + 1) w2 w3) := spanC_below hb3 HSR.out
          have HW3 := Lib.hid (HWQ.out.trans (hb3.mono HWQ.out.size))
          have HO3 := Lib.hid (HOQ.out.below' hb3)
          have HG3 := Lib.hid (HGQ.out.below' hb3)
          clear y0 y1 y2 y3 y4 hsl hb3 hbs HMR HSR HWQ HOQ HGQ
          cases hmay : mayB g ab given k
          · have HWK : Hid (waysK na g ab f given (k + 1) = waysK na g ab f given k) := by rw [Hid, waysK_succ, hmay]; rfl
            clear hmay
            go_wp2
            go_roundg (na - (k + 1))
            case measure => have := Hgk.out; omega
            case rel => exact ⟨k + 1, by omega, rfl, by rw [HWK.out], by go_num, HM3.out.mono (Nat.add_le_add_left (Nat.mul_le_mul_right _ (Nat.le_succ k)) _), HS3.out⟩
          obtain ⟨S0, hS0⟩ : ∃ S0, waysK na g ab f given k = S0 := ⟨_, rfl⟩
          obtain ⟨R0, hR0⟩ : ∃ R0, waysN na g ab f (given ++ [(k : Int)]) = R0 := ⟨_, rfl⟩
          have HWK : Hid (waysK na g ab f given (k + 1) = S0 + R0) := by rw [Hid, waysK_succ, hmay, if_pos rfl, hS0, hR0]
          have hbd : S0 + R0 ≤ 549755813888 := by
            rw [← HWK.out]
            have h1 := waysK_le (n := na) (g := g) (ab := ab) hn8 f given (k + 1)
            have h2 : (k + 1) * 8 ^ f ≤ 8 * 8 ^ f := Nat.mul_le_mul_right _ (by omega)
            have h3 : 8 ^ f ≤ 8 ^ 12 := Nat.pow_le_pow_right (by decide) (by have := HGM.out; omega)
            have h4 : (8 : Nat) ^ 12 = 68719476736 := by decide
            omega
          have hwr : IntKind.i64.wrap ((S0 : Int) + (R0 : Int)) = ((S0 + R0 : Nat) : Int) := by
            rw [IntWalk.i64_in _ ⟨by omega, by omega⟩]; omega
          have HGL : Hid (given.length ≤ 1048576) := by rw [Hid, HL.out]; omega
          have hkc : (k + 1) * capI f ≤ 8 * capI f := Nat.mul_le_mul_right _ (by omega)
          have hkc2 : (k + 1) * capI f = k * capI f + capI f := Nat.succ_mul _ _
          have hcap2 : N + capI (f + 1) ≤ 1000000000000000 := HCAP.out
          have hcapS : capI (f + 1) = 8 * capI f + 1 := rfl
          have HNC : Hid (N + k * capI f + capI f ≤ 1000000000000000) := by rw [Hid]; omega
          have HNE : Hid (N + k * capI f + capI f = N + (k + 1) * capI f) := by rw [Hid]; omega
          have HCL : Hid (∀ W : World, Span b (b + 1) w3 W → Calls Tryd.prog 25 #[.slice B l c] W (RetL 2 1 i64cells given W)) := fun W h => by
            have h2 : OwnsL W 0 2 1 i64cells (.slice B l c) given := HG3.out.span h (fun k2 hk2 => by have := HVB.out k2 hk2; omega)
            exact cloneI_look h2 HGL.out
          have HB3L : Hid (b < w3.heap.size) := HM3.out.lt
          have HCT : Hid (∀ (W : World) (va : Value), OwnsL W w3.heap.size 2 1 i64cells va (given ++ [(k : Int)]) → Below w3.heap.size w3 W → Calls Tryd.prog 21 #[.agg #[.int .i64 (na : Int), .int .i64 (m : Int), .int .i64 (g : Int), .slice A na ca, .map (some b)], va] W (CntD na m g ab b (N + k * capI f + capI f) R0 W)) := fun W va h h2 => by
            have h3 := HIH.out (given ++ [(k : Int)]) va (N + k * capI f) W (h.rebase (Nat.zero_le _)) (fun k2 hk2 => by have := (h.lt k2 hk2).1; have := HB3L.out; omega) (by have := HGM.out; have := HL.out; simp; omega) (HPP.out.snoc (by rw [HL.out]; omega) (by omega)) (HW3.out.trans (h2.mono HW3.out.size)) (HM3.out.below h2) HNC.out
            rw [hR0] at h3
            exact h3
          have HSH3 : Hid (∀ w', Span b (b + 1) w3 w' → w'.cell? ⟨w.heap.size, 0, none⟩ = some (.int .i64 (na : Int)) ∧ w'.cell? ⟨w.heap.size, 1, none⟩ = some (.int .i64 (m : Int)) ∧ w'.cell? ⟨w.heap.size, 2, none⟩ = some (.int .i64 (g : Int)) ∧ w'.cell? ⟨w.heap.size, 3, none⟩ = some (.slice A na ca) ∧ w'.cell? ⟨w.heap.size, 4, none⟩ = some (.map (some b)) ∧ Span b (b + 1) w3 w') := fun w' h => by
            have h2 : Own w' w.heap.size 41 #[.int .i64 (na : Int), .int .i64 (m : Int), .int .i64 (g : Int), .slice A na ca, .map (some b)] := (h.block _ HO3.out.lt (.inr hbt)).trans HO3.out
            exact ⟨h2.cell 0, h2.cell 1, h2.cell 2, h2.cell 3, h2.cell 4, h⟩
          obtain ⟨y0, y1, y2, y3, y4, _⟩ := HSH3.out w3 (Span.refl _ _ _)
          rw [hS0]
          clear hmay hS0 hR0 hkc hkc2 hcap2 hcapS hbd
          go_upto_region 12 with fail
          go_region_held3 (fun w' => w'.cell? ⟨w.heap.size, 0, none⟩ = some (.int .i64 (na : Int)) ∧ w'.cell? ⟨w.heap.size, 1, none⟩ = some (.int .i64 (m : Int)) ∧ w'.cell? ⟨w.heap.size, 2, none⟩ = some (.int .i64 (g : Int)) ∧ w'.cell? ⟨w.heap.size, 3, none⟩ = some (.slice A na ca) ∧ w'.cell? ⟨w.heap.size, 4, none⟩ = some (.map (some b)) ∧ Span b (b + 1) w3 w') (first | exact HSH3.out _ (by (first | (with_reducible exact (And.right (And.right (And.right (And.right (And.right (by assumption))))))) | repeat (first | (with_reducible exact Span.refl _ _ _) | (with_reducible refine spanC_drew ?_) | (with_reducible refine spanC_alc ?_ _) | (with_reducible refine spanC_below (by assumption) ?_) | (with_reducible refine spanC_low (by assumption) ?_) | (with_reducible refine spanC_span (by assumption) ?_))))) (first | (go_at_call 25; (with_reducible refine Calls.mono (HCL.out _ (by (first | (with_reducible exact (And.right (And.right (And.right (And.right (And.right (by assumption))))))) | repeat (first | (with_reducible exact Span.refl _ _ _) | (with_reducible refine spanC_drew ?_) | (with_reducible refine spanC_alc ?_ _) | (with_reducible refine spanC_below (by assumption) ?_) | (with_reducible refine spanC_low (by assumption) ?_) | (with_reducible refine spanC_span (by assumption) ?_))))) ?_); rintro e wc3 ⟨vc, rfl, hoc, hbc⟩) | (refine step_pushAt (by first | rfl | simp [Region.wanted]) (.tmp 45) (.tmp 47) 29 (by rfl) w3.heap.size 2 Tryd.underlying29 infoI64 (by rfl) _ given (k : Int) _ (by rfl) (ownC hoc (by first | exact Nat.le_refl _ | simp) (by (first | (with_reducible exact (And.right (And.right (And.right (And.right (And.right (by assumption))))))) | repeat (first | (with_reducible exact Below.refl _ _) | (with_reducible refine Below.drew ?_) | (with_reducible refine belowC_alc ?_ _) | (with_reducible refine belowC_step (by assumption) ?_) | (with_reducible refine belowC_low (by assumption) ?_))))) (by first | rfl | simp [go_sem]) (by first | exact cellC_new _ _ _ | exact cellC_keep (w := w3) _ _ (by (first | (with_reducible exact (And.right (And.right (And.right (And.right (And.right (by assumption))))))) | repeat (first | (with_reducible exact Below.refl _ _) | (with_reducible refine Below.drew ?_) | (with_reducible refine belowC_alc ?_ _) | (with_reducible refine belowC_step (by assumption) ?_) | (with_reducible refine belowC_low (by assumption) ?_)))) | exact cellC_keep (w := w3.drew) _ _ (by (first | (with_reducible exact (And.right (And.right (And.right (And.right (And.right (by assumption))))))) | repeat (first | (with_reducible exact Below.refl _ _) | (with_reducible refine Below.drew ?_) | (with_reducible refine belowC_alc ?_ _) | (with_reducible refine belowC_step (by assumption) ?_) | (with_reducible refine belowC_low (by assumption) ?_))))) HGL.out (by decide) (by first | exact (by (first | (with_reducible exact (And.right (And.right (And.right (And.right (And.right (by assumption))))))) | repeat (first | (with_reducible exact Below.refl _ _) | (with_reducible refine Below.drew ?_) | (with_reducible refine belowC_alc ?_ _) | (with_reducible refine belowC_step (by assumption) ?_) | (with_reducible refine belowC_low (by assumption) ?_))) : Below w3.heap.size w3 _).size) ?_; intro va wa hoa hba) | (go_at_call 21; (with_reducible refine Calls.mono (HCT.out _ _ hoa (by (first | (with_reducible exact (And.right (And.right (And.right (And.right (And.right (by assumption))))))) | repeat (first | (with_reducible exact Below.refl _ _) | (with_reducible refine Below.drew ?_) | (with_reducible refine belowC_alc ?_ _) | (with_reducible refine belowC_step (by assumption) ?_) | (with_reducible refine belowC_low (by assumption) ?_))))) ?_); rintro e wz ⟨rfl, hmz, hsz⟩))
          all_goals
            have HMZ : Hid (MapAt na m g ab b (N + (k + 1) * capI f) wz) := by rw [Hid, ← HNE.out]; exact hmz
            have HSZ : Hid (Span b (b + 1) w2 wz) := HS3.out.trans (by (first | (with_reducible exact (And.right (And.right (And.right (And.right (And.right (by assumption))))))) | repeat (first | (with_reducible exact Span.refl _ _ _) | (with_reducible refine spanC_drew ?_) | (with_reducible refine spanC_alc ?_ _) | (with_reducible refine spanC_below (by assumption) ?_) | (with_reducible refine spanC_low (by assumption) ?_) | (with_reducible refine spanC_span (by assumption) ?_))))
            clear hmz hsz y0 y1 y2 y3 y4
            go_wp2
            go_roundg (na - (k + 1))
            case measure => have := Hgk.out; omega
            case rel => exact ⟨k + 1, by omega, rfl, by rw [HWK.out, Int.natCast_add], by go_num, HMZ.out.grow rfl, HSZ.out⟩
        · have hkn : k = na := by omega
          subst hkn
          have y0 := HOQ.out.cell 0
          have y1 := HOQ.out.cell 1
          have y2 := HOQ.out.cell 2
          have y3 := HOQ.out.cell 3
          have y4 := HOQ.out.cell 4
          simp at y0 y1 y2 y3 y4
          have HWN : Hid (waysN k g ab (f + 1) given = waysK k g ab f given k) := rfl
          have hbd : waysK k g ab f given k ≤ 549755813888 := by
            have h1 := waysK_le (n := k) (g := g) (ab := ab) hn8 f given k
            have h2 : k * 8 ^ f ≤ 8 * 8 ^ f := Nat.mul_le_mul_right _ hn8
            have h3 : 8 ^ f ≤ 8 ^ 12 := Nat.pow_le_pow_right (by decide) (by have := HGM.out; omega)
            have h4 : (8 : Nat) ^ 12 = 68719476736 := by decide
            omega
          obtain ⟨D2, hown, hmemo⟩ := HMR.out
          have HMP := Lib.hid (hmemo.put hg1 hown.isMap (f := f + 1) HPP.out (by rw [HL.out]; exact HGM.out))
          rw [HKK.out, HWN.out] at HMP
          obtain ⟨S0, hS0⟩ : ∃ S0, waysK k g ab f given k = S0 := ⟨_, rfl⟩
          rw [hS0] at HMP HWN hbd ⊢
          have hkey := key_of HKZ.out
          have hroom : N + k * capI f < maxLen := by
            have h1 : k * capI f ≤ 8 * capI f := Nat.mul_le_mul_right _ hn8
            have h2 : N + (8 * capI f + 1) ≤ 1000000000000000 := HCAP.out
            unfold maxLen; omega
          have HN1 : Hid (N + k * capI f + 1 ≤ N + capI (f + 1)) := by
            have h1 : k * capI f ≤ 8 * capI f := Nat.mul_le_mul_right _ hn8
            have h2 : capI (f + 1) = 8 * capI f + 1 := rfl
            rw [Hid]; omega
          have hwf : (Lit.int .i64 (S0 : Int)).wf = true := by
            simp only [Lit.wf, Bool.and_eq_true, decide_eq_true_eq]
            have h1 : IntKind.i64.min = -9223372036854775808 := by decide
            have h2 : IntKind.i64.max = 9223372036854775807 := by decide
            omega
          have HS0 := Lib.hid (Span.of_below (lo := b) (hi := b + 1) HB2.out (Nat.le_refl _))
          clear hmemo hS0 hbs
          go_wp2_with (at_mapUpdate; refine wpList_mapUpdate_own _ (by rfl) _ _ _ 39 (by rfl) 9 2 strKeyed Tryd.underlying39 _ b _ D2 (by first | rfl | simp [go_sem]) hown hroom _ _ _ (by rfl) (by rfl) hkey _ [] (plainElem_int Tryd.underlying2 hwf) ?_; intro wz hown1 hgrow1)
          have HMZ : Hid (MapAt k m g ab b (N + capI (f + 1)) wz) := MapAt.mono ⟨_, hown1, HMP.out⟩ HN1.out
          have HSZ : Hid (Span b (b + 1) w wz) := (HS0.out.trans HSR.out).trans (span_grown hgrow1)
          clear hown1 hgrow1 hown y0 y1 y2 y3 y4 hkey
          go_wp2
          go_ret
          refine ⟨?_, HMZ.out, HSZ.out⟩
          rw [HWN.out]
          rfl

end Go.Proofs.YtjidibohbbdboaaDoor
