/- FastestRoute of the reference. -/
import Derived.Test.YtamgodeiakflbaaDoorFarS
import Derived.Test.YtamgodeiakflbaaDoorRoutes
import Derived.Test.YtamgodeiakflbaaDoorHas
namespace Go.Proofs.YtamgodeiakflbaaDoor
open Go.RowKit

theorem val_at {f : List Int} {a n : Nat} {A : Option Addr} {w : World} (h : SliceOf w 1 i64cells A n f) (ha : a < n) : ∃ b o, A = some ⟨b, o, none⟩ ∧ b < w.heap.size ∧ w.cell? ⟨b, o + a, none⟩ = some (.int .i64 (val f a)) := by
  obtain ⟨b, o, x, hA, hb, hx, hc⟩ := ints_at h ha
  refine ⟨b, o, hA, hb, ?_⟩
  rw [val_get (by rw [h.len]; exact ha)] at hx
  injection hx with hx
  rw [hx]; exact hc
theorem val_cell {f : List Int} {a n b o : Nat} {w : World} (h : SliceOf w 1 i64cells (some ⟨b, o, none⟩) n f) (ha : a < n) : w.cell? ⟨b, o + a, none⟩ = some (.int .i64 (val f a)) := by
  obtain ⟨b', o', hA, _, hc⟩ := val_at h ha
  injection hA with hA
  injection hA with e1 e2 _
  subst e1 e2
  exact hc
theorem all_step {P : Nat → Bool} {p : Nat} (h : ∀ q, q < p → P q = false) (hp : P p = false) : ∀ q, q < p + 1 → P q = false := fun q hq => by
  rcases Nat.lt_or_ge q p with h' | h'
  · exact h q h'
  · have : q = p := by omega
    rw [this]; exact hp
/-- The error of points, legs, a start and a goal. -/
def askC (pts : Int) (xs : List Leg) (s g : Int) : Int := if legsOk pts xs = false then 1 else if (inB s 0 (pts - 1) && inB g 0 (pts - 1)) = false then 2 else 0
theorem askC_zero {pts : Int} {xs : List Leg} {s g : Int} (h : askC pts xs s g = 0) : ∃ n a b : Nat, pts = n ∧ s = a ∧ g = b ∧ legsOk (n : Int) xs = true ∧ a < n ∧ b < n ∧ n ≤ 12 := by
  unfold askC at h
  cases h1 : legsOk pts xs
  · rw [if_pos h1] at h; cases h
  · rw [if_neg (by rw [h1]; simp)] at h
    cases h2 : (inB s 0 (pts - 1) && inB g 0 (pts - 1))
    · rw [if_pos h2] at h; cases h
    · rw [Bool.and_eq_true, inB_iff, inB_iff] at h2
      have h4 := legsOk_pts h1
      refine ⟨pts.toNat, s.toNat, g.toNat, by omega, by omega, by omega, ?_, by omega, by omega, by omega⟩
      rw [show ((pts.toNat : Nat) : Int) = pts by omega]
      exact h1
theorem fastC_ask {pts : Int} {xs : List Leg} {s g : Int} (h : askC pts xs s g ≠ 0) : fastC pts xs s g = askC pts xs s g := by
  unfold fastC askC at *
  split
  · rfl
  · split
    · rfl
    · rename_i h1 h2
      rw [if_neg h1, if_neg h2] at h
      exact absurd rfl h
theorem fastC_on {n a b : Nat} {xs : List Leg} (h : askC n xs a b = 0) : fastC n xs a b = if val (farL xs n b) a < 0 then 3 else 0 := by
  unfold fastC
  unfold askC at h
  split at h
  · cases h
  · split at h
    · cases h
    · rename_i h1 h2
      rw [if_neg h1, if_neg h2]
      simp only [Int.toNat_natCast]
set_option maxHeartbeats 1000000 in
theorem l23Ask_any (pts s g : Int) (A : Option Addr) (n c : Nat) (xs : List Leg) (w : World) (hx : SliceOf w 4 Leg.cells A n xs) :
    Calls Tryd.prog 34 #[.int .i64 pts, .slice A n c, .int .i64 s, .int .i64 g] w (Ret (.int .i64 (askC pts xs s g)) w) := by
  cases hv : legsOk pts xs
  · have HC : Hid (askC pts xs s g = 1) := by rw [Hid]; unfold askC; rw [if_pos hv]
    go_enter Tryd.func34, Tryd.ntmps34
    go_wp2_with fail
    refine (l23Ok_any _ _ _ _ xs _ hx).mono ?_
    rintro e w1 ⟨rfl, hb1⟩
    go_wp2
    go_ret
    exact Ret.i HC.out.symm hb1
  · have ⟨_, _⟩ := legsOk_pts hv
    have HV := Lib.hid hv
    rcases cases2 (inB s 0 (pts - 1)) (inB g 0 (pts - 1)) with h0 | ⟨h0, h1⟩ | ⟨h0, h1⟩
    · have HC : Hid (askC pts xs s g = 2) := by rw [Hid]; unfold askC; rw [if_neg (by rw [hv]; simp), if_pos (by rw [h0]; rfl)]
      go_enter Tryd.func34, Tryd.ntmps34
      go_wp2_with fail
      refine (l23Ok_any _ _ _ _ xs _ hx).mono ?_
      rintro e w1 ⟨rfl, hb1⟩
      go_wp2_with (go_at_call 48; refine (l00In_any _ _ _ _).mono ?_; rintro e w' ⟨rfl, rfl⟩)
      go_ret
      exact Ret.i HC.out.symm hb1
    · have HC : Hid (askC pts xs s g = 2) := by rw [Hid]; unfold askC; rw [if_neg (by rw [hv]; simp), if_pos (by rw [h0, h1]; rfl)]
      go_enter Tryd.func34, Tryd.ntmps34
      go_wp2_with fail
      refine (l23Ok_any _ _ _ _ xs _ hx).mono ?_
      rintro e w1 ⟨rfl, hb1⟩
      go_wp2_with (go_at_call 48; refine (l00In_any _ _ _ _).mono ?_; rintro e w' ⟨rfl, rfl⟩)
      go_ret
      exact Ret.i HC.out.symm hb1
    · have HC : Hid (askC pts xs s g = 0) := by rw [Hid]; unfold askC; rw [if_neg (by rw [hv]; simp), if_neg (by rw [h0, h1]; simp)]
      go_enter Tryd.func34, Tryd.ntmps34
      go_wp2_with fail
      refine (l23Ok_any _ _ _ _ xs _ hx).mono ?_
      rintro e w1 ⟨rfl, hb1⟩
      go_wp2_with (go_at_call 48; refine (l00In_any _ _ _ _).mono ?_; rintro e w' ⟨rfl, rfl⟩)
      go_ret
      exact Ret.i HC.out.symm hb1
theorem goOn_cases {xs : List Leg} {f : List Int} {a p : Nat} {va vp : Int} (ha : val f a = va) (hp : val f p = vp) : (findI (legP (a : Int) (p : Int)) xs = -1 ∧ goOn xs f a p = false) ∨ ∃ (k : Nat) (x : Leg), xs[k]? = some x ∧ findI (legP (a : Int) (p : Int)) xs = k ∧ ((decide (0 ≤ vp) = false ∧ goOn xs f a p = false) ∨ (decide (0 ≤ vp) = true ∧ (vp + x.minutes == va) = false ∧ goOn xs f a p = false) ∨ (decide (0 ≤ vp) = true ∧ (vp + x.minutes == va) = true ∧ goOn xs f a p = true)) := by
  subst ha hp
  rcases leg_cases (xs := xs) (p := ((a : Int), (p : Int))) with ⟨k, x, hx, h1, h2, h3⟩ | ⟨h1, h2, h3⟩
  · right
    refine ⟨k, x, hx, h1, ?_⟩
    by_cases c1 : 0 ≤ val f p
    · by_cases c2 : val f p + x.minutes = val f a
      · exact .inr (.inr ⟨decide_eq_true c1, by simpa using c2, goOn_iff.2 ⟨h2, c1, by rw [h3]; exact c2⟩⟩)
      · refine .inr (.inl ⟨decide_eq_true c1, by simpa using c2, ?_⟩)
        rw [← Bool.not_eq_true, goOn_iff, h3]
        exact fun h => c2 h.2.2
    · refine .inl ⟨decide_eq_false c1, ?_⟩
      rw [← Bool.not_eq_true, goOn_iff]
      exact fun h => c1 h.2.1
  · left
    refine ⟨h1, ?_⟩
    rw [← Bool.not_eq_true, goOn_iff, h2]
    exact fun h => by cases h.1
theorem leg_self {pts : Int} {xs : List Leg} (hv : legsOk pts xs = true) (a : Nat) : findI (legP (a : Int) (a : Int)) xs = -1 := by
  rcases leg_cases (xs := xs) (p := ((a : Int), (a : Int))) with ⟨k, x, hx, h1, h2, h3⟩ | ⟨h1, _, _⟩
  · have hf := legs_fit hv x (List.mem_of_getElem? hx)
    have := hf.ft
    rcases findI_cases (p := legP (a : Int) (a : Int)) (xs := xs) with ⟨j, y, hy, hp, _, he⟩ | ⟨_, he⟩
    · have hf := legs_fit hv y (List.mem_of_getElem? hy)
      have := hf.ft
      unfold legP at hp
      simp only [Bool.and_eq_true, decide_eq_true_eq] at hp
      omega
    · exact he
  · exact h1
/-- Where the route stands: what is told, and what is still to come. -/
structure Stand (xs : List Leg) (n g s a : Nat) (pre : List Nat) : Prop where
  lt : a < n
  pos : 0 ≤ val (farL xs n g) a
  eq : pre ++ routeF xs (farL xs n g) n g (val (farL xs n g) a).toNat a = routeF xs (farL xs n g) n g (val (farL xs n g) s).toNat s
theorem Stand.end_ {xs : List Leg} {n g s : Nat} {pre : List Nat} (h : Stand xs n g s g pre) : routeF xs (farL xs n g) n g (val (farL xs n g) s).toNat s = pre ++ [g] := by
  rw [← h.eq]
  congr 1
  cases (val (farL xs n g) g).toNat with
  | zero => rfl
  | succ k => unfold routeF; rw [if_pos rfl]
theorem Stand.next {xs : List Leg} {n g s a p : Nat} {pre : List Nat} (hv : legsOk (n : Int) xs = true) (hg : g < n) (h : Stand xs n g s a pre) (hag : a ≠ g) (hp : p < n) (h1 : goOn xs (farL xs n g) a p = true) (h2 : ∀ q, q < p → goOn xs (farL xs n g) a q = false) : Stand xs n g s p (pre ++ [a]) ∧ val (farL xs n g) p < val (farL xs n g) a := by
  have hlt := goOn_less hv h1
  have h0 := (goOn_iff.1 h1).2.1
  have hn := nextOf_eq hp h1 h2
  refine ⟨⟨hp, h0, ?_⟩, hlt⟩
  rw [← h.eq, List.append_assoc]
  congr 1
  obtain ⟨d, hd⟩ : ∃ d, (val (farL xs n g) a).toNat = ((val (farL xs n g) p).toNat + d) + 1 := ⟨(val (farL xs n g) a).toNat - (val (farL xs n g) p).toNat - 1, by omega⟩
  rw [hd]
  conv => rhs; unfold routeF
  rw [if_neg hag, hn, routeF_more rfl hv hg _ p h0 (by omega) d]
  rfl
theorem routeF_pos (xs : List Leg) (f : List Int) (n g : Nat) : ∀ k a, 1 ≤ (routeF xs f n g k a).length
  | 0, a => by simp [routeF]
  | k + 1, a => by unfold routeF; split <;> simp
theorem Stand.len {xs : List Leg} {n g s a : Nat} {pre : List Nat} (h : Stand xs n g s a pre) : pre.length ≤ (val (farL xs n g) s).toNat := by
  have h1 := congrArg List.length h.eq
  rw [List.length_append] at h1
  have h2 := routeF_pos xs (farL xs n g) n g (val (farL xs n g) a).toNat a
  have h3 := routeF_len xs (farL xs n g) n g (val (farL xs n g) s).toNat s
  omega
theorem ownsL_lit (w : World) (xs : List Int) (base : Nat) (hb : base ≤ w.heap.size) (h : xs.length ≤ 1048576) : OwnsL (w.alloc (.cells (xs.map (Value.int .i64)).toArray 2)) base 2 1 i64cells (.slice (some ⟨w.heap.size, 0, none⟩) xs.length xs.length) xs :=
  (Own.new w 2 _).ownsL i64cells_len hb rfl (by simp) h (filled_ints xs)
theorem RetLT.no3 {T : TypeId} {L : List Int} {C c M m : Int} {w w' : World} (h : c = C) (hm : m = M) (hL : L = []) (hb : Below w.heap.size w w') : RetLT T 1 i64cells L [.int .i64 M, .int .i64 C] w (.returned (.tuple #[.slice none 0 0, .int .i64 m, .int .i64 c])) w' :=
  ⟨_, by rw [h, hm], by rw [hL]; exact OwnsL.nil_ _ _ _ _ _, hb⟩
theorem RetLT.yes3 {T : TypeId} {L : List Int} {C c M m : Int} {w w' : World} {v : Value} {base : Nat} (h : c = C) (hm : m = M) (ho : OwnsL w' base T 1 i64cells v L) (hbase : w.heap.size ≤ base) (hb : Below w.heap.size w w') : RetLT T 1 i64cells L [.int .i64 M, .int .i64 C] w (.returned (.tuple #[v, .int .i64 m, .int .i64 c])) w' :=
  ⟨_, by rw [h, hm], ho.rebase hbase, hb⟩
theorem fast_no {pts : Int} {xs : List Leg} {s g : Int} (h : fastC pts xs s g ≠ 0) : fastM pts xs s g = 0 ∧ fastR pts xs s g = [] := by
  unfold fastM fastR; rw [if_neg h, if_neg h]; exact ⟨rfl, rfl⟩
set_option maxRecDepth 100000 in
set_option maxHeartbeats 1000000 in
theorem specFastest_any (pts s g : Int) (A : Option Addr) (nl c : Nat) (xs : List Leg) (w : World) (hx : SliceOf w 4 Leg.cells A nl xs) :
    Calls Tryd.prog 15 #[.int .i64 pts, .slice A nl c, .int .i64 s, .int .i64 g] w (RetLT 2 1 i64cells (fastR pts xs s g) [.int .i64 (fastM pts xs s g), .int .i64 (fastC pts xs s g)] w) := by
  by_cases h0 : askC pts xs s g = 0
  rotate_left
  · have HN : Hid (fastC pts xs s g = askC pts xs s g) := fastC_ask h0
    have HM := Lib.hid (fast_no (show fastC pts xs s g ≠ 0 by rw [HN.out]; exact h0))
    have hne : (askC pts xs s g != 0) = true := by simp [h0]
    clear h0
    go_enter Tryd.func15, Tryd.ntmps15
    go_wp2_with fail
    refine (l23Ask_any _ _ _ _ _ _ xs _ hx).mono ?_
    rintro e w1 ⟨rfl, hb1⟩
    go_wp2
    go_ret3
    exact RetLT.no3 HN.out.symm HM.out.1.symm HM.out.2 hb1
  have hne : (askC pts xs s g != 0) = false := by simp [h0]
  have H0 := Lib.hid h0
  obtain ⟨n, a0, b0, rfl, rfl, rfl, hv, ha0, hb0, hn12⟩ := askC_zero h0
  have HV := Lib.hid hv
  have HX := Lib.hid hx
  have HL := Lib.hid hx.len
  have hnl : nl ≤ 24 := by rw [← hx.len]; exact legs_24 hv
  clear h0 hv hx
  go_enter Tryd.func15, Tryd.ntmps15
  go_wp2_with fail
  refine (l23Ask_any _ _ _ _ _ _ xs _ HX.out).mono ?_
  rintro e w1 ⟨rfl, hb1⟩
  have HB1 := Lib.hid hb1
  clear hb1
  go_wp2_with fail
  refine (l23Far_any n b0 _ _ _ xs _ (HX.out.below HB1.out) HV.out hb0 hn12).mono ?_
  rintro e w2 ⟨v, rfl, hown, hb2⟩
  clear hne
  obtain ⟨F, hF⟩ : ∃ F, farL xs n b0 = F := ⟨_, rfl⟩
  obtain ⟨FA, cF, rfl, hfc, hfm, hfs⟩ := hown.slice i64cells_len
  have hFl : F.length = n := by rw [← hF]; exact farL_len
  rw [hF] at hfs hfc hown ⊢
  rw [hFl] at hfs hfc ⊢
  have HF := Lib.hid hF
  have HFS := Lib.hid hfs
  have HB2 := Lib.hid (HB1.out.trans (hb2.mono HB1.out.size))
  have HFB : Hid (∀ p, -1 ≤ val F p ∧ val F p ≤ 403200) := fun p => by
    have h1 := (farL_tight (n := n) rfl HV.out hb0).two p
    have h2 := farL_bnd (n := n) rfl HV.out hb0 n p
    rw [← hF]; unfold farL at h1 ⊢; omega
  clear hown hfs hb2 hF hFl
  obtain ⟨bF, oF, rfl, hbF, fs⟩ := val_at HFS.out ha0
  obtain ⟨vs, hvs⟩ : ∃ z, val F a0 = z := ⟨_, rfl⟩
  rw [hvs] at fs
  have HVS := Lib.hid hvs
  have hvb := HFB.out a0
  rw [hvs] at hvb
  clear hvs
  by_cases hneg : vs < 0
  · have HN : Hid (fastC n xs a0 b0 = 3) := by rw [Hid, fastC_on H0.out, HF.out, HVS.out, if_pos hneg]
    have HM := Lib.hid (fast_no (show fastC n xs a0 b0 ≠ 0 by rw [HN.out]; decide))
    go_wp2
    go_ret3
    exact RetLT.no3 HN.out.symm HM.out.1.symm HM.out.2 HB2.out
  have HN : Hid (fastC n xs a0 b0 = 0) := by rw [Hid, fastC_on H0.out, HF.out, HVS.out, if_neg hneg]
  have hd : decide (vs < 0) = false := decide_eq_false hneg
  have HO1 : Hid (OwnsL (w2.alloc (.cells #[.int .i64 a0] 2)) w2.heap.size 2 1 i64cells (.slice (some ⟨w2.heap.size, 0, none⟩) 1 1) (([] ++ [a0]).map Int.ofNat)) := ownsL_lit w2 [(a0 : Int)] _ (Nat.le_refl _) (by simp)
  have HS1 : Hid (Stand xs n b0 a0 a0 []) := by
    refine ⟨ha0, ?_, rfl⟩
    rw [HF.out, HVS.out]; omega
  go_wp2
  clear hd fs
  go_loopg [13, 14, 15, 16] vs.toNat (fun gk s13 s14 _ _ wr => ∃ (a : Nat) (v : Value) (pre : List Nat), gk = (val F a).toNat ∧ s14 = .int .i64 a ∧ v = s13 ∧ Stand xs n b0 a0 a pre ∧ Below w2.heap.size w2 wr ∧ OwnsL wr w2.heap.size 2 1 i64cells v ((pre ++ [a]).map Int.ofNat))
  case atStart => exact ⟨a0, _, [], by rw [HVS.out], rfl, rfl, HS1.out, (Below.refl _ _).alloc (Nat.le_refl _) _, HO1.out⟩
  case round =>
    obtain ⟨a, v, pre, hgk, rfl, rfl, hst, hb, hown⟩ := hrel
    have Hgk := Lib.hid hgk
    have HST := Lib.hid hst
    have HB := Lib.hid hb
    have HO := Lib.hid hown
    have han := hst.lt
    clear hgk hst hb hown
    by_cases hag : a = b0
    · subst hag
      have HE := Lib.hid HST.out.end_
      have hq : ((a : Int) != (a : Int)) = false := by simp
      have hq2 : ((a : Int) == (a : Int)) = true := by simp
      have hlt := Nat.lt_of_lt_of_le hbF HB.out.size
      have fs := (HB.out.cell (p := ⟨bF, oF + a0, none⟩) hbF).trans (val_cell HFS.out ha0)
      rw [HVS.out] at fs
      have hsub := fun (g : Sub wr) b o (h : b < wr.heap.size) => g.cell b o h
      have HM : Hid (vs = fastM n xs a0 a) := by rw [Hid]; unfold fastM; rw [if_pos HN.out, Int.toNat_natCast, Int.toNat_natCast, Int.toNat_natCast, HF.out, HVS.out]
      have HR : Hid ((pre ++ [a]).map Int.ofNat = fastR n xs a0 a) := by rw [Hid]; unfold fastR; rw [if_pos HN.out, Int.toNat_natCast, Int.toNat_natCast, Int.toNat_natCast, HE.out]
      go_wp2_with fail
      refine wp_region_sub (by kernel_rfl) (by kernel_rfl) ?_
      repeat (go_big_quiet_step (fail))
      refine wpQuiet_nil ?_
      intro wg hg
      have HOg : Hid (OwnsL wg w2.heap.size 2 1 i64cells v (fastR n xs a0 a)) := by rw [Hid, ← HR.out]; exact HO.out.below' hg
      have HBg := Lib.hid (HB2.out.trans ((HB.out.trans (hg.mono HB.out.size)).mono HB2.out.size))
      clear hsub fs hg
      go_wp2
      go_ret3
      exact RetLT.yes3 HN.out.symm HM.out HOg.out HB2.out.size HBg.out
    · have hq : ((a : Int) != (b0 : Int)) = true := by simp; omega
      have hq2 : ((a : Int) == (b0 : Int)) = false := by simp; omega
      have HLN : Hid (pre.length ≤ 403201) := by
        have := HST.out.len
        rw [HF.out, HVS.out] at this
        rw [Hid]; omega
      have HNX : Hid (∃ p, p < n ∧ goOn xs F a p = true) := by rw [Hid, ← HF.out]; exact next_some rfl HV.out hb0 HST.out.pos hag
      go_wp2
      clear hq hq2
      go_loopg [14, 15, 16] n (fun gk s14 s15 _ wx => ∃ p : Nat, p ≤ n ∧ gk = n - p ∧ s14 = .int .i64 a ∧ s15 = .int .i64 p ∧ (∀ q, q < p → goOn xs F a q = false) ∧ Below wr.heap.size wr wx)
      case atStart => exact ⟨0, Nat.zero_le _, rfl, rfl, rfl, fun q h => absurd h (by omega), Below.refl _ _⟩
      case round =>
        obtain ⟨p, hp, hgp, rfl, rfl, hall, hbx⟩ := hrel
        have Hgp := Lib.hid hgp
        have HA := Lib.hid hall
        have HBX := Lib.hid (HB.out.trans (hbx.mono HB.out.size))
        have HOX := Lib.hid (HO.out.below' hbx)
        have HBR := Lib.hid hbx
        clear hgp hall hbx
        by_cases hpn : p < n
        · obtain ⟨va, hva⟩ : ∃ z, val F a = z := ⟨_, rfl⟩
          obtain ⟨vp, hvp⟩ : ∃ z, val F p = z := ⟨_, rfl⟩
          have hab := HFB.out a
          have hpb := HFB.out p
          rw [hva] at hab
          rw [hvp] at hpb
          have HVA := Lib.hid hva
          have HVP := Lib.hid hvp
          clear hva hvp
          go_wp2_with fail
          (with_reducible refine (l23Leg_any (a : Int) (p : Int) _ _ _ xs _ ((HX.out.below HB2.out).below (HBX.out))).mono ?_)
          rintro e w5 ⟨rfl, hb5⟩
          have HB5 := Lib.hid (HBX.out.trans (hb5.mono HBX.out.size))
          have HR5 := Lib.hid (HBR.out.trans (hb5.mono HBR.out.size))
          have HO5 := Lib.hid (HOX.out.below' hb5)
          clear hb5
          have fa := (HB5.out.cell (p := ⟨bF, oF + a, none⟩) hbF).trans (val_cell HFS.out han)
          have fp := (HB5.out.cell (p := ⟨bF, oF + p, none⟩) hbF).trans (val_cell HFS.out hpn)
          have hlt := Nat.lt_of_lt_of_le hbF HB5.out.size
          have hsub := fun (g : Sub w5) b o (h : b < w5.heap.size) => g.cell b o h
          rw [HVA.out] at fa
          rw [HVP.out] at fp
          by_cases hpa : p = a
          · subst hpa
            have hk := leg_self HV.out p
            have HG : Hid (goOn xs F p p = false) := by
              rcases goOn_cases (xs := xs) HVA.out HVA.out with ⟨_, h⟩ | ⟨k, x, _, h1, _⟩
              · exact h
              · rw [hk] at h1; omega
            have hq : ((p : Int) != (p : Int)) = false := by simp
            rw [hk]
            clear hk
            go_wp2_with fail
            refine wp_region_sub (by kernel_rfl) (by kernel_rfl) ?_
            repeat (go_big_quiet_step (fail))
            refine wpQuiet_nil ?_
            intro wg hg
            have HRg := Lib.hid (HR5.out.trans (hg.mono HR5.out.size))
            clear fa fp hlt hsub hg hq
            go_wp2
            go_roundg (n - (p + 1))
            case measure => have := Hgp.out; omega
            case rel => exact ⟨p + 1, by omega, rfl, rfl, by go_num, all_step HA.out HG.out, HRg.out⟩
          · have hq : ((p : Int) != (a : Int)) = true := by simp; omega
            rcases goOn_cases (xs := xs) HVA.out HVP.out with ⟨hk, hgo⟩ | ⟨k, x, hxk, hk, hgo⟩
            · have HG := Lib.hid hgo
              rw [hk]
              clear hk hgo
              go_wp2_with fail
              refine wp_region_sub (by kernel_rfl) (by kernel_rfl) ?_
              repeat (go_big_quiet_step (fail))
              refine wpQuiet_nil ?_
              intro wg hg
              have HRg := Lib.hid (HR5.out.trans (hg.mono HR5.out.size))
              clear fa fp hlt hsub hg hq
              go_wp2
              go_roundg (n - (p + 1))
              case measure => have := Hgp.out; omega
              case rel => exact ⟨p + 1, by omega, rfl, rfl, by go_num, all_step HA.out HG.out, HRg.out⟩
            · have hkn : k < nl := by rw [← HL.out]; exact (List.getElem?_eq_some_iff.1 hxk).1
              obtain ⟨b1, o1, x', hA, hbb, hxi, x0, x1, x2, x3⟩ := Leg.at_ HX.out hkn
              subst hA
              rw [hxk] at hxi
              injection hxi with hxi
              subst hxi
              have hf := legs_fit HV.out x (List.mem_of_getElem? hxk)
              have hm : 1 ≤ x.minutes ∧ x.minutes ≤ 600 := ⟨hf.m1, hf.m2⟩
              obtain ⟨m, hmm⟩ : ∃ m, x.minutes = m := ⟨_, rfl⟩
              rw [hmm] at x2 hm hgo
              have ⟨_, _⟩ := hm
              have HWX : Hid (Below w.heap.size w w5) := HB2.out.trans (HB5.out.mono HB2.out.size)
              have x2 := (HWX.out.cell (p := ⟨b1, o1 + k * 4 + 2, none⟩) hbb).trans x2
              have hlt1 := Nat.lt_of_lt_of_le hbb HWX.out.size
              have hs : IntKind.i64.wrap (vp + m) = vp + m := IntWalk.i64_in _ (by omega)
              rw [hk]
              clear hk hf hmm hm x0 x1 x3 hxk
              rcases hgo with ⟨c1, hgo⟩ | ⟨c1, c2, hgo⟩ | ⟨c1, c2, hgo⟩
              · have HG := Lib.hid hgo
                clear hgo
                go_wp2_with fail
                refine wp_region_sub (by kernel_rfl) (by kernel_rfl) ?_
                repeat (go_big_quiet_step (fail))
                refine wpQuiet_nil ?_
                intro wg hg
                have HRg := Lib.hid (HR5.out.trans (hg.mono HR5.out.size))
                clear fa fp hlt hsub hg hq x2 hlt1 hs c1
                go_wp2
                go_roundg (n - (p + 1))
                case measure => have := Hgp.out; omega
                case rel => exact ⟨p + 1, by omega, rfl, rfl, by go_num, all_step HA.out HG.out, HRg.out⟩
              · have HG := Lib.hid hgo
                clear hgo
                go_wp2_with fail
                refine wp_region_sub (by kernel_rfl) (by kernel_rfl) ?_
                repeat (go_big_quiet_step (fail))
                refine wpQuiet_nil ?_
                intro wg hg
                have HRg := Lib.hid (HR5.out.trans (hg.mono HR5.out.size))
                clear fa fp hlt hsub hg hq x2 hlt1 hs c1 c2
                go_wp2
                go_roundg (n - (p + 1))
                case measure => have := Hgp.out; omega
                case rel => exact ⟨p + 1, by omega, rfl, rfl, by go_num, all_step HA.out HG.out, HRg.out⟩
              · have HNS : Hid (Stand xs n b0 a0 p (pre ++ [a]) ∧ val F p < val F a) := by
                  have h := HST.out.next HV.out hb0 hag hpn (by rw [HF.out]; exact hgo) (by rw [HF.out]; exact HA.out)
                  rw [HF.out] at h
                  exact h
                clear hgo
                go_wp2_with fail
                refine wp_region_sub (by kernel_rfl) (by kernel_rfl) ?_
                repeat (go_big_quiet_step (fail))
                refine wpQuiet_nil ?_
                intro wg hg
                have HRg := Lib.hid (HB5.out.trans (hg.mono HB5.out.size))
                have HOg := Lib.hid (HO5.out.below' hg)
                clear fa fp hlt hsub hg hq x2 hlt1 hs c1 c2
                go_wp2_with (at_builtin; refine wpList_push (by rfl) (.tmp 81) (.tmp 83) 28 (by rfl) w2.heap.size 2 1 Tryd.underlying28 infoI64 (by rfl) (by decide) i64cells i64cells_len i64cells_one _ v _ (p : Int) (by rfl) (by rfl) HOg.out (by first | rfl | simp [go_sem]) (by have := HLN.out; simp; omega) (by decide) HRg.out.size ?_)
                intro v' w' hown' hb' _
                have HW : Hid (OwnsL w' w2.heap.size 2 1 i64cells v' (((pre ++ [a]) ++ [p]).map Int.ofNat)) := by rw [Hid]; simpa using hown'
                have HBw := Lib.hid (HRg.out.trans hb')
                clear hown' hb'
                go_wp2
                go_roundg (val F p).toNat
                case measure => have h1 := Hgk.out; have h2 := HNS.out.2; have := HFB.out p; have := HNS.out.1.pos; rw [HF.out] at this; omega
                case rel => exact ⟨p, v', pre ++ [a], rfl, rfl, rfl, HNS.out.1, HBw.out, HW.out⟩
        · obtain ⟨q, hq, hgo⟩ := HNX.out
          rw [HA.out q (by omega)] at hgo
          cases hgo

end Go.Proofs.YtamgodeiakflbaaDoor
