/- When regions are valid: both sides. -/
import Derived.Test.YtpibiieibofggaaRegI
namespace Go.Proofs.Ytpibiieibofggaa
open Go.RowKit

def lessS (a b : ByteArray) : Bool := Go.Op.bytesLess a.toList b.toList
def nearAt (xs : List Region) (i : Nat) : List ByteArray := (xs[i]?.map Region.near).getD []
def linkB (xs : List Region) (nm id : ByteArray) : Bool := decide (0 ≤ findR xs nm) && hasS (nearAt xs (findR xs nm).toNat) id
def nearB (xs : List Region) (x : Region) (nm : ByteArray) : Bool := decide (nm ≠ x.id) && linkB xs nm x.id
def nearsB (xs : List Region) (x : Region) : Bool := validL 9223372036854775807 (nearB xs x) lessS x.near
def oneR (xs : List Region) (x : Region) : Bool := isNameB x.id && inB x.level 1 5 && nearsB xs x
def relR (p x : Region) : Bool := lessS p.id x.id
def regionsB (xs : List Region) : Bool := validL 8 (oneR xs) relR xs
theorem link_cases (xs : List Region) (nm id : ByteArray) : (findR xs nm = -1 ∧ linkB xs nm id = false) ∨ ∃ (j : Nat) (y : Region), xs[j]? = some y ∧ y.id = nm ∧ findR xs nm = (j : Int) ∧ linkB xs nm id = hasS y.near id := by
  rcases findI_cases (p := fun r : Region => decide (r.id = nm)) (xs := xs) with ⟨k, x, hx, hp, _, he⟩ | ⟨_, he⟩
  · right
    refine ⟨k, x, hx, by simpa using hp, he, ?_⟩
    have he' : findR xs nm = k := he
    unfold linkB
    rw [he', decide_eq_true (by omega), Bool.true_and, Int.toNat_natCast]
    unfold nearAt
    rw [hx]; rfl
  · left
    have he' : findR xs nm = -1 := he
    refine ⟨he', ?_⟩
    unfold linkB
    rw [he', decide_eq_false (by omega), Bool.false_and]
theorem less_leq {a b : ByteArray} {r : Bool} (h : lessS a b = r) : (Go.Op.bytesLess b.toList a.toList || b.toList == a.toList) = !r := by
  rw [bytesLess_leq]; unfold lessS at h; rw [h]
theorem lessS_irrefl (a : ByteArray) : lessS a a = false := by
  unfold lessS
  have : ∀ l : List UInt8, Go.Op.bytesLess l l = false := by
    intro l
    induction l with
    | nil => rfl
    | cons x l ih => simp [Go.Op.bytesLess, ih]
  exact this _
theorem bytesLess_trans : ∀ (a b c : List UInt8), Go.Op.bytesLess a b = true → Go.Op.bytesLess b c = true → Go.Op.bytesLess a c = true
  | _, _, [], _, h => by simp [Go.Op.bytesLess] at h
  | _, [], _ :: _, h, _ => by simp [Go.Op.bytesLess] at h
  | [], _ :: _, _ :: _, _, _ => rfl
  | x :: a, y :: b, z :: c, h1, h2 => by
    simp only [Go.Op.bytesLess, Bool.or_eq_true, Bool.and_eq_true, decide_eq_true_eq, beq_iff_eq] at h1 h2 ⊢
    rcases h1 with h1 | ⟨rfl, h1⟩
    · rcases h2 with h2 | ⟨rfl, h2⟩
      · exact .inl (UInt8.lt_trans h1 h2)
      · exact .inl h1
    · rcases h2 with h2 | ⟨rfl, h2⟩
      · exact .inl h2
      · exact .inr ⟨rfl, bytesLess_trans a b c h1 h2⟩
theorem lessS_trans {a b c : ByteArray} (h1 : lessS a b = true) (h2 : lessS b c = true) : lessS a c = true := bytesLess_trans _ _ _ h1 h2
/-- Ids that rise along the first ones. -/
theorem rise_lt {xs : List Region} {one : Region → Bool} {k : Nat} (h : GoodTo one relR xs k) : ∀ (i j : Nat) (x y : Region), i < j → j < k → xs[i]? = some x → xs[j]? = some y → lessS x.id y.id = true := by
  intro i j
  induction j with
  | zero => intro x y h1; omega
  | succ j ih =>
    intro x y hij hjk hx hy
    have hp : ∃ p, xs[j]? = some p := ⟨xs[j]'(by have := (List.getElem?_eq_some_iff.1 hy).1; omega), List.getElem?_eq_getElem _⟩
    obtain ⟨p, hp⟩ := hp
    have h1 : lessS p.id y.id = true := (h (j + 1) y hjk hy).2 p (by omega) (by simpa using hp)
    by_cases e : i = j
    · subst e; rw [hx] at hp; cases hp; exact h1
    · exact lessS_trans (ih x p (by omega) (by omega) hx hp) h1
theorem rise_ne {xs : List Region} {one : Region → Bool} {k : Nat} (h : GoodTo one relR xs k) {i j : Nat} {x y : Region} (hij : i < j) (hj : j < k) (hx : xs[i]? = some x) (hy : xs[j]? = some y) : x.id ≠ y.id := fun e => by
  have h1 := rise_lt h i j x y hij hj hx hy
  rw [e, lessS_irrefl] at h1; cases h1
/-- A region's own id is found at its place, where the ids up to it rise. -/
theorem find_self {xs : List Region} {one : Region → Bool} {k : Nat} {x : Region} (h : GoodTo one relR xs (k + 1)) (hx : xs[k]? = some x) : findR xs x.id = (k : Int) :=
  findI_hit (fun j y hj hy => by
    have h1 := rise_ne h hj (by omega) hy hx
    simpa using h1) hx (by simp)
theorem find_at {xs : List Region} {one : Region → Bool} {k : Nat} {x : Region} {nm : ByteArray} (h : GoodTo one relR xs (k + 1)) (hx : xs[k]? = some x) : (findR xs nm == (k : Int)) = decide (nm = x.id) := by
  by_cases e : nm = x.id
  · rw [e, find_self h hx]; simp
  · rw [decide_eq_false e, beq_eq_false_iff_ne]
    intro hc
    rcases link_cases xs nm x.id with ⟨h1, _⟩ | ⟨j, y, hy, h2, h3, _⟩
    · rw [hc] at h1; omega
    · rw [hc] at h3
      have : k = j := by omega
      subst this
      rw [hx] at hy; cases hy
      exact e h2.symm
set_option maxHeartbeats 1000000 in
theorem isNear_any (nm id : ByteArray) (A : Option Addr) (n c : Nat) (xs : List Region) (w : World) (hx : Region.Sl w A n xs) :
    Calls Try.prog 53 #[.slice A n c, .string nm, .string id] w (Ret (.bool (linkB xs nm id)) w) := by
  have hn := hx.le
  have HX := Lib.hid hx
  have HL := Lib.hid hx.len
  clear hx
  go_enter Try.func53, Try.ntmps53
  go_wp2_with fail
  refine (regionAt_any nm _ _ _ xs _ HX.out).mono ?_
  rintro e w1 ⟨rfl, hb1⟩
  have HB := Lib.hid hb1
  have HX1 := Lib.hid (HX.out.below hb1)
  clear hb1
  rcases link_cases xs nm id with ⟨h1, h2⟩ | ⟨j, y, hy, h2, h3, h4⟩
  · have H2 := Lib.hid h2
    rw [h1]
    clear h1 h2
    go_wp2
    go_ret
    exact Ret.b H2.out.symm HB.out
  · have H4 := Lib.hid h4
    have hjn : j < n := by rw [← HL.out]; exact (List.getElem?_eq_some_iff.1 hy).1
    obtain ⟨b1, o1, x, rfl, hb1, hxk, hix, x0, x1, x2⟩ := HX1.out.at_ hjn
    have hxy : x.val = y := by rw [hxk] at hy; injection hy
    have HN : Hid (SliceOf w1 1 strcells x.nearA x.nearN y.near) := by rw [Hid, ← hxy]; exact hix.1
    rw [h3]
    clear h2 h3 h4 hy hxk hix hxy
    go_wp2_with (go_at_call 69; refine (containsS_any id _ _ _ y.near _ HN.out).mono ?_; rintro e w' ⟨rfl, rfl⟩)
    go_ret
    exact Ret.b H4.out.symm HB.out
set_option maxRecDepth 100000 in
set_option maxHeartbeats 2000000 in
theorem implValidRegions_any (A : Option Addr) (n c : Nat) (xs : List Region) (w : World) (hx : Region.Sl w A n xs) (hg : ∀ x ∈ xs, x.Good) :
    Calls Try.prog 26 #[.slice A n c] w (Ret (.bool (regionsB xs)) w) := by
  have hn := hx.le
  have HL := Lib.hid hx.len
  have HX := Lib.hid hx
  have HG := Lib.hid hg
  clear hg hx
  by_cases h8 : n ≤ 8
  rotate_left
  · have HF : Hid (regionsB xs = false) := validL_len (by rw [HL.out]; omega)
    go_enter Try.func26, Try.ntmps26
    go_wp2
    go_ret
    exact Ret.b HF.out.symm (Below.refl _ _)
  go_enter Try.func26, Try.ntmps26
  go_wp2
  go_loopg [12] n (fun gk i wr => ∃ k : Nat, k ≤ n ∧ gk = n - k ∧ i = .int .i64 k ∧ Below w.heap.size w wr ∧ GoodTo (oneR xs) relR xs k)
  case atStart => exact ⟨0, Nat.zero_le _, rfl, rfl, Below.refl _ _, GoodTo.zero⟩
  case round =>
    obtain ⟨k, hk, hgk, rfl, hb, hall⟩ := hrel
    have Hall := Lib.hid hall
    have Hgk := Lib.hid hgk
    clear hall hgk
    by_cases hlt : k < n
    rotate_left
    · have hkn : k = n := by omega
      subst hkn
      have HF : Hid (regionsB xs = true) := by rw [Hid, regionsB, validL_all (by rw [HL.out]; exact Nat.le_refl _) Hall.out, HL.out, decide_eq_true h8]
      go_wp2
      go_ret
      exact Ret.b HF.out.symm hb
    have HXR := Lib.hid (HX.out.below hb)
    obtain ⟨b1, o1, ⟨xi, xl, NA, NN, NC, nr⟩, rfl, hb1, hxk, hix, x0, x1, x2⟩ := HXR.out.at_ hlt
    simp only [RegionR.val] at hxk x0 x1 x2
    obtain ⟨X, hX⟩ : ∃ X : Region, X = ⟨xi, xl, nr⟩ := ⟨_, rfl⟩
    rw [← hX] at hxk
    have hXi : X.id = xi := by rw [hX]
    have hXn : X.near = nr := by rw [hX]
    have hXl : X.level = xl := by rw [hX]
    have HXI := Lib.hid hXi
    have HXN := Lib.hid hXn
    have HXL := Lib.hid hXl
    have hs : xi.size ≤ 9223372036854775807 := by
      have := (HG.out X (List.mem_of_getElem? hxk)).2.1; rw [hXi] at this; simp [maxLen] at this; omega
    have Hx := Lib.hid hxk
    have HBX : Hid (∃ bx, wr.heap.size = bx) := ⟨_, rfl⟩
    have HBA := Lib.hid (hb.alloc hb.size (.cells #[.string xi, .int .i64 xl, .slice NA NN NC] 34))
    have HXA := Lib.hid (HXR.out.below ((Below.refl _ _).alloc (Nat.le_refl _) (.cells #[.string xi, .int .i64 xl, .slice NA NN NC] 34)))
    have HOA := Lib.hid (Own.new wr 34 #[.string xi, .int .i64 xl, .slice NA NN NC])
    have HIA : Hid (SliceOf (wr.alloc (.cells #[.string xi, .int .i64 xl, .slice NA NN NC] 34)) 1 strcells NA NN nr) := (hix.below ((Below.refl _ _).alloc (Nat.le_refl _) (.cells #[.string xi, .int .i64 xl, .slice NA NN NC] 34))).1
    clear hxk hix hb hX hXi hXn hXl
    go_wp2_with fail
    obtain ⟨wa, hwa⟩ : ∃ wa, wr.alloc (.cells #[.string xi, .int .i64 xl, .slice NA NN NC] 34) = wa := ⟨_, rfl⟩
    rw [hwa] at HBA HXA HOA HIA ⊢
    clear hwa x0 x1 x2
    obtain ⟨bx, hbx⟩ := HBX.out
    rw [hbx] at HOA ⊢
    clear hbx
    have y0 : wa.cell? ⟨bx, 0, none⟩ = some (.string xi) := HOA.out.cell 0
    have y1 : wa.cell? ⟨bx, 1, none⟩ = some (.int .i64 xl) := HOA.out.cell 1
    have y2 : wa.cell? ⟨bx, 2, none⟩ = some (.slice NA NN NC) := HOA.out.cell 2
    have lx := HOA.out.lt
    have hsub := fun (g : Sub wa) b o (h : b < wa.heap.size) => g.cell b o h
    cases h1 : isNameB xi
    · have HF : Hid (oneR xs X = false) := by rw [Hid, oneR, HXI.out, h1]; simp
      go_wp2_with fail
      refine wp_region_sub (by kernel_rfl) (by kernel_rfl) ?_
      repeat (go_big_quiet_step (exact Calls.sub_of_same_eq (IsName_any _ _ hs) (congrArg Value.bool h1)))
      refine wpQuiet_nil ?_
      intro wg hg
      have HBG := Lib.hid (HBA.out.trans (hg.mono HBA.out.size))
      clear hsub y0 y1 y2 lx hg h1
      go_wp2
      go_ret
      exact Ret.b (validL_one Hx.out HF.out).symm HBG.out
    cases h2 : inB xl 1 5
    · have HF : Hid (oneR xs X = false) := by rw [Hid, oneR, HXL.out, h2]; simp
      go_wp2_with fail
      refine wp_region_sub (by kernel_rfl) (by kernel_rfl) ?_
      repeat (go_big_quiet_step ((first | exact Calls.sub_of_same_eq (IsName_any _ _ hs) (congrArg Value.bool h1) | exact Calls.sub_of_same_eq (levelOk_any _ _) (congrArg Value.bool h2))))
      refine wpQuiet_nil ?_
      intro wg hg
      have HBG := Lib.hid (HBA.out.trans (hg.mono HBA.out.size))
      clear hsub y0 y1 y2 lx hg h1 h2
      go_wp2
      go_ret
      exact Ret.b (validL_one Hx.out HF.out).symm HBG.out
    have HN12 : Hid (isNameB X.id = true ∧ inB X.level 1 5 = true) := ⟨by rw [HXI.out]; exact h1, by rw [HXL.out]; exact h2⟩
    have hq3 : (decide (0 < k) = false) ∨ (decide (0 < k) = true ∧ (¬ k = 0 ∧ k - 1 < n) ∧ ∃ p : Region, xs[k - 1]? = some p ∧ wa.cell? ⟨b1, o1 + (k - 1) * 3, none⟩ = some (.string p.id) ∧ lessS p.id xi = true) ∨ (decide (0 < k) = true ∧ (¬ k = 0 ∧ k - 1 < n) ∧ ∃ p : Region, xs[k - 1]? = some p ∧ wa.cell? ⟨b1, o1 + (k - 1) * 3, none⟩ = some (.string p.id) ∧ lessS p.id xi = false) := by
      by_cases hk0 : k = 0
      · exact .inl (decide_eq_false (by omega))
      · have hlt' : k - 1 < n := by omega
        obtain ⟨b2, o2, p, he, hb2, hpk, hip, p0, p1, p2⟩ := HXA.out.at_ hlt'
        injection he with he
        injection he with he1 he2 _
        subst he1 he2
        cases hr : lessS p.val.id xi
        · exact .inr (.inr ⟨decide_eq_true (by omega), ⟨hk0, hlt'⟩, p.val, hpk, p0, hr⟩)
        · exact .inr (.inl ⟨decide_eq_true (by omega), ⟨hk0, hlt'⟩, p.val, hpk, p0, hr⟩)
    have lb1 : b1 < wa.heap.size := by
      have h3 := HXA.out
      obtain ⟨b2, o2, p, he, hb2, _⟩ := h3.at_ hlt
      injection he with he
      injection he with he1 he2 _
      subst he1 he2
      exact hb2
    rcases hq3 with hd | ⟨hd, ⟨hk0, hlt'⟩, p, hpk, p0, hr⟩ | ⟨hd, ⟨hk0, hlt'⟩, p, hpk, p0, hr⟩
    rotate_left 2
    · have HF : Hid (relR p X = false) := by rw [Hid, relR, HXI.out]; exact hr
      have HPK := Lib.hid hpk
      have hr1 := less_leq hr
      have HK0 : Hid (0 < k) := (of_decide_eq_true hd : 0 < k)
      clear hr hpk
      go_wp2_with fail
      refine wp_region_sub (by kernel_rfl) (by kernel_rfl) ?_
      repeat (go_big_quiet_step ((first | exact Calls.sub_of_same_eq (IsName_any _ _ hs) (congrArg Value.bool h1) | exact Calls.sub_of_same_eq (levelOk_any _ _) (congrArg Value.bool h2))))
      refine wpQuiet_nil ?_
      intro wg hg
      have HBG := Lib.hid (HBA.out.trans (hg.mono HBA.out.size))
      clear hsub y0 y1 y2 lx hg h1 h2 p0 hr1 hd hlt' hk0 lb1
      go_wp2
      go_ret
      exact Ret.b (validL_rel HK0.out HPK.out Hx.out HF.out).symm HBG.out
    have HREL : Hid (∀ q, 0 < k → xs[k - 1]? = some q → relR q X = true) := fun q h => absurd h (of_decide_eq_false hd : ¬ 0 < k)
    rotate_left
    have HREL : Hid (∀ q, 0 < k → xs[k - 1]? = some q → relR q X = true) := fun q _ hq => by rw [hpk] at hq; cases hq; rw [relR, HXI.out]; exact hr
    have hr1 := less_leq hr
    clear hr hpk
    all_goals
      go_wp2_with fail
      refine wp_region_sub (by kernel_rfl) (by kernel_rfl) ?_
      repeat (go_big_quiet_step ((first | exact Calls.sub_of_same_eq (IsName_any _ _ hs) (congrArg Value.bool h1) | exact Calls.sub_of_same_eq (levelOk_any _ _) (congrArg Value.bool h2))))
      refine wpQuiet_nil ?_
      intro wg hg
      have HBG := Lib.hid (HBA.out.trans (hg.mono HBA.out.size))
      have HXG := Lib.hid (HXA.out.below hg)
      have HIG := Lib.hid (HIA.out.below hg)
      have HOG := Lib.hid (HOA.out.below' hg)
      clear hsub y0 y1 y2 lx hg h1 h2 hd lb1
      try clear p0 hr1 hlt' hk0
      have y0 : wg.cell? ⟨bx, 0, none⟩ = some (.string xi) := HOG.out.cell 0
      have y2 : wg.cell? ⟨bx, 2, none⟩ = some (.slice NA NN NC) := HOG.out.cell 2
      have hNN := HIG.out.le
      go_wp2
      clear y0 y2
      go_loopg [45] NN (fun gk i wr => ∃ t : Nat, t ≤ NN ∧ gk = NN - t ∧ i = .int .i64 t ∧ Below wg.heap.size wg wr ∧ GoodTo (nearB xs X) lessS nr t)
      case atStart => exact ⟨0, Nat.zero_le _, rfl, rfl, Below.refl _ _, GoodTo.zero⟩
      case round =>
        obtain ⟨t, ht, hgt, rfl, hb2, hall2⟩ := hrel
        have HA2 := Lib.hid hall2
        have HGT := Lib.hid hgt
        have HB2 := Lib.hid hb2
        clear hall2 hgt
        have HXQ := Lib.hid (HXG.out.below HB2.out)
        have HIQ := Lib.hid (HIG.out.below HB2.out)
        have HOQ := Lib.hid (HOG.out.below' HB2.out)
        by_cases htl : t < NN
        rotate_left
        · have htn : t = NN := by omega
          subst htn
          have HO1 : Hid (oneR xs X = true) := by
            rw [Hid, oneR, HN12.out.1, HN12.out.2, nearsB, HXN.out, validL_all (by rw [HIG.out.len]; exact Nat.le_refl _) HA2.out, HIG.out.len, decide_eq_true hNN]; rfl
          have HBW := Lib.hid (HBG.out.trans (HB2.out.mono HBG.out.size))
          clear hb2
          go_wp2
          go_roundg (n - (k + 1))
          case measure => have := Hgk.out; omega
          case rel => exact ⟨k + 1, by omega, rfl, by go_num, HBW.out, Hall.out.step Hx.out HO1.out HREL.out⟩
        obtain ⟨b3, o3, nm, rfl, hb3, hnm, z0⟩ := strs_at HIQ.out htl
        have HNM := Lib.hid hnm
        have y0 : wr.cell? ⟨bx, 0, none⟩ = some (.string xi) := HOQ.out.cell 0
        have y2 : wr.cell? ⟨bx, 2, none⟩ = some (.slice (some ⟨b3, o3, none⟩) NN NC) := HOQ.out.cell 2
        have lx := HOQ.out.lt
        have hsub := fun (g : Sub wr) b o (h : b < wr.heap.size) => g.cell b o h
        have HFN : Hid (nearB xs X nm = false → regionsB xs = false) := fun h => validL_one Hx.out (by rw [oneR, nearsB, validL_one (by rw [HXN.out]; exact HNM.out) h]; simp)
        have hq3 : (decide (0 < t) = false) ∨ (decide (0 < t) = true ∧ (¬ t = 0 ∧ t - 1 < NN) ∧ ∃ p : ByteArray, nr[t - 1]? = some p ∧ wr.cell? ⟨b3, o3 + (t - 1), none⟩ = some (.string p) ∧ lessS p nm = true) ∨ (decide (0 < t) = true ∧ (¬ t = 0 ∧ t - 1 < NN) ∧ ∃ p : ByteArray, nr[t - 1]? = some p ∧ wr.cell? ⟨b3, o3 + (t - 1), none⟩ = some (.string p) ∧ lessS p nm = false) := by
          by_cases hk0 : t = 0
          · exact .inl (decide_eq_false (by omega))
          · have hlt' : t - 1 < NN := by omega
            obtain ⟨b2, o2, p, he, hb2, hpk, p0⟩ := strs_at HIQ.out hlt'
            injection he with he
            injection he with he1 he2 _
            subst he1 he2
            cases hr : lessS p nm
            · exact .inr (.inr ⟨decide_eq_true (by omega), ⟨hk0, hlt'⟩, p, hpk, p0, hr⟩)
            · exact .inr (.inl ⟨decide_eq_true (by omega), ⟨hk0, hlt'⟩, p, hpk, p0, hr⟩)
        clear hnm hb2
        rcases hq3 with hd | ⟨hd, ⟨hk0, hlt'⟩, p, hpk, p0, hr⟩ | ⟨hd, ⟨hk0, hlt'⟩, p, hpk, p0, hr⟩
        rotate_left 2
        · have HF : Hid (regionsB xs = false) := validL_one Hx.out (by rw [oneR, nearsB, validL_rel (of_decide_eq_true hd) (by rw [HXN.out]; exact hpk) (by rw [HXN.out]; exact HNM.out) hr]; simp)
          have hr1 := less_leq hr
          clear hr hpk
          have HBW := Lib.hid (HBG.out.trans (HB2.out.mono HBG.out.size))
          clear hsub
          go_wp2
          go_ret
          exact Ret.b HF.out.symm HBW.out
        have HRE : Hid (∀ q, 0 < t → nr[t - 1]? = some q → lessS q nm = true) := fun q h => absurd h (of_decide_eq_false hd : ¬ 0 < t)
        rotate_left
        have HRE : Hid (∀ q, 0 < t → nr[t - 1]? = some q → lessS q nm = true) := fun q _ hq => by rw [hpk] at hq; cases hq; exact hr
        have hr1 := less_leq hr
        clear hr hpk
        all_goals
          by_cases hne : nm = xi
          · have HF : Hid (regionsB xs = false) := HFN.out (by rw [nearB, HXI.out, hne]; simp)
            have he := str_eq hne
            clear hne
            have HBW := Lib.hid (HBG.out.trans (HB2.out.mono HBG.out.size))
            clear hsub
            go_wp2
            go_ret
            exact Ret.b HF.out.symm HBW.out
          have he := str_ne hne
          have HNE := Lib.hid hne
          clear hne
          cases hlk : linkB xs nm xi
          · have HF : Hid (regionsB xs = false) := HFN.out (by rw [nearB, HXI.out, hlk]; simp)
            clear hsub
            go_wp2_with fail
            refine (isNear_any nm xi _ _ _ xs _ HXQ.out).mono ?_
            rintro e w5 ⟨rfl, hb5⟩
            have HBW := Lib.hid (HBG.out.trans ((HB2.out.trans (hb5.mono HB2.out.size)).mono HBG.out.size))
            rw [hlk]
            clear y0 y2 lx hb5 z0 hd he hlk
            try clear p0 hr1 hlt' hk0
            go_wp2
            go_ret
            exact Ret.b HF.out.symm HBW.out
          · have HF : Hid (nearB xs X nm = true) := by rw [Hid, nearB, HXI.out, hlk, decide_eq_true HNE.out]; rfl
            clear hsub
            go_wp2_with fail
            refine (isNear_any nm xi _ _ _ xs _ HXQ.out).mono ?_
            rintro e w5 ⟨rfl, hb5⟩
            have HBW := Lib.hid (HB2.out.trans (hb5.mono HB2.out.size))
            rw [hlk]
            clear y0 y2 lx hb5 z0 hd he hlk
            try clear p0 hr1 hlt' hk0
            go_wp2
            go_roundg (NN - (t + 1))
            case measure => have := HGT.out; omega
            case rel => exact ⟨t + 1, by omega, rfl, by go_num, HBW.out, HA2.out.step HNM.out HF.out HRE.out⟩

end Go.Proofs.Ytpibiieibofggaa
