/- The plain law of FnTours. -/
import Derived.Test.YtamgodeiakflbaaDoorTourS
namespace Go.Proofs.YtamgodeiakflbaaDoor
open Go.RowKit

theorem min_append {xs : List Leg} (b : Int) (r : List Int) : ∀ (A : List Int), A ≠ [] → minutesF xs (A ++ b :: r) = minutesF xs A + (legD xs (lastI A, b)).minutes + minutesF xs (b :: r)
  | [], h => absurd rfl h
  | [a], _ => by rw [List.singleton_append, min_cons, min_one, lastI_one]; omega
  | a :: c :: A, _ => by
    have ih := min_append (xs := xs) b r (c :: A) (by simp)
    rw [List.cons_append, List.cons_append, min_cons, ← List.cons_append, ih, min_cons, lastI_cons2]
    omega
theorem walk_append {xs : List Leg} {b : Int} {r : List Int} : ∀ {A : List Int}, A ≠ [] → Walk xs A → hasLeg xs (lastI A, b) = true → Walk xs (b :: r) → Walk xs (A ++ b :: r)
  | [], h, _, _, _ => absurd rfl h
  | [a], _, _, h, h2 => walk_cons.2 ⟨h, h2⟩
  | a :: c :: A, _, h1, h, h2 => by
    obtain ⟨h3, h4⟩ := walk_cons.1 h1
    rw [lastI_cons2] at h
    exact walk_cons.2 ⟨h3, walk_append (A := c :: A) (by simp) h4 h h2⟩
theorem last_append (b : Int) (r : List Int) : ∀ (A : List Int), lastI (A ++ b :: r) = lastI (b :: r)
  | [] => rfl
  | [a] => lastI_cons2 a b r
  | a :: c :: A => by
    have ih := last_append b r (c :: A)
    rw [List.cons_append, List.cons_append, lastI_cons2, ← List.cons_append, ih]
section
variable {pts : Int} {xs : List Leg} {n s g : Nat}
theorem FastOk.simple {a : Nat} {L : List Int} (h : FastOk xs n g a L) : SimpleWay xs n a g L := ⟨h.head, h.last, h.walk, fun z hz => by obtain ⟨p, h1, h2, _⟩ := h.in_ z hz; exact ⟨p, h1, h2⟩, h.nodup⟩
theorem SimpleWay.len {L : List Int} (h : SimpleWay xs n s g L) : 1 ≤ L.length ∧ L.length ≤ n := by
  obtain ⟨r, hr⟩ := h.head
  obtain ⟨q, hq, hqn⟩ := nats_of L h.in_
  have h1 := h.nodup
  refine ⟨by rw [hr]; simp, ?_⟩
  rw [hq] at h1 ⊢
  rw [List.length_map]
  exact nodup_len (List.Pairwise.of_map Int.ofNat (fun a b h e => h (by rw [e])) h1) hqn
theorem SimpleWay.route {L : List Int} (h : SimpleWay xs n s g L) (hv : legsOk (n : Int) xs = true) (hn : n ≤ 12) : routeC (n : Int) xs L = 0 := by
  have hl := h.len
  have h1 : onB (n : Int) L = true := by
    unfold onB
    simp only [Bool.and_eq_true, decide_eq_true_eq, List.all_eq_true]
    refine ⟨⟨hl.1, by omega⟩, fun z hz => ?_⟩
    obtain ⟨p, rfl, hp⟩ := h.in_ z hz
    exact inB_iff.2 ⟨by omega, by omega⟩
  have h2 : (pairs L).all (hasLeg xs) = true := List.all_eq_true.2 fun p hp => h.walk p hp
  unfold routeC
  simp [hv, h1, h2]
theorem SimpleWay.mins {L : List Int} (h : SimpleWay xs n s g L) (hv : legsOk (n : Int) xs = true) (hn : n ≤ 12) : 0 ≤ minutesF xs L ∧ minutesF xs L ≤ 10000 := by
  have h1 := sumBy_bounds (f := fun p => (legD xs p).minutes) (M := 600) (fun p => ⟨(legD_bounds (xs := xs) (p := p) hv).1, (legD_bounds (xs := xs) (p := p) hv).2.1⟩) (pairs L)
  have h2 := h.len
  have h3 := pairs_len L
  unfold minutesF
  exact ⟨h1.1, by have := h1.2; omega⟩
/-- The search within a time that suffices. -/
theorem safe_ok (hv : legsOk (n : Int) xs = true) (hn : n ≤ 6) (hs : s < n) (hg : g < n) {limit : Int} (hl : 0 ≤ limit) (hl2 : limit ≤ 10000) {L : List Int} (h : SimpleWay xs n s g L) (hm : minutesF xs L ≤ limit) :
    safeC (n : Int) xs s g limit 20000 = 0 ∧ safeL (n : Int) xs s g limit 20000 ≤ exposeF xs L ∧ SimpleWay xs n s g (safeR (n : Int) xs s g limit 20000) ∧ minutesF xs (safeR (n : Int) xs s g limit 20000) ≤ limit ∧ exposeF xs (safeR (n : Int) xs s g limit 20000) = safeL (n : Int) xs s g limit 20000 := by
  have hb := safe0_bud (xs := xs) (s := s) (g := g) (limit := limit) (budget := 20000) hn (by decide)
  obtain ⟨c1, c2⟩ := safe0_all hv hb h hm
  have hc : safeC (n : Int) xs s g limit 20000 = 0 := by
    unfold safeC
    have i1 : inB (s : Int) 0 ((n : Int) - 1) = true := inB_iff.2 ⟨by omega, by omega⟩
    have i2 : inB (g : Int) 0 ((n : Int) - 1) = true := inB_iff.2 ⟨by omega, by omega⟩
    have i3 : inB limit 0 10000 = true := inB_iff.2 ⟨hl, hl2⟩
    rw [hv, i1, i2, i3, Int.toNat_natCast]
    have i4 : ¬ (safe0 xs n s g limit 20000).bud < 0 := by omega
    have i5 : ¬ (safe0 xs n s g limit 20000).least < 0 := by omega
    rw [if_neg (by decide), if_neg (by decide), if_neg (by decide), if_neg i4, if_neg i5]
  have hL : safeL (n : Int) xs s g limit 20000 = (safe0 xs n s g limit 20000).least := by unfold safeL; rw [if_pos hc, Int.toNat_natCast]
  have hR : safeR (n : Int) xs s g limit 20000 = (safe0 xs n s g limit 20000).best := by unfold safeR; rw [if_pos hc, Int.toNat_natCast]
  rw [hL, hR]
  rcases safe0_found (xs := xs) (g := g) (limit := limit) (budget := 20000) hs hl with h1 | ⟨left, hp, hlast⟩
  · omega
  · exact ⟨hc, c2, ⟨hp.head, hlast, hp.walk, hp.in_, hp.nodup⟩, by have h1 := hp.mins; have h2 := hp.left0; omega, hp.exp⟩
theorem fast_on (hv : legsOk (n : Int) xs = true) (hs : s < n) (hg : g < n) : fastC (n : Int) xs s g = if val (farL xs n g) s < 0 then 3 else 0 := by
  unfold fastC
  have i1 : inB (s : Int) 0 ((n : Int) - 1) = true := inB_iff.2 ⟨by omega, by omega⟩
  have i2 : inB (g : Int) 0 ((n : Int) - 1) = true := inB_iff.2 ⟨by omega, by omega⟩
  rw [hv, i1, i2, Int.toNat_natCast, Int.toNat_natCast, Int.toNat_natCast, if_neg (by decide), if_neg (by decide)]
/-- Where there is no way the search finds none. -/
theorem safe_none (hv : legsOk (n : Int) xs = true) (hn : n ≤ 6) (hs : s < n) (hg : g < n) (h : fastC (n : Int) xs s g ≠ 0) : fastC (n : Int) xs s g = 3 ∧ safeC (n : Int) xs s g 10000 20000 = 3 := by
  rw [fast_on hv hs hg] at h ⊢
  have hneg : val (farL xs n g) s < 0 := by
    by_cases e : val (farL xs n g) s < 0
    · exact e
    · rw [if_neg e] at h; exact absurd rfl h
  refine ⟨if_pos hneg, ?_⟩
  have hb := safe0_bud (xs := xs) (s := s) (g := g) (limit := 10000) (budget := 20000) hn (by decide)
  have hl : (safe0 xs n s g 10000 20000).least < 0 := by
    rcases safe0_found (xs := xs) (g := g) (limit := 10000) (budget := 20000) hs (by decide) with h1 | ⟨left, hp, hlast⟩
    · exact h1
    · obtain ⟨r, hr⟩ := hp.head
      have hw := hp.walk
      rw [hr] at hw hlast
      have := (walk_lower rfl hv hg r s hw hlast).1
      omega
  unfold safeC
  have i1 : inB (s : Int) 0 ((n : Int) - 1) = true := inB_iff.2 ⟨by omega, by omega⟩
  have i2 : inB (g : Int) 0 ((n : Int) - 1) = true := inB_iff.2 ⟨by omega, by omega⟩
  rw [hv, i1, i2, Int.toNat_natCast]
  have i4 : ¬ (safe0 xs n s g 10000 20000).bud < 0 := by omega
  rw [if_neg (by decide), if_neg (by decide), if_neg (by decide), if_neg i4, if_pos hl]
/-- The fastest route, as the contracts name it. -/
theorem fast_yes (hv : legsOk (n : Int) xs = true) (hs : s < n) (hg : g < n) (h : fastC (n : Int) xs s g = 0) : SimpleWay xs n s g (fastR (n : Int) xs s g) ∧ minutesF xs (fastR (n : Int) xs s g) = fastM (n : Int) xs s g ∧ fastM (n : Int) xs s g = val (farL xs n g) s := by
  have h0 : 0 ≤ val (farL xs n g) s := by
    rw [fast_on hv hs hg] at h
    by_cases e : val (farL xs n g) s < 0
    · rw [if_pos e] at h; cases h
    · omega
  have hM : fastM (n : Int) xs s g = val (farL xs n g) s := by unfold fastM; rw [if_pos h, Int.toNat_natCast, Int.toNat_natCast, Int.toNat_natCast]
  have hR : fastR (n : Int) xs s g = (routeF xs (farL xs n g) n g (val (farL xs n g) s).toNat s).map Int.ofNat := by unfold fastR; rw [if_pos h, Int.toNat_natCast, Int.toNat_natCast, Int.toNat_natCast]
  have hk := routeF_ok (pts := (n : Int)) rfl hv hg (val (farL xs n g) s).toNat s hs h0 (by omega)
  rw [hR, hM]
  exact ⟨hk.simple, hk.mins, rfl⟩
/-- Over no leg is one faster. -/
theorem no_faster (hv : legsOk (n : Int) xs = true) (hs : s < n) (hg : g < n) {x : Leg} (hx : x ∈ xs) (h1 : fastC (n : Int) xs s x.from_ = 0) (h2 : fastC (n : Int) xs x.to_ g = 0) : fastC (n : Int) xs s g = 0 ∧ fastM (n : Int) xs s g ≤ fastM (n : Int) xs s x.from_ + x.minutes + fastM (n : Int) xs x.to_ g := by
  have hf := legs_fit hv x hx
  have f0 := hf.f0
  have ft := hf.ft
  have t1 := hf.t1
  obtain ⟨a, ha⟩ : ∃ a : Nat, x.from_ = a := ⟨x.from_.toNat, by omega⟩
  obtain ⟨b, hb⟩ : ∃ b : Nat, x.to_ = b := ⟨x.to_.toNat, by omega⟩
  rw [ha] at h1 ⊢
  rw [hb] at h2 ⊢
  have han : a < n := by omega
  have hbn : b < n := by omega
  obtain ⟨w1, m1, _⟩ := fast_yes hv hs han h1
  obtain ⟨w2, m2, _⟩ := fast_yes hv hbn hg h2
  have hlx : legP (a : Int) (b : Int) x = true := by unfold legP; simp only [Bool.and_eq_true, decide_eq_true_eq]; omega
  have hh : hasLeg xs ((a : Int), (b : Int)) = true := List.any_eq_true.2 ⟨x, hx, hlx⟩
  have hd : legD xs ((a : Int), (b : Int)) = x := by
    obtain ⟨k, hk, _⟩ := leg_ix hh
    have hd1 : legP (a : Int) (b : Int) (legD xs ((a : Int), (b : Int))) = true := by
      unfold legD
      cases hq : xs.find? (legP (a : Int) (b : Int)) with
      | none => rw [List.find?_eq_none] at hq; exact absurd hlx (hq x hx)
      | some z => exact List.find?_some hq
    unfold legP at hd1 hlx
    simp only [Bool.and_eq_true, decide_eq_true_eq] at hd1 hlx
    exact leg_one hv (List.mem_of_getElem? hk) hx (hd1.1.trans hlx.1.symm) (hd1.2.trans hlx.2.symm)
  obtain ⟨r1, hr1⟩ := w1.head
  obtain ⟨r2, hr2⟩ := w2.head
  have hw : Walk xs (fastR (n : Int) xs s a ++ (b : Int) :: r2) := walk_append (by rw [hr1]; simp) w1.walk (by rw [w1.last]; exact hh) (by rw [← hr2]; exact w2.walk)
  have hm : minutesF xs (fastR (n : Int) xs s a ++ (b : Int) :: r2) = fastM (n : Int) xs s a + x.minutes + fastM (n : Int) xs b g := by
    rw [min_append _ _ _ (by rw [hr1]; simp), w1.last, hd, ← hr2, m1, m2]
  have hl : lastI (fastR (n : Int) xs s a ++ (b : Int) :: r2) = (g : Int) := by rw [last_append, ← hr2]; exact w2.last
  rw [hr1, List.cons_append] at hw hl hm
  obtain ⟨k0, k1⟩ := walk_lower rfl hv hg _ s hw hl
  have hc : fastC (n : Int) xs s g = 0 := by rw [fast_on hv hs hg, if_neg (by omega)]
  obtain ⟨_, _, m3⟩ := fast_yes hv hs hg hc
  exact ⟨hc, by rw [m3]; omega⟩
/-- All that FnTours asks. -/
theorem tours (hv : legsOk (n : Int) xs = true) (hn : n ≤ 6) (hs : s < n) (hg : g < n) (h : fastC (n : Int) xs s g = 0) :
    SimpleWay xs n s g (fastR (n : Int) xs s g) ∧ minutesF xs (fastR (n : Int) xs s g) = fastM (n : Int) xs s g ∧
    safeC (n : Int) xs s g (fastM (n : Int) xs s g) 20000 = 0 ∧ safeL (n : Int) xs s g (fastM (n : Int) xs s g) 20000 ≤ exposeF xs (fastR (n : Int) xs s g) ∧
    SimpleWay xs n s g (safeR (n : Int) xs s g (fastM (n : Int) xs s g) 20000) ∧ minutesF xs (safeR (n : Int) xs s g (fastM (n : Int) xs s g) 20000) = fastM (n : Int) xs s g ∧ exposeF xs (safeR (n : Int) xs s g (fastM (n : Int) xs s g) 20000) = safeL (n : Int) xs s g (fastM (n : Int) xs s g) 20000 ∧
    safeC (n : Int) xs s g 10000 20000 = 0 ∧ safeL (n : Int) xs s g 10000 20000 ≤ safeL (n : Int) xs s g (fastM (n : Int) xs s g) 20000 ∧
    SimpleWay xs n s g (safeR (n : Int) xs s g 10000 20000) ∧ exposeF xs (safeR (n : Int) xs s g 10000 20000) = safeL (n : Int) xs s g 10000 20000 := by
  obtain ⟨w1, m1, e1⟩ := fast_yes hv hs hg h
  have hb := w1.mins hv (by omega)
  rw [m1] at hb
  obtain ⟨a1, a2, a3, a4, a5⟩ := safe_ok hv hn hs hg hb.1 hb.2 w1 (by rw [m1]; exact Int.le_refl _)
  have hlow : fastM (n : Int) xs s g ≤ minutesF xs (safeR (n : Int) xs s g (fastM (n : Int) xs s g) 20000) := by
    obtain ⟨r, hr⟩ := a3.head
    have hw := a3.walk
    have hl := a3.last
    rw [hr] at hw hl ⊢
    rw [e1]
    exact (walk_lower rfl hv hg r s hw hl).2
  obtain ⟨b1, b2, b3, _, b5⟩ := safe_ok hv hn hs hg (by decide) (Int.le_refl 10000) a3 (by omega)
  rw [a5] at b2
  exact ⟨w1, m1, a1, a2, a3, by omega, a5, b1, b2, b3, b5⟩
end

end Go.Proofs.YtamgodeiakflbaaDoor
