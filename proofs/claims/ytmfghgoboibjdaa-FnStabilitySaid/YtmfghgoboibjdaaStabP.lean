/- The plain law of FnStability: strength, stress, the bounds of the index, the weakest layer. No program in sight. -/
import Derived.Test.YtmfghgoboibjdaaLayerS
import Derived.Test.YtmfghgoboibjdaaBase
import Derived.Test.YtmfghgoboibjdaaRndB
namespace Go.Proofs.Ytmfghgoboibjdaa
open Go.RowKit

/-- A layer that is valid. -/
def Layer.oneB (x : Layer) : Bool := inB x.form 1 6 && inB x.ice 1 1000000 && inB x.water 0 1000000 && inB x.density 30 900 && inB x.degrees (-4000) 0 && inB x.hardness 1 6 && inB x.age 0 10000
/-- A profile that is valid. -/
def profB (L : List Layer) : Bool := decide (L.length ≤ 16) && L.all Layer.oneB
theorem Layer.one_parts {x : Layer} (h : x.oneB = true) : 1 ≤ x.form ∧ x.form ≤ 6 ∧ 1 ≤ x.ice ∧ x.ice ≤ 1000000 ∧ 0 ≤ x.water ∧ x.water ≤ 1000000 ∧ 30 ≤ x.density ∧ x.density ≤ 900 := by
  unfold Layer.oneB at h
  simp only [Bool.and_eq_true, inB_iff] at h
  omega
theorem profB_iff {L : List Layer} : profB L = true ↔ L.length ≤ 16 ∧ ∀ x ∈ L, x.oneB = true := by
  unfold profB; rw [Bool.and_eq_true, decide_eq_true_eq, List.all_eq_true]
theorem prof_at {L : List Layer} (h : profB L = true) {k : Nat} {x : Layer} (hx : L[k]? = some x) : x.oneB = true := (profB_iff.1 h).2 x (List.mem_of_getElem? hx)
/-- The factor of a form. -/
def factorN (f : Int) : Int := ([0, 20, 22, 30, 12, 8, 35] : List Int).getD f.toNat 0
theorem factor_bd {f : Int} : 0 ≤ factorN f ∧ factorN f ≤ 35 := by
  unfold factorN
  generalize f.toNat = k
  match k with
  | 0 => decide
  | 1 => decide
  | 2 => decide
  | 3 => decide
  | 4 => decide
  | 5 => decide
  | 6 => decide
  | k + 7 => exact ⟨Int.le_refl _, by show (0 : Int) ≤ 35; decide⟩
def baseN (x : Layer) : Int := rnd (x.density * x.density * factorN x.form) 1000
theorem mul_bd {a b A B : Int} (ha : 0 ≤ a) (hA : a ≤ A) (hb : 0 ≤ b) (hB : b ≤ B) : 0 ≤ a * b ∧ a * b ≤ A * B :=
  ⟨Int.mul_nonneg ha hb, Int.le_trans (Int.mul_le_mul_of_nonneg_right hA hb) (Int.mul_le_mul_of_nonneg_left hB (by omega))⟩
theorem base_bd {x : Layer} (h : x.oneB = true) : 0 ≤ x.density * x.density ∧ x.density * x.density ≤ 810000 ∧ 0 ≤ x.density * x.density * factorN x.form ∧ x.density * x.density * factorN x.form ≤ 28350000 ∧ 0 ≤ baseN x ∧ baseN x ≤ 28350000 := by
  have hp := Layer.one_parts h
  have h1 := mul_bd (a := x.density) (b := x.density) (A := 900) (B := 900) (by omega) (by omega) (by omega) (by omega)
  have h2 := mul_bd (a := x.density * x.density) (b := factorN x.form) (A := 900 * 900) (B := 35) h1.1 h1.2 factor_bd.1 factor_bd.2
  have h3 := rnd_bounds (a := x.density * x.density * factorN x.form) (b := 1000) (by decide) 28350000 (by omega) (by omega)
  have h4 : 0 ≤ baseN x := by
    unfold baseN rnd
    rw [if_pos h2.1]
    exact Int.ediv_nonneg (by omega) (by decide)
  refine ⟨h1.1, by omega, h2.1, by omega, h4, h3.2⟩
/-- The lesser and the greater bound of the strength. -/
def lowN (x : Layer) (d : Int) : Int := baseN x * (1000 - d) / 1000
def highN (x : Layer) (d : Int) : Int := (baseN x * (1000 + d) + 999) / 1000
theorem low_bd {x : Layer} {d : Int} (h : x.oneB = true) (h0 : 0 ≤ d) (h1 : d ≤ 1000) : 0 ≤ baseN x * (1000 - d) ∧ baseN x * (1000 - d) ≤ 28350000000 ∧ 0 ≤ lowN x d ∧ lowN x d ≤ 28350000 := by
  have hb := base_bd h
  have h2 := mul_bd (a := baseN x) (b := 1000 - d) (A := 28350000) (B := 1000) hb.2.2.2.2.1 hb.2.2.2.2.2 (by omega) (by omega)
  unfold lowN
  refine ⟨h2.1, by omega, Int.ediv_nonneg h2.1 (by decide), by omega⟩
theorem high_bd {x : Layer} {d : Int} (h : x.oneB = true) (h0 : 0 ≤ d) (h1 : d ≤ 1000) : 0 ≤ baseN x * (1000 + d) ∧ baseN x * (1000 + d) ≤ 56700000000 ∧ 0 ≤ highN x d ∧ highN x d ≤ 56700001 := by
  have hb := base_bd h
  have h2 := mul_bd (a := baseN x) (b := 1000 + d) (A := 28350000) (B := 2000) hb.2.2.2.2.1 hb.2.2.2.2.2 (by omega) (by omega)
  unfold highN
  refine ⟨h2.1, by omega, Int.ediv_nonneg (by omega) (by decide), by omega⟩
theorem low_high {x : Layer} {d : Int} (h : x.oneB = true) (h0 : 0 ≤ d) (_h1 : d ≤ 1000) : lowN x d ≤ highN x d := by
  have hb := base_bd h
  have h2 : baseN x * (1000 - d) ≤ baseN x * (1000 + d) := Int.mul_le_mul_of_nonneg_left (by omega) hb.2.2.2.2.1
  unfold lowN highN
  exact Int.ediv_le_ediv (by decide) (by omega)
theorem low_less {x : Layer} {d e : Int} (h : x.oneB = true) (hde : d ≤ e) : lowN x e ≤ lowN x d := by
  have hb := base_bd h
  exact Int.ediv_le_ediv (by decide) (Int.mul_le_mul_of_nonneg_left (by omega) hb.2.2.2.2.1)
theorem high_more {x : Layer} {d e : Int} (h : x.oneB = true) (hde : d ≤ e) : highN x d ≤ highN x e := by
  have hb := base_bd h
  have h2 : baseN x * (1000 + d) ≤ baseN x * (1000 + e) := Int.mul_le_mul_of_nonneg_left (by omega) hb.2.2.2.2.1
  exact Int.ediv_le_ediv (by decide) (by omega)
/-- The mass above a layer. -/
def massN (L : List Layer) : Int := sumBy (fun x => x.ice + x.water) L
def loadN (L : List Layer) (k : Nat) : Int := massN (L.drop (k + 1))
theorem mass_bd : ∀ {L : List Layer}, (∀ x ∈ L, x.oneB = true) → 0 ≤ massN L ∧ massN L ≤ 2000000 * L.length
  | [], _ => by decide
  | x :: L, h => by
    have h1 := mass_bd (L := L) (fun y hy => h y (List.mem_cons_of_mem _ hy))
    have h2 := Layer.one_parts (h x (List.mem_cons_self ..))
    have e : massN (x :: L) = x.ice + x.water + massN L := by simp [massN, sumBy]
    rw [e, List.length_cons]
    omega
theorem load_bd {L : List Layer} (h : profB L = true) (k : Nat) : 0 ≤ loadN L k ∧ loadN L k ≤ 32000000 := by
  have hp := profB_iff.1 h
  have h1 := mass_bd (L := L.drop (k + 1)) (fun x hx => hp.2 x (List.mem_of_mem_drop hx))
  have h2 : (L.drop (k + 1)).length ≤ 16 := by rw [List.length_drop]; omega
  unfold loadN
  omega
theorem mass_append (A B : List Layer) : massN (A ++ B) = massN A + massN B := by
  unfold massN sumBy; rw [List.map_append, List.sum_append]
/-- The stress of a load on a slope. -/
def stressN (load rise run : Int) : Int := rnd (981 * load * rise * run) (100000 * (rise * rise + run * run))
theorem rnd_ge0 {a b : Int} (ha : 0 ≤ a) : rnd a b = (2 * a + b) / (2 * b) := by unfold rnd; rw [if_pos ha]
theorem stress_parts {load rise run : Int} (hl : 0 ≤ load) (hl2 : load ≤ 33000000) (hr : 0 ≤ rise) (hr2 : rise ≤ 1000) (hu : 1 ≤ run) (hu2 : run ≤ 1000) :
    0 ≤ 981 * load ∧ 981 * load ≤ 32373000000 ∧ 0 ≤ 981 * load * rise ∧ 981 * load * rise ≤ 32373000000000 ∧ 0 ≤ 981 * load * rise * run ∧ 981 * load * rise * run ≤ 32373000000000000 ∧ 0 ≤ rise * rise ∧ rise * rise ≤ 1000000 ∧ 1 ≤ run * run ∧ run * run ≤ 1000000 := by
  have h1 := mul_bd (a := 981 * load) (b := rise) (A := 32373000000) (B := 1000) (by omega) (by omega) hr hr2
  have h2 := mul_bd (a := 981 * load * rise) (b := run) (A := 32373000000 * 1000) (B := 1000) h1.1 h1.2 (by omega) hu2
  have h3 := mul_bd (a := rise) (b := rise) (A := 1000) (B := 1000) hr hr2 hr hr2
  have h4 := mul_bd (a := run) (b := run) (A := 1000) (B := 1000) (by omega) hu2 (by omega) hu2
  have h5 : 1 * 1 ≤ run * run := Int.mul_le_mul hu hu (by decide) (by omega)
  omega
theorem stress_bd {load rise run : Int} (hl : 0 ≤ load) (hl2 : load ≤ 33000000) (hr : 0 ≤ rise) (hr2 : rise ≤ 1000) (hu : 1 ≤ run) (hu2 : run ≤ 1000) : 0 ≤ stressN load rise run ∧ stressN load rise run ≤ 32373000000000000 := by
  have h := stress_parts hl hl2 hr hr2 hu hu2
  have h2 := rnd_bounds (a := 981 * load * rise * run) (b := 100000 * (rise * rise + run * run)) (by omega) 32373000000000000 (by omega) (by omega)
  refine ⟨?_, h2.2⟩
  unfold stressN
  rw [rnd_ge0 (by omega)]
  exact Int.ediv_nonneg (by omega) (by omega)
/-- A greater quotient rounds no lower. -/
theorem rnd_mono {a b c d : Int} (ha : 0 ≤ a) (hc : 0 ≤ c) (hb : 0 < b) (hd : 0 < d) (h : a * d ≤ c * b) : rnd a b ≤ rnd c d := by
  rw [rnd_ge0 ha, rnd_ge0 hc]
  rw [Int.le_ediv_iff_mul_le (by omega)]
  have h1 := Int.ediv_mul_le (2 * a + b) (show 2 * b ≠ 0 by omega)
  generalize (2 * a + b) / (2 * b) = q at *
  have h2 : q * (2 * b) * d ≤ (2 * a + b) * d := Int.mul_le_mul_of_nonneg_right h1 (by omega)
  have h3 : (2 * a + b) * d ≤ (2 * c + d) * b := by
    have e1 : (2 * a + b) * d = 2 * (a * d) + b * d := by rw [Int.add_mul, Int.mul_assoc]
    have e2 : (2 * c + d) * b = 2 * (c * b) + b * d := by rw [Int.add_mul, Int.mul_assoc, Int.mul_comm d b]
    omega
  have h4 : q * (2 * d) * b ≤ (2 * c + d) * b := by
    have e : q * (2 * d) * b = q * (2 * b) * d := by
      rw [Int.mul_assoc q, Int.mul_assoc q, Int.mul_assoc 2 d b, Int.mul_assoc 2 b d, Int.mul_comm d b]
    omega
  exact Int.le_of_mul_le_mul_right h4 hb
theorem stress_steep {load rise more run : Int} (hl : 0 ≤ load) (hr : 0 ≤ rise) (hm : 0 ≤ more) (hu : 0 < run) (hru : rise + more ≤ run) : stressN load rise run ≤ stressN load (rise + more) run := by
  unfold stressN
  have p1 : ∀ r : Int, 0 ≤ r → 0 ≤ 981 * load * r * run := fun r h => Int.mul_nonneg (Int.mul_nonneg (by omega) h) (by omega)
  have p2 : ∀ r : Int, 0 < 100000 * (r * r + run * run) := fun r => by
    have h1 : 0 ≤ r * r := by
      rcases Int.le_total 0 r with h | h
      · exact Int.mul_nonneg h h
      · have := Int.mul_nonneg (show 0 ≤ -r by omega) (show 0 ≤ -r by omega); rwa [Int.neg_mul_neg] at this
    have h2 := Int.mul_pos hu hu
    omega
  refine rnd_mono (p1 _ hr) (p1 _ (by omega)) (p2 _) (p2 _) ?_
  have key : rise * ((rise + more) * (rise + more) + run * run) ≤ (rise + more) * (rise * rise + run * run) := by
    obtain ⟨s, hs⟩ : ∃ s, rise + more = s := ⟨_, rfl⟩
    rw [hs] at hru ⊢
    -- s*(r²+u²) - r*(s²+u²) = (s-r)(u² - r s) >= 0
    have h1 : rise * s ≤ run * run := Int.mul_le_mul (by omega) hru (by omega) (by omega)
    have h2 : 0 ≤ (s - rise) * (run * run - rise * s) := Int.mul_nonneg (by omega) (by omega)
    have e : (s - rise) * (run * run - rise * s) = s * (rise * rise + run * run) - rise * (s * s + run * run) := by
      rw [Int.sub_mul, Int.mul_sub, Int.mul_sub, Int.mul_add, Int.mul_add]
      have a1 : s * (rise * s) = rise * (s * s) := by rw [Int.mul_left_comm]
      have a2 : rise * (rise * s) = s * (rise * rise) := by rw [← Int.mul_assoc, Int.mul_comm]
      omega
    omega
  obtain ⟨C, hC⟩ : ∃ C, 981 * load = C := ⟨_, rfl⟩
  rw [hC]
  have hC0 : 0 ≤ C * run * 100000 := Int.mul_nonneg (Int.mul_nonneg (by omega) (by omega)) (by decide)
  have e1 : ∀ r t : Int, C * r * run * (100000 * t) = C * run * 100000 * (r * t) := fun r t => by
    rw [Int.mul_right_comm C r run, Int.mul_assoc (C * run) r, Int.mul_assoc (C * run) 100000, Int.mul_left_comm r 100000 t]
  rw [e1, e1]
  exact Int.mul_le_mul_of_nonneg_left key hC0
/-- The bounds of the index. -/
def idxLowS (low stress : Int) : Int := if stress = 0 then 1000000 else min (1000 * low / stress) 1000000
def idxHighS (high stress : Int) : Int := if stress = 0 then 1000000 else min ((1000 * high + stress - 1) / stress) 1000000
theorem idx_le {low high s : Int} (hlh : low ≤ high) (hs : 0 ≤ s) : idxLowS low s ≤ idxHighS high s := by
  unfold idxLowS idxHighS
  by_cases e : s = 0
  · rw [if_pos e, if_pos e]; exact Int.le_refl _
  · rw [if_neg e, if_neg e]
    have : 1000 * low / s ≤ (1000 * high + s - 1) / s := Int.ediv_le_ediv (by omega) (by omega)
    omega
theorem idxLow_less {low s t : Int} (h0 : 0 ≤ low) (hs : 0 ≤ s) (hst : s ≤ t) : idxLowS low t ≤ idxLowS low s := by
  unfold idxLowS
  by_cases e : s = 0
  · rw [if_pos e]; split <;> omega
  · rw [if_neg e, if_neg (by omega)]
    have : 1000 * low / t ≤ 1000 * low / s := by
      rw [Int.le_ediv_iff_mul_le (by omega)]
      have h1 := Int.ediv_mul_le (1000 * low) (show t ≠ 0 by omega)
      have h2 : 0 ≤ 1000 * low / t := Int.ediv_nonneg (by omega) (by omega)
      have h3 : 1000 * low / t * s ≤ 1000 * low / t * t := Int.mul_le_mul_of_nonneg_left hst h2
      omega
    omega
theorem idxHigh_less {high s t : Int} (h0 : 0 ≤ high) (hs : 0 ≤ s) (hst : s ≤ t) : idxHighS high t ≤ idxHighS high s := by
  unfold idxHighS
  by_cases e : s = 0
  · rw [if_pos e]; split <;> omega
  · rw [if_neg e, if_neg (by omega)]
    have : (1000 * high + t - 1) / t ≤ (1000 * high + s - 1) / s := by
      have hq : ∀ u : Int, 0 < u → (1000 * high + u - 1) / u = (1000 * high - 1) / u + 1 := fun u hu => by
        rw [show 1000 * high + u - 1 = (1000 * high - 1) + u by omega, Int.add_ediv_of_dvd_right (Int.dvd_refl u), Int.ediv_self (by omega)]
      rw [hq t (by omega), hq s (by omega)]
      by_cases hz : high = 0
      · subst hz
        have h1 : ((1000 : Int) * 0 - 1) / t = -1 := by rw [Int.ediv_eq_iff_of_pos (by omega)]; omega
        have h2 : ((1000 : Int) * 0 - 1) / s = -1 := by rw [Int.ediv_eq_iff_of_pos (by omega)]; omega
        omega
      · have : (1000 * high - 1) / t ≤ (1000 * high - 1) / s := by
          rw [Int.le_ediv_iff_mul_le (by omega)]
          have h1 := Int.ediv_mul_le (1000 * high - 1) (show t ≠ 0 by omega)
          have h2 : 0 ≤ (1000 * high - 1) / t := Int.ediv_nonneg (by omega) (by omega)
          have h3 : (1000 * high - 1) / t * s ≤ (1000 * high - 1) / t * t := Int.mul_le_mul_of_nonneg_left hst h2
          omega
        omega
    omega
def lowAt (L : List Layer) (more rise run d : Int) (k : Nat) : Int := idxLowS (lowN (L.getD k default) d) (stressN (loadN L k + more) rise run)
def highAt (L : List Layer) (more rise run d : Int) (k : Nat) : Int := idxHighS (highN (L.getD k default) d) (stressN (loadN L k + more) rise run)
/-- The first least one of the first n numbers. -/
def weakN (f : Nat → Int) (init : Int) : Nat → Int × Int
  | 0 => (-1, init)
  | k + 1 => if (weakN f init k).1 < 0 ∨ f k < (weakN f init k).2 then ((k : Int), f k) else weakN f init k
theorem weakN_neg (f : Nat → Int) (init : Int) (n : Nat) (hn : 0 < n) : 0 ≤ (weakN f init n).1 := by
  obtain ⟨k, rfl⟩ : ∃ k, n = k + 1 := ⟨n - 1, by omega⟩
  show 0 ≤ (if (weakN f init k).1 < 0 ∨ f k < (weakN f init k).2 then ((k : Int), f k) else weakN f init k).1
  split
  · simp
  · rename_i h; omega
theorem weakN_spec (f : Nat → Int) (init : Int) : ∀ n, 0 < n → ∃ q : Nat, q < n ∧ weakN f init n = ((q : Int), f q) ∧ ∀ j, j < n → f q ≤ f j
  | 0, h => absurd h (by omega)
  | k + 1, _ => by
    show ∃ q : Nat, q < k + 1 ∧ (if (weakN f init k).1 < 0 ∨ f k < (weakN f init k).2 then ((k : Int), f k) else weakN f init k) = _ ∧ _
    by_cases hk : 0 < k
    · obtain ⟨q, hq, he, hall⟩ := weakN_spec f init k hk
      rw [he]
      by_cases hlt : f k < f q
      · rw [if_pos (.inr hlt)]
        exact ⟨k, by omega, rfl, fun j hj => by
          by_cases e : j = k
          · subst e; exact Int.le_refl _
          · have := hall j (by omega); omega⟩
      · rw [if_neg (by simp; omega)]
        exact ⟨q, by omega, rfl, fun j hj => by
          by_cases e : j = k
          · subst e; omega
          · exact hall j (by omega)⟩
    · obtain rfl : k = 0 := by omega
      rw [if_pos (.inl (by show (-1 : Int) < 0; decide))]
      exact ⟨0, by omega, rfl, fun j hj => by
        obtain rfl : j = 0 := by omega
        exact Int.le_refl _⟩
theorem weakN_init (f : Nat → Int) (a b : Int) : ∀ n, 0 < n → weakN f a n = weakN f b n
  | 0, h => absurd h (by omega)
  | k + 1, _ => by
    show (if (weakN f a k).1 < 0 ∨ f k < (weakN f a k).2 then ((k : Int), f k) else weakN f a k) = (if (weakN f b k).1 < 0 ∨ f k < (weakN f b k).2 then ((k : Int), f k) else weakN f b k)
    by_cases hk : 0 < k
    · rw [weakN_init f a b k hk]
    · obtain rfl : k = 0 := by omega
      rw [if_pos (.inl (by show (-1 : Int) < 0; decide)), if_pos (.inl (by show (-1 : Int) < 0; decide))]
/-- Stable: no index lies below the limit. -/
def stabB (L : List Layer) (more rise run d limit : Int) : Bool := (List.range L.length).all fun k => decide (limit ≤ lowAt L more rise run d k)
theorem stabB_iff {L : List Layer} {more rise run d limit : Int} : stabB L more rise run d limit = true ↔ ∀ k, k < L.length → limit ≤ lowAt L more rise run d k := by
  unfold stabB; simp [List.all_eq_true]
theorem stabB_weak {L : List Layer} {more rise run d limit : Int} (h : limit ≤ 1000000) : stabB L more rise run d limit = decide (limit ≤ (weakN (lowAt L more rise run d) 1000000 L.length).2) := by
  by_cases hn : 0 < L.length
  · obtain ⟨q, hq, he, hall⟩ := weakN_spec (lowAt L more rise run d) 1000000 L.length hn
    rw [he, Bool.eq_iff_iff, stabB_iff, decide_eq_true_eq]
    exact ⟨fun h => h q hq, fun h k hk => by have := hall k hk; simp only at h; omega⟩
  · have e : L.length = 0 := by omega
    unfold stabB
    rw [e]
    simp [weakN, h]
theorem low_append {L : List Layer} {x : Layer} {m rise run d : Int} {k : Nat} (hk : k < L.length) (hx : x.ice + x.water = m) : lowAt (L ++ [x]) 0 rise run d k = lowAt L m rise run d k := by
  unfold lowAt
  have e1 : (L ++ [x]).getD k default = L.getD k default := by
    rw [List.getD_eq_getElem?_getD, List.getD_eq_getElem?_getD, List.getElem?_append_left hk]
  have e2 : loadN (L ++ [x]) k + 0 = loadN L k + m := by
    unfold loadN
    rw [List.drop_append_of_le_length (by omega), mass_append, ← hx]
    simp [massN, sumBy]
  rw [e1, e2]
/-- A profile that is not stable with a further load is not stable with a layer of that mass on it. -/
theorem stab_layer {L : List Layer} {x : Layer} {m rise run d limit : Int} (h : stabB L m rise run d limit = false) (hx : x.ice + x.water = m) : stabB (L ++ [x]) 0 rise run d limit = false := by
  rw [← Bool.not_eq_true, stabB_iff] at h ⊢
  intro hall
  refine h fun k hk => ?_
  have := hall k (by rw [List.length_append]; simp; omega)
  rwa [low_append hk hx] at this

end Go.Proofs.Ytmfghgoboibjdaa
