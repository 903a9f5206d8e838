/- CountTurns of the program. -/
import Derived.Test.YtjidibohbbdboaaDoorCntI
import Derived.Test.YtjidibohbbdboaaDoorCntQ
import Derived.Test.YtjidibohbbdboaaDoorFairQ
namespace Go.Proofs.YtjidibohbbdboaaDoor
open Go.RowKit

theorem MapAt.of_empty {n m g : Nat} {ab : List Row} {b : Nat} {w : World} (h : w.heap[b]? = some (.map #[] 0)) : MapAt n m g ab b 0 w :=
  ⟨.map [], ⟨#[], 0, h, ⟨by simp, MapKept.stamped_empty 0, by simp⟩, Nat.le_refl _, rfl⟩, Memo.empty n m g ab⟩
theorem ppl_nil : Ppl [] := ⟨by simp, fun y hy => by simp at hy⟩
theorem capI_mono : ∀ (a d : Nat), capI a ≤ capI (a + d)
  | _, 0 => Nat.le_refl _
  | a, d + 1 => by
    have := capI_mono a d
    show capI a ≤ 8 * capI (a + d) + 1
    omega
theorem capI_le {f : Nat} (h : f ≤ 12) : capI f ≤ 9817068105 := by
  have h1 := capI_mono f (12 - f)
  rw [show f + (12 - f) = 12 by omega] at h1
  have h2 : capI 12 = 9817068105 := by decide
  omega
theorem waysN_le12 {n g m : Nat} {ab : List Row} (hn : n ≤ 8) (hm : m ≤ 12) (given : List Int) : waysN n g ab m given ≤ 68719476736 := by
  have h1 := waysN_le (n := n) (g := g) (ab := ab) hn m given
  have h3 : 8 ^ m ≤ 8 ^ 12 := Nat.pow_le_pow_right (by decide) hm
  have h4 : (8 : Nat) ^ 12 = 68719476736 := by decide
  omega
set_option maxRecDepth 100000 in
set_option maxHeartbeats 2000000 in
theorem implCountTurns_any (people turns gap : Int) (A : Option Addr) (n c : Nat) (ab : List Row) (w : World) (hx : Row.Sl w A n ab) (ht : TabAt w.heap.size w) :
    Calls Tryd.prog 8 #[.int .i64 people, .int .i64 turns, .int .i64 gap, .slice A n c] w (Ret (.tuple #[.int .i64 (cntI people turns gap ab), .int .i64 (turnsC people turns gap ab)]) w) := by
  have HX := Lib.hid hx
  have HT := Lib.hid ht
  clear hx ht
  by_cases hC : turnsC people turns gap ab = 0
  rotate_left
  · have HM := Lib.hid (cntI_no hC)
    have HC0 := Lib.hid hC
    have hq : (turnsC people turns gap ab != 0) = true := by simp [hC]
    obtain ⟨C, hCC⟩ : ∃ C, turnsC people turns gap ab = C := ⟨_, rfl⟩
    have HCC := Lib.hid hCC
    rw [hCC] at hq
    clear hC hCC
    go_enter Tryd.func8, Tryd.ntmps8
    go_wp2_with fail
    refine (newTurns_any people turns gap A n c ab _ HX.out).mono ?_
    rintro e w1 ⟨⟨_, rfl⟩ | ⟨h0, _⟩, hb1⟩
    rotate_left
    · exact absurd h0 HC0.out
    have HB1 := Lib.hid (hb1.alloc hb1.size (.cells #[.int .i64 0, .int .i64 0, .int .i64 0, .slice none 0 0, .map none] 41))
    clear hb1
    rw [HCC.out]
    go_wp2
    go_ret2
    exact Ret.ii HM.out.symm HCC.out.symm HB1.out
  have HC := Lib.hid hC
  obtain ⟨p, m, g, rfl, rfl, rfl, hok⟩ := turnsC_zero hC
  have HOK := Lib.hid hok
  obtain rfl : n = p := by rw [← HX.out.len]; exact hok.len
  have hn8 := hok.n8
  have hm12 := hok.m12
  clear hC hok
  go_enter Tryd.func8, Tryd.ntmps8
  go_wp2_with fail
  refine (newTurns_any _ _ _ A n c ab _ HX.out).mono ?_
  rintro e w1 ⟨⟨h0, _⟩ | ⟨_, bm, rfl, hbm, hmk⟩, hb1⟩
  · exact absurd HC.out h0
  have HB1 := Lib.hid hb1
  have HB2 := Lib.hid (hb1.alloc hb1.size (.cells #[.int .i64 (n : Int), .int .i64 (m : Int), .int .i64 (g : Int), .slice A n c, .map (some bm)] 41))
  have HM : Hid (MapAt n m g ab bm 0 (w1.alloc (.cells #[.int .i64 (n : Int), .int .i64 (m : Int), .int .i64 (g : Int), .slice A n c, .map (some bm)] 41))) := (MapAt.of_empty hmk).below ((Below.refl _ _).alloc (Nat.le_refl _) _)
  clear hb1 hmk
  go_wp2_with fail
  (with_reducible refine (count_any n m g A c ab bm w HX.out HOK.out hbm HT.out m [] (.slice none 0 0) 0 _ (OwnsL.nil_ _ _ _ _ _) (fun k hk => by simp [Value.ownBlock] at hk) (by simp) ppl_nil HB2.out HM.out (by have := capI_le hm12; omega)).mono ?_)
  rintro e w3 ⟨rfl, hm3, hs3⟩
  have HB3 : Hid (Below w.heap.size w w3) := Below.span HB2.out hs3 HB2.out.size hbm
  have hle := waysN_le12 (g := g) (ab := ab) hn8 hm12 []
  have HV := Lib.hid (cntI_zero HC.out)
  clear hm3 hs3
  obtain ⟨V, hV⟩ : ∃ V, waysN n g ab m [] = V := ⟨_, rfl⟩
  rw [hV] at hle HV ⊢
  clear hV
  go_wp2
  go_ret2
  exact Ret.ii (by rw [HV.out]; omega) HC.out.symm HB3.out

end Go.Proofs.YtjidibohbbdboaaDoor
