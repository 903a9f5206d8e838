/- Two numbers with a sign between them: the reference's reading. -/
import Derived.Test.YtgianbcplnciiaaDoorSplit
import Derived.Test.YtgianbcplnciiaaDoorLegP
namespace Go.Proofs.YtgianbcplnciiaaDoor
open Go.RowKit

theorem dec_data (n : Int) : (dec n).data.toList = Lib.itoa n := dec_list n
structure TwoOk (s : ByteArray) (c : UInt8) (B : Nat) (w : World) (v : Value) (x y : Int) : Prop where
  sx : Small x
  sy : Small y
  own : OwnsL w B 2 1 i64cells v [x, y]
  txt : s.data.toList = Lib.itoa x ++ c :: Lib.itoa y
  nx : c ∉ Lib.itoa x
  ny : c ∉ Lib.itoa y
def NoTwo (s : ByteArray) (c : UInt8) : Prop := ∀ x y : Int, 0 ≤ x → 0 ≤ y → Small x → Small y → s.data.toList ≠ Lib.itoa x ++ c :: Lib.itoa y
theorem noTwo_len {s : ByteArray} {c : UInt8} {ps : List ByteArray} {last : ByteArray} (hc : c.toNat < 48) (h : Pieces c s.data.toList ps last) (hn : (ps ++ [last]).length ≠ 2) : NoTwo s c := fun x y hx hy _ _ e => by
  have := (h.two (a := dec x) (b := dec y) (by rw [dec_data, dec_data]; exact e) (by rw [dec_data]; exact itoa_not hx hc) (by rw [dec_data]; exact itoa_not hy hc)).1
  rw [this] at hn
  exact hn rfl
theorem noTwo_one {s : ByteArray} {c : UInt8} {a b : ByteArray} (hc : c.toNat < 48) (h : Pieces c s.data.toList [a] b) (hn : ReadsDec a none ∨ ReadsDec b none) : NoTwo s c := fun x y hx hy sx sy e => by
  obtain ⟨h1, h2⟩ := h.two (a := dec x) (b := dec y) (by rw [dec_data, dec_data]; exact e) (by rw [dec_data]; exact itoa_not hx hc) (by rw [dec_data]; exact itoa_not hy hc)
  injection h1 with h1 _
  rcases hn with hn | hn
  · exact hn.no rfl x sx h1
  · exact hn.no rfl y sy h2
theorem two_txt {s : ByteArray} {c : UInt8} {a b : ByteArray} {x y : Int} (h : Pieces c s.data.toList [a] b) (ha : a = dec x) (hb : b = dec y) : s.data.toList = Lib.itoa x ++ c :: Lib.itoa y := by
  have := h.all
  rw [joinE_cons, ha, hb, dec_data, dec_data] at this
  simpa [joinE] using this
theorem own_two (w : World) (x y : Int) : OwnsL (w.alloc (.cells #[.int .i64 x, .int .i64 y] 2)) w.heap.size 2 1 i64cells (.slice (some ⟨w.heap.size, 0, none⟩) 2 2) [x, y] :=
  ⟨rfl, .inr ⟨w.heap.size, 2, #[.int .i64 x, .int .i64 y], rfl, Nat.le_refl _, Own.new w _ _, Nat.le_refl _, by decide, rfl, rfl⟩⟩
set_option maxRecDepth 100000 in
set_option maxHeartbeats 2000000 in
theorem l23Two_any (s : ByteArray) (c : UInt8) (w : World) (hs : s.size ≤ 1048576) (hc48 : c.toNat < 48) : Calls Tryd.prog 34 #[.string s, .int .u8 (c.toNat : Int)] w (fun e w' => ∃ v b, e = .returned (.tuple #[v, .bool b]) ∧ (b = true → ∃ x y, TwoOk s c w.heap.size w' v x y) ∧ (b = false → NoTwo s c) ∧ Below w.heap.size w w') := by
  have HC := Lib.hid hc48
  clear hc48
  go_enter Tryd.func34, Tryd.ntmps34
  go_wp2_with fail
  refine (l01Split_any s c w hs).mono ?_
  rintro e w1 ⟨v, ps, last, rfl, hown, hp, hb⟩
  obtain ⟨A, cp, rfl, _, _, hsl⟩ := hown.slice strcells_len
  have HP := Lib.hid hp
  have HB := Lib.hid hb
  have HSL := Lib.hid hsl
  obtain ⟨n, hn⟩ : ∃ n, (ps ++ [last]).length = n := ⟨_, rfl⟩
  rw [hn] at HSL ⊢
  have hnl := hsl.le
  rw [hn] at hnl
  clear hown hp hb hsl
  by_cases h2 : n = 2
  · subst h2
    obtain ⟨a, rfl⟩ : ∃ a, ps = [a] := by
      cases ps with
      | nil => simp at hn
      | cons a r => cases r with
        | nil => exact ⟨a, rfl⟩
        | cons _ _ => simp at hn
    obtain ⟨b0, o0, y0, rfl, hb0, hy0, x0⟩ := strs_at HSL.out (k := 0) (by decide)
    obtain ⟨b1, o1, y1, he, _, hy1, x1⟩ := strs_at HSL.out (k := 1) (by decide)
    injection he with he
    injection he with he1 he2
    subst he1 he2
    simp at hy0 hy1
    subst hy0 hy1
    rw [Nat.add_zero] at x0
    have HPA := Lib.hid HP.out.all
    have hsz : a.size ≤ 1048576 ∧ last.size ≤ 1048576 := by
      have h1 := congrArg List.length HP.out.all
      rw [joinE_cons] at h1
      have e1 : s.data.toList.length = s.size := by rw [Array.length_toList]; rfl
      have e2 : a.data.toList.length = a.size := by rw [Array.length_toList]; rfl
      have e3 : last.data.toList.length = last.size := by rw [Array.length_toList]; rfl
      simp [joinE] at h1
      have e4 : s.data.size = s.size := rfl
      have e5 : a.data.size = a.size := rfl
      have e6 : last.data.size = last.size := rfl
      omega
    have HSZ := Lib.hid hsz
    clear hn hsz
    go_wp2_with fail
    refine (l01Number_any a w1 (by have := HSZ.out; omega)).mono ?_
    rintro e w2 ⟨r0, rfl, hr, rfl⟩
    have HR0 := Lib.hid hr
    clear hr
    go_wp2_with fail
    refine (l01Number_any last w1 (by have := HSZ.out; omega)).mono ?_
    rintro e w2 ⟨r1, rfl, hr, rfl⟩
    have HR1 := Lib.hid hr
    clear hr
    have HBN : ∀ x y, Hid (Below w.heap.size w (w1.alloc (.cells #[.int .i64 x, .int .i64 y] 2))) := fun x y => HB.out.alloc HB.out.size _
    cases r0
    · have HNO := Lib.hid (noTwo_one HC.out HP.out (.inl HR0.out))
      go_wp2
      go_ret2
      exact ⟨_, _, rfl, fun h => (by cases h), fun _ => HNO.out, (HBN _ _).out⟩
    · rename_i m0
      cases r1
      · have HNO := Lib.hid (noTwo_one HC.out HP.out (.inr HR1.out))
        go_wp2
        go_ret2
        exact ⟨_, _, rfl, fun h => (by cases h), fun _ => HNO.out, (HBN _ _).out⟩
      · rename_i m1
        have h0 := HR0.out.yes m0 rfl
        have h1 := HR1.out.yes m1 rfl
        have HOK : Hid (TwoOk s c w.heap.size (w1.alloc (.cells #[.int .i64 m0, .int .i64 m1] 2)) (.slice (some ⟨w1.heap.size, 0, none⟩) 2 2) m0 m1) := ⟨h0.1, h1.1, (own_two w1 m0 m1).rebase HB.out.size, two_txt HP.out h0.2 h1.2, by have := HP.out.no a (List.mem_cons_self ..); rwa [h0.2, dec_data] at this, by have := HP.out.nolast; rwa [h1.2, dec_data] at this⟩
        clear h0 h1
        go_wp2
        go_ret2
        exact ⟨_, _, rfl, fun _ => ⟨_, _, HOK.out⟩, fun h => (by cases h), (HBN _ _).out⟩
  · have HNO := Lib.hid (noTwo_len HC.out HP.out (by rw [hn]; exact h2))
    have hne : ((n : Int) != 2) = true := by simp; omega
    clear h2 hn
    go_wp2
    go_ret2
    exact ⟨_, _, rfl, fun h => (by cases h), fun _ => HNO.out, HB.out⟩

end Go.Proofs.YtgianbcplnciiaaDoor
