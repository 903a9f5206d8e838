/- The points and legs that the laws of tours draw. -/
import Derived.Test.YtamgodeiakflbaaDoorSrc
import Derived.Test.YtamgodeiakflbaaDoorSrcK
import Derived.Test.YtamgodeiakflbaaDoorR8
import Derived.Test.YtamgodeiakflbaaDoorRouteLegs
import Derived.Test.YtamgodeiakflbaaDoorFastP
import Derived.Test.YtamgodeiakflbaaDoorPush2
namespace Go.Proofs.YtamgodeiakflbaaDoor
open Go.RowKit

/-- How many pairs lie in the rows above row a, of six points. -/
def tri : Nat → Nat
  | 0 => 0
  | 1 => 5
  | 2 => 9
  | 3 => 12
  | 4 => 14
  | _ => 15
theorem tri_step {a : Nat} (h : a ≤ 5) : tri a + (5 - a) ≤ tri (a + 1) := by
  match a, h with
  | 0, _ => decide
  | 1, _ => decide
  | 2, _ => decide
  | 3, _ => decide
  | 4, _ => decide
  | 5, _ => decide
theorem tri_le (a : Nat) : tri a ≤ 15 := by
  match a with
  | 0 => decide
  | 1 => decide
  | 2 => decide
  | 3 => decide
  | 4 => decide
  | _ + 5 => exact Nat.le_refl _
/-- The legs that are drawn ahead of the pair (a, b). -/
structure DrawnL (p a b : Nat) (L : List Leg) : Prop where
  good : ∀ n, GoodTo (Leg.oneB (p : Int)) Leg.rel L n
  before : ∀ x ∈ L, x.from_ < a ∨ x.from_ = a ∧ x.to_ < b
  len : L.length ≤ tri a + (b - a - 1)
theorem DrawnL.nil {p b : Nat} : DrawnL p 0 b [] := ⟨fun n k x _ h => by simp at h, by simp, by simp⟩
theorem good_snoc {α : Type} {one : α → Bool} {rel : α → α → Bool} {L : List α} {x : α} (h : ∀ n, GoodTo one rel L n) (h1 : one x = true) (h2 : ∀ y ∈ L, rel y x = true) : ∀ n, GoodTo one rel (L ++ [x]) n := by
  intro n k y hk hy
  rcases Nat.lt_trichotomy k L.length with hlt | heq | hgt
  · rw [List.getElem?_append_left hlt] at hy
    have := h n k y hk hy
    refine ⟨this.1, fun q hq hqy => ?_⟩
    rw [List.getElem?_append_left (by omega)] at hqy
    exact this.2 q hq hqy
  · subst heq
    rw [List.getElem?_append_right (Nat.le_refl _), Nat.sub_self] at hy
    injection hy with hy
    subst hy
    refine ⟨h1, fun q hq hqy => ?_⟩
    rw [List.getElem?_append_left (by omega)] at hqy
    exact h2 q (List.mem_of_getElem? hqy)
  · rw [List.getElem?_eq_none (by simp; omega)] at hy
    cases hy
theorem DrawnL.add {p a b : Nat} {L : List Leg} {m e : Int} (h : DrawnL p a b L) (hab : a < b) (hb : b < p) (_hp : p ≤ 6) (hm : 1 ≤ m ∧ m ≤ 600) (he : 0 ≤ e ∧ e ≤ 1000) : DrawnL p a (b + 1) (L ++ [⟨a, b, m, e⟩]) := by
  refine ⟨good_snoc h.good ?_ (fun y hy => ?_), fun x hx => ?_, ?_⟩
  · unfold Leg.oneB
    simp only [Bool.and_eq_true, inB_iff]
    omega
  · have := h.before y hy
    unfold Leg.rel
    simp only [Bool.or_eq_true, Bool.and_eq_true, decide_eq_true_eq, beq_iff_eq]
    omega
  · rcases List.mem_append.1 hx with h' | h'
    · have := h.before x h'; omega
    · simp at h'; subst h'; exact .inr ⟨rfl, by show (b : Int) < ((b + 1 : Nat) : Int); omega⟩
  · rw [List.length_append]
    have := h.len
    simp; omega
theorem DrawnL.skip {p a b : Nat} {L : List Leg} (h : DrawnL p a b L) : DrawnL p a (b + 1) L :=
  ⟨h.good, fun x hx => by have := h.before x hx; omega, by have := h.len; omega⟩
theorem DrawnL.row {p a : Nat} {L : List Leg} (h : DrawnL p a p L) (ha : a < p) (hp : p ≤ 6) : DrawnL p (a + 1) (a + 1 + 1) L :=
  ⟨h.good, fun x hx => by have := h.before x hx; omega, by have := h.len; have := tri_step (a := a) (by omega); omega⟩
theorem DrawnL.ok {p a b : Nat} {L : List Leg} (h : DrawnL p a b L) (hb : b ≤ a + 1) (h2 : 2 ≤ p) (h6 : p ≤ 6) : legsOk (p : Int) L = true := by
  unfold legsOk
  rw [Bool.and_eq_true, inB_iff]
  refine ⟨by omega, validL_spec.2 ⟨?_, h.good⟩⟩
  have := h.len
  have := tri_le a
  omega
set_option maxHeartbeats 1000000 in
theorem srcOne_any (A : Option Addr) (n c : Nat) (ds : List Int) (bs k m : Nat) (w0 w : World) (h : SrcAt A n c ds bs k w0 w) (hk : k ≤ 1048570000) (hm : 1 ≤ m) (hm2 : m ≤ 1048576) :
    Calls Tryd.prog 38 #[.pointer (some ⟨bs, 0, none⟩), .int .i64 m] w (fun e w' => ∃ (b : Bool) (k' : Nat), e = .returned (.bool b) ∧ k' ≤ k + 2 ∧ SrcAt A n c ds bs k' w0 w' ∧ Span bs (bs + 1) w w') := by
  have H := Lib.hid h
  clear h
  go_enter Tryd.func38, Tryd.ntmps38
  go_wp2_with fail
  refine (srcPick_any A n c ds bs k m w0 w H.out hk hm hm2).mono ?_
  rintro e w1 ⟨r, k', rfl, hr, hk', hs, ha⟩
  have HS := Lib.hid hs
  have HA := Lib.hid ha
  clear hs ha
  go_wp2
  go_ret
  exact ⟨_, k', rfl, hk', HS.out, HA.out⟩
set_option maxRecDepth 100000 in
set_option maxHeartbeats 1000000 in
theorem l23Draw_any (A : Option Addr) (n c : Nat) (ds : List Int) (bs : Nat) (w0 w : World) (h : SrcAt A n c ds bs 0 w0 w) :
    Calls Tryd.prog 17 #[.pointer (some ⟨bs, 0, none⟩)] w (fun e w' => ∃ (p : Nat) (v : Value) (L : List Leg), e = .returned (.tuple #[.int .i64 p, v]) ∧ 2 ≤ p ∧ p ≤ 6 ∧ legsOk (p : Int) L = true ∧ OwnsL w' w.heap.size 32 4 Leg.cells v L ∧ Below w0.heap.size w0 w') := by
  have H := Lib.hid h
  have HLT := Lib.hid h.lt
  clear h
  go_enter Tryd.func17, Tryd.ntmps17
  go_wp2_with fail
  refine (srcPick_any A n c ds bs 0 5 w0 w H.out (by omega) (by omega) (by omega)).mono ?_
  rintro e w1 ⟨q, k1, rfl, hq, hk1, hs1, ha1⟩
  obtain ⟨p, hp⟩ : ∃ p : Nat, q + 2 = p := ⟨_, rfl⟩
  have hpe : (2 : Int) + (q : Int) = (p : Int) := by omega
  have hp2 : 2 ≤ p := by omega
  have hp6 : p ≤ 6 := by omega
  have HS1 := Lib.hid hs1
  have HSZ : Hid (w.heap.size ≤ w1.heap.size) := ha1.size
  have HL1 : Hid (bs < w1.heap.size) := hs1.lt
  have HPE := Lib.hid hpe
  clear hs1 ha1 hp
  go_wp2
  clear hpe
  go_loopg [5, 6] p (fun gk s5 s6 wr => ∃ (a kk : Nat) (v : Value) (L : List Leg), a ≤ p ∧ gk = p - a ∧ s6 = .int .i64 a ∧ v = s5 ∧ kk ≤ 2 + 60 * a ∧ DrawnL p a (a + 1) L ∧ SrcAt A n c ds bs kk w0 wr ∧ OwnsL wr w1.heap.size 32 4 Leg.cells v L ∧ w1.heap.size ≤ wr.heap.size)
  case atStart => exact ⟨0, k1, _, [], Nat.zero_le _, rfl, rfl, rfl, by omega, DrawnL.nil, HS1.out.grow ((Below.refl _ _).alloc (Nat.le_refl _) _), OwnsL.made _ _ _ _ _ (Nat.le_refl _), by simp⟩
  case round =>
    obtain ⟨a, kk, v, L, ha, hga, rfl, rfl, hkk, hdr, hsr, hown, hsz⟩ := hrel
    have Hga := Lib.hid hga
    have HKK := Lib.hid hkk
    have HDR := Lib.hid hdr
    have HSR := Lib.hid hsr
    have HOW := Lib.hid hown
    have HSZ1 := Lib.hid hsz
    clear hga hkk hdr hsr hown hsz
    by_cases hap : a < p
    · go_wp2
      go_loopg [5, 7] (p - (a + 1)) (fun gk s5 s7 wr => ∃ (b kk : Nat) (v : Value) (L : List Leg), a + 1 ≤ b ∧ b ≤ p ∧ gk = p - b ∧ s7 = .int .i64 b ∧ v = s5 ∧ kk ≤ 2 + 60 * a + 6 * b ∧ DrawnL p a b L ∧ SrcAt A n c ds bs kk w0 wr ∧ OwnsL wr w1.heap.size 32 4 Leg.cells v L ∧ w1.heap.size ≤ wr.heap.size)
      case atStart => exact ⟨a + 1, kk, v, L, Nat.le_refl _, by omega, rfl, by go_num, rfl, by have := HKK.out; omega, HDR.out, HSR.out, HOW.out, HSZ1.out⟩
      case round =>
        obtain ⟨b, kb, v, L, hab, hbp, hgb, rfl, rfl, hkb, hdr, hsr, hown, hsz⟩ := hrel
        have Hgb := Lib.hid hgb
        have HKB := Lib.hid hkb
        have HDB := Lib.hid hdr
        have HSB := Lib.hid hsr
        have HOB := Lib.hid hown
        have HZB := Lib.hid hsz
        have hkbl : kb ≤ 1000 := by omega
        have hll : L.length ≤ 30 := by
          have := hdr.len
          have := tri_le a
          omega
        have HLL := Lib.hid hll
        clear hgb hkb hdr hsr hown hsz hll
        by_cases hbl : b < p
        · go_wp2_with fail
          refine (srcOne_any A n c ds bs kb 2 w0 wr HSB.out (by omega) (by omega) (by omega)).mono ?_
          rintro e w2 ⟨yes, k2, rfl, hk2, hs2, ha2⟩
          have HS2 := Lib.hid hs2
          have HO2 := Lib.hid (HOB.out.span ha2 (fun k hk => .inr (by have := (HOB.out.lt k hk).1; have := HL1.out; omega)))
          have HZ2 := Lib.hid (Nat.le_trans HZB.out ha2.size)
          clear hs2 ha2
          cases yes
          · go_wp2
            go_roundg (p - (b + 1))
            case measure => have := Hgb.out; omega
            case rel => exact ⟨b + 1, k2, v, L, by omega, by omega, rfl, by go_num, rfl, by have := HKB.out; omega, HDB.out.skip, HS2.out, HO2.out, HZ2.out⟩
          · go_wp2_with fail
            refine (srcPick_any A n c ds bs k2 20 w0 w2 HS2.out (by omega) (by omega) (by omega)).mono ?_
            rintro e w3 ⟨r, k3, rfl, hr, hk3, hs3, ha3⟩
            have HS3 := Lib.hid hs3
            have HO3 := Lib.hid (HO2.out.span ha3 (fun k hk => .inr (by have := (HO2.out.lt k hk).1; have := HL1.out; omega)))
            have HZ3 := Lib.hid (Nat.le_trans HZ2.out ha3.size)
            clear hs3 ha3
            obtain ⟨m, hm⟩ : ∃ m, 5 + 5 * (r : Int) = m := ⟨_, rfl⟩
            have hmb : 1 ≤ m ∧ m ≤ 600 := by omega
            have HMB := Lib.hid hmb
            go_wp2_with fail
            obtain ⟨w4, hw4⟩ : ∃ w4, w3.alloc (.cells #[.int .i64 a, .int .i64 b, .int .i64 m, .int .i64 0] 32) = w4 := ⟨_, rfl⟩
            obtain ⟨X, hX⟩ : ∃ X, w3.heap.size = X := ⟨_, rfl⟩
            have hb4 : Below w3.heap.size w3 w4 := by rw [← hw4]; exact (Below.refl _ _).alloc (Nat.le_refl _) _
            have HX4 : Hid (Own w4 X 32 #[.int .i64 a, .int .i64 b, .int .i64 m, .int .i64 0]) := by rw [Hid, ← hw4, ← hX]; exact Own.new _ _ _
            have HS4 := Lib.hid (HS3.out.grow hb4)
            have HO4 := Lib.hid (HO3.out.below' hb4)
            have HZ4 := Lib.hid (Nat.le_trans HZ3.out hb4.size)
            have HXB : Hid (bs + 1 ≤ X ∧ w1.heap.size ≤ X) := by have h1 := HL1.out; have h2 := HZ3.out; rw [Hid, ← hX]; omega
            have HXN : Hid (∀ k, v.ownBlock = some k → k ≠ X) := fun k hk => by have := (HO3.out.lt k hk).2; omega
            rw [hw4, hX]
            clear hw4 hb4 hX hm hmb
            refine (srcPick_any A n c ds bs k3 20 w0 w4 HS4.out (by omega) (by omega) (by omega)).mono ?_
            rintro e w5 ⟨z, k5, rfl, hz, hk5, hs5, ha5⟩
            have HS5 := Lib.hid hs5
            have HO5 := Lib.hid (HO4.out.span ha5 (fun k hk => .inr (by have := (HO4.out.lt k hk).1; have := HL1.out; omega)))
            have HZ5 := Lib.hid (Nat.le_trans HZ4.out ha5.size)
            have HX5 := Lib.hid (HX4.out.span ha5 (.inr HXB.out.1))
            clear hs5 ha5
            obtain ⟨ex, hex⟩ : ∃ ex, 10 * (z : Int) = ex := ⟨_, rfl⟩
            have HEB : Hid (0 ≤ ex ∧ ex ≤ 1000) := by rw [Hid]; omega
            have x0 := HX5.out.cell 0
            have x1 := HX5.out.cell 1
            have x2 := HX5.out.cell 2
            have x3 := HX5.out.cell 3
            have dx := HX5.out.frozen
            have lx := HX5.out.lt
            simp at x0 x1 x2 x3
            obtain ⟨w6, hw6⟩ : ∃ w6, w5.setCell ⟨X, 3, none⟩ (.int .i64 ex) = w6 := ⟨_, rfl⟩
            have HX6 : Hid (Own w6 X 32 #[.int .i64 a, .int .i64 b, .int .i64 m, .int .i64 ex]) := by rw [Hid, ← hw6]; simpa using HX5.out.put 3 (.int .i64 ex)
            have HO6 : Hid (OwnsL w6 w1.heap.size 32 4 Leg.cells v L) := by
              rw [Hid, ← hw6]
              exact HO5.out.kept (fun k hk => Below.heap_setCell w5 ⟨X, 3, none⟩ _ k (HXN.out k hk))
            have HS6 : Hid (SrcAt A n c ds bs k5 w0 w6) := by
              rw [Hid, ← hw6]
              exact HS5.out.put (p := ⟨X, 3, none⟩) (by have := HXB.out; simp only; omega) (by have h1 := HXB.out; have h2 := HS5.out.base; simp only; omega) _
            have HZ6 : Hid (w1.heap.size ≤ w6.heap.size) := by rw [Hid, ← hw6]; simpa using HZ5.out
            have q0 := HX6.out.cell 0
            have q1 := HX6.out.cell 1
            have q2 := HX6.out.cell 2
            have q3 := HX6.out.cell 3
            have dq := HX6.out.frozen
            have lq := HX6.out.lt
            simp at q0 q1 q2 q3
            go_wp2_with (at_builtin; refine wpList_push (by rfl) (.tmp 38) (.tmp 40) 24 (by rfl) w1.heap.size 32 4 Tryd.underlying24 infoLegE (by rfl) (by decide) Leg.cells Leg.cells_len Leg.cells_one _ v L ⟨a, b, m, ex⟩ (by rfl) (by rfl) HO6.out (by first | rfl | simp [go_sem]) (by have := HLL.out; omega) (by decide) HZ6.out ?_)
            intro v' w' hown' hb' _
            have HDN := Lib.hid (HDB.out.add (by omega) hbl hp6 HMB.out HEB.out)
            have HSN : Hid (SrcAt A n c ds bs k5 w0 w') := by
              obtain ⟨s, ho⟩ := HS6.out.own
              exact ⟨HS6.out.sl, HS6.out.by_, HS6.out.below.trans (hb'.mono (Nat.le_trans HS6.out.base (Nat.le_of_lt HL1.out))), HS6.out.base, s, ho.below (hb'.mono (Nat.le_refl _)) HL1.out⟩
            have HON := Lib.hid hown'
            have HZN : Hid (w1.heap.size ≤ w'.heap.size) := Nat.le_trans HZ6.out (by simpa using hb'.size)
            clear hown' hb' hw6 hex q0 q1 q2 q3 dq lq x0 x1 x2 x3 dx lx
            go_wp2
            go_roundg (p - (b + 1))
            case measure => have := Hgb.out; omega
            case rel => exact ⟨b + 1, k5, v', _, by omega, by omega, rfl, by go_num, rfl, by have := HKB.out; omega, HDN.out, HSN.out, HON.out, HZN.out⟩
        · have hbb : b = p := by omega
          subst hbb
          go_wp2
          go_roundg (b - (a + 1))
          case measure => have := Hga.out; omega
          case rel => exact ⟨a + 1, kb, v, L, by omega, rfl, by go_num, rfl, by have := HKB.out; omega, HDB.out.row hap hp6, HSB.out, HOB.out, HZB.out⟩
    · have hpp : a = p := by omega
      subst hpp
      go_wp2
      go_ret2
      exact ⟨a, v, L, rfl, hp2, hp6, HDR.out.ok (Nat.le_refl _) hp2 hp6, HOW.out.rebase HSZ.out, HSR.out.below⟩
set_option maxHeartbeats 1000000 in
theorem r8Legs_any (A : Option Addr) (n c : Nat) (ds : List Int) (w : World) (hs : SliceOf w 1 u8cells A n ds) (hb : ∀ x ∈ ds, 0 ≤ x ∧ x ≤ 255) :
    Calls Tryd.prog 5 #[.slice A n c] w (fun e w' => ∃ (p : Nat) (AL : Option Addr) (nl cl : Nat) (L : List Leg), e = .returned (.tuple #[.int .i64 p, .slice AL nl cl]) ∧ 2 ≤ p ∧ p ≤ 6 ∧ legsOk (p : Int) L = true ∧ SliceOf w' 4 Leg.cells AL nl L ∧ Below w.heap.size w w') := by
  have HS := Lib.hid hs
  have HY := Lib.hid hb
  clear hs hb
  go_enter Tryd.func5, Tryd.ntmps5
  go_wp2_with fail
  refine (srcFrom_any A n c ds w HS.out HY.out).mono ?_
  rintro e w2 ⟨bs, rfl, hsrc, hb2⟩
  go_wp2_with fail
  refine (l23Draw_any A n c ds bs w w2 hsrc).mono ?_
  rintro e w3 ⟨p, v, L, rfl, hp2, hp6, hv, hown, hb3⟩
  obtain ⟨AL, cl, rfl, _, _, hsl⟩ := hown.slice Leg.cells_len
  have HSL := Lib.hid hsl
  have HB3 := Lib.hid hb3
  have HV := Lib.hid hv
  clear hown hsl hb3 hv hsrc hb2
  go_wp2
  go_ret2
  exact ⟨p, AL, _, cl, L, rfl, hp2, hp6, HV.out, HSL.out, HB3.out⟩

end Go.Proofs.YtamgodeiakflbaaDoor
