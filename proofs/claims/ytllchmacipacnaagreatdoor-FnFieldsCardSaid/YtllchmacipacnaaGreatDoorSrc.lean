/- The reference's source of draws: bytes first, numbers of its own after them. -/
import Derived.Test.YtllchmacipacnaaGreatDoorBase
import Derived.Test.YtllchmacipacnaaGreatDoorMem
import Derived.Test.YtllchmacipacnaaGreatDoorTInt64
import Derived.Laws.BitsLemmas
import Derived.Laws.Bits64
namespace Go.Proofs.YtllchmacipacnaaGreatDoor
open Go.RowKit

def u8cells (x : Int) : List Value := [.int .u8 x]
theorem u8cells_len (x : Int) : (u8cells x).length = 1 := rfl
theorem u8s_at {w : World} {A : Option Addr} {n : Nat} {xs : List Int} (h : SliceOf w 1 u8cells A n xs) {k : Nat} (hk : k < n) : ∃ b off x, A = some ⟨b, off, none⟩ ∧ b < w.heap.size ∧ xs[k]? = some x ∧ w.cell? ⟨b, off + k, none⟩ = some (.int .u8 x) := by
  obtain ⟨b, off, x, hA, hb, hx, hc⟩ := h.at_ hk
  have h0 := hc 0 _ rfl
  rw [Nat.mul_one, Nat.add_zero] at h0
  exact ⟨b, off, x, hA, hb, hx, h0⟩
/-- The source in its box: the bytes lie below B. -/
structure SrcAt (A : Option Addr) (n c : Nat) (ds : List Int) (bs k : Nat) (w0 w : World) : Prop where
  sl : SliceOf w0 1 u8cells A n ds
  by_ : ∀ x ∈ ds, 0 ≤ x ∧ x ≤ 255
  below : Below w0.heap.size w0 w
  base : w0.heap.size ≤ bs
  own : ∃ s : Int, Own w bs 78 #[.slice A n c, .int .i64 k, .int .u64 s]
theorem tmod_nat (x : Int) (m : Nat) (h : 0 ≤ x) : x.tmod (m : Int) = ((x.toNat % m : Nat) : Int) := by
  rw [Int.tmod_eq_emod_of_nonneg h, Int.natCast_emod, Int.toNat_of_nonneg h]
theorem bits255 (a : Int) (h0 : 0 ≤ a) (h1 : a < 9223372036854775808) : wrap64 (bits BinOp.and IntKind.u64 a 255) = a % 256 := by
  have h := bits_mask .u64 63 (by decide) (fun n h0 h1 => by rw [IntKind.wrap_u64]; omega) 8 (by decide) a h0 (by omega)
  have e : ((2 : Int) ^ 8 - 1) = 255 := by decide
  have e2 : ((2 : Int) ^ 8) = 256 := by decide
  rw [e, e2] at h
  rw [h]
  unfold wrap64
  omega
theorem u64_wrap (x : Int) : 0 ≤ IntKind.u64.wrap x ∧ IntKind.u64.wrap x < 18446744073709551616 := by
  show 0 ≤ x % 18446744073709551616 ∧ x % 18446744073709551616 < 18446744073709551616
  omega
theorem SrcAt.step {A : Option Addr} {n c : Nat} {ds : List Int} {bs k k' : Nat} {w0 w w' : World} {s : Int} (h : SrcAt A n c ds bs k w0 w) (hs : Span bs (bs + 1) w w') (ho : Own w' bs 78 #[.slice A n c, .int .i64 k', .int .u64 s]) : SrcAt A n c ds bs k' w0 w' :=
  ⟨h.sl, h.by_, Below.span h.below hs h.below.size h.base, h.base, s, ho⟩
def Drawn (A : Option Addr) (n c : Nat) (ds : List Int) (bs k hi : Nat) (w0 w : World) (e : Ending) (w' : World) : Prop := ∃ x k' : Nat, e = .returned (.int .i64 x) ∧ x < hi ∧ k' ≤ k + 2 ∧ SrcAt A n c ds bs k' w0 w' ∧ Span bs (bs + 1) w w'
set_option maxHeartbeats 1000000 in
theorem srcNext_any (A : Option Addr) (n c : Nat) (ds : List Int) (bs k : Nat) (w0 w : World) (h : SrcAt A n c ds bs k w0 w) (hk : k ≤ 1048576000) :
    Calls Tryz.prog 65 #[.pointer (some ⟨bs, 0, none⟩)] w (fun e w' => ∃ x : Nat, e = .returned (.int .i64 x) ∧ x < 256 ∧ SrcAt A n c ds bs (k + 1) w0 w' ∧ Span bs (bs + 1) w w') := by
  have H := Lib.hid h
  obtain ⟨s, ho⟩ := h.own
  have HO := Lib.hid ho
  have hn := h.sl.le
  have s0 := ho.cell 0
  have s1 := ho.cell 1
  have s2 := ho.cell 2
  have df := ho.frozen
  have hlt := ho.lt
  have hsub := fun (g : Sub w) b o (h : b < w.heap.size) => g.cell b o h
  clear h ho
  go_enter Tryz.func65, Tryz.ntmps65
  by_cases hkn : k < n
  · obtain ⟨b0, o0, x, rfl, hb0, hx, x0⟩ := u8s_at (H.out.sl.below H.out.below) hkn
    have hxb := H.out.by_ x (List.mem_of_getElem? hx)
    go_wp2_with fail
    refine wp_region_sub (by kernel_rfl) (by kernel_rfl) ?_
    repeat (go_big_quiet_step (fail))
    refine wpQuiet_nil ?_
    intro wg hg
    have HG := Lib.hid hg
    have HOG := Lib.hid (HO.out.below' hg)
    have HSP := Lib.hid (Span.of_below (lo := bs) (hi := bs + 1) hg (Nat.le_refl _))
    have x0g := (hg.cell (p := ⟨b0, o0 + k, none⟩) hb0).trans x0
    have hb0g := Nat.lt_of_lt_of_le hb0 hg.size
    clear s0 s1 s2 df hlt hsub x0 hg
    have s0 := HOG.out.cell 0
    have s1 := HOG.out.cell 1
    have s2 := HOG.out.cell 2
    have df := HOG.out.frozen
    have hlt := HOG.out.lt
    have hsub := fun (g : Sub wg) b o (h : b < wg.heap.size) => g.cell b o h
    go_wp2_with fail
    refine wp_region_sub (by kernel_rfl) (by kernel_rfl) ?_
    repeat (go_big_quiet_step (fail))
    refine wpQuiet_nil ?_
    intro wg hg
    have HOH := Lib.hid (HOG.out.below' hg)
    have HSQ := Lib.hid (HSP.out.trans (Span.of_below (lo := bs) (hi := bs + 1) hg (Nat.le_refl _)))
    clear s0 s1 s2 df hlt hsub x0g hg
    have s0 := HOH.out.cell 0
    have s1 := HOH.out.cell 1
    have s2 := HOH.out.cell 2
    have df := HOH.out.frozen
    have hlt := HOH.out.lt
    go_wp2_with fail
    obtain ⟨U, hU⟩ : ∃ U, IntKind.u64.wrap (IntKind.u64.wrap (IntKind.u64.wrap (s * 6364136223846793005) + x) + 1442695040888963407) = U := ⟨_, rfl⟩
    have hu := u64_wrap (IntKind.u64.wrap (IntKind.u64.wrap (s * 6364136223846793005) + x) + 1442695040888963407)
    rw [hU] at hu ⊢
    obtain ⟨w2, hw2⟩ : ∃ w2, (wg.setCell ⟨bs, 1, none⟩ (.int .i64 ((k : Int) + 1))).setCell ⟨bs, 2, none⟩ (.int .u64 U) = w2 := ⟨_, rfl⟩
    have HO2 : Hid (Own w2 bs 78 #[.slice (some ⟨b0, o0, none⟩) n c, .int .i64 ((k : Int) + 1), .int .u64 U]) := by rw [Hid, ← hw2]; exact (HOH.out.put 1 _).put 2 _
    have HS2 : Hid (Span bs (bs + 1) w w2) := by rw [Hid, ← hw2]; exact (Span.setCell (Span.setCell HSQ.out (Nat.le_refl _) (Nat.lt_succ_self _) _) (Nat.le_refl _) (Nat.lt_succ_self _) _)
    rw [hw2]
    clear s0 s1 s2 df hlt hw2 hU
    have s0 := HO2.out.cell 0
    have s1 := HO2.out.cell 1
    have s2 := HO2.out.cell 2
    have df := HO2.out.frozen
    have hlt := HO2.out.lt
    have hsub := fun (g : Sub w2) b o (h : b < w2.heap.size) => g.cell b o h
    clear HOG HOH HO HSP HSQ HG
    go_wp2_with fail
    refine wp_region_sub (by kernel_rfl) (by kernel_rfl) ?_
    repeat (go_big_quiet_step (fail))
    refine wpQuiet_nil ?_
    intro wg hg
    clear s0 s1 s2 df hlt
    have HS3 := Lib.hid (HS2.out.trans (Span.of_below (lo := bs) (hi := bs + 1) hg (Nat.le_refl _)))
    have HO3 : Hid (Own wg bs 78 #[.slice (some ⟨b0, o0, none⟩) n c, .int .i64 ((k + 1 : Nat) : Int), .int .u64 U]) := by rw [Hid, show ((k + 1 : Nat) : Int) = (k : Int) + 1 by omega]; exact HO2.out.below' hg
    have HF := Lib.hid (H.out.step HS3.out HO3.out)
    have s2 := HO3.out.cell 2
    have hlt := HO3.out.lt
    clear hsub hg
    go_wp2
    go_ret
    exact ⟨x.toNat, by rw [show ((x.toNat : Nat) : Int) = x by omega]; rfl, by omega, HF.out, HS3.out⟩
  · go_wp2_with fail
    refine wp_region_sub (by kernel_rfl) (by kernel_rfl) ?_
    repeat (go_big_quiet_step (fail))
    refine wpQuiet_nil ?_
    intro wg hg
    have HOH := Lib.hid (HO.out.below' hg)
    have HSQ := Lib.hid (Span.of_below (lo := bs) (hi := bs + 1) hg (Nat.le_refl _))
    clear s0 s1 s2 df hlt hsub hg
    have s0 := HOH.out.cell 0
    have s1 := HOH.out.cell 1
    have s2 := HOH.out.cell 2
    have df := HOH.out.frozen
    have hlt := HOH.out.lt
    go_wp2_with fail
    obtain ⟨U, hU⟩ : ∃ U, IntKind.u64.wrap (IntKind.u64.wrap (IntKind.u64.wrap (s * 6364136223846793005)) + 1442695040888963407) = U := ⟨_, rfl⟩
    have hu := u64_wrap (IntKind.u64.wrap (IntKind.u64.wrap (s * 6364136223846793005)) + 1442695040888963407)
    rw [hU] at hu ⊢
    obtain ⟨w2, hw2⟩ : ∃ w2, (wg.setCell ⟨bs, 1, none⟩ (.int .i64 ((k : Int) + 1))).setCell ⟨bs, 2, none⟩ (.int .u64 U) = w2 := ⟨_, rfl⟩
    have HO2 : Hid (Own w2 bs 78 #[.slice A n c, .int .i64 ((k : Int) + 1), .int .u64 U]) := by rw [Hid, ← hw2]; exact (HOH.out.put 1 _).put 2 _
    have HS2 : Hid (Span bs (bs + 1) w w2) := by rw [Hid, ← hw2]; exact (Span.setCell (Span.setCell HSQ.out (Nat.le_refl _) (Nat.lt_succ_self _) _) (Nat.le_refl _) (Nat.lt_succ_self _) _)
    rw [hw2]
    clear s0 s1 s2 df hlt hw2 hU
    have s0 := HO2.out.cell 0
    have s1 := HO2.out.cell 1
    have s2 := HO2.out.cell 2
    have df := HO2.out.frozen
    have hlt := HO2.out.lt
    have hsub := fun (g : Sub w2) b o (h : b < w2.heap.size) => g.cell b o h
    clear HOH HO HSQ
    go_wp2_with fail
    refine wp_region_sub (by kernel_rfl) (by kernel_rfl) ?_
    repeat (go_big_quiet_step (fail))
    refine wpQuiet_nil ?_
    intro wg hg
    clear s0 s1 s2 df hlt
    have HS3 := Lib.hid (HS2.out.trans (Span.of_below (lo := bs) (hi := bs + 1) hg (Nat.le_refl _)))
    have HO3 : Hid (Own wg bs 78 #[.slice A n c, .int .i64 ((k + 1 : Nat) : Int), .int .u64 U]) := by rw [Hid, show ((k + 1 : Nat) : Int) = (k : Int) + 1 by omega]; exact HO2.out.below' hg
    have HF := Lib.hid (H.out.step HS3.out HO3.out)
    have s2 := HO3.out.cell 2
    have hlt := HO3.out.lt
    clear hsub hg
    go_wp2
    go_ret
    exact ⟨(U / 1099511627776 % 256).toNat, by rw [show (((U / 1099511627776 % 256).toNat : Nat) : Int) = U / 1099511627776 % 256 by omega, ← bits255 _ (by omega) (by omega)]; rfl, by omega, HF.out, HS3.out⟩
theorem Drawn.mk {A : Option Addr} {n c : Nat} {ds : List Int} {bs k hi x k' : Nat} {w0 w w' : World} (hx : x < hi) (hk : k' ≤ k + 2) (hs : SrcAt A n c ds bs k' w0 w') (ha : Span bs (bs + 1) w w') : Drawn A n c ds bs k hi w0 w (.returned (.int .i64 x)) w' := ⟨x, k', rfl, hx, hk, hs, ha⟩
set_option maxHeartbeats 1000000 in
theorem srcPick_any (A : Option Addr) (n c : Nat) (ds : List Int) (bs k m : Nat) (w0 w : World) (h : SrcAt A n c ds bs k w0 w) (hk : k ≤ 1048570000) (hm : 1 ≤ m) (hm2 : m ≤ 1048576) :
    Calls Tryz.prog 49 #[.pointer (some ⟨bs, 0, none⟩), .int .i64 m] w (Drawn A n c ds bs k m w0 w) := by
  have H := Lib.hid h
  clear h
  go_enter Tryz.func49, Tryz.ntmps49
  by_cases h1 : m ≤ 1
  · go_wp2
    go_ret
    exact Drawn.mk (x := 0) (by omega) (by omega) H.out (Span.refl _ _ _)
  · go_wp2_with fail
    refine (srcNext_any A n c ds bs k w0 w H.out (by omega)).mono ?_
    rintro e w1 ⟨x, rfl, hx, hs1, ha1⟩
    have HS1 := Lib.hid hs1
    have HA1 := Lib.hid ha1
    clear hs1 ha1
    by_cases h2 : 200 < m
    · go_wp2_with fail
      refine (srcNext_any A n c ds bs (k + 1) w0 w1 HS1.out (by omega)).mono ?_
      rintro e w2 ⟨y, rfl, hy, hs2, ha2⟩
      have HS2 := Lib.hid hs2
      have HA2 := Lib.hid (HA1.out.trans ha2)
      clear hs2 ha2
      have hmz : (m : Int) ≠ 0 := by omega
      have ht := tmod_nat ((x : Int) * 256 + (y : Int)) m (by omega)
      have hlt := Nat.mod_lt ((x : Int) * 256 + (y : Int)).toNat (show 0 < m by omega)
      obtain ⟨r, hr⟩ : ∃ r, ((x : Int) * 256 + (y : Int)).toNat % m = r := ⟨_, rfl⟩
      rw [hr] at ht hlt
      clear hr
      go_wp2
      go_ret
      exact Drawn.mk (x := r) hlt (by omega) HS2.out HA2.out
    · have hmz : (m : Int) ≠ 0 := by omega
      have ht := tmod_nat (x : Int) m (by omega)
      have hlt := Nat.mod_lt (x : Int).toNat (show 0 < m by omega)
      obtain ⟨r, hr⟩ : ∃ r, (x : Int).toNat % m = r := ⟨_, rfl⟩
      rw [hr] at ht hlt
      clear hr
      go_wp2
      go_ret
      exact Drawn.mk (x := r) hlt (by omega) HS1.out HA1.out
set_option maxHeartbeats 1000000 in
theorem srcAmong_any (A : Option Addr) (n c : Nat) (ds : List Int) (bs k m d b o : Nat) (xs : List Int) (w0 w : World) (h : SrcAt A n c ds bs k w0 w) (hk : k ≤ 1048570000) (hm : 1 ≤ m) (hm2 : m ≤ 1048576) (hx : SliceOf w 1 i64cells (some ⟨b, o, none⟩) m xs) (hb : b ≠ bs) :
    Calls Tryz.prog 22 #[.pointer (some ⟨bs, 0, none⟩), .slice (some ⟨b, o, none⟩) m d] w (fun e w' => ∃ (y : Int) (k' : Nat), e = .returned (.int .i64 y) ∧ y ∈ xs ∧ k' ≤ k + 2 ∧ SrcAt A n c ds bs k' w0 w' ∧ Span bs (bs + 1) w w') := by
  have H := Lib.hid h
  have HX := Lib.hid hx
  clear h hx
  go_enter Tryz.func22, Tryz.ntmps22
  go_wp2_with fail
  refine (srcPick_any A n c ds bs k m w0 w H.out hk hm hm2).mono ?_
  rintro e w1 ⟨r, k', rfl, hr, hk', hs, ha⟩
  have HS := Lib.hid hs
  have HA := Lib.hid ha
  obtain ⟨b1, o1, y, hA, hb1, hy, y0⟩ := ints_at (HX.out.span ha (by omega)) hr
  injection hA with hA
  injection hA with e1 e2 _
  subst e1 e2
  have HY := Lib.hid (List.mem_of_getElem? hy)
  clear hs ha hy
  go_wp2
  go_ret
  exact ⟨y, k', rfl, HY.out, hk', HS.out, HA.out⟩
set_option maxHeartbeats 1000000 in
theorem srcFrom_any (A : Option Addr) (n c : Nat) (ds : List Int) (w : World) (hs : SliceOf w 1 u8cells A n ds) (hb : ∀ x ∈ ds, 0 ≤ x ∧ x ≤ 255) :
    Calls Tryz.prog 20 #[.slice A n c] w (fun e w' => ∃ bs, e = .returned (.pointer (some ⟨bs, 0, none⟩)) ∧ SrcAt A n c ds bs 0 w w' ∧ Below w.heap.size w w') := by
  have H := Lib.hid hs
  have HB := Lib.hid hb
  clear hs hb
  go_enter Tryz.func20, Tryz.ntmps20
  go_wp2
  go_ret
  exact ⟨w.heap.size, rfl, ⟨H.out, HB.out, (Below.refl _ _).alloc (Nat.le_refl _) _, Nat.le_refl _, 0, Own.new _ _ _⟩, (Below.refl _ _).alloc (Nat.le_refl _) _⟩

end Go.Proofs.YtllchmacipacnaaGreatDoor
