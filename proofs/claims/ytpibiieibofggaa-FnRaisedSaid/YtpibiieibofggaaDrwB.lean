/- The reference draws regions. -/
import Derived.Test.YtpibiieibofggaaStepB
import Derived.Test.YtpibiieibofggaaDrwA
import Derived.Deep.RegionHeld3
import Derived.Deep.RegionLaw
namespace Go.Proofs.Ytpibiieibofggaa
open Go.RowKit

theorem SrcAt.grow2 {A : Option Addr} {n c : Nat} {ds : List Int} {bs k B : Nat} {w0 w w' : World} (h : SrcAt A n c ds bs k w0 w) (hb : Below B w w') (h1 : bs < B) : SrcAt A n c ds bs k w0 w' := by
  have hbase := h.base
  have hbl := h.below
  obtain ⟨s, ho⟩ := h.own
  exact ⟨h.sl, h.by_, hbl.trans (hb.mono (by omega)), hbase, s, (hb.block bs h1).trans ho⟩
theorem Own.grow2 {w w' : World} {g B : Nat} {t : TypeId} {cs : Array Value} (h : Own w g t cs) (hb : Below B w w') (h1 : g < B) : Own w' g t cs := (hb.block g h1).trans h
/-- A region more, all of it seen in one world. -/
theorem Region.Own.push2 {W3 W4 : World} {base g n cap : Nat} {v : Value} {ps : List RegionR} {q : RegionR} {xs : List Region} (hi : ∀ p ∈ ps, OwnsL W3 base 9 1 strcells (.slice p.nearA p.nearN p.nearC) p.near) (ha : RegionR.Apart v ps) (hxs : xs = ps.map RegionR.val)
    (hq : OwnsL W3 base 9 1 strcells (.slice q.nearA q.nearN q.nearC) q.near) (hqv : ∀ b, q.own = some b → v.ownBlock ≠ some b) (hqp : ∀ p ∈ ps, ∀ b, p.own = some b → q.own ≠ some b)
    (h4 : OwnsL W4 base 34 3 RegionR.cells (.slice (some ⟨g, 0, none⟩) n cap) (ps ++ [q])) (hkp : ∀ b, b < W3.heap.size → some b ≠ v.ownBlock → W4.heap[b]? = W3.heap[b]?) (hob : v.ownBlock = some g ∨ W3.heap.size ≤ g) : Region.Own W4 base (.slice (some ⟨g, 0, none⟩) n cap) (xs ++ [q.val]) := by
  refine ⟨ps ++ [q], h4, fun p hp => ?_, ⟨fun p hp b hb e => ?_, ?_⟩, by rw [hxs, List.map_append]; rfl⟩
  · rcases List.mem_append.1 hp with h1 | h1
    · exact (hi p h1).kept (fun k hk => hkp k ((hi p h1).lt k hk).2 (fun e => ha.1 p h1 k hk e.symm))
    · simp at h1; subst h1
      exact hq.kept (fun k hk => hkp k (hq.lt k hk).2 (fun e => hqv k hk e.symm))
  · have e1 : g = b := by simpa [Value.ownBlock] using e
    subst e1
    rcases List.mem_append.1 hp with h1 | h1
    · have hlt := ((hi p h1).lt g hb).2
      rcases hob with h2 | h2
      · exact ha.1 p h1 g hb h2
      · omega
    · simp at h1; subst h1
      have hlt := (hq.lt g hb).2
      rcases hob with h2 | h2
      · exact hqv g hb h2
      · omega
  · rw [List.pairwise_append]
    refine ⟨ha.2, List.pairwise_singleton _ _, fun p hp r hr b hb e => ?_⟩
    simp at hr; subst hr
    exact hqp p hp b hb e
theorem names_at (k : Nat) (hk : k < 6) : ∃ nm : ByteArray, (#[.string ⟨#[101, 97, 115, 116]⟩, .string ⟨#[108, 97, 107, 101]⟩, .string ⟨#[110, 111, 114, 116, 104]⟩, .string ⟨#[114, 105, 100, 103, 101]⟩, .string ⟨#[115, 111, 117, 116, 104]⟩, .string ⟨#[119, 101, 115, 116]⟩] : Array Value)[k]? = some (.string nm) ∧ nm.size ≤ 5 := by
  match k, hk with
  | 0, _ => exact ⟨_, rfl, by decide⟩
  | 1, _ => exact ⟨_, rfl, by decide⟩
  | 2, _ => exact ⟨_, rfl, by decide⟩
  | 3, _ => exact ⟨_, rfl, by decide⟩
  | 4, _ => exact ⟨_, rfl, by decide⟩
  | 5, _ => exact ⟨_, rfl, by decide⟩
theorem OwnsL.rcell {w : World} {base g n cap : Nat} {ps : List RegionR} (h : OwnsL w base 34 3 RegionR.cells (.slice (some ⟨g, 0, none⟩) n cap) ps) {j : Nat} {p : RegionR} (hp : ps[j]? = some p) : w.cell? ⟨g, j * 3, none⟩ = some (.string p.id) ∧ w.cell? ⟨g, j * 3 + 1, none⟩ = some (.int .i64 p.level) ∧ w.cell? ⟨g, j * 3 + 2, none⟩ = some (.slice p.nearA p.nearN p.nearC) := by
  obtain ⟨A', c', hv, _, _, hsl⟩ := h.slice RegionR.cells_len
  have hj := (List.getElem?_eq_some_iff.1 hp).1
  injection hv with e1 e2 e3
  subst e1
  obtain ⟨b, off, hA, hb, hc⟩ := hsl.2.2 (by omega)
  injection hA with hA
  injection hA with e4 e5 _
  subst e4 e5
  have c0 := hc j p 0 _ hp rfl
  have c1 := hc j p 1 _ hp rfl
  have c2 := hc j p 2 _ hp rfl
  rw [Nat.zero_add] at c0 c1 c2
  exact ⟨c0, c1, c2⟩
theorem Region.Own.id_at {w : World} {base g n cap : Nat} {xs : List Region} (h : Region.Own w base (.slice (some ⟨g, 0, none⟩) n cap) xs) {k : Nat} {x : Region} (hx : xs[k]? = some x) : w.cell? ⟨g, k * 3, none⟩ = some (.string x.id) := by
  obtain ⟨ps, h1, _, _, rfl⟩ := h
  rw [List.getElem?_map] at hx
  cases hp : ps[k]? with
  | none => rw [hp] at hx; cases hx
  | some p =>
    rw [hp] at hx
    injection hx with hx
    rw [← hx]
    exact (h1.rcell hp).1
/-- What is known of regions that are drawn. -/
structure DrawnR (m b : Nat) (L : List Region) : Prop where
  len : L.length ≤ m
  good : ∀ x ∈ L, x.Good ∧ x.near.length ≤ b
theorem DrawnR.nil {b : Nat} : DrawnR 0 b [] := ⟨by simp, by simp⟩
theorem DrawnR.mono {m m' b b' : Nat} {L : List Region} (h : DrawnR m b L) (hm : m ≤ m') (hb : b ≤ b') : DrawnR m' b' L := ⟨Nat.le_trans h.len hm, fun x hx => ⟨(h.good x hx).1, Nat.le_trans (h.good x hx).2 hb⟩⟩
theorem DrawnR.snoc {m b : Nat} {L : List Region} (h : DrawnR m b L) {x : Region} (h1 : x.Good) (h2 : x.near.length ≤ b) : DrawnR (m + 1) b (L ++ [x]) := ⟨by have := h.len; simp; omega, fun y hy => by
  rcases List.mem_append.1 hy with h3 | h3
  · exact h.good y h3
  · simp at h3; subst h3; exact ⟨h1, h2⟩⟩
theorem DrawnR.near {m b : Nat} {L : List Region} (h : DrawnR m b L) {i : Nat} {x : Region} (hx : L[i]? = some x) {s : ByteArray} (hs : s.size ≤ maxLen) : DrawnR m (b + 1) (L.set i ⟨x.id, x.level, x.near ++ [s]⟩) := by
  have hxg := h.good x (List.mem_of_getElem? hx)
  refine ⟨by rw [List.length_set]; exact h.len, fun y hy => ?_⟩
  rcases List.mem_or_eq_of_mem_set hy with h3 | h3
  · exact ⟨(h.good y h3).1, Nat.le_succ_of_le (h.good y h3).2⟩
  · subst h3
    refine ⟨⟨hxg.1.1, hxg.1.2.1, fun z hz => ?_⟩, by have := hxg.2; simp; omega⟩
    rcases List.mem_append.1 hz with h4 | h4
    · exact hxg.1.2.2 z h4
    · simp at h4; subst h4; exact hs
theorem good_new {nm : ByteArray} {r : Nat} (h : nm.size ≤ 5) (hr : r < 4) : (⟨nm, 1 + (r : Int), []⟩ : Region).Good := ⟨⟨by show (-9223372036854775808 : Int) ≤ 1 + (r : Int); omega, by show (1 + (r : Int) : Int) ≤ 9223372036854775807; omega⟩, by show nm.size ≤ maxLen; simp [maxLen]; omega, by simp⟩
theorem Own.cell_at {w : World} {g : Nat} {t : TypeId} {cs : Array Value} {k : Nat} {v : Value} (h : Own w g t cs) (hv : cs[k]? = some v) : w.cell? ⟨g, k, none⟩ = some v := (h.cell k).trans hv
set_option maxRecDepth 100000 in
set_option maxHeartbeats 4000000 in
theorem l18DrawOk_any (A : Option Addr) (n c : Nat) (ds : List Int) (bs k0 : Nat) (w0 w : World) (h : SrcAt A n c ds bs k0 w0 w) (hk0 : k0 ≤ 1000) :
    Calls Try.prog 48 #[.pointer (some ⟨bs, 0, none⟩)] w (fun e w' => ∃ (v : Value) (L : List Region) (k' : Nat), e = .returned v ∧ k' ≤ k0 + 200 ∧ SrcAt A n c ds bs k' w0 w' ∧ Region.Own w' w.heap.size v L ∧ DrawnR 6 140 L ∧ w.heap.size ≤ w'.heap.size) := by
  have H := Lib.hid h
  have HLT := Lib.hid h.lt
  clear h
  have HNM0 := Lib.hid (Own.new w 9 #[.string ⟨#[101, 97, 115, 116]⟩, .string ⟨#[108, 97, 107, 101]⟩, .string ⟨#[110, 111, 114, 116, 104]⟩, .string ⟨#[114, 105, 100, 103, 101]⟩, .string ⟨#[115, 111, 117, 116, 104]⟩, .string ⟨#[119, 101, 115, 116]⟩])
  have HB0 : Hid (Below w.heap.size w (w.alloc (.cells #[.string ⟨#[101, 97, 115, 116]⟩, .string ⟨#[108, 97, 107, 101]⟩, .string ⟨#[110, 111, 114, 116, 104]⟩, .string ⟨#[114, 105, 100, 103, 101]⟩, .string ⟨#[115, 111, 117, 116, 104]⟩, .string ⟨#[119, 101, 115, 116]⟩] 9))) := (Below.refl _ _).alloc (Nat.le_refl _) _
  have HB1 : Hid (Below (w.heap.size + 1) (w.alloc (.cells #[.string ⟨#[101, 97, 115, 116]⟩, .string ⟨#[108, 97, 107, 101]⟩, .string ⟨#[110, 111, 114, 116, 104]⟩, .string ⟨#[114, 105, 100, 103, 101]⟩, .string ⟨#[115, 111, 117, 116, 104]⟩, .string ⟨#[119, 101, 115, 116]⟩] 9)) ((w.alloc (.cells #[.string ⟨#[101, 97, 115, 116]⟩, .string ⟨#[108, 97, 107, 101]⟩, .string ⟨#[110, 111, 114, 116, 104]⟩, .string ⟨#[114, 105, 100, 103, 101]⟩, .string ⟨#[115, 111, 117, 116, 104]⟩, .string ⟨#[119, 101, 115, 116]⟩] 9)).alloc (.cells #[] 34))) := (Below.refl _ _).alloc (by simp) _
  have HOM : Hid (OwnsL ((w.alloc (.cells #[.string ⟨#[101, 97, 115, 116]⟩, .string ⟨#[108, 97, 107, 101]⟩, .string ⟨#[110, 111, 114, 116, 104]⟩, .string ⟨#[114, 105, 100, 103, 101]⟩, .string ⟨#[115, 111, 117, 116, 104]⟩, .string ⟨#[119, 101, 115, 116]⟩] 9)).alloc (.cells #[] 34)) (w.heap.size + 1) 34 3 RegionR.cells (.slice (some ⟨(w.alloc (.cells #[.string ⟨#[101, 97, 115, 116]⟩, .string ⟨#[108, 97, 107, 101]⟩, .string ⟨#[110, 111, 114, 116, 104]⟩, .string ⟨#[114, 105, 100, 103, 101]⟩, .string ⟨#[115, 111, 117, 116, 104]⟩, .string ⟨#[119, 101, 115, 116]⟩] 9)).heap.size, 0, none⟩) 0 0) []) := OwnsL.made _ _ _ _ _ (by simp)
  go_enter Try.func48, Try.ntmps48
  go_wp2
  obtain ⟨w1, hw1⟩ : ∃ w1, (w.alloc (.cells #[.string ⟨#[101, 97, 115, 116]⟩, .string ⟨#[108, 97, 107, 101]⟩, .string ⟨#[110, 111, 114, 116, 104]⟩, .string ⟨#[114, 105, 100, 103, 101]⟩, .string ⟨#[115, 111, 117, 116, 104]⟩, .string ⟨#[119, 101, 115, 116]⟩] 9)).alloc (.cells #[] 34) = w1 := ⟨_, rfl⟩
  have HOM1 : Hid (OwnsL w1 (w.heap.size + 1) 34 3 RegionR.cells (.slice (some ⟨w.heap.size + 1, 0, none⟩) 0 0) []) := by
    have h := HOM.out
    rw [hw1, show (w.alloc (.cells #[.string ⟨#[101, 97, 115, 116]⟩, .string ⟨#[108, 97, 107, 101]⟩, .string ⟨#[110, 111, 114, 116, 104]⟩, .string ⟨#[114, 105, 100, 103, 101]⟩, .string ⟨#[115, 111, 117, 116, 104]⟩, .string ⟨#[119, 101, 115, 116]⟩] 9)).heap.size = w.heap.size + 1 by simp] at h
    exact h
  have HNM1 : Hid (Own w1 w.heap.size 9 #[.string ⟨#[101, 97, 115, 116]⟩, .string ⟨#[108, 97, 107, 101]⟩, .string ⟨#[110, 111, 114, 116, 104]⟩, .string ⟨#[114, 105, 100, 103, 101]⟩, .string ⟨#[115, 111, 117, 116, 104]⟩, .string ⟨#[119, 101, 115, 116]⟩]) := by rw [Hid, ← hw1]; exact HNM0.out.grow2 HB1.out (by omega)
  have HSR1 : Hid (SrcAt A n c ds bs k0 w0 w1) := by rw [Hid, ← hw1]; exact (H.out.grow HB0.out).grow2 HB1.out (by have := HLT.out; omega)
  have HZ1 : Hid (w.heap.size + 1 ≤ w1.heap.size) := by rw [Hid, ← hw1]; have := HB1.out.size; simp at this ⊢
  rw [hw1]
  clear hw1 HOM HB1 HB0 HNM0
  go_loopg [4, 5] 6 (fun gk s4 s5 wr => ∃ (k kk : Nat) (v : Value) (L : List Region), k ≤ 6 ∧ gk = 6 - k ∧ s5 = .int .i64 k ∧ v = s4 ∧ kk ≤ k0 + 4 * k ∧ DrawnR k 0 L ∧ SrcAt A n c ds bs kk w0 wr ∧ Region.Own wr (w.heap.size + 1) v L ∧ Own wr w.heap.size 9 #[.string ⟨#[101, 97, 115, 116]⟩, .string ⟨#[108, 97, 107, 101]⟩, .string ⟨#[110, 111, 114, 116, 104]⟩, .string ⟨#[114, 105, 100, 103, 101]⟩, .string ⟨#[115, 111, 117, 116, 104]⟩, .string ⟨#[119, 101, 115, 116]⟩] ∧ w.heap.size + 1 ≤ wr.heap.size)
  case atStart => exact ⟨0, k0, _, [], Nat.zero_le _, rfl, rfl, rfl, by omega, DrawnR.nil, HSR1.out, ⟨[], HOM1.out, by simp, ⟨by simp, List.Pairwise.nil⟩, rfl⟩, HNM1.out, HZ1.out⟩
  case round =>
    obtain ⟨k, kk, v, L, hk, hgk, rfl, rfl, hkk, hdr, hsr, hown, hnmo, hsz⟩ := hrel
    have Hgk := Lib.hid hgk
    have HDR := Lib.hid hdr
    have HSR := Lib.hid hsr
    have HOWN := Lib.hid hown
    have HNM := Lib.hid hnmo
    have HSZ := Lib.hid hsz
    clear hgk hdr hsr hown hnmo hsz
    by_cases hlt : k < 6
    rotate_left
    · obtain rfl : k = 6 := by omega
      obtain ⟨VA, vc, rfl, hv1, hv2, _⟩ := HOWN.out.slice
      obtain ⟨P, hP⟩ : ∃ P, L.length = P := ⟨_, rfl⟩
      have hP6 : P ≤ 6 := by rw [← hP]; exact HDR.out.len
      rw [hP] at HOWN hv1 ⊢
      have HPL := Lib.hid hP
      have HW0 : Hid (w0.heap.size ≤ w.heap.size) := H.out.below.size
      clear hP hv1 hv2 HNM
      go_wp2
      go_loopg [6] P (fun gk s6 wr => ∃ (i kk : Nat) (M : List Region), i ≤ P ∧ gk = P - i ∧ s6 = .int .i64 i ∧ kk ≤ k0 + 24 + 12 * i ∧ M.length = P ∧ DrawnR 6 (20 * i) M ∧ SrcAt A n c ds bs kk w0 wr ∧ Region.Own wr (w.heap.size + 1) (.slice VA P vc) M ∧ w.heap.size + 1 ≤ wr.heap.size)
      case atStart => exact ⟨0, kk, L, Nat.zero_le _, rfl, rfl, by omega, HPL.out, HDR.out, HSR.out, HOWN.out, HSZ.out⟩
      case round =>
        obtain ⟨i, kk, M, hi, hgi, rfl, hkk, hml, hdm, hsm, hom, hzm⟩ := hrel
        have HGI := Lib.hid hgi
        have HML := Lib.hid hml
        have HDM := Lib.hid hdm
        have HSM := Lib.hid hsm
        have HOM := Lib.hid hom
        have HZM := Lib.hid hzm
        clear hgi hml hdm hsm hom hzm
        by_cases hiP : i < P
        rotate_left
        · obtain rfl : i = P := by omega
          go_wp2
          go_ret
          exact ⟨_, M, kk, rfl, by omega, HSM.out, HOM.out.rebase (by omega), HDM.out.mono (Nat.le_refl _) (by omega), by have := HZM.out; omega⟩
        go_wp2
        go_loopg [7] (P - (i + 1)) (fun gk s7 wr => ∃ (k kk : Nat) (M : List Region), i + 1 ≤ k ∧ k ≤ P ∧ gk = P - k ∧ s7 = .int .i64 k ∧ kk ≤ k0 + 24 + 12 * i + 2 * k ∧ M.length = P ∧ DrawnR 6 (20 * i + 2 * k) M ∧ SrcAt A n c ds bs kk w0 wr ∧ Region.Own wr (w.heap.size + 1) (.slice VA P vc) M ∧ w.heap.size + 1 ≤ wr.heap.size)
        case atStart => exact ⟨i + 1, kk, M, Nat.le_refl _, by omega, rfl, by go_num, by omega, HML.out, HDM.out.mono (Nat.le_refl _) (by omega), HSM.out, HOM.out, HZM.out⟩
        case round =>
          clear HML HDM HSM HOM HZM hkk
          obtain ⟨k, kk, M, hik, hkP, hgk2, rfl, hkk, hml, hdm, hsm, hom, hzm⟩ := hrel
          have HGK := Lib.hid hgk2
          have HML := Lib.hid hml
          have HDM := Lib.hid hdm
          have HSM0 := Lib.hid hsm
          have HOM := Lib.hid hom
          have HZM0 := Lib.hid hzm
          clear hgk2 hml hdm hsm hom hzm
          by_cases hkl : k < P
          rotate_left
          · obtain rfl : k = P := by omega
            go_wp2
            go_roundg (k - (i + 1))
            case measure => have := HGI.out; omega
            case rel => exact ⟨i + 1, kk, M, by omega, rfl, by go_num, by omega, HML.out, HDM.out.mono (Nat.le_refl _) (by omega), HSM0.out, HOM.out, HZM0.out⟩
          obtain ⟨g, hgv, hg0⟩ : ∃ g, VA = some ⟨g, 0, none⟩ ∧ w.heap.size + 1 ≤ g := by
            obtain ⟨ps, hp1, _, _, hp4⟩ := HOM.out
            have hpl : ps.length = P := by have h1 := congrArg List.length hp4; rw [List.length_map] at h1; rw [← h1]; exact HML.out
            obtain ⟨g, cap, hv, hg0, _⟩ := hp1.block (by intro e; rw [e] at hpl; simp at hpl; omega)
            injection hv with e1 _ _
            exact ⟨g, e1, hg0⟩
          subst hgv
          go_wp2_with fail
          refine (srcOneR_any A n c ds bs kk 2 w0 wr HSM0.out (by omega) (by omega) (by omega)).mono ?_
          rintro e w5 ⟨b, k1, rfl, hk1, hs1, ha1⟩
          have HSM := Lib.hid hs1
          have HO : Hid (Region.Own w5 (w.heap.size + 1) (.slice (some ⟨g, 0, none⟩) P vc) M) := HOM.out.span ha1 (by have := HLT.out; omega)
          have HZM : Hid (w.heap.size + 1 ≤ w5.heap.size) := Nat.le_trans HZM0.out ha1.size
          clear hs1 ha1 HSM0 HZM0 HOM
          cases b
          · go_wp2
            go_roundg (P - (k + 1))
            case measure => have := HGK.out; omega
            case rel => exact ⟨k + 1, k1, M, by omega, by omega, rfl, by go_num, by omega, HML.out, HDM.out.mono (Nat.le_refl _) (by omega), HSM.out, HO.out, HZM.out⟩
          obtain ⟨ps, hp1, hp2, hp3, hp4⟩ := HO.out
          have hpl : ps.length = P := by have h1 := congrArg List.length hp4; rw [List.length_map] at h1; rw [← h1]; exact HML.out
          have HP4 := Lib.hid hp4
          have HP3 := Lib.hid hp3
          obtain ⟨⟨xi, xl, NA, NN, NC, nr⟩, hpi⟩ : ∃ p, ps[i]? = some p := ⟨_, List.getElem?_eq_getElem (by omega)⟩
          obtain ⟨⟨yi, yl, MA, MN, MC, mr⟩, hpk⟩ : ∃ p, ps[k]? = some p := ⟨_, List.getElem?_eq_getElem (by omega)⟩
          have HPI := Lib.hid hpi
          have HPK := Lib.hid hpk
          have hgi := HDM.out.good _ (by rw [hp4]; exact List.mem_map.2 ⟨_, List.mem_of_getElem? hpi, rfl⟩)
          have hgk := HDM.out.good _ (by rw [hp4]; exact List.mem_map.2 ⟨_, List.mem_of_getElem? hpk, rfl⟩)
          have HYS : Hid (yi.size ≤ maxLen) := hgk.1.2.1
          have hnl : nr.length ≤ 140 := by have h1 := hgi.2; simp only [RegionR.val] at h1; omega
          obtain ⟨wd, hwd⟩ : ∃ wd, w5.drew = wd := ⟨_, rfl⟩
          have hbd : Below w5.heap.size w5 wd := by rw [← hwd]; exact (Below.refl _ _).drew
          have HL := Lib.hid (hp1.below' hbd)
          have HN : Hid (∀ p ∈ ps, OwnsL wd (w.heap.size + 1) 9 1 strcells (.slice p.nearA p.nearN p.nearC) p.near) := fun p hp => (hp2 p hp).below' hbd
          have HSd := Lib.hid (HSM.out.grow hbd)
          have HZd : Hid (w.heap.size + 1 ≤ wd.heap.size) := Nat.le_trans HZM.out hbd.size
          have HBM : Hid (Below wd.heap.size wd (wd.alloc (.cells #[.string yi] 9))) := (Below.refl _ _).alloc (Nat.le_refl _) _
          have HOX := Lib.hid (Own.new wd 9 #[.string yi])
          clear hp1 hp2 hp3 hp4 hpi hpk hgi hgk
          go_wp2_with fail
          refine wp_region_held_drew (S := (fun w' => w'.cell? ⟨g, k * 3, none⟩ = some (.string yi))) (by kernel_rfl) (by rw [hwd]; exact (HL.out.rcell HPK.out).1) (fun hHeld => ?_)
          simp only [List.size_toArray, List.length_cons, List.length_nil, Nat.zero_add, Nat.reduceAdd]
          rw [hwd] at hHeld ⊢
          clear hwd hbd
          refine wpAnyH_take (i := 0) (oi := _) (v := ?_) rfl (by kernel_rfl) (by kernel_rfl) (by kernel_rfl) (fun _ _ _ h => h) (Or.inl ⟨by rfl, ?_⟩) (by assumption) ?_
          rotate_left
          · intro w hSw; (try dsimp only at hSw); go_simp; (try with_reducible rfl)
          simp only [List.getElem_toArray, List.getElem_cons_zero, Act.put, List.setIfInBounds_toArray, List.set_cons_zero, List.set_cons_succ]
          refine wpAnyH_take (i := 1) (oi := _) (v := ?_) rfl (by kernel_rfl) (by kernel_rfl) (by kernel_rfl) (fun _ _ _ h => h) (Or.inl ⟨by rfl, ?_⟩) (by assumption) ?_
          rotate_left
          · intro w hSw; (try dsimp only at hSw); go_simp; (try with_reducible rfl)
          simp only [List.getElem_toArray, List.getElem_cons_zero, List.getElem_cons_succ, Act.put, List.setIfInBounds_toArray, List.set_cons_zero, List.set_cons_succ]
          refine wpAnyH_take (i := 2) (oi := _) (v := ?_) rfl (by kernel_rfl) (by kernel_rfl) (by kernel_rfl) (fun _ _ _ h => h) (Or.inl ⟨by rfl, ?_⟩) (by assumption) ?_
          rotate_left
          · intro w hSw; (try dsimp only at hSw); go_simp; (try with_reducible rfl)
          simp only [List.getElem_toArray, List.getElem_cons_zero, List.getElem_cons_succ, Act.put, List.setIfInBounds_toArray, List.set_cons_zero, List.set_cons_succ]
          refine wpAnyH_take (i := 3) (oi := _) (v := ?_) rfl (by kernel_rfl) (by kernel_rfl) (by kernel_rfl) (fun _ _ _ h => h) (Or.inl ⟨by rfl, ?_⟩) (by assumption) ?_
          rotate_left
          · intro w hSw; (try dsimp only at hSw); go_simp; (try with_reducible rfl)
          simp only [List.getElem_toArray, List.getElem_cons_zero, List.getElem_cons_succ, Act.put, List.setIfInBounds_toArray, List.set_cons_zero, List.set_cons_succ]
          refine wpAnyH_take (i := 4) (oi := _) (v := ?_) rfl (by kernel_rfl) (by kernel_rfl) (by kernel_rfl) (fun _ _ _ h => h) (Or.inl ⟨by rfl, ?_⟩) (by assumption) ?_
          rotate_left
          · intro w hSw; (try dsimp only at hSw); go_simp; (try with_reducible rfl)
          simp only [List.getElem_toArray, List.getElem_cons_zero, List.getElem_cons_succ, Act.put, List.setIfInBounds_toArray, List.set_cons_zero, List.set_cons_succ]
          refine wpAnyH_take (i := 5) (oi := _) (v := ?_) rfl (by kernel_rfl) (by kernel_rfl) (by kernel_rfl) (fun _ _ _ h => h) (Or.inl ⟨by rfl, ?_⟩) (by assumption) ?_
          rotate_left
          · intro w hSw; (try dsimp only at hSw); go_simp; (try with_reducible rfl)
          simp only [List.getElem_toArray, List.getElem_cons_zero, List.getElem_cons_succ, Act.put, List.setIfInBounds_toArray, List.set_cons_zero, List.set_cons_succ]
          refine wpAnyH_take (i := 7) (oi := _) (v := ?_) rfl (by kernel_rfl) (by kernel_rfl) (by kernel_rfl) (fun _ _ _ h => h) (Or.inl ⟨by rfl, ?_⟩) (by assumption) ?_
          rotate_left
          · intro w hSw; (try dsimp only at hSw); go_simp; (try with_reducible rfl)
          simp only [List.getElem_toArray, List.getElem_cons_zero, List.getElem_cons_succ, Act.put, List.setIfInBounds_toArray, List.set_cons_zero, List.set_cons_succ]
          refine wpAnyH_take (i := 8) (oi := _) (v := ?_) rfl (by kernel_rfl) (by kernel_rfl) (by kernel_rfl) (fun _ _ _ h => h) (Or.inl ⟨by rfl, ?_⟩) (by assumption) ?_
          rotate_left
          · intro w hSw; (try dsimp only at hSw); go_simp; (try with_reducible rfl)
          simp only [List.getElem_toArray, List.getElem_cons_zero, List.getElem_cons_succ, Act.put, List.setIfInBounds_toArray, List.set_cons_zero, List.set_cons_succ]
          refine wpAnyH_take (i := 9) (oi := _) (v := ?_) rfl (by kernel_rfl) (by kernel_rfl) (by kernel_rfl) (fun _ _ _ h => h) (Or.inl ⟨by rfl, ?_⟩) (by assumption) ?_
          rotate_left
          · intro w hSw; (try dsimp only at hSw); go_simp; (try with_reducible rfl)
          simp only [List.getElem_toArray, List.getElem_cons_zero, List.getElem_cons_succ, Act.put, List.setIfInBounds_toArray, List.set_cons_zero, List.set_cons_succ]
          refine wpAnyH_take (i := 10) (oi := _) (v := ?_) rfl (by kernel_rfl) (by kernel_rfl) (by kernel_rfl) (fun _ _ _ h => h) (Or.inl ⟨by rfl, ?_⟩) (by assumption) ?_
          rotate_left
          · intro w hSw; (try dsimp only at hSw); go_simp; (try with_reducible rfl)
          simp only [List.getElem_toArray, List.getElem_cons_zero, List.getElem_cons_succ, Act.put, List.setIfInBounds_toArray, List.set_cons_zero, List.set_cons_succ]
          refine wpAnyH_take (i := 11) (oi := _) (v := ?_) rfl (by kernel_rfl) (by kernel_rfl) (by kernel_rfl) (fun _ _ _ h => h) (Or.inl ⟨by rfl, ?_⟩) (by assumption) ?_
          rotate_left
          · intro w hSw; (try dsimp only at hSw); go_simp; (try with_reducible rfl)
          simp only [List.getElem_toArray, List.getElem_cons_zero, List.getElem_cons_succ, Act.put, List.setIfInBounds_toArray, List.set_cons_zero, List.set_cons_succ]
          refine wpAnyH_ready (rs := [6, 12]) (by kernel_rfl) (by simp) ?_
          refine AllReadyH.cons (o := _) rfl (fun K hK => ?_) (AllReadyH.cons (o := _) rfl (fun K hK => ?_) AllReadyH.nil)
          · simp only [List.getElem_toArray, List.getElem_cons_zero, List.getElem_cons_succ]
            have z2 := (HL.out.rcell HPI.out).2.2
            go_simp
            refine hK.out _ _ hHeld (fun hHeld2 => ?_)
            clear hK K z2 hHeld2
            try simp only [List.getElem_toArray, List.getElem_cons_zero, List.getElem_cons_succ, Act.put, List.setIfInBounds_toArray, List.set_cons_zero, List.set_cons_succ]
            refine wpAnyH_ready (rs := [12]) (by kernel_rfl) (by simp) ?_
            refine AllReadyH.cons (o := _) rfl (fun K hK => ?_) AllReadyH.nil
            simp only [List.getElem_toArray, List.getElem_cons_zero, List.getElem_cons_succ]
            go_simp
            refine hK.out _ _ (((HL.out.below' HBM.out).rcell HPK.out).1) (fun hHeld2 => ?_)
            clear hK K
            try simp only [List.getElem_toArray, List.getElem_cons_zero, List.getElem_cons_succ, Act.put, List.setIfInBounds_toArray, List.set_cons_zero, List.set_cons_succ]
            obtain ⟨gx, hgx⟩ : ∃ gx, wd.heap.size = gx := ⟨_, rfl⟩
            obtain ⟨w2, hw2⟩ : ∃ w2, wd.alloc (.cells #[.string yi] 9) = w2 := ⟨_, rfl⟩
            rw [hw2] at hHeld2 HBM HOX ⊢
            have HZX := Lib.hid HZd.out
            have HSZX := Lib.hid HBM.out.size
            rw [hgx] at HOX HZX ⊢
            clear hw2
            refine wpAnyH_ready (rs := [13]) (by kernel_rfl) (by simp) ?_
            refine AllReadyH.cons (o := _) rfl (fun K hK => ?_) AllReadyH.nil
            (refine step_pushAll (by rfl) (.tmp 52) (.tmp 58) 32 (by rfl) (w.heap.size + 1) 9 1 Try.underlying32 infoStr (by rfl) (by decide) strcells strcells_len strcells_one (.slice NA NN NC) nr [yi] gx 0 1 1 (by rfl) ((HN.out _ (List.mem_of_getElem? HPI.out)).below' HBM.out) (by rfl) (sliceOne HOX.out) (by decide) (by omega) (by decide) (by have := HSZX.out; have := HZd.out; omega) ?_; intro G cap w3 hown' hb' hkp hob; have HK3 : Hid (∀ b, b < wd.heap.size → some b ≠ (⟨xi, xl, NA, NN, NC, nr⟩ : RegionR).own → w3.heap[b]? = wd.heap[b]?) := (fun b h1 h2 => (hkp b (by have := HSZX.out; omega) h2).trans (HBM.out.block b h1)); have HL3 : Hid (OwnsL w3 (w.heap.size + 1) 34 3 RegionR.cells (.slice (some ⟨g, 0, none⟩) P vc) ps) := HL.out.kept (fun b hb => HK3.out b (HL.out.lt b hb).2 (fun e => HP3.out.1 _ (List.mem_of_getElem? HPI.out) b e.symm hb)))
            refine hK.out _ _ ((HL3.out.rcell HPK.out).1) (fun hHeld2 => ?_)
            clear hK K
            try simp only [List.getElem_toArray, List.getElem_cons_zero, List.getElem_cons_succ, Act.put, List.setIfInBounds_toArray, List.set_cons_zero, List.set_cons_succ]
            refine wpAnyH_take (i := 14) (oi := _) (v := ?_) rfl (by kernel_rfl) (by kernel_rfl) (by kernel_rfl) (fun _ _ _ h => h) (Or.inl ⟨by rfl, ?_⟩) (by assumption) ?_
            rotate_left
            · intro w hSw; (try dsimp only at hSw); go_simp; (try with_reducible rfl)
            simp only [List.getElem_toArray, List.getElem_cons_zero, List.getElem_cons_succ, Act.put, List.setIfInBounds_toArray, List.set_cons_zero, List.set_cons_succ]
            refine wpAnyH_take (i := 15) (oi := _) (v := ?_) rfl (by kernel_rfl) (by kernel_rfl) (by kernel_rfl) (fun _ _ _ h => h) (Or.inl ⟨by rfl, ?_⟩) (by assumption) ?_
            rotate_left
            · intro w hSw; (try dsimp only at hSw); go_simp; (try with_reducible rfl)
            simp only [List.getElem_toArray, List.getElem_cons_zero, List.getElem_cons_succ, Act.put, List.setIfInBounds_toArray, List.set_cons_zero, List.set_cons_succ]
            have HSN : Hid (Region.Own (w3.setCell ⟨g, i * 3 + 2, none⟩ (.slice (some ⟨G, 0, none⟩) (nr.length + 1) cap)) (w.heap.size + 1) (.slice (some ⟨g, 0, none⟩) P vc) (M.set i ⟨xi, xl, nr ++ [yi]⟩)) := by
              have h := Region.Own.setNear HL.out HN.out HP3.out HPI.out HK3.out hown' (fun b hb => by
                have e1 : G = b := by simpa [Value.ownBlock] using hb
                rcases hob with e | e
                · exact .inl (e1 ▸ e)
                · exact .inr (by have := HSZX.out; omega))
              rw [← HP4.out] at h
              exact h
            have HIDk : Hid ((M.set i ⟨xi, xl, nr ++ [yi]⟩)[k]? = some ⟨yi, yl, mr⟩) := by
              rw [Hid, List.getElem?_set_ne (by omega), HP4.out, List.getElem?_map, HPK.out]; rfl
            have HDN : Hid (DrawnR 6 (20 * i + 2 * k + 1) (M.set i ⟨xi, xl, nr ++ [yi]⟩)) := by
              have h1 : M[i]? = some ⟨xi, xl, nr⟩ := by rw [HP4.out, List.getElem?_map, HPI.out]; rfl
              exact HDM.out.near h1 HYS.out
            have HSR : Hid (SrcAt A n c ds bs k1 w0 (w3.setCell ⟨g, i * 3 + 2, none⟩ (.slice (some ⟨G, 0, none⟩) (nr.length + 1) cap))) := ((HSd.out.grow HBM.out).grow2 hb' (by have := HLT.out; omega)).put (by have := HLT.out; simp only; omega) (by have := HW0.out; simp only; omega) _
            have HZN : Hid (w.heap.size + 1 ≤ (w3.setCell ⟨g, i * 3 + 2, none⟩ (.slice (some ⟨G, 0, none⟩) (nr.length + 1) cap)).heap.size) := by have h1 := hb'.size; have := HSZX.out; have := HZd.out; rw [Hid]; simp; omega
            have z2 := (HL3.out.rcell HPI.out).2.2
            have fr := HL3.out.frozen
            have lg := (HL3.out.lt g rfl).2
            refine wpAnyH_ready (rs := [16]) (by kernel_rfl) (by simp) ?_
            refine AllReadyH.cons (o := _) rfl (fun K hK => ?_) AllReadyH.nil
            simp only [List.getElem_toArray, List.getElem_cons_zero, List.getElem_cons_succ]
            go_simp
            refine hK.out _ _ (HSN.out.id_at HIDk.out) (fun hHeld2 => ?_)
            clear hK K
            try simp only [List.getElem_toArray, List.getElem_cons_zero, List.getElem_cons_succ, Act.put, List.setIfInBounds_toArray, List.set_cons_zero, List.set_cons_succ]
            refine wpAnyH_done (by kernel_rfl) ?_ _
            obtain ⟨w4, hw4⟩ : ∃ w4, w3.setCell ⟨g, i * 3 + 2, none⟩ (.slice (some ⟨G, 0, none⟩) (nr.length + 1) cap) = w4 := ⟨_, rfl⟩
            rw [hw4] at HSN HSR HZN ⊢
            clear hw4 hown' hb' hkp hob z2 fr lg hHeld hHeld2 hgx
            have HO2 := HSN
            have HML2 : Hid ((M.set i ⟨xi, xl, nr ++ [yi]⟩).length = P) := by rw [Hid, List.length_set]; exact HML.out
            have HDM2 := HDN
            have HSM2 := HSR
            have HZM2 := HZN
            obtain ⟨M1, hM1⟩ : ∃ M1, M.set i ⟨xi, xl, nr ++ [yi]⟩ = M1 := ⟨_, rfl⟩
            rw [hM1] at HO2 HML2 HDM2
            clear HSN HDN HIDk HSR hM1
            clear HO HML HDM HSM HZM HP3 HP4 HPI HPK HYS HL HN HSd HZd HBM HOX HZX HSZX HK3 HL3 hpl
            obtain ⟨ps2, hp1, hp2, hp3, hp4⟩ := HO2.out
            have hpl : ps2.length = P := by have h1 := congrArg List.length hp4; rw [List.length_map] at h1; rw [← h1]; exact HML2.out
            have HP42 := Lib.hid hp4
            have HP32 := Lib.hid hp3
            obtain ⟨⟨xi2, xl2, NA2, NN2, NC2, nr2⟩, hpi⟩ : ∃ p, ps2[k]? = some p := ⟨_, List.getElem?_eq_getElem (by omega)⟩
            obtain ⟨⟨yi2, yl2, MA2, MN2, MC2, mr2⟩, hpk⟩ : ∃ p, ps2[i]? = some p := ⟨_, List.getElem?_eq_getElem (by omega)⟩
            have HPI2 := Lib.hid hpi
            have HPK2 := Lib.hid hpk
            have hgi := HDM2.out.good _ (by rw [hp4]; exact List.mem_map.2 ⟨_, List.mem_of_getElem? hpi, rfl⟩)
            have hgk := HDM2.out.good _ (by rw [hp4]; exact List.mem_map.2 ⟨_, List.mem_of_getElem? hpk, rfl⟩)
            have HYS2 : Hid (yi2.size ≤ maxLen) := hgk.1.2.1
            have hnl : nr2.length ≤ 140 := by have h1 := hgi.2; simp only [RegionR.val] at h1; omega
            obtain ⟨wd2, hwd⟩ : ∃ wd, w4.drew = wd := ⟨_, rfl⟩
            have hbd : Below w4.heap.size w4 wd2 := by rw [← hwd]; exact (Below.refl _ _).drew
            have HL2 := Lib.hid (hp1.below' hbd)
            have HN2 : Hid (∀ p ∈ ps2, OwnsL wd2 (w.heap.size + 1) 9 1 strcells (.slice p.nearA p.nearN p.nearC) p.near) := fun p hp => (hp2 p hp).below' hbd
            have HSd2 := Lib.hid (HSM2.out.grow hbd)
            have HZd2 : Hid (w.heap.size + 1 ≤ wd2.heap.size) := Nat.le_trans HZM2.out hbd.size
            have HBM2 : Hid (Below wd2.heap.size wd2 (wd2.alloc (.cells #[.string yi2] 9))) := (Below.refl _ _).alloc (Nat.le_refl _) _
            have HOX2 := Lib.hid (Own.new wd2 9 #[.string yi2])
            clear hp1 hp2 hp3 hp4 hpi hpk hgi hgk
            go_wp2_with fail
            refine wp_region_held_drew (S := (fun w' => w'.cell? ⟨g, i * 3, none⟩ = some (.string yi2))) (by kernel_rfl) (by rw [hwd]; exact (HL2.out.rcell HPK2.out).1) (fun hHeld => ?_)
            simp only [List.size_toArray, List.length_cons, List.length_nil, Nat.zero_add, Nat.reduceAdd]
            rw [hwd] at hHeld ⊢
            clear hwd hbd
            refine wpAnyH_take (i := 0) (oi := _) (v := ?_) rfl (by kernel_rfl) (by kernel_rfl) (by kernel_rfl) (fun _ _ _ h => h) (Or.inl ⟨by rfl, ?_⟩) (by assumption) ?_
            rotate_left
            · intro w hSw; (try dsimp only at hSw); go_simp; (try with_reducible rfl)
            simp only [List.getElem_toArray, List.getElem_cons_zero, Act.put, List.setIfInBounds_toArray, List.set_cons_zero, List.set_cons_succ]
            refine wpAnyH_take (i := 1) (oi := _) (v := ?_) rfl (by kernel_rfl) (by kernel_rfl) (by kernel_rfl) (fun _ _ _ h => h) (Or.inl ⟨by rfl, ?_⟩) (by assumption) ?_
            rotate_left
            · intro w hSw; (try dsimp only at hSw); go_simp; (try with_reducible rfl)
            simp only [List.getElem_toArray, List.getElem_cons_zero, List.getElem_cons_succ, Act.put, List.setIfInBounds_toArray, List.set_cons_zero, List.set_cons_succ]
            refine wpAnyH_take (i := 2) (oi := _) (v := ?_) rfl (by kernel_rfl) (by kernel_rfl) (by kernel_rfl) (fun _ _ _ h => h) (Or.inl ⟨by rfl, ?_⟩) (by assumption) ?_
            rotate_left
            · intro w hSw; (try dsimp only at hSw); go_simp; (try with_reducible rfl)
            simp only [List.getElem_toArray, List.getElem_cons_zero, List.getElem_cons_succ, Act.put, List.setIfInBounds_toArray, List.set_cons_zero, List.set_cons_succ]
            refine wpAnyH_take (i := 3) (oi := _) (v := ?_) rfl (by kernel_rfl) (by kernel_rfl) (by kernel_rfl) (fun _ _ _ h => h) (Or.inl ⟨by rfl, ?_⟩) (by assumption) ?_
            rotate_left
            · intro w hSw; (try dsimp only at hSw); go_simp; (try with_reducible rfl)
            simp only [List.getElem_toArray, List.getElem_cons_zero, List.getElem_cons_succ, Act.put, List.setIfInBounds_toArray, List.set_cons_zero, List.set_cons_succ]
            refine wpAnyH_take (i := 4) (oi := _) (v := ?_) rfl (by kernel_rfl) (by kernel_rfl) (by kernel_rfl) (fun _ _ _ h => h) (Or.inl ⟨by rfl, ?_⟩) (by assumption) ?_
            rotate_left
            · intro w hSw; (try dsimp only at hSw); go_simp; (try with_reducible rfl)
            simp only [List.getElem_toArray, List.getElem_cons_zero, List.getElem_cons_succ, Act.put, List.setIfInBounds_toArray, List.set_cons_zero, List.set_cons_succ]
            refine wpAnyH_take (i := 5) (oi := _) (v := ?_) rfl (by kernel_rfl) (by kernel_rfl) (by kernel_rfl) (fun _ _ _ h => h) (Or.inl ⟨by rfl, ?_⟩) (by assumption) ?_
            rotate_left
            · intro w hSw; (try dsimp only at hSw); go_simp; (try with_reducible rfl)
            simp only [List.getElem_toArray, List.getElem_cons_zero, List.getElem_cons_succ, Act.put, List.setIfInBounds_toArray, List.set_cons_zero, List.set_cons_succ]
            refine wpAnyH_take (i := 7) (oi := _) (v := ?_) rfl (by kernel_rfl) (by kernel_rfl) (by kernel_rfl) (fun _ _ _ h => h) (Or.inl ⟨by rfl, ?_⟩) (by assumption) ?_
            rotate_left
            · intro w hSw; (try dsimp only at hSw); go_simp; (try with_reducible rfl)
            simp only [List.getElem_toArray, List.getElem_cons_zero, List.getElem_cons_succ, Act.put, List.setIfInBounds_toArray, List.set_cons_zero, List.set_cons_succ]
            refine wpAnyH_take (i := 8) (oi := _) (v := ?_) rfl (by kernel_rfl) (by kernel_rfl) (by kernel_rfl) (fun _ _ _ h => h) (Or.inl ⟨by rfl, ?_⟩) (by assumption) ?_
            rotate_left
            · intro w hSw; (try dsimp only at hSw); go_simp; (try with_reducible rfl)
            simp only [List.getElem_toArray, List.getElem_cons_zero, List.getElem_cons_succ, Act.put, List.setIfInBounds_toArray, List.set_cons_zero, List.set_cons_succ]
            refine wpAnyH_take (i := 9) (oi := _) (v := ?_) rfl (by kernel_rfl) (by kernel_rfl) (by kernel_rfl) (fun _ _ _ h => h) (Or.inl ⟨by rfl, ?_⟩) (by assumption) ?_
            rotate_left
            · intro w hSw; (try dsimp only at hSw); go_simp; (try with_reducible rfl)
            simp only [List.getElem_toArray, List.getElem_cons_zero, List.getElem_cons_succ, Act.put, List.setIfInBounds_toArray, List.set_cons_zero, List.set_cons_succ]
            refine wpAnyH_take (i := 10) (oi := _) (v := ?_) rfl (by kernel_rfl) (by kernel_rfl) (by kernel_rfl) (fun _ _ _ h => h) (Or.inl ⟨by rfl, ?_⟩) (by assumption) ?_
            rotate_left
            · intro w hSw; (try dsimp only at hSw); go_simp; (try with_reducible rfl)
            simp only [List.getElem_toArray, List.getElem_cons_zero, List.getElem_cons_succ, Act.put, List.setIfInBounds_toArray, List.set_cons_zero, List.set_cons_succ]
            refine wpAnyH_take (i := 11) (oi := _) (v := ?_) rfl (by kernel_rfl) (by kernel_rfl) (by kernel_rfl) (fun _ _ _ h => h) (Or.inl ⟨by rfl, ?_⟩) (by assumption) ?_
            rotate_left
            · intro w hSw; (try dsimp only at hSw); go_simp; (try with_reducible rfl)
            simp only [List.getElem_toArray, List.getElem_cons_zero, List.getElem_cons_succ, Act.put, List.setIfInBounds_toArray, List.set_cons_zero, List.set_cons_succ]
            refine wpAnyH_ready (rs := [6, 12]) (by kernel_rfl) (by simp) ?_
            refine AllReadyH.cons (o := _) rfl (fun K hK => ?_) (AllReadyH.cons (o := _) rfl (fun K hK => ?_) AllReadyH.nil)
            · simp only [List.getElem_toArray, List.getElem_cons_zero, List.getElem_cons_succ]
              have z2 := (HL2.out.rcell HPI2.out).2.2
              go_simp
              refine hK.out _ _ hHeld (fun hHeld2 => ?_)
              clear hK K z2 hHeld2
              try simp only [List.getElem_toArray, List.getElem_cons_zero, List.getElem_cons_succ, Act.put, List.setIfInBounds_toArray, List.set_cons_zero, List.set_cons_succ]
              refine wpAnyH_ready (rs := [12]) (by kernel_rfl) (by simp) ?_
              refine AllReadyH.cons (o := _) rfl (fun K hK => ?_) AllReadyH.nil
              simp only [List.getElem_toArray, List.getElem_cons_zero, List.getElem_cons_succ]
              go_simp
              refine hK.out _ _ (((HL2.out.below' HBM2.out).rcell HPK2.out).1) (fun hHeld2 => ?_)
              clear hK K
              try simp only [List.getElem_toArray, List.getElem_cons_zero, List.getElem_cons_succ, Act.put, List.setIfInBounds_toArray, List.set_cons_zero, List.set_cons_succ]
              obtain ⟨gx2, hgx⟩ : ∃ gx, wd2.heap.size = gx := ⟨_, rfl⟩
              obtain ⟨w22, hw2⟩ : ∃ w2, wd2.alloc (.cells #[.string yi2] 9) = w2 := ⟨_, rfl⟩
              rw [hw2] at hHeld2 HBM2 HOX2 ⊢
              have HZX2 := Lib.hid HZd2.out
              have HSZX2 := Lib.hid HBM2.out.size
              rw [hgx] at HOX2 HZX2 ⊢
              clear hw2
              refine wpAnyH_ready (rs := [13]) (by kernel_rfl) (by simp) ?_
              refine AllReadyH.cons (o := _) rfl (fun K hK => ?_) AllReadyH.nil
              (refine step_pushAll (by rfl) (.tmp 68) (.tmp 74) 32 (by rfl) (w.heap.size + 1) 9 1 Try.underlying32 infoStr (by rfl) (by decide) strcells strcells_len strcells_one (.slice NA2 NN2 NC2) nr2 [yi2] gx2 0 1 1 (by rfl) ((HN2.out _ (List.mem_of_getElem? HPI2.out)).below' HBM2.out) (by rfl) (sliceOne HOX2.out) (by decide) (by omega) (by decide) (by have := HSZX2.out; have := HZd2.out; omega) ?_; intro G2 cap2 w32 hown' hb' hkp hob; have HK32 : Hid (∀ b, b < wd2.heap.size → some b ≠ (⟨xi2, xl2, NA2, NN2, NC2, nr2⟩ : RegionR).own → w32.heap[b]? = wd2.heap[b]?) := (fun b h1 h2 => (hkp b (by have := HSZX2.out; omega) h2).trans (HBM2.out.block b h1)); have HL32 : Hid (OwnsL w32 (w.heap.size + 1) 34 3 RegionR.cells (.slice (some ⟨g, 0, none⟩) P vc) ps2) := HL2.out.kept (fun b hb => HK32.out b (HL2.out.lt b hb).2 (fun e => HP32.out.1 _ (List.mem_of_getElem? HPI2.out) b e.symm hb)))
              refine hK.out _ _ ((HL32.out.rcell HPK2.out).1) (fun hHeld2 => ?_)
              clear hK K
              try simp only [List.getElem_toArray, List.getElem_cons_zero, List.getElem_cons_succ, Act.put, List.setIfInBounds_toArray, List.set_cons_zero, List.set_cons_succ]
              refine wpAnyH_take (i := 14) (oi := _) (v := ?_) rfl (by kernel_rfl) (by kernel_rfl) (by kernel_rfl) (fun _ _ _ h => h) (Or.inl ⟨by rfl, ?_⟩) (by assumption) ?_
              rotate_left
              · intro w hSw; (try dsimp only at hSw); go_simp; (try with_reducible rfl)
              simp only [List.getElem_toArray, List.getElem_cons_zero, List.getElem_cons_succ, Act.put, List.setIfInBounds_toArray, List.set_cons_zero, List.set_cons_succ]
              refine wpAnyH_take (i := 15) (oi := _) (v := ?_) rfl (by kernel_rfl) (by kernel_rfl) (by kernel_rfl) (fun _ _ _ h => h) (Or.inl ⟨by rfl, ?_⟩) (by assumption) ?_
              rotate_left
              · intro w hSw; (try dsimp only at hSw); go_simp; (try with_reducible rfl)
              simp only [List.getElem_toArray, List.getElem_cons_zero, List.getElem_cons_succ, Act.put, List.setIfInBounds_toArray, List.set_cons_zero, List.set_cons_succ]
              have HSN2 : Hid (Region.Own (w32.setCell ⟨g, k * 3 + 2, none⟩ (.slice (some ⟨G2, 0, none⟩) (nr2.length + 1) cap2)) (w.heap.size + 1) (.slice (some ⟨g, 0, none⟩) P vc) (M1.set k ⟨xi2, xl2, nr2 ++ [yi2]⟩)) := by
                have h := Region.Own.setNear HL2.out HN2.out HP32.out HPI2.out HK32.out hown' (fun b hb => by
                  have e1 : G2 = b := by simpa [Value.ownBlock] using hb
                  rcases hob with e | e
                  · exact .inl (e1 ▸ e)
                  · exact .inr (by have := HSZX2.out; omega))
                rw [← HP42.out] at h
                exact h
              have HIDk2 : Hid ((M1.set k ⟨xi2, xl2, nr2 ++ [yi2]⟩)[i]? = some ⟨yi2, yl2, mr2⟩) := by
                rw [Hid, List.getElem?_set_ne (by omega), HP42.out, List.getElem?_map, HPK2.out]; rfl
              have HDN2 : Hid (DrawnR 6 (20 * i + 2 * k + 1 + 1) (M1.set k ⟨xi2, xl2, nr2 ++ [yi2]⟩)) := by
                have h1 : M1[k]? = some ⟨xi2, xl2, nr2⟩ := by rw [HP42.out, List.getElem?_map, HPI2.out]; rfl
                exact HDM2.out.near h1 HYS2.out
              have HSR2 : Hid (SrcAt A n c ds bs k1 w0 (w32.setCell ⟨g, k * 3 + 2, none⟩ (.slice (some ⟨G2, 0, none⟩) (nr2.length + 1) cap2))) := ((HSd2.out.grow HBM2.out).grow2 hb' (by have := HLT.out; omega)).put (by have := HLT.out; simp only; omega) (by have := HW0.out; simp only; omega) _
              have HZN2 : Hid (w.heap.size + 1 ≤ (w32.setCell ⟨g, k * 3 + 2, none⟩ (.slice (some ⟨G2, 0, none⟩) (nr2.length + 1) cap2)).heap.size) := by have h1 := hb'.size; have := HSZX2.out; have := HZd2.out; rw [Hid]; simp; omega
              have z2 := (HL32.out.rcell HPI2.out).2.2
              have fr := HL32.out.frozen
              have lg := (HL32.out.lt g rfl).2
              refine wpAnyH_ready (rs := [16]) (by kernel_rfl) (by simp) ?_
              refine AllReadyH.cons (o := _) rfl (fun K hK => ?_) AllReadyH.nil
              simp only [List.getElem_toArray, List.getElem_cons_zero, List.getElem_cons_succ]
              go_simp
              refine hK.out _ _ (HSN2.out.id_at HIDk2.out) (fun hHeld2 => ?_)
              clear hK K
              try simp only [List.getElem_toArray, List.getElem_cons_zero, List.getElem_cons_succ, Act.put, List.setIfInBounds_toArray, List.set_cons_zero, List.set_cons_succ]
              refine wpAnyH_done (by kernel_rfl) ?_ _
              obtain ⟨w42, hw4⟩ : ∃ w4, w32.setCell ⟨g, k * 3 + 2, none⟩ (.slice (some ⟨G2, 0, none⟩) (nr2.length + 1) cap2) = w4 := ⟨_, rfl⟩
              rw [hw4] at HSN2 HSR2 HZN2 ⊢
              clear hw4 hown' hb' hkp hob z2 fr lg hHeld hHeld2 hgx
              go_wp2
              go_roundg (P - (k + 1))
              case measure => have := HGK.out; omega
              case rel => exact ⟨k + 1, k1, _, by omega, by omega, rfl, by go_num, by omega, by simp [HML2.out], HDN2.out.mono (Nat.le_refl _) (by omega), HSR2.out, HSN2.out, HZN2.out⟩
            · simp only [List.getElem_toArray, List.getElem_cons_zero, List.getElem_cons_succ]
              go_simp
              refine hK.out _ _ ((HL2.out.below' HBM2.out).rcell HPK2.out).1 (fun hHeld2 => ?_)
              clear hK K hHeld2
              try simp only [List.getElem_toArray, List.getElem_cons_zero, List.getElem_cons_succ, Act.put, List.setIfInBounds_toArray, List.set_cons_zero, List.set_cons_succ]
              have z2 := ((HL2.out.below' HBM2.out).rcell HPI2.out).2.2
              refine wpAnyH_ready (rs := [6]) (by kernel_rfl) (by simp) ?_
              refine AllReadyH.cons (o := _) rfl (fun K hK => ?_) AllReadyH.nil
              simp only [List.getElem_toArray, List.getElem_cons_zero, List.getElem_cons_succ]
              go_simp
              refine hK.out _ _ (((HL2.out.below' HBM2.out).rcell HPK2.out).1) (fun hHeld2 => ?_)
              clear hK K
              try simp only [List.getElem_toArray, List.getElem_cons_zero, List.getElem_cons_succ, Act.put, List.setIfInBounds_toArray, List.set_cons_zero, List.set_cons_succ]
              clear z2
              obtain ⟨gx2, hgx⟩ : ∃ gx, wd2.heap.size = gx := ⟨_, rfl⟩
              obtain ⟨w22, hw2⟩ : ∃ w2, wd2.alloc (.cells #[.string yi2] 9) = w2 := ⟨_, rfl⟩
              rw [hw2] at hHeld2 HBM2 HOX2 ⊢
              have HZX2 := Lib.hid HZd2.out
              have HSZX2 := Lib.hid HBM2.out.size
              rw [hgx] at HOX2 HZX2 ⊢
              clear hw2
              refine wpAnyH_ready (rs := [13]) (by kernel_rfl) (by simp) ?_
              refine AllReadyH.cons (o := _) rfl (fun K hK => ?_) AllReadyH.nil
              (refine step_pushAll (by rfl) (.tmp 68) (.tmp 74) 32 (by rfl) (w.heap.size + 1) 9 1 Try.underlying32 infoStr (by rfl) (by decide) strcells strcells_len strcells_one (.slice NA2 NN2 NC2) nr2 [yi2] gx2 0 1 1 (by rfl) ((HN2.out _ (List.mem_of_getElem? HPI2.out)).below' HBM2.out) (by rfl) (sliceOne HOX2.out) (by decide) (by omega) (by decide) (by have := HSZX2.out; have := HZd2.out; omega) ?_; intro G2 cap2 w32 hown' hb' hkp hob; have HK32 : Hid (∀ b, b < wd2.heap.size → some b ≠ (⟨xi2, xl2, NA2, NN2, NC2, nr2⟩ : RegionR).own → w32.heap[b]? = wd2.heap[b]?) := (fun b h1 h2 => (hkp b (by have := HSZX2.out; omega) h2).trans (HBM2.out.block b h1)); have HL32 : Hid (OwnsL w32 (w.heap.size + 1) 34 3 RegionR.cells (.slice (some ⟨g, 0, none⟩) P vc) ps2) := HL2.out.kept (fun b hb => HK32.out b (HL2.out.lt b hb).2 (fun e => HP32.out.1 _ (List.mem_of_getElem? HPI2.out) b e.symm hb)))
              refine hK.out _ _ ((HL32.out.rcell HPK2.out).1) (fun hHeld2 => ?_)
              clear hK K
              try simp only [List.getElem_toArray, List.getElem_cons_zero, List.getElem_cons_succ, Act.put, List.setIfInBounds_toArray, List.set_cons_zero, List.set_cons_succ]
              refine wpAnyH_take (i := 14) (oi := _) (v := ?_) rfl (by kernel_rfl) (by kernel_rfl) (by kernel_rfl) (fun _ _ _ h => h) (Or.inl ⟨by rfl, ?_⟩) (by assumption) ?_
              rotate_left
              · intro w hSw; (try dsimp only at hSw); go_simp; (try with_reducible rfl)
              simp only [List.getElem_toArray, List.getElem_cons_zero, List.getElem_cons_succ, Act.put, List.setIfInBounds_toArray, List.set_cons_zero, List.set_cons_succ]
              refine wpAnyH_take (i := 15) (oi := _) (v := ?_) rfl (by kernel_rfl) (by kernel_rfl) (by kernel_rfl) (fun _ _ _ h => h) (Or.inl ⟨by rfl, ?_⟩) (by assumption) ?_
              rotate_left
              · intro w hSw; (try dsimp only at hSw); go_simp; (try with_reducible rfl)
              simp only [List.getElem_toArray, List.getElem_cons_zero, List.getElem_cons_succ, Act.put, List.setIfInBounds_toArray, List.set_cons_zero, List.set_cons_succ]
              have HSN2 : Hid (Region.Own (w32.setCell ⟨g, k * 3 + 2, none⟩ (.slice (some ⟨G2, 0, none⟩) (nr2.length + 1) cap2)) (w.heap.size + 1) (.slice (some ⟨g, 0, none⟩) P vc) (M1.set k ⟨xi2, xl2, nr2 ++ [yi2]⟩)) := by
                have h := Region.Own.setNear HL2.out HN2.out HP32.out HPI2.out HK32.out hown' (fun b hb => by
                  have e1 : G2 = b := by simpa [Value.ownBlock] using hb
                  rcases hob with e | e
                  · exact .inl (e1 ▸ e)
                  · exact .inr (by have := HSZX2.out; omega))
                rw [← HP42.out] at h
                exact h
              have HIDk2 : Hid ((M1.set k ⟨xi2, xl2, nr2 ++ [yi2]⟩)[i]? = some ⟨yi2, yl2, mr2⟩) := by
                rw [Hid, List.getElem?_set_ne (by omega), HP42.out, List.getElem?_map, HPK2.out]; rfl
              have HDN2 : Hid (DrawnR 6 (20 * i + 2 * k + 1 + 1) (M1.set k ⟨xi2, xl2, nr2 ++ [yi2]⟩)) := by
                have h1 : M1[k]? = some ⟨xi2, xl2, nr2⟩ := by rw [HP42.out, List.getElem?_map, HPI2.out]; rfl
                exact HDM2.out.near h1 HYS2.out
              have HSR2 : Hid (SrcAt A n c ds bs k1 w0 (w32.setCell ⟨g, k * 3 + 2, none⟩ (.slice (some ⟨G2, 0, none⟩) (nr2.length + 1) cap2))) := ((HSd2.out.grow HBM2.out).grow2 hb' (by have := HLT.out; omega)).put (by have := HLT.out; simp only; omega) (by have := HW0.out; simp only; omega) _
              have HZN2 : Hid (w.heap.size + 1 ≤ (w32.setCell ⟨g, k * 3 + 2, none⟩ (.slice (some ⟨G2, 0, none⟩) (nr2.length + 1) cap2)).heap.size) := by have h1 := hb'.size; have := HSZX2.out; have := HZd2.out; rw [Hid]; simp; omega
              have z2 := (HL32.out.rcell HPI2.out).2.2
              have fr := HL32.out.frozen
              have lg := (HL32.out.lt g rfl).2
              refine wpAnyH_ready (rs := [16]) (by kernel_rfl) (by simp) ?_
              refine AllReadyH.cons (o := _) rfl (fun K hK => ?_) AllReadyH.nil
              simp only [List.getElem_toArray, List.getElem_cons_zero, List.getElem_cons_succ]
              go_simp
              refine hK.out _ _ (HSN2.out.id_at HIDk2.out) (fun hHeld2 => ?_)
              clear hK K
              try simp only [List.getElem_toArray, List.getElem_cons_zero, List.getElem_cons_succ, Act.put, List.setIfInBounds_toArray, List.set_cons_zero, List.set_cons_succ]
              refine wpAnyH_done (by kernel_rfl) ?_ _
              obtain ⟨w42, hw4⟩ : ∃ w4, w32.setCell ⟨g, k * 3 + 2, none⟩ (.slice (some ⟨G2, 0, none⟩) (nr2.length + 1) cap2) = w4 := ⟨_, rfl⟩
              rw [hw4] at HSN2 HSR2 HZN2 ⊢
              clear hw4 hown' hb' hkp hob z2 fr lg hHeld hHeld2 hgx
              go_wp2
              go_roundg (P - (k + 1))
              case measure => have := HGK.out; omega
              case rel => exact ⟨k + 1, k1, _, by omega, by omega, rfl, by go_num, by omega, by simp [HML2.out], HDN2.out.mono (Nat.le_refl _) (by omega), HSR2.out, HSN2.out, HZN2.out⟩
          · simp only [List.getElem_toArray, List.getElem_cons_zero, List.getElem_cons_succ]
            go_simp
            refine hK.out _ _ ((HL.out.below' HBM.out).rcell HPK.out).1 (fun hHeld2 => ?_)
            clear hK K hHeld2
            try simp only [List.getElem_toArray, List.getElem_cons_zero, List.getElem_cons_succ, Act.put, List.setIfInBounds_toArray, List.set_cons_zero, List.set_cons_succ]
            have z2 := ((HL.out.below' HBM.out).rcell HPI.out).2.2
            refine wpAnyH_ready (rs := [6]) (by kernel_rfl) (by simp) ?_
            refine AllReadyH.cons (o := _) rfl (fun K hK => ?_) AllReadyH.nil
            simp only [List.getElem_toArray, List.getElem_cons_zero, List.getElem_cons_succ]
            go_simp
            refine hK.out _ _ (((HL.out.below' HBM.out).rcell HPK.out).1) (fun hHeld2 => ?_)
            clear hK K
            try simp only [List.getElem_toArray, List.getElem_cons_zero, List.getElem_cons_succ, Act.put, List.setIfInBounds_toArray, List.set_cons_zero, List.set_cons_succ]
            clear z2
            obtain ⟨gx, hgx⟩ : ∃ gx, wd.heap.size = gx := ⟨_, rfl⟩
            obtain ⟨w2, hw2⟩ : ∃ w2, wd.alloc (.cells #[.string yi] 9) = w2 := ⟨_, rfl⟩
            rw [hw2] at hHeld2 HBM HOX ⊢
            have HZX := Lib.hid HZd.out
            have HSZX := Lib.hid HBM.out.size
            rw [hgx] at HOX HZX ⊢
            clear hw2
            refine wpAnyH_ready (rs := [13]) (by kernel_rfl) (by simp) ?_
            refine AllReadyH.cons (o := _) rfl (fun K hK => ?_) AllReadyH.nil
            (refine step_pushAll (by rfl) (.tmp 52) (.tmp 58) 32 (by rfl) (w.heap.size + 1) 9 1 Try.underlying32 infoStr (by rfl) (by decide) strcells strcells_len strcells_one (.slice NA NN NC) nr [yi] gx 0 1 1 (by rfl) ((HN.out _ (List.mem_of_getElem? HPI.out)).below' HBM.out) (by rfl) (sliceOne HOX.out) (by decide) (by omega) (by decide) (by have := HSZX.out; have := HZd.out; omega) ?_; intro G cap w3 hown' hb' hkp hob; have HK3 : Hid (∀ b, b < wd.heap.size → some b ≠ (⟨xi, xl, NA, NN, NC, nr⟩ : RegionR).own → w3.heap[b]? = wd.heap[b]?) := (fun b h1 h2 => (hkp b (by have := HSZX.out; omega) h2).trans (HBM.out.block b h1)); have HL3 : Hid (OwnsL w3 (w.heap.size + 1) 34 3 RegionR.cells (.slice (some ⟨g, 0, none⟩) P vc) ps) := HL.out.kept (fun b hb => HK3.out b (HL.out.lt b hb).2 (fun e => HP3.out.1 _ (List.mem_of_getElem? HPI.out) b e.symm hb)))
            refine hK.out _ _ ((HL3.out.rcell HPK.out).1) (fun hHeld2 => ?_)
            clear hK K
            try simp only [List.getElem_toArray, List.getElem_cons_zero, List.getElem_cons_succ, Act.put, List.setIfInBounds_toArray, List.set_cons_zero, List.set_cons_succ]
            refine wpAnyH_take (i := 14) (oi := _) (v := ?_) rfl (by kernel_rfl) (by kernel_rfl) (by kernel_rfl) (fun _ _ _ h => h) (Or.inl ⟨by rfl, ?_⟩) (by assumption) ?_
            rotate_left
            · intro w hSw; (try dsimp only at hSw); go_simp; (try with_reducible rfl)
            simp only [List.getElem_toArray, List.getElem_cons_zero, List.getElem_cons_succ, Act.put, List.setIfInBounds_toArray, List.set_cons_zero, List.set_cons_succ]
            refine wpAnyH_take (i := 15) (oi := _) (v := ?_) rfl (by kernel_rfl) (by kernel_rfl) (by kernel_rfl) (fun _ _ _ h => h) (Or.inl ⟨by rfl, ?_⟩) (by assumption) ?_
            rotate_left
            · intro w hSw; (try dsimp only at hSw); go_simp; (try with_reducible rfl)
            simp only [List.getElem_toArray, List.getElem_cons_zero, List.getElem_cons_succ, Act.put, List.setIfInBounds_toArray, List.set_cons_zero, List.set_cons_succ]
            have HSN : Hid (Region.Own (w3.setCell ⟨g, i * 3 + 2, none⟩ (.slice (some ⟨G, 0, none⟩) (nr.length + 1) cap)) (w.heap.size + 1) (.slice (some ⟨g, 0, none⟩) P vc) (M.set i ⟨xi, xl, nr ++ [yi]⟩)) := by
              have h := Region.Own.setNear HL.out HN.out HP3.out HPI.out HK3.out hown' (fun b hb => by
                have e1 : G = b := by simpa [Value.ownBlock] using hb
                rcases hob with e | e
                · exact .inl (e1 ▸ e)
                · exact .inr (by have := HSZX.out; omega))
              rw [← HP4.out] at h
              exact h
            have HIDk : Hid ((M.set i ⟨xi, xl, nr ++ [yi]⟩)[k]? = some ⟨yi, yl, mr⟩) := by
              rw [Hid, List.getElem?_set_ne (by omega), HP4.out, List.getElem?_map, HPK.out]; rfl
            have HDN : Hid (DrawnR 6 (20 * i + 2 * k + 1) (M.set i ⟨xi, xl, nr ++ [yi]⟩)) := by
              have h1 : M[i]? = some ⟨xi, xl, nr⟩ := by rw [HP4.out, List.getElem?_map, HPI.out]; rfl
              exact HDM.out.near h1 HYS.out
            have HSR : Hid (SrcAt A n c ds bs k1 w0 (w3.setCell ⟨g, i * 3 + 2, none⟩ (.slice (some ⟨G, 0, none⟩) (nr.length + 1) cap))) := ((HSd.out.grow HBM.out).grow2 hb' (by have := HLT.out; omega)).put (by have := HLT.out; simp only; omega) (by have := HW0.out; simp only; omega) _
            have HZN : Hid (w.heap.size + 1 ≤ (w3.setCell ⟨g, i * 3 + 2, none⟩ (.slice (some ⟨G, 0, none⟩) (nr.length + 1) cap)).heap.size) := by have h1 := hb'.size; have := HSZX.out; have := HZd.out; rw [Hid]; simp; omega
            have z2 := (HL3.out.rcell HPI.out).2.2
            have fr := HL3.out.frozen
            have lg := (HL3.out.lt g rfl).2
            refine wpAnyH_ready (rs := [16]) (by kernel_rfl) (by simp) ?_
            refine AllReadyH.cons (o := _) rfl (fun K hK => ?_) AllReadyH.nil
            simp only [List.getElem_toArray, List.getElem_cons_zero, List.getElem_cons_succ]
            go_simp
            refine hK.out _ _ (HSN.out.id_at HIDk.out) (fun hHeld2 => ?_)
            clear hK K
            try simp only [List.getElem_toArray, List.getElem_cons_zero, List.getElem_cons_succ, Act.put, List.setIfInBounds_toArray, List.set_cons_zero, List.set_cons_succ]
            refine wpAnyH_done (by kernel_rfl) ?_ _
            obtain ⟨w4, hw4⟩ : ∃ w4, w3.setCell ⟨g, i * 3 + 2, none⟩ (.slice (some ⟨G, 0, none⟩) (nr.length + 1) cap) = w4 := ⟨_, rfl⟩
            rw [hw4] at HSN HSR HZN ⊢
            clear hw4 hown' hb' hkp hob z2 fr lg hHeld hHeld2 hgx
            have HO2 := HSN
            have HML2 : Hid ((M.set i ⟨xi, xl, nr ++ [yi]⟩).length = P) := by rw [Hid, List.length_set]; exact HML.out
            have HDM2 := HDN
            have HSM2 := HSR
            have HZM2 := HZN
            obtain ⟨M1, hM1⟩ : ∃ M1, M.set i ⟨xi, xl, nr ++ [yi]⟩ = M1 := ⟨_, rfl⟩
            rw [hM1] at HO2 HML2 HDM2
            clear HSN HDN HIDk HSR hM1
            clear HO HML HDM HSM HZM HP3 HP4 HPI HPK HYS HL HN HSd HZd HBM HOX HZX HSZX HK3 HL3 hpl
            obtain ⟨ps2, hp1, hp2, hp3, hp4⟩ := HO2.out
            have hpl : ps2.length = P := by have h1 := congrArg List.length hp4; rw [List.length_map] at h1; rw [← h1]; exact HML2.out
            have HP42 := Lib.hid hp4
            have HP32 := Lib.hid hp3
            obtain ⟨⟨xi2, xl2, NA2, NN2, NC2, nr2⟩, hpi⟩ : ∃ p, ps2[k]? = some p := ⟨_, List.getElem?_eq_getElem (by omega)⟩
            obtain ⟨⟨yi2, yl2, MA2, MN2, MC2, mr2⟩, hpk⟩ : ∃ p, ps2[i]? = some p := ⟨_, List.getElem?_eq_getElem (by omega)⟩
            have HPI2 := Lib.hid hpi
            have HPK2 := Lib.hid hpk
            have hgi := HDM2.out.good _ (by rw [hp4]; exact List.mem_map.2 ⟨_, List.mem_of_getElem? hpi, rfl⟩)
            have hgk := HDM2.out.good _ (by rw [hp4]; exact List.mem_map.2 ⟨_, List.mem_of_getElem? hpk, rfl⟩)
            have HYS2 : Hid (yi2.size ≤ maxLen) := hgk.1.2.1
            have hnl : nr2.length ≤ 140 := by have h1 := hgi.2; simp only [RegionR.val] at h1; omega
            obtain ⟨wd2, hwd⟩ : ∃ wd, w4.drew = wd := ⟨_, rfl⟩
            have hbd : Below w4.heap.size w4 wd2 := by rw [← hwd]; exact (Below.refl _ _).drew
            have HL2 := Lib.hid (hp1.below' hbd)
            have HN2 : Hid (∀ p ∈ ps2, OwnsL wd2 (w.heap.size + 1) 9 1 strcells (.slice p.nearA p.nearN p.nearC) p.near) := fun p hp => (hp2 p hp).below' hbd
            have HSd2 := Lib.hid (HSM2.out.grow hbd)
            have HZd2 : Hid (w.heap.size + 1 ≤ wd2.heap.size) := Nat.le_trans HZM2.out hbd.size
            have HBM2 : Hid (Below wd2.heap.size wd2 (wd2.alloc (.cells #[.string yi2] 9))) := (Below.refl _ _).alloc (Nat.le_refl _) _
            have HOX2 := Lib.hid (Own.new wd2 9 #[.string yi2])
            clear hp1 hp2 hp3 hp4 hpi hpk hgi hgk
            go_wp2_with fail
            refine wp_region_held_drew (S := (fun w' => w'.cell? ⟨g, i * 3, none⟩ = some (.string yi2))) (by kernel_rfl) (by rw [hwd]; exact (HL2.out.rcell HPK2.out).1) (fun hHeld => ?_)
            simp only [List.size_toArray, List.length_cons, List.length_nil, Nat.zero_add, Nat.reduceAdd]
            rw [hwd] at hHeld ⊢
            clear hwd hbd
            refine wpAnyH_take (i := 0) (oi := _) (v := ?_) rfl (by kernel_rfl) (by kernel_rfl) (by kernel_rfl) (fun _ _ _ h => h) (Or.inl ⟨by rfl, ?_⟩) (by assumption) ?_
            rotate_left
            · intro w hSw; (try dsimp only at hSw); go_simp; (try with_reducible rfl)
            simp only [List.getElem_toArray, List.getElem_cons_zero, Act.put, List.setIfInBounds_toArray, List.set_cons_zero, List.set_cons_succ]
            refine wpAnyH_take (i := 1) (oi := _) (v := ?_) rfl (by kernel_rfl) (by kernel_rfl) (by kernel_rfl) (fun _ _ _ h => h) (Or.inl ⟨by rfl, ?_⟩) (by assumption) ?_
            rotate_left
            · intro w hSw; (try dsimp only at hSw); go_simp; (try with_reducible rfl)
            simp only [List.getElem_toArray, List.getElem_cons_zero, List.getElem_cons_succ, Act.put, List.setIfInBounds_toArray, List.set_cons_zero, List.set_cons_succ]
            refine wpAnyH_take (i := 2) (oi := _) (v := ?_) rfl (by kernel_rfl) (by kernel_rfl) (by kernel_rfl) (fun _ _ _ h => h) (Or.inl ⟨by rfl, ?_⟩) (by assumption) ?_
            rotate_left
            · intro w hSw; (try dsimp only at hSw); go_simp; (try with_reducible rfl)
            simp only [List.getElem_toArray, List.getElem_cons_zero, List.getElem_cons_succ, Act.put, List.setIfInBounds_toArray, List.set_cons_zero, List.set_cons_succ]
            refine wpAnyH_take (i := 3) (oi := _) (v := ?_) rfl (by kernel_rfl) (by kernel_rfl) (by kernel_rfl) (fun _ _ _ h => h) (Or.inl ⟨by rfl, ?_⟩) (by assumption) ?_
            rotate_left
            · intro w hSw; (try dsimp only at hSw); go_simp; (try with_reducible rfl)
            simp only [List.getElem_toArray, List.getElem_cons_zero, List.getElem_cons_succ, Act.put, List.setIfInBounds_toArray, List.set_cons_zero, List.set_cons_succ]
            refine wpAnyH_take (i := 4) (oi := _) (v := ?_) rfl (by kernel_rfl) (by kernel_rfl) (by kernel_rfl) (fun _ _ _ h => h) (Or.inl ⟨by rfl, ?_⟩) (by assumption) ?_
            rotate_left
            · intro w hSw; (try dsimp only at hSw); go_simp; (try with_reducible rfl)
            simp only [List.getElem_toArray, List.getElem_cons_zero, List.getElem_cons_succ, Act.put, List.setIfInBounds_toArray, List.set_cons_zero, List.set_cons_succ]
            refine wpAnyH_take (i := 5) (oi := _) (v := ?_) rfl (by kernel_rfl) (by kernel_rfl) (by kernel_rfl) (fun _ _ _ h => h) (Or.inl ⟨by rfl, ?_⟩) (by assumption) ?_
            rotate_left
            · intro w hSw; (try dsimp only at hSw); go_simp; (try with_reducible rfl)
            simp only [List.getElem_toArray, List.getElem_cons_zero, List.getElem_cons_succ, Act.put, List.setIfInBounds_toArray, List.set_cons_zero, List.set_cons_succ]
            refine wpAnyH_take (i := 7) (oi := _) (v := ?_) rfl (by kernel_rfl) (by kernel_rfl) (by kernel_rfl) (fun _ _ _ h => h) (Or.inl ⟨by rfl, ?_⟩) (by assumption) ?_
            rotate_left
            · intro w hSw; (try dsimp only at hSw); go_simp; (try with_reducible rfl)
            simp only [List.getElem_toArray, List.getElem_cons_zero, List.getElem_cons_succ, Act.put, List.setIfInBounds_toArray, List.set_cons_zero, List.set_cons_succ]
            refine wpAnyH_take (i := 8) (oi := _) (v := ?_) rfl (by kernel_rfl) (by kernel_rfl) (by kernel_rfl) (fun _ _ _ h => h) (Or.inl ⟨by rfl, ?_⟩) (by assumption) ?_
            rotate_left
            · intro w hSw; (try dsimp only at hSw); go_simp; (try with_reducible rfl)
            simp only [List.getElem_toArray, List.getElem_cons_zero, List.getElem_cons_succ, Act.put, List.setIfInBounds_toArray, List.set_cons_zero, List.set_cons_succ]
            refine wpAnyH_take (i := 9) (oi := _) (v := ?_) rfl (by kernel_rfl) (by kernel_rfl) (by kernel_rfl) (fun _ _ _ h => h) (Or.inl ⟨by rfl, ?_⟩) (by assumption) ?_
            rotate_left
            · intro w hSw; (try dsimp only at hSw); go_simp; (try with_reducible rfl)
            simp only [List.getElem_toArray, List.getElem_cons_zero, List.getElem_cons_succ, Act.put, List.setIfInBounds_toArray, List.set_cons_zero, List.set_cons_succ]
            refine wpAnyH_take (i := 10) (oi := _) (v := ?_) rfl (by kernel_rfl) (by kernel_rfl) (by kernel_rfl) (fun _ _ _ h => h) (Or.inl ⟨by rfl, ?_⟩) (by assumption) ?_
            rotate_left
            · intro w hSw; (try dsimp only at hSw); go_simp; (try with_reducible rfl)
            simp only [List.getElem_toArray, List.getElem_cons_zero, List.getElem_cons_succ, Act.put, List.setIfInBounds_toArray, List.set_cons_zero, List.set_cons_succ]
            refine wpAnyH_take (i := 11) (oi := _) (v := ?_) rfl (by kernel_rfl) (by kernel_rfl) (by kernel_rfl) (fun _ _ _ h => h) (Or.inl ⟨by rfl, ?_⟩) (by assumption) ?_
            rotate_left
            · intro w hSw; (try dsimp only at hSw); go_simp; (try with_reducible rfl)
            simp only [List.getElem_toArray, List.getElem_cons_zero, List.getElem_cons_succ, Act.put, List.setIfInBounds_toArray, List.set_cons_zero, List.set_cons_succ]
            refine wpAnyH_ready (rs := [6, 12]) (by kernel_rfl) (by simp) ?_
            refine AllReadyH.cons (o := _) rfl (fun K hK => ?_) (AllReadyH.cons (o := _) rfl (fun K hK => ?_) AllReadyH.nil)
            · simp only [List.getElem_toArray, List.getElem_cons_zero, List.getElem_cons_succ]
              have z2 := (HL2.out.rcell HPI2.out).2.2
              go_simp
              refine hK.out _ _ hHeld (fun hHeld2 => ?_)
              clear hK K z2 hHeld2
              try simp only [List.getElem_toArray, List.getElem_cons_zero, List.getElem_cons_succ, Act.put, List.setIfInBounds_toArray, List.set_cons_zero, List.set_cons_succ]
              refine wpAnyH_ready (rs := [12]) (by kernel_rfl) (by simp) ?_
              refine AllReadyH.cons (o := _) rfl (fun K hK => ?_) AllReadyH.nil
              simp only [List.getElem_toArray, List.getElem_cons_zero, List.getElem_cons_succ]
              go_simp
              refine hK.out _ _ (((HL2.out.below' HBM2.out).rcell HPK2.out).1) (fun hHeld2 => ?_)
              clear hK K
              try simp only [List.getElem_toArray, List.getElem_cons_zero, List.getElem_cons_succ, Act.put, List.setIfInBounds_toArray, List.set_cons_zero, List.set_cons_succ]
              obtain ⟨gx2, hgx⟩ : ∃ gx, wd2.heap.size = gx := ⟨_, rfl⟩
              obtain ⟨w22, hw2⟩ : ∃ w2, wd2.alloc (.cells #[.string yi2] 9) = w2 := ⟨_, rfl⟩
              rw [hw2] at hHeld2 HBM2 HOX2 ⊢
              have HZX2 := Lib.hid HZd2.out
              have HSZX2 := Lib.hid HBM2.out.size
              rw [hgx] at HOX2 HZX2 ⊢
              clear hw2
              refine wpAnyH_ready (rs := [13]) (by kernel_rfl) (by simp) ?_
              refine AllReadyH.cons (o := _) rfl (fun K hK => ?_) AllReadyH.nil
              (refine step_pushAll (by rfl) (.tmp 68) (.tmp 74) 32 (by rfl) (w.heap.size + 1) 9 1 Try.underlying32 infoStr (by rfl) (by decide) strcells strcells_len strcells_one (.slice NA2 NN2 NC2) nr2 [yi2] gx2 0 1 1 (by rfl) ((HN2.out _ (List.mem_of_getElem? HPI2.out)).below' HBM2.out) (by rfl) (sliceOne HOX2.out) (by decide) (by omega) (by decide) (by have := HSZX2.out; have := HZd2.out; omega) ?_; intro G2 cap2 w32 hown' hb' hkp hob; have HK32 : Hid (∀ b, b < wd2.heap.size → some b ≠ (⟨xi2, xl2, NA2, NN2, NC2, nr2⟩ : RegionR).own → w32.heap[b]? = wd2.heap[b]?) := (fun b h1 h2 => (hkp b (by have := HSZX2.out; omega) h2).trans (HBM2.out.block b h1)); have HL32 : Hid (OwnsL w32 (w.heap.size + 1) 34 3 RegionR.cells (.slice (some ⟨g, 0, none⟩) P vc) ps2) := HL2.out.kept (fun b hb => HK32.out b (HL2.out.lt b hb).2 (fun e => HP32.out.1 _ (List.mem_of_getElem? HPI2.out) b e.symm hb)))
              refine hK.out _ _ ((HL32.out.rcell HPK2.out).1) (fun hHeld2 => ?_)
              clear hK K
              try simp only [List.getElem_toArray, List.getElem_cons_zero, List.getElem_cons_succ, Act.put, List.setIfInBounds_toArray, List.set_cons_zero, List.set_cons_succ]
              refine wpAnyH_take (i := 14) (oi := _) (v := ?_) rfl (by kernel_rfl) (by kernel_rfl) (by kernel_rfl) (fun _ _ _ h => h) (Or.inl ⟨by rfl, ?_⟩) (by assumption) ?_
              rotate_left
              · intro w hSw; (try dsimp only at hSw); go_simp; (try with_reducible rfl)
              simp only [List.getElem_toArray, List.getElem_cons_zero, List.getElem_cons_succ, Act.put, List.setIfInBounds_toArray, List.set_cons_zero, List.set_cons_succ]
              refine wpAnyH_take (i := 15) (oi := _) (v := ?_) rfl (by kernel_rfl) (by kernel_rfl) (by kernel_rfl) (fun _ _ _ h => h) (Or.inl ⟨by rfl, ?_⟩) (by assumption) ?_
              rotate_left
              · intro w hSw; (try dsimp only at hSw); go_simp; (try with_reducible rfl)
              simp only [List.getElem_toArray, List.getElem_cons_zero, List.getElem_cons_succ, Act.put, List.setIfInBounds_toArray, List.set_cons_zero, List.set_cons_succ]
              have HSN2 : Hid (Region.Own (w32.setCell ⟨g, k * 3 + 2, none⟩ (.slice (some ⟨G2, 0, none⟩) (nr2.length + 1) cap2)) (w.heap.size + 1) (.slice (some ⟨g, 0, none⟩) P vc) (M1.set k ⟨xi2, xl2, nr2 ++ [yi2]⟩)) := by
                have h := Region.Own.setNear HL2.out HN2.out HP32.out HPI2.out HK32.out hown' (fun b hb => by
                  have e1 : G2 = b := by simpa [Value.ownBlock] using hb
                  rcases hob with e | e
                  · exact .inl (e1 ▸ e)
                  · exact .inr (by have := HSZX2.out; omega))
                rw [← HP42.out] at h
                exact h
              have HIDk2 : Hid ((M1.set k ⟨xi2, xl2, nr2 ++ [yi2]⟩)[i]? = some ⟨yi2, yl2, mr2⟩) := by
                rw [Hid, List.getElem?_set_ne (by omega), HP42.out, List.getElem?_map, HPK2.out]; rfl
              have HDN2 : Hid (DrawnR 6 (20 * i + 2 * k + 1 + 1) (M1.set k ⟨xi2, xl2, nr2 ++ [yi2]⟩)) := by
                have h1 : M1[k]? = some ⟨xi2, xl2, nr2⟩ := by rw [HP42.out, List.getElem?_map, HPI2.out]; rfl
                exact HDM2.out.near h1 HYS2.out
              have HSR2 : Hid (SrcAt A n c ds bs k1 w0 (w32.setCell ⟨g, k * 3 + 2, none⟩ (.slice (some ⟨G2, 0, none⟩) (nr2.length + 1) cap2))) := ((HSd2.out.grow HBM2.out).grow2 hb' (by have := HLT.out; omega)).put (by have := HLT.out; simp only; omega) (by have := HW0.out; simp only; omega) _
              have HZN2 : Hid (w.heap.size + 1 ≤ (w32.setCell ⟨g, k * 3 + 2, none⟩ (.slice (some ⟨G2, 0, none⟩) (nr2.length + 1) cap2)).heap.size) := by have h1 := hb'.size; have := HSZX2.out; have := HZd2.out; rw [Hid]; simp; omega
              have z2 := (HL32.out.rcell HPI2.out).2.2
              have fr := HL32.out.frozen
              have lg := (HL32.out.lt g rfl).2
              refine wpAnyH_ready (rs := [16]) (by kernel_rfl) (by simp) ?_
              refine AllReadyH.cons (o := _) rfl (fun K hK => ?_) AllReadyH.nil
              simp only [List.getElem_toArray, List.getElem_cons_zero, List.getElem_cons_succ]
              go_simp
              refine hK.out _ _ (HSN2.out.id_at HIDk2.out) (fun hHeld2 => ?_)
              clear hK K
              try simp only [List.getElem_toArray, List.getElem_cons_zero, List.getElem_cons_succ, Act.put, List.setIfInBounds_toArray, List.set_cons_zero, List.set_cons_succ]
              refine wpAnyH_done (by kernel_rfl) ?_ _
              obtain ⟨w42, hw4⟩ : ∃ w4, w32.setCell ⟨g, k * 3 + 2, none⟩ (.slice (some ⟨G2, 0, none⟩) (nr2.length + 1) cap2) = w4 := ⟨_, rfl⟩
              rw [hw4] at HSN2 HSR2 HZN2 ⊢
              clear hw4 hown' hb' hkp hob z2 fr lg hHeld hHeld2 hgx
              go_wp2
              go_roundg (P - (k + 1))
              case measure => have := HGK.out; omega
              case rel => exact ⟨k + 1, k1, _, by omega, by omega, rfl, by go_num, by omega, by simp [HML2.out], HDN2.out.mono (Nat.le_refl _) (by omega), HSR2.out, HSN2.out, HZN2.out⟩
            · simp only [List.getElem_toArray, List.getElem_cons_zero, List.getElem_cons_succ]
              go_simp
              refine hK.out _ _ ((HL2.out.below' HBM2.out).rcell HPK2.out).1 (fun hHeld2 => ?_)
              clear hK K hHeld2
              try simp only [List.getElem_toArray, List.getElem_cons_zero, List.getElem_cons_succ, Act.put, List.setIfInBounds_toArray, List.set_cons_zero, List.set_cons_succ]
              have z2 := ((HL2.out.below' HBM2.out).rcell HPI2.out).2.2
              refine wpAnyH_ready (rs := [6]) (by kernel_rfl) (by simp) ?_
              refine AllReadyH.cons (o := _) rfl (fun K hK => ?_) AllReadyH.nil
              simp only [List.getElem_toArray, List.getElem_cons_zero, List.getElem_cons_succ]
              go_simp
              refine hK.out _ _ (((HL2.out.below' HBM2.out).rcell HPK2.out).1) (fun hHeld2 => ?_)
              clear hK K
              try simp only [List.getElem_toArray, List.getElem_cons_zero, List.getElem_cons_succ, Act.put, List.setIfInBounds_toArray, List.set_cons_zero, List.set_cons_succ]
              clear z2
              obtain ⟨gx2, hgx⟩ : ∃ gx, wd2.heap.size = gx := ⟨_, rfl⟩
              obtain ⟨w22, hw2⟩ : ∃ w2, wd2.alloc (.cells #[.string yi2] 9) = w2 := ⟨_, rfl⟩
              rw [hw2] at hHeld2 HBM2 HOX2 ⊢
              have HZX2 := Lib.hid HZd2.out
              have HSZX2 := Lib.hid HBM2.out.size
              rw [hgx] at HOX2 HZX2 ⊢
              clear hw2
              refine wpAnyH_ready (rs := [13]) (by kernel_rfl) (by simp) ?_
              refine AllReadyH.cons (o := _) rfl (fun K hK => ?_) AllReadyH.nil
              (refine step_pushAll (by rfl) (.tmp 68) (.tmp 74) 32 (by rfl) (w.heap.size + 1) 9 1 Try.underlying32 infoStr (by rfl) (by decide) strcells strcells_len strcells_one (.slice NA2 NN2 NC2) nr2 [yi2] gx2 0 1 1 (by rfl) ((HN2.out _ (List.mem_of_getElem? HPI2.out)).below' HBM2.out) (by rfl) (sliceOne HOX2.out) (by decide) (by omega) (by decide) (by have := HSZX2.out; have := HZd2.out; omega) ?_; intro G2 cap2 w32 hown' hb' hkp hob; have HK32 : Hid (∀ b, b < wd2.heap.size → some b ≠ (⟨xi2, xl2, NA2, NN2, NC2, nr2⟩ : RegionR).own → w32.heap[b]? = wd2.heap[b]?) := (fun b h1 h2 => (hkp b (by have := HSZX2.out; omega) h2).trans (HBM2.out.block b h1)); have HL32 : Hid (OwnsL w32 (w.heap.size + 1) 34 3 RegionR.cells (.slice (some ⟨g, 0, none⟩) P vc) ps2) := HL2.out.kept (fun b hb => HK32.out b (HL2.out.lt b hb).2 (fun e => HP32.out.1 _ (List.mem_of_getElem? HPI2.out) b e.symm hb)))
              refine hK.out _ _ ((HL32.out.rcell HPK2.out).1) (fun hHeld2 => ?_)
              clear hK K
              try simp only [List.getElem_toArray, List.getElem_cons_zero, List.getElem_cons_succ, Act.put, List.setIfInBounds_toArray, List.set_cons_zero, List.set_cons_succ]
              refine wpAnyH_take (i := 14) (oi := _) (v := ?_) rfl (by kernel_rfl) (by kernel_rfl) (by kernel_rfl) (fun _ _ _ h => h) (Or.inl ⟨by rfl, ?_⟩) (by assumption) ?_
              rotate_left
              · intro w hSw; (try dsimp only at hSw); go_simp; (try with_reducible rfl)
              simp only [List.getElem_toArray, List.getElem_cons_zero, List.getElem_cons_succ, Act.put, List.setIfInBounds_toArray, List.set_cons_zero, List.set_cons_succ]
              refine wpAnyH_take (i := 15) (oi := _) (v := ?_) rfl (by kernel_rfl) (by kernel_rfl) (by kernel_rfl) (fun _ _ _ h => h) (Or.inl ⟨by rfl, ?_⟩) (by assumption) ?_
              rotate_left
              · intro w hSw; (try dsimp only at hSw); go_simp; (try with_reducible rfl)
              simp only [List.getElem_toArray, List.getElem_cons_zero, List.getElem_cons_succ, Act.put, List.setIfInBounds_toArray, List.set_cons_zero, List.set_cons_succ]
              have HSN2 : Hid (Region.Own (w32.setCell ⟨g, k * 3 + 2, none⟩ (.slice (some ⟨G2, 0, none⟩) (nr2.length + 1) cap2)) (w.heap.size + 1) (.slice (some ⟨g, 0, none⟩) P vc) (M1.set k ⟨xi2, xl2, nr2 ++ [yi2]⟩)) := by
                have h := Region.Own.setNear HL2.out HN2.out HP32.out HPI2.out HK32.out hown' (fun b hb => by
                  have e1 : G2 = b := by simpa [Value.ownBlock] using hb
                  rcases hob with e | e
                  · exact .inl (e1 ▸ e)
                  · exact .inr (by have := HSZX2.out; omega))
                rw [← HP42.out] at h
                exact h
              have HIDk2 : Hid ((M1.set k ⟨xi2, xl2, nr2 ++ [yi2]⟩)[i]? = some ⟨yi2, yl2, mr2⟩) := by
                rw [Hid, List.getElem?_set_ne (by omega), HP42.out, List.getElem?_map, HPK2.out]; rfl
              have HDN2 : Hid (DrawnR 6 (20 * i + 2 * k + 1 + 1) (M1.set k ⟨xi2, xl2, nr2 ++ [yi2]⟩)) := by
                have h1 : M1[k]? = some ⟨xi2, xl2, nr2⟩ := by rw [HP42.out, List.getElem?_map, HPI2.out]; rfl
                exact HDM2.out.near h1 HYS2.out
              have HSR2 : Hid (SrcAt A n c ds bs k1 w0 (w32.setCell ⟨g, k * 3 + 2, none⟩ (.slice (some ⟨G2, 0, none⟩) (nr2.length + 1) cap2))) := ((HSd2.out.grow HBM2.out).grow2 hb' (by have := HLT.out; omega)).put (by have := HLT.out; simp only; omega) (by have := HW0.out; simp only; omega) _
              have HZN2 : Hid (w.heap.size + 1 ≤ (w32.setCell ⟨g, k * 3 + 2, none⟩ (.slice (some ⟨G2, 0, none⟩) (nr2.length + 1) cap2)).heap.size) := by have h1 := hb'.size; have := HSZX2.out; have := HZd2.out; rw [Hid]; simp; omega
              have z2 := (HL32.out.rcell HPI2.out).2.2
              have fr := HL32.out.frozen
              have lg := (HL32.out.lt g rfl).2
              refine wpAnyH_ready (rs := [16]) (by kernel_rfl) (by simp) ?_
              refine AllReadyH.cons (o := _) rfl (fun K hK => ?_) AllReadyH.nil
              simp only [List.getElem_toArray, List.getElem_cons_zero, List.getElem_cons_succ]
              go_simp
              refine hK.out _ _ (HSN2.out.id_at HIDk2.out) (fun hHeld2 => ?_)
              clear hK K
              try simp only [List.getElem_toArray, List.getElem_cons_zero, List.getElem_cons_succ, Act.put, List.setIfInBounds_toArray, List.set_cons_zero, List.set_cons_succ]
              refine wpAnyH_done (by kernel_rfl) ?_ _
              obtain ⟨w42, hw4⟩ : ∃ w4, w32.setCell ⟨g, k * 3 + 2, none⟩ (.slice (some ⟨G2, 0, none⟩) (nr2.length + 1) cap2) = w4 := ⟨_, rfl⟩
              rw [hw4] at HSN2 HSR2 HZN2 ⊢
              clear hw4 hown' hb' hkp hob z2 fr lg hHeld hHeld2 hgx
              go_wp2
              go_roundg (P - (k + 1))
              case measure => have := HGK.out; omega
              case rel => exact ⟨k + 1, k1, _, by omega, by omega, rfl, by go_num, by omega, by simp [HML2.out], HDN2.out.mono (Nat.le_refl _) (by omega), HSR2.out, HSN2.out, HZN2.out⟩
    go_wp2_with fail
    refine (srcOneR_any A n c ds bs kk 3 w0 wr HSR.out (by omega) (by omega) (by omega)).mono ?_
    rintro e w1 ⟨b, k1, rfl, hk1, hs1, ha1⟩
    have HS1 := Lib.hid hs1
    have HOW1 : Hid (Region.Own w1 (w.heap.size + 1) v L) := HOWN.out.span ha1 (by have := HLT.out; omega)
    have HNM1 : Hid (Own w1 w.heap.size 9 #[.string ⟨#[101, 97, 115, 116]⟩, .string ⟨#[108, 97, 107, 101]⟩, .string ⟨#[110, 111, 114, 116, 104]⟩, .string ⟨#[114, 105, 100, 103, 101]⟩, .string ⟨#[115, 111, 117, 116, 104]⟩, .string ⟨#[119, 101, 115, 116]⟩]) := HNM.out.span ha1 (by have := HLT.out; omega)
    have HZ1 : Hid (w.heap.size + 1 ≤ w1.heap.size) := Nat.le_trans HSZ.out ha1.size
    clear hs1 ha1
    cases b
    rotate_left
    · go_wp2
      go_roundg (6 - (k + 1))
      case measure => have := Hgk.out; omega
      case rel => exact ⟨k + 1, k1, v, L, by omega, rfl, by go_num, rfl, by omega, HDR.out.mono (by omega) (Nat.le_refl _), HS1.out, HOW1.out, HNM1.out, HZ1.out⟩
    obtain ⟨nm, hnm, hns⟩ := names_at k hlt
    obtain ⟨ps, hp1, hp2, hp3, hp4⟩ := HOW1.out
    have HPS := Lib.hid hp4
    have HAP := Lib.hid hp3
    have hpl : ps.length ≤ 6 := by have h1 := HDR.out.len; rw [hp4, List.length_map] at h1; omega
    have HP1 := Lib.hid hp1
    have HI1 := Lib.hid hp2
    clear hp1 hp2 hp3 hp4
    go_wp2_with fail
    obtain ⟨wd, hwd⟩ : ∃ wd, w1.drew = wd := ⟨_, rfl⟩
    have hbd : Below w1.heap.size w1 wd := by rw [← hwd]; exact (Below.refl _ _).drew
    have HPd := Lib.hid (HP1.out.below' hbd)
    have HId : Hid (∀ p ∈ ps, OwnsL wd (w.heap.size + 1) 9 1 strcells (.slice p.nearA p.nearN p.nearC) p.near) := fun p hp => (HI1.out p hp).below' hbd
    have HSd := Lib.hid (HS1.out.grow hbd)
    have HNMd := Lib.hid (HNM1.out.below' hbd)
    have HZd : Hid (w.heap.size + 1 ≤ wd.heap.size) := Nat.le_trans HZ1.out hbd.size
    refine wp_region_held_drew (S := (fun w' => w'.cell? ⟨w.heap.size, k, none⟩ = some (.string nm))) (by kernel_rfl) (by rw [hwd]; exact HNMd.out.cell_at hnm) (fun hHeld => ?_)
    simp only [List.size_toArray, List.length_cons, List.length_nil, Nat.zero_add, Nat.reduceAdd]
    rw [hwd] at hHeld ⊢
    clear hwd hbd
    refine wpAnyH_take (i := 0) (oi := _) (v := ?_) rfl (by kernel_rfl) (by kernel_rfl) (by kernel_rfl) (fun _ _ _ h => h) (Or.inl ⟨by rfl, ?_⟩) (by assumption) ?_
    rotate_left
    · intro w hSw; (try dsimp only at hSw); go_simp; (try with_reducible rfl)
    simp only [List.getElem_toArray, List.getElem_cons_zero, Act.put, List.setIfInBounds_toArray, List.set_cons_zero, List.set_cons_succ]
    refine wpAnyH_take (i := 1) (oi := _) (v := ?_) rfl (by kernel_rfl) (by kernel_rfl) (by kernel_rfl) (fun _ _ _ h => h) (Or.inl ⟨by rfl, ?_⟩) (by assumption) ?_
    rotate_left
    · intro w hSw; (try dsimp only at hSw); go_simp; (try with_reducible rfl)
    simp only [List.getElem_toArray, List.getElem_cons_zero, List.getElem_cons_succ, Act.put, List.setIfInBounds_toArray, List.set_cons_zero, List.set_cons_succ]
    refine wpAnyH_take (i := 2) (oi := _) (v := ?_) rfl (by kernel_rfl) (by kernel_rfl) (by kernel_rfl) (fun _ _ _ h => h) (Or.inl ⟨by rfl, ?_⟩) (by assumption) ?_
    rotate_left
    · intro w hSw; (try dsimp only at hSw); go_simp; (try with_reducible rfl)
    simp only [List.getElem_toArray, List.getElem_cons_zero, List.getElem_cons_succ, Act.put, List.setIfInBounds_toArray, List.set_cons_zero, List.set_cons_succ]
    refine wpAnyH_take (i := 3) (oi := _) (v := ?_) rfl (by kernel_rfl) (by kernel_rfl) (by kernel_rfl) (fun _ _ _ h => h) (Or.inl ⟨by rfl, ?_⟩) (by assumption) ?_
    rotate_left
    · intro w hSw; (try dsimp only at hSw); go_simp; (try with_reducible rfl)
    simp only [List.getElem_toArray, List.getElem_cons_zero, List.getElem_cons_succ, Act.put, List.setIfInBounds_toArray, List.set_cons_zero, List.set_cons_succ]
    refine wpAnyH_take (i := 4) (oi := _) (v := ?_) rfl (by kernel_rfl) (by kernel_rfl) (by kernel_rfl) (fun _ _ _ h => h) (Or.inl ⟨by rfl, ?_⟩) (by assumption) ?_
    rotate_left
    · intro w hSw; (try dsimp only at hSw); go_simp; (try with_reducible rfl)
    simp only [List.getElem_toArray, List.getElem_cons_zero, List.getElem_cons_succ, Act.put, List.setIfInBounds_toArray, List.set_cons_zero, List.set_cons_succ]
    refine wpAnyH_take (i := 5) (oi := _) (v := ?_) rfl (by kernel_rfl) (by kernel_rfl) (by kernel_rfl) (fun _ _ _ h => h) (Or.inl ⟨by rfl, ?_⟩) (by assumption) ?_
    rotate_left
    · intro w hSw; (try dsimp only at hSw); go_simp; (try with_reducible rfl)
    simp only [List.getElem_toArray, List.getElem_cons_zero, List.getElem_cons_succ, Act.put, List.setIfInBounds_toArray, List.set_cons_zero, List.set_cons_succ]
    refine wpAnyH_ready (rs := [6, 8]) (by kernel_rfl) (by simp) ?_
    refine AllReadyH.cons (o := _) rfl (fun K hK => ?_) (AllReadyH.cons (o := _) rfl (fun K hK => ?_) AllReadyH.nil)
    · simp only [List.getElem_toArray, List.getElem_cons_zero, List.getElem_cons_succ]
      go_simp
      (go_at_call 38; (with_reducible refine Calls.mono (srcPick_any A n c ds bs k1 4 w0 wd HSd.out (by omega) (by omega) (by omega)) ?_); rintro e wp ⟨r, k2, rfl, hr, hk2, hs2, ha2⟩)
      have HNMp : Hid (Own wp w.heap.size 9 #[.string ⟨#[101, 97, 115, 116]⟩, .string ⟨#[108, 97, 107, 101]⟩, .string ⟨#[110, 111, 114, 116, 104]⟩, .string ⟨#[114, 105, 100, 103, 101]⟩, .string ⟨#[115, 111, 117, 116, 104]⟩, .string ⟨#[119, 101, 115, 116]⟩]) := HNMd.out.span ha2 (by have := HLT.out; omega)
      refine hK.out _ _ (HNMp.out.cell_at hnm) (fun hHeld2 => ?_)
      clear hK K
      try simp only [List.getElem_toArray, List.getElem_cons_zero, List.getElem_cons_succ, Act.put, List.setIfInBounds_toArray, List.set_cons_zero, List.set_cons_succ]
      have HPp := Lib.hid (HPd.out.span ha2 (fun b hb => .inr (by have := (HPd.out.lt b hb).1; have := HLT.out; omega)))
      have HIp : Hid (∀ p ∈ ps, OwnsL wp (w.heap.size + 1) 9 1 strcells (.slice p.nearA p.nearN p.nearC) p.near) := fun p hp => (HId.out p hp).span ha2 (fun b hb => .inr (by have := ((HId.out p hp).lt b hb).1; have := HLT.out; omega))
      have HZp : Hid (w.heap.size + 1 ≤ wp.heap.size) := Nat.le_trans HZd.out ha2.size
      have HBM : Hid (Below wp.heap.size wp (wp.alloc (.cells #[] 9))) := (Below.refl _ _).alloc (Nat.le_refl _) _
      have HQ2 := Lib.hid (OwnsL.made wp (w.heap.size + 1) 9 1 strcells HZp.out)
      have HSR2 := Lib.hid (hs2.grow HBM.out)
      have HP2 := Lib.hid (HPp.out.below' HBM.out)
      have HI2 : Hid (∀ p ∈ ps, OwnsL (wp.alloc (.cells #[] 9)) (w.heap.size + 1) 9 1 strcells (.slice p.nearA p.nearN p.nearC) p.near) := fun p hp => (HIp.out p hp).below' HBM.out
      have HNM2 := Lib.hid (HNMp.out.below' HBM.out)
      have HSZ2 : Hid (w.heap.size + 1 ≤ (wp.alloc (.cells #[] 9)).heap.size) := Nat.le_trans HZp.out HBM.out.size
      have HQV : Hid (∀ b, (⟨nm, 1 + (r : Int), some ⟨wp.heap.size, 0, none⟩, 0, 0, []⟩ : RegionR).own = some b → v.ownBlock ≠ some b) := fun b hb e => by
        have h1 : wp.heap.size = b := by simpa [RegionR.own, Value.ownBlock] using hb
        have := (HPp.out.lt b e).2; omega
      have HQP : Hid (∀ p ∈ ps, ∀ b, p.own = some b → (⟨nm, 1 + (r : Int), some ⟨wp.heap.size, 0, none⟩, 0, 0, []⟩ : RegionR).own ≠ some b) := fun p hp b hb e => by
        have h1 : wp.heap.size = b := by simpa [RegionR.own, Value.ownBlock] using e
        have := ((HIp.out p hp).lt b hb).2; omega
      clear hs2 ha2
      refine wpAnyH_take (i := 7) (oi := _) (v := ?_) rfl (by kernel_rfl) (by kernel_rfl) (by kernel_rfl) (fun _ _ _ h => h) (Or.inl ⟨by rfl, ?_⟩) (by assumption) ?_
      rotate_left
      · intro w hSw; (try dsimp only at hSw); go_simp; (try with_reducible rfl)
      simp only [List.getElem_toArray, List.getElem_cons_zero, List.getElem_cons_succ, Act.put, List.setIfInBounds_toArray, List.set_cons_zero, List.set_cons_succ]
      rw [show IntKind.i64.wrap (1 + (r : Int)) = 1 + (r : Int) from IntWalk.i64_in _ (by omega)]
      refine wpAnyH_ready (rs := [8]) (by kernel_rfl) (by simp) ?_
      refine AllReadyH.cons (o := _) rfl (fun K hK => ?_) AllReadyH.nil
      simp only [List.getElem_toArray, List.getElem_cons_zero, List.getElem_cons_succ]
      go_simp
      refine hK.out _ _ (HNM2.out.cell_at hnm) (fun hHeld2 => ?_)
      clear hK K
      try simp only [List.getElem_toArray, List.getElem_cons_zero, List.getElem_cons_succ, Act.put, List.setIfInBounds_toArray, List.set_cons_zero, List.set_cons_succ]
      obtain ⟨g1, hg1⟩ : ∃ g1, wp.heap.size = g1 := ⟨_, rfl⟩
      obtain ⟨w2, hw2⟩ : ∃ w2, wp.alloc (.cells #[] 9) = w2 := ⟨_, rfl⟩
      rw [hw2] at hHeld2 HQ2 HSR2 HP2 HI2 HNM2 HSZ2 ⊢
      rw [hg1] at HQ2 HQV HQP ⊢
      clear hw2 hg1 HBM
      refine wpAnyH_take (i := 9) (oi := _) (v := ?_) rfl (by kernel_rfl) (by kernel_rfl) (by kernel_rfl) (fun _ _ _ h => h) (Or.inl ⟨by rfl, ?_⟩) (by assumption) ?_
      rotate_left
      · intro w hSw; (try dsimp only at hSw); go_simp; (try with_reducible rfl)
      simp only [List.getElem_toArray, List.getElem_cons_zero, List.getElem_cons_succ, Act.put, List.setIfInBounds_toArray, List.set_cons_zero, List.set_cons_succ]
      have HOX := Lib.hid (Own.new w2 34 #[.string nm, .int .i64 (1 + (r : Int)), .slice (some ⟨g1, 0, none⟩) 0 0])
      have HBX : Hid (Below w2.heap.size w2 (w2.alloc (.cells #[.string nm, .int .i64 (1 + (r : Int)), .slice (some ⟨g1, 0, none⟩) 0 0] 34))) := (Below.refl _ _).alloc (Nat.le_refl _) _
      refine wpAnyH_ready (rs := [10]) (by kernel_rfl) (by simp) ?_
      refine AllReadyH.cons (o := _) rfl (fun K hK => ?_) AllReadyH.nil
      simp only [List.getElem_toArray, List.getElem_cons_zero, List.getElem_cons_succ]
      go_simp
      refine hK.out _ _ ((HNM2.out.below' HBX.out).cell_at hnm) (fun hHeld2 => ?_)
      clear hK K
      try simp only [List.getElem_toArray, List.getElem_cons_zero, List.getElem_cons_succ, Act.put, List.setIfInBounds_toArray, List.set_cons_zero, List.set_cons_succ]
      obtain ⟨w3, hw3⟩ : ∃ w3, w2.alloc (.cells #[.string nm, .int .i64 (1 + (r : Int)), .slice (some ⟨g1, 0, none⟩) 0 0] 34) = w3 := ⟨_, rfl⟩
      obtain ⟨g3, hg3⟩ : ∃ g3, w2.heap.size = g3 := ⟨_, rfl⟩
      rw [hw3] at hHeld2 HBX HOX ⊢
      rw [hg3] at HOX ⊢
      clear hw3 hg3
      refine wpAnyH_ready (rs := [11]) (by kernel_rfl) (by simp) ?_
      refine AllReadyH.cons (o := _) rfl (fun K hK => ?_) AllReadyH.nil
      (refine step_pushAll (by rfl) (.tmp 18) (.tmp 28) 24 (by rfl) (w.heap.size + 1) 34 3 Try.underlying24 infoRegion (by rfl) (by decide) RegionR.cells RegionR.cells_len RegionR.cells_one v ps [(⟨nm, 1 + (r : Int), some ⟨g1, 0, none⟩, 0, 0, []⟩ : RegionR)] g3 0 1 1 (by rfl) (HP2.out.below' HBX.out) (by rfl) (sliceOne HOX.out) (by decide) (by omega) (by decide) (by have := HBX.out.size; have := HSZ2.out; omega) ?_; intro G cap w' hown' hb' hkp hob; have HNM4 : Hid (Own w' w.heap.size 9 #[.string ⟨#[101, 97, 115, 116]⟩, .string ⟨#[108, 97, 107, 101]⟩, .string ⟨#[110, 111, 114, 116, 104]⟩, .string ⟨#[114, 105, 100, 103, 101]⟩, .string ⟨#[115, 111, 117, 116, 104]⟩, .string ⟨#[119, 101, 115, 116]⟩]) := (HNM2.out.below' HBX.out).grow2 hb' (by omega))
      refine hK.out _ _ (HNM4.out.cell_at hnm) (fun hHeld2 => ?_)
      clear hK K
      try simp only [List.getElem_toArray, List.getElem_cons_zero, List.getElem_cons_succ, Act.put, List.setIfInBounds_toArray, List.set_cons_zero, List.set_cons_succ]
      refine wpAnyH_take (i := 12) (oi := _) (v := ?_) rfl (by kernel_rfl) (by kernel_rfl) (by kernel_rfl) (fun _ _ _ h => h) (Or.inl ⟨by rfl, ?_⟩) (by assumption) ?_
      rotate_left
      · intro w hSw; (try dsimp only at hSw); go_simp; (try with_reducible rfl)
      simp only [List.getElem_toArray, List.getElem_cons_zero, List.getElem_cons_succ, Act.put, List.setIfInBounds_toArray, List.set_cons_zero, List.set_cons_succ]
      refine wpAnyH_done (by kernel_rfl) ?_ _
      have HR : Hid (Region.Own w' (w.heap.size + 1) (.slice (some ⟨G, 0, none⟩) (ps.length + 1) cap) (L ++ [⟨nm, 1 + (r : Int), []⟩])) :=
        Region.Own.push2 (q := (⟨nm, 1 + (r : Int), some ⟨g1, 0, none⟩, 0, 0, []⟩ : RegionR)) (fun p hp => (HI2.out p hp).below' HBX.out) HAP.out HPS.out (HQ2.out.below' HBX.out) HQV.out HQP.out hown' hkp (hob.imp id (fun e => by omega))
      have HSR4 : Hid (SrcAt A n c ds bs k2 w0 w') := (HSR2.out.grow HBX.out).grow2 hb' (by have := HLT.out; omega)
      have HZ4 : Hid (w.heap.size + 1 ≤ w'.heap.size) := by have := hb'.size; have := HBX.out.size; have := HSZ2.out; rw [Hid]; omega
      have HD4 : Hid (DrawnR (k + 1) 0 (L ++ [⟨nm, 1 + (r : Int), []⟩])) := HDR.out.snoc (good_new hns hr) (by simp)
      clear hown' hb' hkp hob hHeld hHeld2
      go_wp2
      go_roundg (6 - (k + 1))
      case measure => have := Hgk.out; omega
      case rel => exact ⟨k + 1, k2, _, _, by omega, rfl, by go_num, rfl, by omega, HD4.out, HSR4.out, HR.out, HNM4.out, HZ4.out⟩
    · simp only [List.getElem_toArray, List.getElem_cons_zero, List.getElem_cons_succ]
      have HBM : Hid (Below wd.heap.size wd (wd.alloc (.cells #[] 9))) := (Below.refl _ _).alloc (Nat.le_refl _) _
      go_simp
      refine hK.out _ _ ((HNMd.out.below' HBM.out).cell_at hnm) (fun hHeld2 => ?_)
      clear hK K
      try simp only [List.getElem_toArray, List.getElem_cons_zero, List.getElem_cons_succ, Act.put, List.setIfInBounds_toArray, List.set_cons_zero, List.set_cons_succ]
      have HQe := Lib.hid (OwnsL.made wd (w.heap.size + 1) 9 1 strcells HZd.out)
      have HSe := Lib.hid (HSd.out.grow HBM.out)
      have HPe := Lib.hid (HPd.out.below' HBM.out)
      have HIe : Hid (∀ p ∈ ps, OwnsL (wd.alloc (.cells #[] 9)) (w.heap.size + 1) 9 1 strcells (.slice p.nearA p.nearN p.nearC) p.near) := fun p hp => (HId.out p hp).below' HBM.out
      have HNMe := Lib.hid (HNMd.out.below' HBM.out)
      have HZe : Hid (w.heap.size + 1 ≤ (wd.alloc (.cells #[] 9)).heap.size) := Nat.le_trans HZd.out HBM.out.size
      have HQVe : Hid (∀ b, some wd.heap.size = some b → v.ownBlock ≠ some b) := fun b hb e => by
        injection hb with h1
        have := (HPd.out.lt b e).2; omega
      have HQPe : Hid (∀ p ∈ ps, ∀ b, p.own = some b → some wd.heap.size ≠ some b) := fun p hp b hb e => by
        injection e with h1
        have := ((HId.out p hp).lt b hb).2; omega
      obtain ⟨g1, hg1⟩ : ∃ g1, wd.heap.size = g1 := ⟨_, rfl⟩
      obtain ⟨we, hwe⟩ : ∃ we, wd.alloc (.cells #[] 9) = we := ⟨_, rfl⟩
      rw [hwe] at hHeld2 HQe HSe HPe HIe HNMe HZe ⊢
      rw [hg1] at HQe HQVe HQPe ⊢
      clear hwe hg1 HBM
      refine wpAnyH_ready (rs := [6]) (by kernel_rfl) (by simp) ?_
      refine AllReadyH.cons (o := _) rfl (fun K hK => ?_) AllReadyH.nil
      simp only [List.getElem_toArray, List.getElem_cons_zero, List.getElem_cons_succ]
      go_simp
      (go_at_call 38; (with_reducible refine Calls.mono (srcPick_any A n c ds bs k1 4 w0 we HSe.out (by omega) (by omega) (by omega)) ?_); rintro e w2 ⟨r, k2, rfl, hr, hk2, hs2, ha2⟩; have HNM2 : Hid (Own w2 w.heap.size 9 #[.string ⟨#[101, 97, 115, 116]⟩, .string ⟨#[108, 97, 107, 101]⟩, .string ⟨#[110, 111, 114, 116, 104]⟩, .string ⟨#[114, 105, 100, 103, 101]⟩, .string ⟨#[115, 111, 117, 116, 104]⟩, .string ⟨#[119, 101, 115, 116]⟩]) := HNMe.out.span ha2 (by have := HLT.out; omega))
      refine hK.out _ _ (HNM2.out.cell_at hnm) (fun hHeld2 => ?_)
      clear hK K
      try simp only [List.getElem_toArray, List.getElem_cons_zero, List.getElem_cons_succ, Act.put, List.setIfInBounds_toArray, List.set_cons_zero, List.set_cons_succ]
      have HSR2 := Lib.hid hs2
      have HP2 := Lib.hid (HPe.out.span ha2 (fun b hb => .inr (by have := (HPe.out.lt b hb).1; have := HLT.out; omega)))
      have HI2 : Hid (∀ p ∈ ps, OwnsL w2 (w.heap.size + 1) 9 1 strcells (.slice p.nearA p.nearN p.nearC) p.near) := fun p hp => (HIe.out p hp).span ha2 (fun b hb => .inr (by have := ((HIe.out p hp).lt b hb).1; have := HLT.out; omega))
      have HQ2 := Lib.hid (HQe.out.span ha2 (fun b hb => .inr (by have := (HQe.out.lt b hb).1; have := HLT.out; omega)))
      have HSZ2 : Hid (w.heap.size + 1 ≤ w2.heap.size) := Nat.le_trans HZe.out ha2.size
      have HQV : Hid (∀ b, (⟨nm, 1 + (r : Int), some ⟨g1, 0, none⟩, 0, 0, []⟩ : RegionR).own = some b → v.ownBlock ≠ some b) := fun b hb => HQVe.out b (by simpa [RegionR.own, Value.ownBlock] using hb)
      have HQP : Hid (∀ p ∈ ps, ∀ b, p.own = some b → (⟨nm, 1 + (r : Int), some ⟨g1, 0, none⟩, 0, 0, []⟩ : RegionR).own ≠ some b) := fun p hp b hb e => HQPe.out p hp b hb (by simpa [RegionR.own, Value.ownBlock] using e)
      clear hs2 ha2
      refine wpAnyH_take (i := 7) (oi := _) (v := ?_) rfl (by kernel_rfl) (by kernel_rfl) (by kernel_rfl) (fun _ _ _ h => h) (Or.inl ⟨by rfl, ?_⟩) (by assumption) ?_
      rotate_left
      · intro w hSw; (try dsimp only at hSw); go_simp; (try with_reducible rfl)
      simp only [List.getElem_toArray, List.getElem_cons_zero, List.getElem_cons_succ, Act.put, List.setIfInBounds_toArray, List.set_cons_zero, List.set_cons_succ]
      rw [show IntKind.i64.wrap (1 + (r : Int)) = 1 + (r : Int) from IntWalk.i64_in _ (by omega)]
      refine wpAnyH_take (i := 9) (oi := _) (v := ?_) rfl (by kernel_rfl) (by kernel_rfl) (by kernel_rfl) (fun _ _ _ h => h) (Or.inl ⟨by rfl, ?_⟩) (by assumption) ?_
      rotate_left
      · intro w hSw; (try dsimp only at hSw); go_simp; (try with_reducible rfl)
      simp only [List.getElem_toArray, List.getElem_cons_zero, List.getElem_cons_succ, Act.put, List.setIfInBounds_toArray, List.set_cons_zero, List.set_cons_succ]
      have HOX := Lib.hid (Own.new w2 34 #[.string nm, .int .i64 (1 + (r : Int)), .slice (some ⟨g1, 0, none⟩) 0 0])
      have HBX : Hid (Below w2.heap.size w2 (w2.alloc (.cells #[.string nm, .int .i64 (1 + (r : Int)), .slice (some ⟨g1, 0, none⟩) 0 0] 34))) := (Below.refl _ _).alloc (Nat.le_refl _) _
      refine wpAnyH_ready (rs := [10]) (by kernel_rfl) (by simp) ?_
      refine AllReadyH.cons (o := _) rfl (fun K hK => ?_) AllReadyH.nil
      simp only [List.getElem_toArray, List.getElem_cons_zero, List.getElem_cons_succ]
      go_simp
      refine hK.out _ _ ((HNM2.out.below' HBX.out).cell_at hnm) (fun hHeld2 => ?_)
      clear hK K
      try simp only [List.getElem_toArray, List.getElem_cons_zero, List.getElem_cons_succ, Act.put, List.setIfInBounds_toArray, List.set_cons_zero, List.set_cons_succ]
      obtain ⟨w3, hw3⟩ : ∃ w3, w2.alloc (.cells #[.string nm, .int .i64 (1 + (r : Int)), .slice (some ⟨g1, 0, none⟩) 0 0] 34) = w3 := ⟨_, rfl⟩
      obtain ⟨g3, hg3⟩ : ∃ g3, w2.heap.size = g3 := ⟨_, rfl⟩
      rw [hw3] at hHeld2 HBX HOX ⊢
      rw [hg3] at HOX ⊢
      clear hw3 hg3
      refine wpAnyH_ready (rs := [11]) (by kernel_rfl) (by simp) ?_
      refine AllReadyH.cons (o := _) rfl (fun K hK => ?_) AllReadyH.nil
      (refine step_pushAll (by rfl) (.tmp 18) (.tmp 28) 24 (by rfl) (w.heap.size + 1) 34 3 Try.underlying24 infoRegion (by rfl) (by decide) RegionR.cells RegionR.cells_len RegionR.cells_one v ps [(⟨nm, 1 + (r : Int), some ⟨g1, 0, none⟩, 0, 0, []⟩ : RegionR)] g3 0 1 1 (by rfl) (HP2.out.below' HBX.out) (by rfl) (sliceOne HOX.out) (by decide) (by omega) (by decide) (by have := HBX.out.size; have := HSZ2.out; omega) ?_; intro G cap w' hown' hb' hkp hob; have HNM4 : Hid (Own w' w.heap.size 9 #[.string ⟨#[101, 97, 115, 116]⟩, .string ⟨#[108, 97, 107, 101]⟩, .string ⟨#[110, 111, 114, 116, 104]⟩, .string ⟨#[114, 105, 100, 103, 101]⟩, .string ⟨#[115, 111, 117, 116, 104]⟩, .string ⟨#[119, 101, 115, 116]⟩]) := (HNM2.out.below' HBX.out).grow2 hb' (by omega))
      refine hK.out _ _ (HNM4.out.cell_at hnm) (fun hHeld2 => ?_)
      clear hK K
      try simp only [List.getElem_toArray, List.getElem_cons_zero, List.getElem_cons_succ, Act.put, List.setIfInBounds_toArray, List.set_cons_zero, List.set_cons_succ]
      refine wpAnyH_take (i := 12) (oi := _) (v := ?_) rfl (by kernel_rfl) (by kernel_rfl) (by kernel_rfl) (fun _ _ _ h => h) (Or.inl ⟨by rfl, ?_⟩) (by assumption) ?_
      rotate_left
      · intro w hSw; (try dsimp only at hSw); go_simp; (try with_reducible rfl)
      simp only [List.getElem_toArray, List.getElem_cons_zero, List.getElem_cons_succ, Act.put, List.setIfInBounds_toArray, List.set_cons_zero, List.set_cons_succ]
      refine wpAnyH_done (by kernel_rfl) ?_ _
      have HR : Hid (Region.Own w' (w.heap.size + 1) (.slice (some ⟨G, 0, none⟩) (ps.length + 1) cap) (L ++ [⟨nm, 1 + (r : Int), []⟩])) :=
        Region.Own.push2 (q := (⟨nm, 1 + (r : Int), some ⟨g1, 0, none⟩, 0, 0, []⟩ : RegionR)) (fun p hp => (HI2.out p hp).below' HBX.out) HAP.out HPS.out (HQ2.out.below' HBX.out) HQV.out HQP.out hown' hkp (hob.imp id (fun e => by omega))
      have HSR4 : Hid (SrcAt A n c ds bs k2 w0 w') := (HSR2.out.grow HBX.out).grow2 hb' (by have := HLT.out; omega)
      have HZ4 : Hid (w.heap.size + 1 ≤ w'.heap.size) := by have := hb'.size; have := HBX.out.size; have := HSZ2.out; rw [Hid]; omega
      have HD4 : Hid (DrawnR (k + 1) 0 (L ++ [⟨nm, 1 + (r : Int), []⟩])) := HDR.out.snoc (good_new hns hr) (by simp)
      clear hown' hb' hkp hob hHeld hHeld2
      go_wp2
      go_roundg (6 - (k + 1))
      case measure => have := Hgk.out; omega
      case rel => exact ⟨k + 1, k2, _, _, by omega, rfl, by go_num, rfl, by omega, HD4.out, HSR4.out, HR.out, HNM4.out, HZ4.out⟩

end Go.Proofs.Ytpibiieibofggaa
