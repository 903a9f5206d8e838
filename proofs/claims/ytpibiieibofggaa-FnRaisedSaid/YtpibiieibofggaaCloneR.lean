/- Copies of lists of names and of regions. -/
import Derived.Test.YtpibiieibofggaaBase
import Derived.Test.YtpibiieibofggaaMem
import Derived.Test.YtpibiieibofggaaTRegion
import Derived.Test.YtpibiieibofggaaPush2
import Derived.Test.YtpibiieibofggaaOwn2
import Derived.Maps.AppendAt
import Derived.Laws.AppendOwnNone
namespace Go.Proofs.Ytpibiieibofggaa
open Go.RowKit

theorem addr_addR (g o n : Nat) : (⟨g, o, none⟩ : Addr).add n = ⟨g, o + n, none⟩ := by
  unfold Addr.add
  split
  · simp only [Addr.mk.injEq, true_and, and_true]; omega
  · simp
/-- append of a whole slice of elements to a slice of one's own. -/
theorem wpList_pushAll {α : Type} {P : Program} {ops : Array Oper} {rest : List Oper} {o : Oper} {a : Act} {Q : Exit → Act → World → Prop} {w : World} (hgd : o.guard = none) (s x : Operand) (t : TypeId)
    (ho : o.op = .call { callee := .builtin .append, args := #[s, x], argTypes := #[t, t] })
    (base : Nat) (e : TypeId) {z : Value} (sz : Nat) {bytes : Nat} (ht : P.underlying t = some (.slice e)) (hinfo : (P.info? e).map (fun i => (i.zero, i.size, i.bytes)) = some (some z, sz, bytes)) (hzs : z.cells.size = sz) (hsz : 0 < sz)
    (cells : α → List Value) (hcl : ∀ y, (cells y).length = sz) (hc1 : ∀ y, ∀ u ∈ cells y, u.oneCell' = true)
    (v : Value) (xs ys : List α) (b off m c : Nat) (hs : a.eval s = v) (hown : OwnsL w base e sz cells v xs) (hx : a.eval x = .slice (some ⟨b, off, none⟩) m c) (hsl : SliceOf w sz cells (some ⟨b, off, none⟩) m ys) (hm : 0 < m)
    (hlen : xs.length + m ≤ 1048577) (hby : bytes ≤ 1024) (hbase : base ≤ w.heap.size)
    (h : ∀ v' w', OwnsL w' base e sz cells v' (xs ++ ys) → Below base w w' → wpList P ops Q rest (a.put o.dst v') w') : wpList P ops Q (o :: rest) a w := by
  obtain ⟨i, hi, hz, hsize, hbytes⟩ := info_parts hinfo
  have hl := hsl.len
  obtain ⟨b', off', hA, hlt, hc⟩ := hsl.2.2 hm
  injection hA with hA
  injection hA with e1 e2 _
  subst e1 e2
  refine wpList_append_own_at (w := w) hgd s x t ho base e i z sz bytes ht hi hz hsize hbytes hzs hsz v xs.length (xs.flatMap cells) hs hown ⟨b, off, none⟩ m c (ys.flatMap cells) hx (by rw [flat_len hcl, hl]) ?_ ?_ (by unfold maxLen; omega) ?_ hbase ?_
  · intro j u hu
    have hj : j < ys.length * sz := by rw [← flat_len hcl]; exact (List.getElem?_eq_some_iff.1 hu).1
    obtain ⟨q, r, hr, hq, rfl⟩ : ∃ q r, r < sz ∧ q < ys.length ∧ q * sz + r = j := ⟨j / sz, j % sz, Nat.mod_lt _ hsz, Nat.div_lt_of_lt_mul (by rw [Nat.mul_comm]; exact hj), by rw [Nat.mul_comm]; exact Nat.div_add_mod j sz⟩
    obtain ⟨y, hy⟩ : ∃ y, ys[q]? = some y := ⟨_, List.getElem?_eq_getElem hq⟩
    have hr2 : r < (cells y).length := by rw [hcl]; exact hr
    have h2 := flat_get hcl ys q r y _ hy (List.getElem?_eq_getElem hr2)
    rw [h2] at hu
    injection hu with hu
    subst hu
    have := hc q y r _ hy (List.getElem?_eq_getElem hr2)
    rw [Nat.add_assoc] at this
    rw [addr_addR]; exact this
  · intro u hu
    obtain ⟨y, _, hy⟩ := List.mem_flatMap.1 hu
    exact hc1 y u hy
  · have : (xs.length + m) * bytes ≤ 1048577 * 1024 := Nat.mul_le_mul (by omega) hby
    omega
  · intro v' w' h1 h2 _ _
    have hrow := World.ownsRow.lt hown
    exact h v' w' (by unfold OwnsL; rw [List.flatMap_append, List.length_append, hl]; exact h1) ((Below.refl base w).grown h2 hbase (fun k hk => (hrow k hk).1))
set_option maxHeartbeats 1000000 in
theorem cloneS_any (A : Option Addr) (n c : Nat) (xs : List ByteArray) (w : World) (hx : SliceOf w 1 strcells A n xs) (hn : n ≤ 1048576) :
    Calls Try.prog 55 #[.slice A n c] w (RetL 9 1 strcells xs w) := by
  have hB : Below w.heap.size w (w.alloc (.cells #[] 9)) := (Below.refl _ _).alloc (Nat.le_refl _) _
  have hO := OwnsL.made w w.heap.size 9 1 strcells (Nat.le_refl _)
  have q22 : ∀ (w : World) (a : Option Addr) (n c n' c' : Nat), (binOp .eql 32 (.slice a n c) (.slice none n' c')).run Try.prog w = .ok (.bool a.isNone) w := fun w a n c n' c' => Lib.run_eql_slice_nil w _ _ a n c n' c' Try.underlying32
  have HO := Lib.hid hO
  have HB := Lib.hid hB
  have HL := Lib.hid hx.len
  by_cases h0 : n = 0
  · subst h0
    have HE : Hid (xs = []) := List.eq_nil_of_length_eq_zero HL.out
    cases A with
    | none =>
      clear hx hB hO
      go_enter Try.func55, Try.ntmps55
      go_wp2
      go_ret
      exact RetP.mk (by rw [HE.out]; exact OwnsL.nil_ _ _ _ _ _) (Below.refl _ _)
    | some ad =>
      obtain ⟨i, hi, hz, hsize, hbytes⟩ := info_parts infoStr
      have HI := Lib.hid hi
      clear hx hB hO hi hz hsize hbytes
      go_enter Try.func55, Try.ntmps55
      go_wp2_with (at_builtin; refine wpList_append_own_none (by rfl) _ _ 32 (by rfl) w.heap.size 9 i 1 Try.underlying32 HI.out _ 0 [] (by rfl) HO.out (by rfl) ?_)
      go_ret
      exact RetP.mk (by rw [HE.out]; exact HO.out) HB.out
  · have hp : 0 < n := by omega
    obtain ⟨b, o, hA, _, _⟩ := hx.2.2 hp
    subst hA
    have HX := Lib.hid (hx.below hB)
    have HP := Lib.hid hp
    clear hx hB hO h0 hp
    go_enter Try.func55, Try.ntmps55
    go_wp2_with (at_builtin; refine wpList_pushAll (by rfl) _ _ 32 (by rfl) w.heap.size 9 1 Try.underlying32 infoStr (by rfl) (by decide) strcells strcells_len strcells_one _ [] xs b o n c (by rfl) HO.out (by rfl) HX.out HP.out (by simp; omega) (by decide) HB.out.size ?_)
    intro v' w' hown hb
    have HW := Lib.hid hown
    have HBW := Lib.hid (HB.out.trans hb)
    clear hown hb
    go_wp2
    go_ret
    exact RetP.mk (by simpa using HW.out) HBW.out
set_option maxHeartbeats 1000000 in
theorem cloneG_any (A : Option Addr) (n c : Nat) (ps : List RegionR) (w : World) (hx : SliceOf w 3 RegionR.cells A n ps) (hn : n ≤ 1048576) :
    Calls Try.prog 54 #[.slice A n c] w (RetL 34 3 RegionR.cells ps w) := by
  have hB : Below w.heap.size w (w.alloc (.cells #[] 34)) := (Below.refl _ _).alloc (Nat.le_refl _) _
  have hO := OwnsL.made w w.heap.size 34 3 RegionR.cells (Nat.le_refl _)
  have q22 : ∀ (w : World) (a : Option Addr) (n c n' c' : Nat), (binOp .eql 24 (.slice a n c) (.slice none n' c')).run Try.prog w = .ok (.bool a.isNone) w := fun w a n c n' c' => Lib.run_eql_slice_nil w _ _ a n c n' c' Try.underlying24
  have HO := Lib.hid hO
  have HB := Lib.hid hB
  have HL := Lib.hid hx.len
  by_cases h0 : n = 0
  · subst h0
    have HE : Hid (ps = []) := List.eq_nil_of_length_eq_zero HL.out
    cases A with
    | none =>
      clear hx hB hO
      go_enter Try.func54, Try.ntmps54
      go_wp2
      go_ret
      exact RetP.mk (by rw [HE.out]; exact OwnsL.nil_ _ _ _ _ _) (Below.refl _ _)
    | some ad =>
      obtain ⟨i, hi, hz, hsize, hbytes⟩ := info_parts infoRegion
      have HI := Lib.hid hi
      clear hx hB hO hi hz hsize hbytes
      go_enter Try.func54, Try.ntmps54
      go_wp2_with (at_builtin; refine wpList_append_own_none (by rfl) _ _ 24 (by rfl) w.heap.size 34 i 3 Try.underlying24 HI.out _ 0 [] (by rfl) HO.out (by rfl) ?_)
      go_ret
      exact RetP.mk (by rw [HE.out]; exact HO.out) HB.out
  · have hp : 0 < n := by omega
    obtain ⟨b, o, hA, _, _⟩ := hx.2.2 hp
    subst hA
    have HX := Lib.hid (hx.below hB)
    have HP := Lib.hid hp
    clear hx hB hO h0 hp
    go_enter Try.func54, Try.ntmps54
    go_wp2_with (at_builtin; refine wpList_pushAll (by rfl) _ _ 24 (by rfl) w.heap.size 34 3 Try.underlying24 infoRegion (by rfl) (by decide) RegionR.cells RegionR.cells_len RegionR.cells_one _ [] ps b o n c (by rfl) HO.out (by rfl) HX.out HP.out (by simp; omega) (by decide) HB.out.size ?_)
    intro v' w' hown hb
    have HW := Lib.hid hown
    have HBW := Lib.hid (HB.out.trans hb)
    clear hown hb
    go_wp2
    go_ret
    exact RetP.mk (by simpa using HW.out) HBW.out

end Go.Proofs.Ytpibiieibofggaa
