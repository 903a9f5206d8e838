/- (Own2: Arr2 without the grid) An owned slice of int64 written at a place; append of a whole slice; a list overwritten place by place. -/
import Derived.Test.YtllchmacipacnaaGreatDoorBase
import Derived.Test.YtllchmacipacnaaGreatDoorMem
import Derived.Test.YtllchmacipacnaaGreatDoorTInt64
import Derived.Test.YtllchmacipacnaaGreatDoorPush2
import Derived.Maps.AppendAt
namespace Go.Proofs.YtllchmacipacnaaGreatDoor
open Go.RowKit

theorem flat_i64 : ∀ (xs : List Int), xs.flatMap i64cells = xs.map (Value.int .i64)
  | [] => rfl
  | x :: xs => by rw [List.flatMap_cons, flat_i64 xs]; rfl
theorem OwnsL.setAt {w : World} {base g n cap k : Nat} {T : TypeId} {xs : List Int} (h : OwnsL w base T 1 i64cells (.slice (some ⟨g, 0, none⟩) n cap) xs) (x : Int) :
    OwnsL (w.setCell ⟨g, k, none⟩ (.int .i64 x)) base T 1 i64cells (.slice (some ⟨g, 0, none⟩) n cap) (xs.set k x) := by
  rcases h.2 with ⟨h2, _⟩ | ⟨g', cap', cur, hv, hg, hh, hc, hm, hsz, htk⟩
  · cases h2
  · injection hv with e1 e2 e3
    injection e1 with e1
    injection e1 with e1 _ _
    subst e1
    have hp := Own.put hh k (.int .i64 x)
    refine ⟨by rw [flat_i64]; simp, .inr ⟨g, cap', cur.setIfInBounds k (.int .i64 x), ?_, hg, hp, by simpa using hc, hm, by simpa using hsz, ?_⟩⟩
    · rw [List.length_set, e2, e3]
    · rw [flat_i64] at htk ⊢
      rw [List.map_set, ← htk, ← List.take_set]
      simp
theorem OwnsL.frozen {α : Type} {w : World} {base g n cap sz : Nat} {T : TypeId} {cells : α → List Value} {xs : List α} (h : OwnsL w base T sz cells (.slice (some ⟨g, 0, none⟩) n cap) xs) (i : Nat) : w.frozen? ⟨g, i, none⟩ = false := by
  rcases h.2 with ⟨h2, _⟩ | ⟨g', cap', cur, hv, hg, hh, _⟩
  · cases h2
  · injection hv with e1 e2 e3
    injection e1 with e1
    injection e1 with e1 _ _
    subst e1
    exact Own.frozen hh i
theorem OwnsL.cellAt {w : World} {base g n cap : Nat} {T : TypeId} {xs : List Int} (h : OwnsL w base T 1 i64cells (.slice (some ⟨g, 0, none⟩) n cap) xs) {k : Nat} {x : Int} (hx : xs[k]? = some x) : w.cell? ⟨g, k, none⟩ = some (.int .i64 x) := by
  have hs := h.sl i64cells_len
  have hk : k < n := by rw [← hs.len]; exact (List.getElem?_eq_some_iff.1 hx).1
  obtain ⟨b, o, y, hA, _, hy, hc⟩ := ints_at hs hk
  injection hA with hA
  injection hA with e1 e2 _
  subst e1 e2
  rw [hx] at hy
  injection hy with hy
  rw [hy, ← hc]
  simp
/-- An owned slice that is not empty has a block. -/
theorem OwnsL.block {α : Type} {w : World} {base sz : Nat} {T : TypeId} {cells : α → List Value} {v : Value} {xs : List α} (h : OwnsL w base T sz cells v xs) (hne : xs ≠ []) : ∃ g cap, v = .slice (some ⟨g, 0, none⟩) xs.length cap ∧ base ≤ g ∧ g < w.heap.size := by
  have hlt := h.lt
  rcases h.2 with ⟨_, h2⟩ | ⟨g', cap', cur, hv, hg, hh, _⟩
  · exact absurd (List.eq_nil_of_length_eq_zero h2) hne
  · exact ⟨g', cap', hv, hg, (hlt g' (by rw [hv]; rfl)).2⟩
/-- append of a whole slice of int64 to a slice of one's own. -/
theorem wpList_pushL {P : Program} {ops : Array Oper} {rest : List Oper} {o : Oper} {a : Act} {Q : Exit → Act → World → Prop} {w : World} (hgd : o.guard = none) (s x : Operand) (t : TypeId)
    (ho : o.op = .call { callee := .builtin .append, args := #[s, x], argTypes := #[t, t] })
    (base : Nat) (e : TypeId) {z : Value} {bytes : Nat} (ht : P.underlying t = some (.slice e)) (hinfo : (P.info? e).map (fun i => (i.zero, i.size, i.bytes)) = some (some z, 1, bytes)) (hzs : z.cells.size = 1)
    (v : Value) (xs ys : List Int) (b off m c : Nat) (hs : a.eval s = v) (hown : OwnsL w base e 1 i64cells v xs) (hx : a.eval x = .slice (some ⟨b, off, none⟩) m c) (hsl : SliceOf w 1 i64cells (some ⟨b, off, none⟩) m ys)
    (hlen : xs.length + m ≤ 1048577) (hby : bytes ≤ 1024) (hbase : base ≤ w.heap.size)
    (h : ∀ v' w', OwnsL w' base e 1 i64cells v' (xs ++ ys) → Below base w w' → (∀ b, b < w.heap.size → some b ≠ v.ownBlock → w'.heap[b]? = w.heap[b]?) → (v'.ownBlock = v.ownBlock ∨ v'.ownBlock = some w.heap.size) → wpList P ops Q rest (a.put o.dst v') w') : wpList P ops Q (o :: rest) a w := by
  obtain ⟨i, hi, hz, hsize, hbytes⟩ := info_parts hinfo
  have hl := hsl.len
  refine wpList_append_own_at (w := w) hgd s x t ho base e i z 1 bytes ht hi hz hsize hbytes hzs (by omega) v xs.length (xs.flatMap i64cells) hs hown ⟨b, off, none⟩ m c (ys.flatMap i64cells) hx (by rw [flat_i64]; simp [hl]) ?_ ?_ ?_ ?_ hbase ?_
  · intro j u hu
    rw [flat_i64, List.getElem?_map] at hu
    cases hy : ys[j]? with
    | none => rw [hy] at hu; cases hu
    | some y =>
      rw [hy] at hu
      injection hu with hu
      have hk : j < m := by rw [← hl]; exact (List.getElem?_eq_some_iff.1 hy).1
      obtain ⟨b', o', y', hA, _, hy', hc⟩ := ints_at hsl hk
      injection hA with hA
      injection hA with e1 e2 _
      subst e1 e2
      rw [hy] at hy'
      injection hy' with hy'
      rw [← hu, hy', ← hc]
      congr 1
      unfold Addr.add
      split
      all_goals first | rfl | (simp; done) | (simp; omega)
  · intro u hu
    rw [flat_i64] at hu
    obtain ⟨y, _, rfl⟩ := List.mem_map.1 hu
    rfl
  · simp [maxLen]; omega
  · have : (xs.length + m) * bytes ≤ 1048577 * 1024 := Nat.mul_le_mul (by omega) hby
    omega
  · intro v' w' h1 h2 _ h4
    have hrow := World.ownsRow.lt hown
    refine h v' w' (by unfold OwnsL; rw [List.flatMap_append, List.length_append, hl]; exact h1) ((Below.refl base w).grown h2 hbase (fun k hk => (hrow k hk).1)) (fun b hb hne => h2.block b hb hne) h4
/-- The first c places overwritten. -/
def mixL (f : Int → Int → Int) (a b : List Int) (c : Nat) : List Int := (List.zipWith f a b).take c ++ a.drop c
section
variable {f : Int → Int → Int} {a b : List Int}
theorem mixL_zero : mixL f a b 0 = a := by simp [mixL]
theorem mixL_len (h : a.length = b.length) (c : Nat) (hc : c ≤ a.length) : (mixL f a b c).length = a.length := by
  unfold mixL; rw [List.length_append, List.length_take, List.length_zipWith, List.length_drop, ← h, Nat.min_self]; omega
theorem mixL_all (h : a.length = b.length) : mixL f a b a.length = List.zipWith f a b := by
  unfold mixL; rw [List.drop_length, List.append_nil, List.take_of_length_le (by rw [List.length_zipWith, ← h, Nat.min_self]; exact Nat.le_refl _)]
theorem mixL_at (h : a.length = b.length) {c : Nat} {x : Int} (hx : a[c]? = some x) : (mixL f a b c)[c]? = some x := by
  have hc : c < a.length := (List.getElem?_eq_some_iff.1 hx).1
  have hl : ((List.zipWith f a b).take c).length = c := by rw [List.length_take, List.length_zipWith, ← h, Nat.min_self]; omega
  unfold mixL
  rw [List.getElem?_append_right (by rw [hl]; exact Nat.le_refl _), hl, Nat.sub_self, List.getElem?_drop, Nat.add_zero]
  exact hx
theorem mixL_step (h : a.length = b.length) {c : Nat} {x y : Int} (hx : a[c]? = some x) (hy : b[c]? = some y) : (mixL f a b c).set c (f x y) = mixL f a b (c + 1) := by
  have hc : c < a.length := (List.getElem?_eq_some_iff.1 hx).1
  have hl : ((List.zipWith f a b).take c).length = c := by rw [List.length_take, List.length_zipWith, ← h, Nat.min_self]; omega
  have hz : (List.zipWith f a b)[c]? = some (f x y) := by rw [List.getElem?_zipWith, hx, hy]
  have hd : a.drop c = x :: a.drop (c + 1) := by
    rw [List.drop_eq_getElem_cons hc]; congr 1; exact (List.getElem?_eq_some_iff.1 hx).2
  unfold mixL
  rw [List.set_append_right _ _ (Nat.le_of_eq hl), hl, Nat.sub_self, hd, List.set_cons_zero, List.take_succ_eq_append_getElem (List.getElem?_eq_some_iff.1 hz).1, (List.getElem?_eq_some_iff.1 hz).2]
  simp
theorem mixL_same (h : a.length = b.length) {c : Nat} {x y : Int} (hx : a[c]? = some x) (hy : b[c]? = some y) (he : f x y = x) : mixL f a b c = mixL f a b (c + 1) := by
  rw [← mixL_step h hx hy, he]
  have := mixL_at (f := f) h hx
  apply List.ext_getElem?
  intro i
  rw [List.getElem?_set]
  by_cases e : c = i
  · subst e
    rw [if_pos rfl, if_pos (List.getElem?_eq_some_iff.1 this).1, this]
  · rw [if_neg e]
end
set_option maxHeartbeats 1000000 in
theorem l00Own_any (b o n c : Nat) (xs : List Int) (w : World) (hx : SliceOf w 1 i64cells (some ⟨b, o, none⟩) n xs) (hn : n ≤ 1048576) :
    Calls Tryz.prog 57 #[.slice (some ⟨b, o, none⟩) n c] w (RetL 2 1 i64cells xs w) := by
  have hB : Below w.heap.size w (w.alloc (.cells #[] 2)) := (Below.refl _ _).alloc (Nat.le_refl _) _
  have hO := OwnsL.made w w.heap.size 2 1 i64cells (Nat.le_refl _)
  have HX := Lib.hid (hx.below hB)
  have HO := Lib.hid hO
  have HB := Lib.hid hB
  clear hx hB hO
  go_enter Tryz.func57, Tryz.ntmps57
  go_wp2_with (at_builtin; refine wpList_pushL (by rfl) (.tmp 3) (.tmp 4) 24 (by rfl) w.heap.size 2 Tryz.underlying24 infoI64 (by rfl) _ [] xs b o n c (by rfl) HO.out (by rfl) HX.out (by simp; omega) (by decide) HB.out.size ?_)
  intro v' w' hown hb _ _
  have HW := Lib.hid hown
  have HBW := Lib.hid (HB.out.trans hb)
  clear hown hb
  go_wp2
  go_ret
  exact RetP.mk (by simpa using HW.out) HBW.out

end Go.Proofs.YtllchmacipacnaaGreatDoor
