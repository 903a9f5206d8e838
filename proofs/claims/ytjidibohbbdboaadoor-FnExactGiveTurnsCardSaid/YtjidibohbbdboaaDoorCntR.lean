/- The reference's count of turns: run. -/
import Derived.Test.YtjidibohbbdboaaDoorCntK
import Derived.Test.YtjidibohbbdboaaDoorTurnQ
import Derived.Test.YtjidibohbbdboaaDoorSeek
import Derived.Test.YtjidibohbbdboaaDoorCopyN
import Derived.Maps.AppendAt
namespace Go.Proofs.YtjidibohbbdboaaDoor
open Go.RowKit

/-- At most so many rows are found dead below a turn. -/
def capR : Nat → Nat
  | 0 => 0
  | f + 1 => 8 * capR f + 1
theorem runS_in {n m g : Nat} {ab : List Row} (hn : n ≤ 8) : ∀ (f : Nat) (given : List Int) (st : CSt), st.count < 20000 → (runS n m g ab f given st).count ≤ 20000 ∧ (runS n m g ab f given st).dead.length ≤ st.dead.length + capR f
  | 0, given, st, h => ⟨by show st.count + 1 ≤ 20000; omega, by show st.dead.length ≤ _; omega⟩
  | f + 1, given, st, h => by
    have hl : ∀ k, (loopS n m g ab f given st k).count ≤ 20000 ∧ (loopS n m g ab f given st k).dead.length ≤ st.dead.length + k * capR f := by
      intro k
      induction k with
      | zero => exact ⟨by show st.count ≤ _; omega, by show st.dead.length ≤ _; omega⟩
      | succ k ih =>
        rw [loopS_succ, Nat.succ_mul]
        split
        · rename_i hc
          have := runS_in (m := m) (g := g) (ab := ab) hn f (given ++ [(k : Int)]) (loopS n m g ab f given st k) hc.1
          exact ⟨this.1, by omega⟩
        · exact ⟨ih.1, by omega⟩
    have h1 := hl n
    have h2 : n * capR f ≤ 8 * capR f := Nat.mul_le_mul_right _ hn
    have h3 : capR (f + 1) = 8 * capR f + 1 := rfl
    rw [runS_succ, h3]
    split
    · exact ⟨by omega, by omega⟩
    · split
      · exact ⟨by omega, by omega⟩
      · split
        · exact ⟨h1.1, by simp only [List.length_append, List.length_singleton]; omega⟩
        · exact ⟨h1.1, by omega⟩
theorem loopS_in {n m g : Nat} {ab : List Row} (hn : n ≤ 8) {f : Nat} {given : List Int} {st : CSt} (h : st.count < 20000) : ∀ k, (loopS n m g ab f given st k).count ≤ 20000 ∧ (loopS n m g ab f given st k).dead.length ≤ st.dead.length + k * capR f := by
  intro k
  induction k with
  | zero => exact ⟨by show st.count ≤ _; omega, by show st.dead.length ≤ _; omega⟩
  | succ k ih =>
    rw [loopS_succ, Nat.succ_mul]
    split
    · rename_i hc
      have := runS_in (n := n) (m := m) (g := g) (ab := ab) hn f (given ++ [(k : Int)]) (loopS n m g ab f given st k) hc.1
      exact ⟨this.1, by omega⟩
    · exact ⟨ih.1, by omega⟩
theorem loopS_stop {n m g : Nat} {ab : List Row} {f : Nat} {given : List Int} {st : CSt} {k : Nat} (h : 20000 ≤ (loopS n m g ab f given st k).count) : ∀ d, loopS n m g ab f given st (k + d) = loopS n m g ab f given st k
  | 0 => rfl
  | d + 1 => by rw [← Nat.add_assoc, loopS_succ, loopS_stop h d, if_neg (by omega)]
theorem capR_mono : ∀ (a d : Nat), capR a ≤ capR (a + d)
  | _, 0 => Nat.le_refl _
  | a, d + 1 => by
    have := capR_mono a d
    show capR a ≤ 8 * capR (a + d) + 1
    omega
theorem capR_le {f : Nat} (h : f ≤ 12) : capR f ≤ 9817068105 := by
  have h1 := capR_mono f (12 - f)
  rw [show f + (12 - f) = 12 by omega] at h1
  have h2 : capR 12 = 9817068105 := by decide
  omega
/-- append of one element to a slice of one's own that may be long. -/
theorem wpList_push3 {α : Type} {P : Program} {ops : Array Oper} {rest : List Oper} {o : Oper} {a : Act} {Q : Exit → Act → World → Prop} {w : World} (hgd : o.guard = none) (s x : Operand) (t : TypeId)
    (ho : o.op = .call { callee := .builtin .append, args := #[s, x], argTypes := #[t, t] })
    (base : Nat) (e : TypeId) {z : Value} (sz : Nat) {bytes : Nat} (ht : P.underlying t = some (.slice e)) (hinfo : (P.info? e).map (fun i => (i.zero, i.size, i.bytes)) = some (some z, sz, bytes)) (hzs : z.cells.size = sz) (hsz : 0 < sz)
    (cells : α → List Value) (hcl : ∀ y, (cells y).length = sz) (hc1 : ∀ y, ∀ u ∈ cells y, u.oneCell' = true) (cs : Array Value)
    (v : Value) (xs : List α) (y : α) (hcs : cs.toList = cells y) (hs : a.eval s = v) (hown : OwnsL w base e sz cells v xs) (hx : a.eval x = .slice (some ⟨w.heap.size, 0, none⟩) 1 1)
    (hlen : xs.length ≤ 10000000000) (hby : bytes ≤ 1024) (hbase : base ≤ w.heap.size)
    (h : ∀ v' w', OwnsL w' base e sz cells v' (xs ++ [y]) → Below base w w' → (∀ b, b < w.heap.size → some b ≠ v.ownBlock → w'.heap[b]? = w.heap[b]?) → (v'.ownBlock = v.ownBlock ∨ v'.ownBlock = some (w.heap.size + 1)) → wpList P ops Q rest (a.put o.dst v') w') : wpList P ops Q (o :: rest) a (w.alloc (.cells cs e)) := by
  obtain ⟨i, hi, hz, hsize, hbytes⟩ := info_parts hinfo
  refine wpList_append_own_at (w := w.alloc (.cells cs e)) hgd s x t ho base e i z sz bytes ht hi hz hsize hbytes hzs hsz v xs.length (xs.flatMap cells) hs (World.ownsRow.alloc hown _) ⟨w.heap.size, 0, none⟩ 1 1 (cells y) hx (by rw [hcl]; omega) ?_ (hc1 y) ?_ ?_ ?_ ?_
  · intro j u hu
    rw [← hcs] at hu
    rw [addr_add0, World.cell?_alloc_new]
    simpa using hu
  · simp [maxLen]; omega
  · have : (xs.length + 1) * bytes ≤ 10000000001 * 1024 := Nat.mul_le_mul (by omega) hby
    omega
  · simp; omega
  · intro v' w' h1 h2 _ h4
    have hrow := World.ownsRow.lt hown
    refine h v' w' (by unfold OwnsL; simpa using h1) (((Below.refl base w).alloc hbase _).grown h2 (by simp; omega) (fun k hk => (hrow k hk).1)) (fun b hb hne => ?_) (by simpa using h4)
    rw [h2.block b (by simp; omega) hne]
    exact Below.heap_alloc w _ b hb
theorem cntS_cells {n m g : Nat} {A : Option Addr} {na ca : Nat} {T : TypeId} {w0 w : World} {bs : Nat} {rt : List Int} {st : CntV} {vr vf : Value} (h : SeekAt (cntC n m g A na ca) CntV.first T w0 bs rt st vr vf w) :
    w.cell? ⟨bs, 0, none⟩ = some (.int .i64 n) ∧ w.cell? ⟨bs, 1, none⟩ = some (.int .i64 m) ∧ w.cell? ⟨bs, 2, none⟩ = some (.int .i64 g) ∧ w.cell? ⟨bs, 3, none⟩ = some (.slice A na ca) ∧ w.cell? ⟨bs, 4, none⟩ = some vr ∧ w.cell? ⟨bs, 5, none⟩ = some vf ∧ w.cell? ⟨bs, 6, none⟩ = some (.int .i64 st.st.count) ∧ w.cell? ⟨bs, 7, none⟩ = some st.vd ∧ (∀ i, w.frozen? ⟨bs, i, none⟩ = false) ∧ bs < w.heap.size :=
  ⟨h.box.cell 0, h.box.cell 1, h.box.cell 2, h.box.cell 3, h.box.cell 4, h.box.cell 5, h.box.cell 6, h.box.cell 7, h.box.frozen, h.box.lt⟩
def CntOut (n m g : Nat) (A : Option Addr) (na ca : Nat) (w0 : World) (bs : Nat) (rt : List Int) (qs : List RowR) (r : CSt) (e : Ending) (w' : World) : Prop := ∃ vr' vf' vd' ps', e = .returned (.tuple #[]) ∧ SeekAt (cntC n m g A na ca) CntV.first 37 w0 bs rt ⟨r, vd'⟩ vr' vf' w' ∧ DeadAt w0 bs vr' vf' vd' ps' qs w' ∧ ps'.map RowR.list = r.dead
structure CntIn (n m g : Nat) (A : Option Addr) (na ca : Nat) (w0 : World) (bs : Nat) (rt : List Int) (qs : List RowR) (st : CSt) (vr vf vd : Value) (ps : List RowR) (w : World) : Prop where
  s : SeekAt (cntC n m g A na ca) CntV.first 37 w0 bs rt ⟨st, vd⟩ vr vf w
  d : DeadAt w0 bs vr vf vd ps qs w
  l : ps.map RowR.list = st.dead
theorem CntIn.end_ {n m g : Nat} {A : Option Addr} {na ca : Nat} {w0 : World} {bs : Nat} {rt : List Int} {qs : List RowR} {st : CSt} {vr vf vd : Value} {ps : List RowR} {w : World} (h : CntIn n m g A na ca w0 bs rt qs st vr vf vd ps w) : CntOut n m g A na ca w0 bs rt qs st (.returned (.tuple #[])) w := ⟨_, _, _, _, rfl, h.s, h.d, h.l⟩
theorem CntIn.grow {n m g : Nat} {A : Option Addr} {na ca : Nat} {w0 : World} {bs : Nat} {rt : List Int} {qs : List RowR} {st : CSt} {vr vf vd : Value} {ps : List RowR} {w w' : World} (h : CntIn n m g A na ca w0 bs rt qs st vr vf vd ps w) (hb : Below w.heap.size w w') : CntIn n m g A na ca w0 bs rt qs st vr vf vd ps w' := ⟨h.s.grow hb, h.d.grow hb, h.l⟩
theorem keyC_eq (g : Nat) {rt : List Int} {rl lo : Nat} (h : rt.length = rl) (hlo : recLo g rl = lo) : keyC g rt = (rl : Int) :: rt.drop lo := by unfold keyC keyL; rw [h, hlo]
theorem key_end {g rl lo : Nat} {rt : List Int} {W w : World} {v : Value} (hk : keyC g rt = (rl : Int) :: rt.drop lo) (hl : rt.length = rl) (ho : OwnsL w W.heap.size 2 1 i64cells v ([(rl : Int)] ++ rt.drop lo)) (hb : Below W.heap.size W w) : ∃ (X : Option Addr) (kc : Nat), v = .slice X (1 + (rl - lo)) kc ∧ OwnsL w W.heap.size 2 1 i64cells (.slice X (1 + (rl - lo)) kc) (keyC g rt) ∧ Below W.heap.size W w := by
  obtain ⟨G, cap, rfl, _, _⟩ := ho.block (by simp)
  have hn : ([(rl : Int)] ++ rt.drop lo).length = 1 + (rl - lo) := by rw [List.length_append, List.length_drop, hl]; rfl
  rw [hn] at ho ⊢
  exact ⟨_, _, rfl, by rw [hk]; exact ho, hb⟩
theorem runS_known {n m g : Nat} {ab : List Row} {f : Nat} {rt : List Int} {st : CSt} (h : knownB st.dead (keyC g rt) = true) : runS n m g ab (f + 1) rt st = st := by rw [runS_succ, if_pos h]
theorem runS_wide {n m g : Nat} {ab : List Row} {f : Nat} {rt : List Int} {st : CSt} (h : knownB st.dead (keyC g rt) = false) (hw : n < min g m) : runS n m g ab (f + 1) rt st = st := by rw [runS_succ, if_neg (by rw [h]; simp), if_pos hw]
theorem runS_dead {n m g : Nat} {ab : List Row} {f : Nat} {rt : List Int} {st s : CSt} (h : knownB st.dead (keyC g rt) = false) (hw : ¬ n < min g m) (hl : loopS n m g ab f rt st n = s) (hc : s.count = st.count) : runS n m g ab (f + 1) rt st = { s with dead := s.dead ++ [keyC g rt] } := by rw [runS_succ, if_neg (by rw [h]; simp), if_neg hw, hl, if_pos hc]
theorem runS_more {n m g : Nat} {ab : List Row} {f : Nat} {rt : List Int} {st s : CSt} (h : knownB st.dead (keyC g rt) = false) (hw : ¬ n < min g m) (hl : loopS n m g ab f rt st n = s) (hc : ¬ s.count = st.count) : runS n m g ab (f + 1) rt st = s := by rw [runS_succ, if_neg (by rw [h]; simp), if_neg hw, hl, if_neg hc]
theorem loopS_no {n m g : Nat} {ab : List Row} {f : Nat} {rt : List Int} {st s : CSt} {k : Nat} (h : loopS n m g ab f rt st k = s) (hm : mayB g ab rt k = false) : loopS n m g ab f rt st (k + 1) = s := by rw [loopS_succ, h, if_neg (by rw [hm]; simp)]
theorem loopS_on {n m g : Nat} {ab : List Row} {f : Nat} {rt : List Int} {st s : CSt} {k : Nat} (h : loopS n m g ab f rt st k = s) (hc : s.count < 20000) (hm : mayB g ab rt k = true) : loopS n m g ab f rt st (k + 1) = runS n m g ab f (rt ++ [(k : Int)]) s := by rw [loopS_succ, h, if_pos ⟨hc, hm⟩]
set_option maxRecDepth 100000 in
set_option maxHeartbeats 2000000 in
theorem cntRun_any (n m g : Nat) (A : Option Addr) (na ca : Nat) (ab : List Row) (w0 : World) (bs : Nat) (hx : Row.Sl w0 A na ab) (hok : TurnsOk n m g ab) (hna : na = n) :
    ∀ (f : Nat) (rt : List Int) (st : CSt) (vr vf vd : Value) (ps qs : List RowR) (w : World), CntIn n m g A na ca w0 bs rt qs st vr vf vd ps w → rt.length + f = m → st.count < 20000 → st.dead.length + capR f ≤ 10000000000 →
    Calls Tryd.prog 18 #[.pointer (some ⟨bs, 0, none⟩)] w (CntOut n m g A na ca w0 bs rt qs (runS n m g ab f rt st)) := by
  have HX := Lib.hid hx
  obtain ⟨hn1, hn8, hm12, hg1, hg12, hlen, hrow⟩ := hok
  subst hna
  clear hx hlen hrow
  intro f
  induction f with
  | zero =>
    intro rt st vr vf vd ps qs w hI hrm hct hcap
    obtain ⟨B, c, rfl, hc1, hc2, hB⟩ := hI.s.route.look
    have hrm' : rt.length = m := by omega
    have HRM := Lib.hid hrm'
    rw [hrm'] at hI hc1
    have HI := Lib.hid hI
    obtain ⟨y0, y1, y2, y3, y4, y5, y6, y7, dd, lb⟩ := cntS_cells hI.s
    have hq : ((m : Int) == (m : Int)) = true := by simp
    clear hrm hrm' hI hcap
    by_cases h0 : st.count = 0
    · have hz : ((st.count : Int) == 0) = true := by simp [h0]
      have HG : Hid (runS na m g ab 0 rt st = ⟨rt, st.count + 1, st.dead⟩) := by
        show (⟨if st.count = 0 then rt else st.first, st.count + 1, st.dead⟩ : CSt) = _
        rw [if_pos h0]
      clear h0
      go_enter Tryd.func18, Tryd.ntmps18
      have hsub := fun (g : Sub w) b o (h : b < w.heap.size) => g.cell b o h
      go_wp2_with fail
      refine wp_region_sub (by kernel_rfl) (by kernel_rfl) ?_
      repeat (go_big_quiet_step (fail))
      refine wpQuiet_nil ?_
      intro wg hg
      have HI1 := Lib.hid (HI.out.grow hg)
      clear y0 y1 y2 y3 y4 y5 y6 y7 dd lb hsub hg HI
      obtain ⟨y0, y1, y2, y3, y4, y5, y6, y7, dd, lb⟩ := cntS_cells HI1.out.s
      go_wp2_with fail
      (with_reducible refine (l00Own_look (v := .slice B m c) HI1.out.s.route (by rw [HRM.out]; omega)).mono ?_)
      rintro e w3 ⟨v3, rfl, ho3, hb3⟩
      obtain ⟨B3, c3, rfl, _, _, _⟩ := ho3.look
      have hbn := HI1.out.s.best_new hb3 ho3 (Nat.le_refl _)
      have hnl : ∀ k, (Value.slice B3 rt.length c3).ownBlock = some k → wg.heap.size ≤ k := fun k hk => (ho3.lt k hk).1
      have HI3 := Lib.hid (HI1.out.grow hb3)
      have HBN := Lib.hid hbn.2
      have HNL := Lib.hid hnl
      have HD3 : Hid (DeadAt w0 bs (.slice B m c) (.slice B3 rt.length c3) vd ps qs w3) := by
        have hk : ∀ b, b < wg.heap.size → w3.heap[b]? = wg.heap[b]? := fun b hb => hb3.block b hb
        exact HI1.out.d.kept (fun b hb _ _ => hk b hb) (fun _ e => .inl e) (fun k hk => .inr (hnl k hk))
      clear y0 y1 y2 y3 y4 y5 y6 y7 dd lb hb3 ho3 hbn hnl HI1
      obtain ⟨y0, y1, y2, y3, y4, y5, y6, y7, dd, lb⟩ := cntS_cells HI3.out.s
      have HT4 : Hid (SeekAt (cntC na m g A na ca) CntV.first 37 w0 bs rt ⟨⟨rt, st.count, st.dead⟩, vd⟩ (.slice B m c) (.slice B3 rt.length c3) (w3.setCell ⟨bs, 5, none⟩ (.slice B3 rt.length c3))) :=
        HI3.out.s.put 5 _ rfl HBN.out.1 HBN.out.2.1 HI3.out.s.rb HBN.out.2.2.1 HBN.out.2.2.2
      have HD4 := Lib.hid (HD3.out.put 5 (.slice B3 rt.length c3))
      have HT5 : Hid (SeekAt (cntC na m g A na ca) CntV.first 37 w0 bs rt ⟨⟨rt, st.count + 1, st.dead⟩, vd⟩ (.slice B m c) (.slice B3 rt.length c3) ((w3.setCell ⟨bs, 5, none⟩ (.slice B3 rt.length c3)).setCell ⟨bs, 6, none⟩ (.int .i64 (st.count + 1 : Nat)))) := HT4.out.num 6 _ rfl rfl
      have HD5 := Lib.hid (HD4.out.put 6 (.int .i64 (st.count + 1 : Nat)))
      go_wp2
      refine bodyPost_ret (v := .tuple #[]) (by simp [results, Tryd.results18, go_sem]) rfl ⟨.slice B m c, .slice B3 rt.length c3, vd, ps, rfl, ?_, HD5.out, ?_⟩
      · rw [HG.out]; exact HT5.out
      · rw [HG.out]; exact HI3.out.l
    · have hz : ((st.count : Int) == 0) = false := by simp [h0]
      have HG : Hid (runS na m g ab 0 rt st = ⟨st.first, st.count + 1, st.dead⟩) := by
        show (⟨if st.count = 0 then rt else st.first, st.count + 1, st.dead⟩ : CSt) = _
        rw [if_neg h0]
      clear h0
      go_enter Tryd.func18, Tryd.ntmps18
      have hsub := fun (g : Sub w) b o (h : b < w.heap.size) => g.cell b o h
      go_wp2_with fail
      refine wp_region_sub (by kernel_rfl) (by kernel_rfl) ?_
      repeat (go_big_quiet_step (fail))
      refine wpQuiet_nil ?_
      intro wg hg
      have HI1 := Lib.hid (HI.out.grow hg)
      clear y0 y1 y2 y3 y4 y5 y6 y7 dd lb hsub hg HI
      obtain ⟨y0, y1, y2, y3, y4, y5, y6, y7, dd, lb⟩ := cntS_cells HI1.out.s
      have HT5 : Hid (SeekAt (cntC na m g A na ca) CntV.first 37 w0 bs rt ⟨⟨st.first, st.count + 1, st.dead⟩, vd⟩ (.slice B m c) vf (wg.setCell ⟨bs, 6, none⟩ (.int .i64 (st.count + 1 : Nat)))) := HI1.out.s.num 6 _ rfl rfl
      have HD5 := Lib.hid (HI1.out.d.put 6 (.int .i64 (st.count + 1 : Nat)))
      go_wp2
      refine bodyPost_ret (v := .tuple #[]) (by simp [results, Tryd.results18, go_sem]) rfl ⟨.slice B m c, vf, vd, ps, rfl, ?_, HD5.out, ?_⟩
      · rw [HG.out]; exact HT5.out
      · rw [HG.out]; exact HI1.out.l
  | succ f ih =>
    intro rt st vr vf vd ps qs w hI hrm hct hcap
    have HIH := Lib.hid ih
    have hcapS : capR (f + 1) = 8 * capR f + 1 := rfl
    rw [hcapS] at hcap
    have HCAP := Lib.hid hcap
    obtain ⟨B, c, rfl, hc1, hc2, hB⟩ := hI.s.route.look
    obtain ⟨rl, hrl⟩ : ∃ rl, rt.length = rl := ⟨_, rfl⟩
    rw [hrl] at hI hc1 hrm
    have HRL := Lib.hid hrl
    have HI := Lib.hid hI
    obtain ⟨y0, y1, y2, y3, y4, y5, y6, y7, dd, lb⟩ := cntS_cells hI.s
    obtain ⟨lo, hlo⟩ : ∃ lo, recLo g rl = lo := ⟨_, rfl⟩
    have hmx : max 0 ((rl : Int) - (g : Int) + 1) = (lo : Int) := by rw [← hlo]; unfold recLo; omega
    have hlo2 : lo ≤ rl := by rw [← hlo]; unfold recLo; omega
    have HKEY : Hid (keyC g rt = (rl : Int) :: rt.drop lo) := keyC_eq g HRL.out hlo
    have hq : ((rl : Int) == (m : Int)) = false := by simp; omega
    have hrl12 : rl + 1 ≤ m := by omega
    clear hI hrl ih hlo hcap hcapS
    go_enter Tryd.func18, Tryd.ntmps18
    have hsub := fun (g : Sub w) b o (h : b < w.heap.size) => g.cell b o h
    go_wp2_with fail
    refine wp_region_sub (by kernel_rfl) (by kernel_rfl) ?_
    repeat (go_big_quiet_step (fail))
    refine wpQuiet_nil ?_
    intro wg hg
    have HI1 := Lib.hid (HI.out.grow hg)
    clear y0 y1 y2 y3 y4 y5 y6 y7 dd lb hsub hg HI hq
    obtain ⟨y0, y1, y2, y3, y4, y5, y6, y7, dd, lb⟩ := cntS_cells HI1.out.s
    obtain ⟨W1, hW1⟩ : ∃ W1, wg = W1 := ⟨_, rfl⟩
    rw [hW1] at HI1 y0 y1 y2 y3 y4 y5 y6 y7 dd lb ⊢
    clear hW1
    go_upto_region 5 with fail
    go_cut [2] from 41 to 59 (fun s2 wx => ∃ (X : Option Addr) (kc : Nat), s2 = .slice X (1 + (rl - lo)) kc ∧ OwnsL wx W1.heap.size 2 1 i64cells (.slice X (1 + (rl - lo)) kc) (keyC g rt) ∧ Below W1.heap.size W1 wx)
    case first =>
      have hBa : Below W1.heap.size W1 (W1.alloc (.cells #[.int .i64 (rl : Int)] 2)) := (Below.refl _ _).alloc (Nat.le_refl _) _
      have hKa : OwnsL (W1.alloc (.cells #[.int .i64 (rl : Int)] 2)) W1.heap.size 2 1 i64cells (.slice (some ⟨W1.heap.size, 0, none⟩) 1 1) [(rl : Int)] := ⟨rfl, .inr ⟨W1.heap.size, 1, #[.int .i64 (rl : Int)], rfl, Nat.le_refl _, Own.new W1 _ _, Nat.le_refl _, by simp [maxLen], rfl, rfl⟩⟩
      obtain ⟨w1, hw1⟩ : ∃ w1, W1.alloc (.cells #[.int .i64 (rl : Int)] 2) = w1 := ⟨_, rfl⟩
      rw [hw1] at hBa hKa ⊢
      have HBA := Lib.hid hBa
      have HKA := Lib.hid hKa
      have HR1 := Lib.hid (HI1.out.s.route.below' hBa)
      have z2 := (hBa.cell (p := ⟨bs, 2, none⟩) lb).trans y2
      have z4 := (hBa.cell (p := ⟨bs, 4, none⟩) lb).trans y4
      have lb1 : bs < w1.heap.size := Nat.lt_of_lt_of_le lb hBa.size
      clear y0 y1 y2 y3 y4 y5 y6 y7 dd lb hBa hKa hw1
      have hsub := fun (g : Sub w1) b o (h : b < w1.heap.size) => g.cell b o h
      rcases hB with ⟨rfl, rfl⟩ | ⟨b, rfl⟩
      · have hrl0 : rl = 0 := by omega
        have hlo0 : lo = 0 := by omega
        have hmx0 : max 0 (0 - (g : Int) + 1) = 0 := by omega
        have hmx1 : max 0 (-(g : Int) + 1) = 0 := by omega
        have HR0 : Hid (rt.drop 0 = []) := List.eq_nil_of_length_eq_zero (by rw [List.length_drop, HRL.out, hrl0])
        subst hrl0
        subst hlo0
        obtain ⟨i, hi, hz, hsize, hbytes⟩ := info_parts infoI64
        have HIN := Lib.hid hi
        clear hi hz hsize hbytes
        go_wp2_with fail
        refine wp_region_sub_tail 18 (by kernel_rfl) (by kernel_rfl) ?_
        simp only [List.take_succ_cons, List.take_zero, List.drop_succ_cons, List.drop_zero]
        repeat (go_big_quiet_step (first | exact Calls.sub_of_same_eq (l00Max_any _ _ _) (congrArg (Value.int .i64) hmx) | exact Calls.sub_of_same_eq (l00Max_any _ _ _) (congrArg (Value.int .i64) hmx0) | exact Calls.sub_of_same_eq (l00Max_any _ _ _) (congrArg (Value.int .i64) hmx1)))
        refine wpQuiet_nil ?_
        intro wg hg
        have HK := Lib.hid (HKA.out.below' hg)
        have HBG : Hid (Below W1.heap.size W1 wg) := HBA.out.trans (hg.mono HBA.out.size)
        clear hg
        go_wp2_with (at_builtin; refine wpList_append_own_none (by rfl) _ _ 29 (by rfl) W1.heap.size 2 i 1 Tryd.underlying29 HIN.out _ 1 [.int .i64 ((0 : Nat) : Int)] (by rfl) HK.out (by rfl) ?_)
        go_meet
        exact ⟨some ⟨W1.heap.size, 0, none⟩, 1, rfl, by rw [HKEY.out, HR0.out]; exact HK.out, HBG.out⟩
      · by_cases hcl : c = lo
        · subst hcl
          have HZ : Hid (rl - c = 0) := by rw [Hid]; omega
          go_wp2_with fail
          refine wp_region_sub_tail 18 (by kernel_rfl) (by kernel_rfl) ?_
          simp only [List.take_succ_cons, List.take_zero, List.drop_succ_cons, List.drop_zero]
          repeat (go_big_quiet_step (exact Calls.sub_of_same_eq (l00Max_any _ _ _) (congrArg (Value.int .i64) hmx)))
          refine wpQuiet_nil ?_
          intro wg hg
          have HK := Lib.hid (HKA.out.below' hg)
          have HBG : Hid (Below W1.heap.size W1 wg) := HBA.out.trans (hg.mono HBA.out.size)
          have HE : Hid (rt.drop c = []) := List.eq_nil_of_length_eq_zero (by rw [List.length_drop, HRL.out]; exact HZ.out)
          clear hg
          go_wp2_with fail
          go_meet
          exact ⟨some ⟨W1.heap.size, 0, none⟩, 1, by rw [HZ.out], by rw [HKEY.out, HE.out, HZ.out]; exact HK.out, HBG.out⟩
        · go_wp2_with fail
          refine wp_region_sub_tail 18 (by kernel_rfl) (by kernel_rfl) ?_
          simp only [List.take_succ_cons, List.take_zero, List.drop_succ_cons, List.drop_zero]
          repeat (go_big_quiet_step (exact Calls.sub_of_same_eq (l00Max_any _ _ _) (congrArg (Value.int .i64) hmx)))
          refine wpQuiet_nil ?_
          intro wg hg
          have HK := Lib.hid (HKA.out.below' hg)
          have HR := Lib.hid (HR1.out.below' hg)
          have HBG : Hid (Below W1.heap.size W1 wg) := HBA.out.trans (hg.mono HBA.out.size)
          have HS : Hid (SliceOf wg 1 i64cells (some ⟨b, lo, none⟩) (rl - lo) (rt.drop lo)) := by
            have h : SliceOf wg 1 i64cells (some ⟨b, 0, none⟩) rl rt := HR.out.sl i64cells_len
            have := h.drop hlo2
            rwa [Nat.zero_add] at this
          clear hg
          go_wp2_with (at_builtin; refine wpList_pushL (by rfl) (.tmp 41) (.tmp 58) 29 (by rfl) W1.heap.size 2 Tryd.underlying29 infoI64 (by rfl) _ [(rl : Int)] (rt.drop lo) b lo (rl - lo) (c - lo) (by rfl) HK.out (by rfl) HS.out (by simp; omega) (by decide) HBG.out.size ?_)
          intro v' w' hown' hb' _ _
          obtain ⟨X, kc, rfl, hrel⟩ := key_end HKEY.out HRL.out hown' (HBG.out.trans (hb'.mono (Nat.le_refl _)))
          clear hown' hb'
          go_wp2_with fail
          go_meet
          exact ⟨X, kc, rfl, hrel⟩
    case rest =>
      obtain ⟨X, kc, rfl, hko, hkb⟩ := hcut
      have hkl : (keyC g rt).length = 1 + (rl - lo) := by rw [HKEY.out, List.length_cons, List.length_drop, HRL.out]; omega
      obtain ⟨kn, hkn⟩ : ∃ kn, 1 + (rl - lo) = kn := ⟨_, rfl⟩
      rw [hkn] at hko hkl ⊢
      obtain ⟨key, hkey⟩ : ∃ key, keyC g rt = key := ⟨_, rfl⟩
      rw [hkey] at hko hkl
      have HKN := Lib.hid hkey
      have HD2 : Hid (DeadAt w0 bs (.slice B rl c) vf vd ps (⟨X, kn, kc, key⟩ :: qs) wc) := HI1.out.d.pend hkb hko HI1.out.s.below.size HI1.out.s.box.lt (fun k hk => (HI1.out.s.route.lt k hk).2) (fun k hk => (HI1.out.s.best.lt k hk).2)
      have HI2 : Hid (CntIn na m g A na ca w0 bs rt (⟨X, kn, kc, key⟩ :: qs) st (.slice B rl c) vf vd ps wc) := ⟨HI1.out.s.grow hkb, HD2.out, HI1.out.l⟩
      clear HKEY HD2 HI1 hkb hko y0 y1 y2 y3 y4 y5 y6 y7 dd lb hkn hkey hmx hlo2 hkl
      obtain ⟨y0, y1, y2, y3, y4, y5, y6, y7, dd, lb⟩ := cntS_cells HI2.out.s
      obtain ⟨D, dc, rfl, hdc1, hdc2, hD⟩ := HI2.out.d.outer.slice RowR.cells_len
      obtain ⟨dn, hdn⟩ : ∃ dn, ps.length = dn := ⟨_, rfl⟩
      rw [hdn] at hdc1 hD HI2 y7
      have HSD := Lib.hid hD
      have HKS : Hid (SliceOf wc 1 i64cells X kn key) := by
        have := HI2.out.d.pending.sl i64cells_len
        exact this
      have HKD := Lib.hid (known_any bs D dn dc ps X kn kc key wc HSD.out HI2.out.d.in_ HKS.out lb y7)
      rw [HI2.out.l] at HKD
      clear hD hdn hdc1 hdc2
      cases hkn : knownB st.dead key
      · have HKF : Hid (knownB st.dead (keyC g rt) = false) := by rw [Hid, HKN.out]; exact hkn
        rw [hkn] at HKD
        clear hkn
        go_wp2_with fail
        refine HKD.out.mono ?_
        rintro e w1 ⟨rfl, hb1⟩
        have HI3 := Lib.hid (HI2.out.grow hb1)
        clear HKD HKS HSD HI2 hb1 y0 y1 y2 y3 y4 y5 y6 y7 dd lb
        obtain ⟨y0, y1, y2, y3, y4, y5, y6, y7, dd, lb⟩ := cntS_cells HI3.out.s
        obtain ⟨mn, hmn⟩ : ∃ mn, min g m = mn := ⟨_, rfl⟩
        have hmi : min (g : Int) (m : Int) = (mn : Int) := by omega
        have HMN := Lib.hid hmn
        clear hmn
        have hsub := fun (g : Sub w1) b o (h : b < w1.heap.size) => g.cell b o h
        go_wp2_with fail
        refine wp_region_sub (by kernel_rfl) (by kernel_rfl) ?_
        repeat (go_big_quiet_step (exact Calls.sub_of_same_eq (l00Min_any _ _ _) (congrArg (Value.int .i64) hmi)))
        refine wpQuiet_nil ?_
        intro wg hg
        have HI4 := Lib.hid (HI3.out.grow hg)
        clear y0 y1 y2 y3 y4 y5 y6 y7 dd lb hsub hg hmi HI3
        by_cases hw : na < mn
        · have HG : Hid (runS na m g ab (f + 1) rt st = st) := runS_wide HKF.out (by rw [HMN.out]; exact hw)
          go_wp2
          refine bodyPost_ret (v := .tuple #[]) (by simp [results, Tryd.results18, go_sem]) rfl ?_
          rw [HG.out]
          exact CntIn.end_ ⟨HI4.out.s, HI4.out.d.drop, HI4.out.l⟩
        have HW : Hid (¬ na < min g m) := by rw [Hid, HMN.out]; exact hw
        have hwd : decide (na < mn) = false := decide_eq_false hw
        go_wp2
        simp only [hwd]
        clear hw hwd
        go_loopg [4] na (fun gk s4 wr => ∃ (k : Nat) (vr vf vd : Value) (ps : List RowR), k ≤ na ∧ gk = na - k ∧ s4 = .int .i64 k ∧ CntIn na m g A na ca w0 bs rt (⟨X, kn, kc, key⟩ :: qs) (loopS na m g ab f rt st k) vr vf vd ps wr)
        case atStart => exact ⟨0, _, _, _, _, Nat.zero_le _, rfl, rfl, HI4.out⟩
        case round =>
          obtain ⟨k, vr, vf, vd, ps, hk, hgk, rfl, hI⟩ := hrel
          have Hgk := Lib.hid hgk
          obtain ⟨sk, hsk⟩ : ∃ sk, loopS na m g ab f rt st k = sk := ⟨_, rfl⟩
          have HKIN := Lib.hid (loopS_in (n := na) (m := m) (g := g) (ab := ab) (f := f) (given := rt) hn8 hct k)
          rw [hsk] at hI HKIN
          have HSK := Lib.hid hsk
          have HI5 := Lib.hid hI
          clear hgk hsk hI HI4
          obtain ⟨cn, hcn⟩ : ∃ cn, sk.count = cn := ⟨_, rfl⟩
          have HCN := Lib.hid hcn
          have hcn2 : cn ≤ 20000 := by rw [← hcn]; exact HKIN.out.1
          by_cases hgo : k < na ∧ cn < 20000
          rotate_left
          · have HL : Hid (loopS na m g ab f rt st na = sk) := by
              by_cases hkn : k < na
              · have h := loopS_stop (n := na) (m := m) (g := g) (ab := ab) (f := f) (given := rt) (st := st) (k := k) (by rw [HSK.out, HCN.out]; omega) (na - k)
                rw [show k + (na - k) = na by omega, HSK.out] at h
                exact h
              · have e : na = k := by omega
                have h := HSK.out
                rw [← e] at h
                exact h
            obtain ⟨y0, y1, y2, y3, y4, y5, y6, y7, dd, lb⟩ := cntS_cells HI5.out.s
            simp only at y6 y7
            rw [hcn] at y6
            have hout : decide (k < na) = false ∨ k < na ∧ decide ((cn : Int) < 20000) = false := by
              by_cases hkn : k < na
              · exact .inr ⟨hkn, decide_eq_false (fun h => hgo ⟨hkn, by omega⟩)⟩
              · exact .inl (decide_eq_false hkn)
            clear hgo hcn
            by_cases he : cn = st.count
            · have hz : ((cn : Int) == (st.count : Int)) = true := by simp [he]
              have HG : Hid (runS na m g ab (f + 1) rt st = { sk with dead := sk.dead ++ [key] }) := by
                have h := runS_dead HKF.out HW.out HL.out (by rw [HCN.out]; exact he)
                rw [HKN.out] at h
                exact h
              have HLEN : Hid (ps.length ≤ 10000000000) := by
                have h1 := congrArg List.length HI5.out.l
                rw [List.length_map] at h1
                have h2 := HKIN.out.2
                have h3 : k * capR f ≤ 8 * capR f := Nat.mul_le_mul_right _ (by omega)
                have h4 := HCAP.out
                rw [Hid]; omega
              clear he
              rcases hout with c1 | ⟨c1, c2⟩
              all_goals
                go_wp2_with (at_builtin; refine wpList_push3 (by rfl) (.tmp 146) (.tmp 148) 22 (by rfl) w0.heap.size 29 1 Tryd.underlying22 infoRow (by rfl) (by decide) RowR.cells RowR.cells_len RowR.cells_one _ vd ps ⟨X, kn, kc, key⟩ (by rfl) (by rfl) HI5.out.d.outer (by first | rfl | simp [go_sem]) HLEN.out (by decide) HI5.out.s.below.size ?_)
                intro v' w' hown' hb' hkp hob
                obtain ⟨G7, cap7, rfl, _, _⟩ := hown'.block (by simp)
                have hpl : (ps ++ [(⟨X, kn, kc, key⟩ : RowR)]).length = ps.length + 1 := by simp
                rw [hpl] at hown' hob ⊢
                have hap := SeekAt.dead (i := 7) (st' := ⟨{ sk with dead := sk.dead ++ [key] }, .slice (some ⟨G7, 0, none⟩) (ps.length + 1) cap7⟩) HI5.out.s HI5.out.d (HI5.out.s.below.trans hb') hkp rfl rfl
                have HBX7 := Lib.hid hap.1
                have HT7 := Lib.hid hap.2
                have HD7 := Lib.hid ((HI5.out.d.add hown' hkp hob (fun k hk => (HI5.out.s.route.lt k hk).2) (fun k hk => (HI5.out.s.best.lt k hk).2) HI5.out.s.box.lt).put 7 (.slice (some ⟨G7, 0, none⟩) (ps.length + 1) cap7))
                clear y0 y1 y2 y3 y4 y5 y6 y7 dd lb hown' hb' hkp hob hap
                have z7 := HBX7.out.cell 7
                have dz := HBX7.out.frozen
                have lz := HBX7.out.lt
                simp [cntC] at z7
                go_wp2
                refine bodyPost_ret (v := .tuple #[]) (by simp [results, Tryd.results18, go_sem]) rfl ?_
                rw [HG.out]
                exact ⟨_, _, _, ps ++ [(⟨X, kn, kc, key⟩ : RowR)], rfl, HT7.out, HD7.out, by rw [List.map_append, HI5.out.l]; rfl⟩
            · have hz : ((cn : Int) == (st.count : Int)) = false := by simp; omega
              have HG : Hid (runS na m g ab (f + 1) rt st = sk) := runS_more HKF.out HW.out HL.out (by rw [HCN.out]; exact he)
              clear he
              rcases hout with c1 | ⟨c1, c2⟩
              all_goals
                go_wp2
                refine bodyPost_ret (v := .tuple #[]) (by simp [results, Tryd.results18, go_sem]) rfl ?_
                rw [HG.out]
                exact CntIn.end_ ⟨HI5.out.s, HI5.out.d.drop, HI5.out.l⟩
          · obtain ⟨hkn, hcl⟩ := hgo
            have HKI : Hid (sk.dead.length + capR f ≤ 10000000000) := by
              have h2 := HKIN.out.2
              have h3 : (k + 1) * capR f ≤ 8 * capR f := Nat.mul_le_mul_right _ (by omega)
              rw [Nat.succ_mul] at h3
              have h4 := HCAP.out
              rw [Hid]; omega
            have HCL : Hid (sk.count < 20000) := by rw [Hid, hcn]; exact hcl
            obtain ⟨B, c, rfl, hc1, hc2, hB⟩ := HI5.out.s.route.look
            rw [HRL.out] at HI5 hc1
            obtain ⟨y0, y1, y2, y3, y4, y5, y6, y7, dd, lb⟩ := cntS_cells HI5.out.s
            simp only at y6 y7
            rw [hcn] at y6
            clear hcn hcn2
            go_wp2_with fail
            have HNC : Hid (SliceOf wr 1 i64cells B rl rt) := HI5.out.s.route.sl i64cells_len
            have HXC := Lib.hid (HX.out.below HI5.out.s.below)
            have hsub := fun (g : Sub wr) b o (h : b < wr.heap.size) => g.cell b o h
            cases hmay : mayB g ab rt k
            · go_wp2_with fail
              refine wp_region_sub (by kernel_rfl) (by kernel_rfl) ?_
              repeat (go_big_quiet_step (exact Calls.sub_of_same_eq (l26May_any g A na ca ab B rl c rt k _ (HXC.out.below (Sub.below _)) (HNC.out.below (Sub.below _)) hg1 hg12 (by omega) hkn) (congrArg Value.bool hmay)))
              refine wpQuiet_nil ?_
              intro wg hg
              have HI6 := Lib.hid (HI5.out.grow hg)
              have HF : Hid (loopS na m g ab f rt st (k + 1) = sk) := loopS_no HSK.out hmay
              clear y0 y1 y2 y3 y4 y5 y6 y7 dd lb hsub hg hmay
              go_wp2
              go_roundg (na - (k + 1))
              case measure => have := Hgk.out; omega
              case rel => exact ⟨k + 1, _, _, _, _, by omega, rfl, by go_num, by rw [HF.out]; exact HI6.out⟩
            go_wp2_with fail
            refine wp_region_sub (by kernel_rfl) (by kernel_rfl) ?_
            repeat (go_big_quiet_step (exact Calls.sub_of_same_eq (l26May_any g A na ca ab B rl c rt k _ (HXC.out.below (Sub.below _)) (HNC.out.below (Sub.below _)) hg1 hg12 (by omega) hkn) (congrArg Value.bool hmay)))
            refine wpQuiet_nil ?_
            intro wg hg
            have HI6 := Lib.hid (HI5.out.grow hg)
            have HF := Lib.hid (loopS_on HSK.out HCL.out hmay)
            clear y0 y1 y2 y3 y4 y5 y6 y7 dd lb hsub hg hmay HI5 HNC HXC
            obtain ⟨w6, hw6⟩ : ∃ w6, wg = w6 := ⟨_, rfl⟩
            rw [hw6] at HI6 ⊢
            clear hw6
            obtain ⟨y0, y1, y2, y3, y4, y5, y6, y7, dd, lb⟩ := cntS_cells HI6.out.s
            simp only at y6 y7
            go_wp2_with (at_builtin; refine wpList_push2 (by rfl) (.tmp 114) (.tmp 116) 29 (by rfl) w0.heap.size 2 1 Tryd.underlying29 infoI64 (by rfl) (by decide) i64cells i64cells_len i64cells_one _ (.slice B rl c) rt (k : Int) (by rfl) (by rfl) HI6.out.s.route (by first | rfl | simp [go_sem]) (by rw [HRL.out]; omega) (by decide) HI6.out.s.below.size ?_)
            intro v' w' hown' hb' hkp hob
            have hrk : (rt ++ [(k : Int)]).length = rl + 1 := by rw [List.length_append, HRL.out]; rfl
            have HRK := Lib.hid hrk
            obtain ⟨G7, cap7, rfl, _, _⟩ := hown'.block (by simp)
            rw [hrk] at hown' hob ⊢
            have hap := SeekAt.append (i := 4) HI6.out.s hown' hb' hkp hob rfl
            have HBX7 := Lib.hid hap.1
            have HT7 := Lib.hid hap.2
            have HD7 : Hid (DeadAt w0 bs (.slice (some ⟨G7, 0, none⟩) (rl + 1) cap7) vf vd ps (⟨X, kn, kc, key⟩ :: qs) (w'.setCell ⟨bs, 4, none⟩ (.slice (some ⟨G7, 0, none⟩) (rl + 1) cap7))) := by
              refine HI6.out.d.kept (fun b hb h1 h2 => ?_) (fun k2 e => ?_) (fun _ e => .inl e)
              · rw [Below.heap_setCell w' ⟨bs, 4, none⟩ _ b h1]
                exact hkp b hb h2
              · rcases hob with e2 | e2
                · exact .inl (e2 ▸ e)
                · rw [e2] at e; injection e with e; exact .inr (by omega)
            clear y0 y1 y2 y3 y4 y5 y6 y7 dd lb hown' hb' hkp hob hap hrk
            have z4 := HBX7.out.cell 4
            have dz := HBX7.out.frozen
            have lz := HBX7.out.lt
            simp [cntC] at z4
            go_wp2_with fail
            obtain ⟨w7, hw7⟩ : ∃ w7, w'.setCell ⟨bs, 4, none⟩ (.slice (some ⟨G7, 0, none⟩) (rl + 1) cap7) = w7 := ⟨_, rfl⟩
            rw [hw7] at HT7 HD7 ⊢
            clear hw7 z4 dz lz HBX7
            (with_reducible refine (HIH.out (rt ++ [(k : Int)]) sk _ vf vd ps (⟨X, kn, kc, key⟩ :: qs) w7 ⟨HT7.out, HD7.out, HI6.out.l⟩ (by rw [HRK.out]; omega) HCL.out HKI.out).mono ?_)
            rintro e w8 ⟨vr8, vf8, vd8, ps8, rfl, hT8, hD8, hl8⟩
            rw [← HF.out] at hT8 hl8
            obtain ⟨G8, cap8, rfl, _, _⟩ := hT8.route.block (by simp)
            have hcap8 : rl + 1 ≤ cap8 := by
              obtain ⟨A', c', e, hc', _, _⟩ := hT8.route.slice i64cells_len
              injection e with _ _ e3
              rw [HRK.out] at hc'; omega
            rw [HRK.out] at hT8 hD8
            have HT8 := Lib.hid hT8
            have HD8 := Lib.hid hD8
            have HL8 := Lib.hid hl8
            have y4 : w8.cell? ⟨bs, 4, none⟩ = some (.slice (some ⟨G8, 0, none⟩) (rl + 1) cap8) := hT8.box.cell 4
            have dd := hT8.box.frozen
            have lb := hT8.box.lt
            have e1 : IntKind.i64.wrap ((rl : Int) + 1 - 1) = (rl : Int) := by rw [Int.add_sub_cancel]; exact IntWalk.i64_in _ (by omega)
            have e1b : IntKind.i64.wrap (rl : Int) = (rl : Int) := IntWalk.i64_in _ (by omega)
            have e2 : (0 : Int) ≤ (rl : Int) := by omega
            have e3 : (rl : Int) ≤ (cap8 : Int) := by omega
            clear hT8 hD8 hl8
            have hsub := fun (g : Sub w8) b o (h : b < w8.heap.size) => g.cell b o h
            go_wp2_with fail
            refine wp_region_sub_tail 14 (by kernel_rfl) (by kernel_rfl) ?_
            simp only [List.take_succ_cons, List.take_zero, List.drop_succ_cons, List.drop_zero]
            repeat (go_big_quiet_step (fail))
            refine wpQuiet_nil ?_
            intro wg hg
            have HT9 := Lib.hid (HT8.out.grow hg)
            have HD9 := Lib.hid (HD8.out.grow hg)
            clear y4 dd lb e1 e1b e2 e3 hsub hg
            have y4 : wg.cell? ⟨bs, 4, none⟩ = some (.slice (some ⟨G8, 0, none⟩) (rl + 1) cap8) := HT9.out.box.cell 4
            have dd := HT9.out.box.frozen
            have lb := HT9.out.box.lt
            have HIZ : Hid (CntIn na m g A na ca w0 bs rt (⟨X, kn, kc, key⟩ :: qs) (loopS na m g ab f rt st (k + 1)) (.slice (some ⟨G8, 0, none⟩) rl cap8) vf8 vd8 ps8 (wg.setCell ⟨bs, 4, none⟩ (.slice (some ⟨G8, 0, none⟩) rl cap8))) :=
              ⟨HT9.out.put 4 _ rfl HT9.out.route.shrink HT9.out.best HT9.out.rb HT9.out.bb HT9.out.ne, (HD9.out.name (vr' := .slice (some ⟨G8, 0, none⟩) rl cap8) (vf' := vf8) (fun _ e => .inl e) (fun _ e => .inl e)).put 4 _, HL8.out⟩
            go_wp2
            go_roundg (na - (k + 1))
            case measure => have := Hgk.out; omega
            case rel => exact ⟨k + 1, _, _, _, _, by omega, rfl, by go_num, HIZ.out⟩
      · have HG : Hid (runS na m g ab (f + 1) rt st = st) := runS_known (by rw [HKN.out]; exact hkn)
        rw [hkn] at HKD
        clear hkn
        go_wp2_with fail
        refine HKD.out.mono ?_
        rintro e w1 ⟨rfl, hb1⟩
        have HI3 := Lib.hid (HI2.out.grow hb1)
        clear hb1 y0 y1 y2 y3 y4 y5 y6 y7 dd lb
        go_wp2
        refine bodyPost_ret (v := .tuple #[]) (by simp [results, Tryd.results18, go_sem]) rfl ?_
        rw [HG.out]
        exact CntIn.end_ ⟨HI3.out.s, HI3.out.d.drop, HI3.out.l⟩

end Go.Proofs.YtjidibohbbdboaaDoor
