/- When one Area, and a list of them, is valid: the program's and the reference's functions return one Boolean. -/
import Derived.Test.YtlfnkgfkimanaaaBase
import Derived.Test.YtlfnkgfkimanaaaTArea
namespace Go.Proofs.Ytlfnkgfkimanaaa
open Go.RowKit

def Area.oneB (x : Area) : Bool := isNameB x.id && inB x.chance 0 1000 && inB x.minutes 1 600
theorem Area.oneB_iff (x : Area) : x.oneB = true ↔ isNameB x.id = true ∧ inB x.chance 0 1000 = true ∧ inB x.minutes 1 600 = true := by simp [Area.oneB, and_assoc]

set_option maxHeartbeats 1000000 in
theorem implAreavalid_any (x : Area) (w : World)  (hs : x.id.size ≤ 9223372036854775807) :
    Calls Try.prog 73 #[.agg #[.string x.id, .int .i64 x.chance, .int .i64 x.minutes]] w (Ret (.bool x.oneB) w) := by
  rcases cases3 (isNameB x.id) (inB x.chance 0 1000) (inB x.minutes 1 600) with h0 | ⟨h0, h1⟩ | ⟨h0, h1, h2⟩ | ⟨h0, h1, h2⟩
  · skip
    go_enter Try.func73, Try.ntmps73
    go_wp2_with ((go_at_call 111; refine (IsName_any _ _ hs).mono ?_; rintro e w' ⟨rfl, rfl⟩))
    all_goals (go_ret; exact Ret.b (by simp [Area.oneB, *]) (by repeat (first | assumption | exact Below.refl _ _ | refine Below.alloc ?_ (by simp <;> omega) _)))
  · skip
    go_enter Try.func73, Try.ntmps73
    go_wp2_with (first | (go_at_call 111; refine (IsName_any _ _ hs).mono ?_; rintro e w' ⟨rfl, rfl⟩) | (go_at_call 79; refine (within_any _ _ _ _).mono ?_; rintro e w' ⟨rfl, rfl⟩))
    all_goals (go_ret; exact Ret.b (by simp [Area.oneB, *]) (by repeat (first | assumption | exact Below.refl _ _ | refine Below.alloc ?_ (by simp <;> omega) _)))
  · have ⟨_, _⟩ := inB_iff.1 h1
    go_enter Try.func73, Try.ntmps73
    go_wp2_with (first | (go_at_call 111; refine (IsName_any _ _ hs).mono ?_; rintro e w' ⟨rfl, rfl⟩) | (go_at_call 79; refine (within_any _ _ _ _).mono ?_; rintro e w' ⟨rfl, rfl⟩))
    all_goals (go_ret; exact Ret.b (by simp [Area.oneB, *]) (by repeat (first | assumption | exact Below.refl _ _ | refine Below.alloc ?_ (by simp <;> omega) _)))
  · have ⟨_, _⟩ := inB_iff.1 h1
    have ⟨_, _⟩ := inB_iff.1 h2
    go_enter Try.func73, Try.ntmps73
    go_wp2_with (first | (go_at_call 111; refine (IsName_any _ _ hs).mono ?_; rintro e w' ⟨rfl, rfl⟩) | (go_at_call 79; refine (within_any _ _ _ _).mono ?_; rintro e w' ⟨rfl, rfl⟩))
    all_goals (go_ret; exact Ret.b (by simp [Area.oneB, *]) (by repeat (first | assumption | exact Below.refl _ _ | refine Below.alloc ?_ (by simp <;> omega) _)))

set_option maxHeartbeats 1000000 in
theorem specAreaOne_any (x : Area) (b off : Nat) (w : World) (_hb : b < w.heap.size) (hs : x.id.size ≤ 9223372036854775807) (x0 : w.cell? ⟨b, off, none⟩ = some (.string x.id)) (x1 : w.cell? ⟨b, off + 1, none⟩ = some (.int .i64 x.chance)) (x2 : w.cell? ⟨b, off + 2, none⟩ = some (.int .i64 x.minutes)) :
    Calls Try.prog 110 #[.pointer (some ⟨b, off, none⟩)] w (Ret (.bool x.oneB) w) := by
  rcases cases3 (isNameB x.id) (inB x.chance 0 1000) (inB x.minutes 1 600) with h0 | ⟨h0, h1⟩ | ⟨h0, h1, h2⟩ | ⟨h0, h1, h2⟩
  · skip
    go_enter Try.func110, Try.ntmps110
    go_wp2_with ((go_at_call 112; refine (l01Name_any _ _ hs).mono ?_; rintro e w' ⟨rfl, rfl⟩))
    all_goals (go_ret; exact Ret.b (by simp [Area.oneB, *]) (by repeat (first | assumption | exact Below.refl _ _ | refine Below.alloc ?_ (by simp <;> omega) _)))
  · skip
    go_enter Try.func110, Try.ntmps110
    go_wp2_with (first | (go_at_call 112; refine (l01Name_any _ _ hs).mono ?_; rintro e w' ⟨rfl, rfl⟩) | (go_at_call 100; refine (l00In_any _ _ _ _).mono ?_; rintro e w' ⟨rfl, rfl⟩))
    all_goals (go_ret; exact Ret.b (by simp [Area.oneB, *]) (by repeat (first | assumption | exact Below.refl _ _ | refine Below.alloc ?_ (by simp <;> omega) _)))
  · have ⟨_, _⟩ := inB_iff.1 h1
    go_enter Try.func110, Try.ntmps110
    go_wp2_with (first | (go_at_call 112; refine (l01Name_any _ _ hs).mono ?_; rintro e w' ⟨rfl, rfl⟩) | (go_at_call 100; refine (l00In_any _ _ _ _).mono ?_; rintro e w' ⟨rfl, rfl⟩))
    all_goals (go_ret; exact Ret.b (by simp [Area.oneB, *]) (by repeat (first | assumption | exact Below.refl _ _ | refine Below.alloc ?_ (by simp <;> omega) _)))
  · have ⟨_, _⟩ := inB_iff.1 h1
    have ⟨_, _⟩ := inB_iff.1 h2
    go_enter Try.func110, Try.ntmps110
    go_wp2_with (first | (go_at_call 112; refine (l01Name_any _ _ hs).mono ?_; rintro e w' ⟨rfl, rfl⟩) | (go_at_call 100; refine (l00In_any _ _ _ _).mono ?_; rintro e w' ⟨rfl, rfl⟩))
    all_goals (go_ret; exact Ret.b (by simp [Area.oneB, *]) (by repeat (first | assumption | exact Below.refl _ _ | refine Below.alloc ?_ (by simp <;> omega) _)))

def Area.rel (p x : Area) : Bool := Go.Op.bytesLess p.id.toList x.id.toList
def Area.sum (xs : List Area) : Int := (xs.map fun x => x.chance).sum
theorem Area.sum_step {xs : List Area} {k : Nat} {x : Area} (hx : xs[k]? = some x) : Area.sum (xs.take (k + 1)) = Area.sum (xs.take k) + x.chance := by
  rw [List.take_succ_eq_append_getElem (List.getElem?_eq_some_iff.1 hx).1, (List.getElem?_eq_some_iff.1 hx).2]
  unfold Area.sum
  simp
def Area.validB (xs : List Area) : Bool := validL 8 Area.oneB Area.rel xs && decide (Area.sum xs ≤ 1000)

set_option maxHeartbeats 2000000 in
theorem specAreaValid_any (A : Option Addr) (n c : Nat) (xs : List Area) (w : World) (hx : SliceOf w 3 Area.cells A n xs) (hle : n ≤ 1048576) (hg : ∀ x ∈ xs, x.Good) :
    Calls Try.prog 71 #[.slice A n c] w (Ret (.bool (Area.validB xs)) w) := by
  have hn := hx.le
  have hl := hx.len
  have Hl := Lib.hid hl
  clear hl
  go_enter Try.func71, Try.ntmps71
  go_wp2
  go_loopg [3, 4] n (fun gk m i wr => ∃ (k : Nat) (q : Int), k ≤ n ∧ gk = n - k ∧ i = .int .i64 k ∧ m = .int .i64 q ∧ q = Area.sum (xs.take k) ∧ 0 ≤ q ∧ q ≤ 1000 * k ∧ Below w.heap.size w wr ∧ GoodTo Area.oneB Area.rel xs k)
  case atStart => exact ⟨0, 0, Nat.zero_le _, rfl, rfl, rfl, rfl, by omega, by omega, Below.refl _ _, GoodTo.zero⟩
  case round =>
    obtain ⟨k, q, hk, hgk, rfl, rfl, hq, hq0, hq1, hb, hall⟩ := hrel
    have Hq := Lib.hid hq
    clear hq
    have Hall := Lib.hid hall
    have Hgk := Lib.hid hgk
    clear hall hgk
    by_cases hlt : k < n
    · have hx' := hx.below hb
      obtain ⟨b1, o1, x, rfl, hb1, hxk, x0, x1, x2⟩ := Area.at_ hx' hlt
      have hs : x.id.size ≤ 9223372036854775807 := by
        have := (hg x (List.mem_of_getElem? hxk)).2.2; simp [maxLen] at this; omega
      have Hx := Lib.hid hxk
      have Hs := Lib.hid (Area.sum_step hxk)
      clear hxk
      have hsub := fun (g : Sub wr) b o (h : b < wr.heap.size) => g.cell b o h
      cases h1 : x.oneB
      · go_wp2_with fail
        refine wp_region_sub (by kernel_rfl) (by kernel_rfl) ?_
        repeat (go_big_quiet_step (exact Calls.sub_of_eq (specAreaOne_any x _ _ _ (Nat.lt_of_lt_of_le hb1 (Sub.below _).size) hs ((Sub.cell _ _ _ hb1).trans x0) ((Sub.cell _ _ _ hb1).trans x1) ((Sub.cell _ _ _ hb1).trans x2)) (congrArg Value.bool h1)))
        refine wpQuiet_nil ?_
        intro wg hg
        have hbg := hb.trans (hg.mono hb.size)
        clear hsub x0 x1 x2
        go_wp2
        go_ret
        exact Ret.b (by unfold Area.validB; rw [validL_one Hx.out h1, Bool.false_and]) hbg
      · by_cases hk0 : k = 0
        · have hd : decide (0 < k) = false := decide_eq_false (by omega)
          have Hk0 := Lib.hid hk0
          clear hk0
          go_wp2_with fail
          refine wp_region_sub (by kernel_rfl) (by kernel_rfl) ?_
          repeat (go_big_quiet_step (exact Calls.sub_of_eq (specAreaOne_any x _ _ _ (Nat.lt_of_lt_of_le hb1 (Sub.below _).size) hs ((Sub.cell _ _ _ hb1).trans x0) ((Sub.cell _ _ _ hb1).trans x1) ((Sub.cell _ _ _ hb1).trans x2)) (congrArg Value.bool h1)))
          refine wpQuiet_nil ?_
          intro wg hg
          have hbg := hb.trans (hg.mono hb.size)
          have xs_ : wg.cell? ⟨b1, o1 + k * 3 + 1, none⟩ = some (.int .i64 x.chance) := (hg.cell (p := ⟨b1, _, none⟩) hb1).trans x1
          have ⟨_, _⟩ := inB_iff.1 (((Area.oneB_iff x).1 (h1)).2.1)
          clear hsub x0 x1 x2
          go_wp2
          go_roundg (n - (k + 1))
          case measure => have := Hgk.out; omega
          case rel => exact ⟨k + 1, q + x.chance, by omega, rfl, by go_num, by go_num, by rw [Hs.out, Hq.out], by omega, by omega, hbg, Hall.out.step Hx.out h1 (fun p h => absurd h (by have := Hk0.out; omega))⟩
        · have hd : decide (0 < k) = true := decide_eq_true (by omega)
          have hlt' : k - 1 < n := by omega
          obtain ⟨b2, o2, p, he, hb2, hpk, p0, p1, p2⟩ := Area.at_ hx' hlt'
          injection he with he
          injection he with he1 he2 _
          subst he1 he2
          have Hp := Lib.hid hpk
          clear hpk
          cases hr : Area.rel p x
          · have hr1 := bytesLess_leq x.id.toList p.id.toList
            have hr2 : Go.Op.bytesLess p.id.toList x.id.toList = false := hr
            rw [hr2] at hr1
            have Hr := Lib.hid hr
            clear hr hx hx'
            go_wp2_with fail
            refine wp_region_sub (by kernel_rfl) (by kernel_rfl) ?_
            repeat (go_big_quiet_step (exact Calls.sub_of_eq (specAreaOne_any x _ _ _ (Nat.lt_of_lt_of_le hb1 (Sub.below _).size) hs ((Sub.cell _ _ _ hb1).trans x0) ((Sub.cell _ _ _ hb1).trans x1) ((Sub.cell _ _ _ hb1).trans x2)) (congrArg Value.bool h1)))
            refine wpQuiet_nil ?_
            intro wg hg
            have hbg := hb.trans (hg.mono hb.size)
            have xs_ : wg.cell? ⟨b1, o1 + k * 3 + 1, none⟩ = some (.int .i64 x.chance) := (hg.cell (p := ⟨b1, _, none⟩) hb1).trans x1
            have ⟨_, _⟩ := inB_iff.1 (((Area.oneB_iff x).1 (h1)).2.1)
            clear hsub x0 x1 x2 p0 p1 p2
            go_wp2
            go_ret
            exact Ret.b (by unfold Area.validB; rw [validL_rel (by omega) Hp.out Hx.out Hr.out, Bool.false_and]) hbg
          · have hr1 := bytesLess_leq x.id.toList p.id.toList
            have hr2 : Go.Op.bytesLess p.id.toList x.id.toList = true := hr
            rw [hr2] at hr1
            have Hr := Lib.hid hr
            clear hr hx hx'
            go_wp2_with fail
            refine wp_region_sub (by kernel_rfl) (by kernel_rfl) ?_
            repeat (go_big_quiet_step (exact Calls.sub_of_eq (specAreaOne_any x _ _ _ (Nat.lt_of_lt_of_le hb1 (Sub.below _).size) hs ((Sub.cell _ _ _ hb1).trans x0) ((Sub.cell _ _ _ hb1).trans x1) ((Sub.cell _ _ _ hb1).trans x2)) (congrArg Value.bool h1)))
            refine wpQuiet_nil ?_
            intro wg hg
            have hbg := hb.trans (hg.mono hb.size)
            have xs_ : wg.cell? ⟨b1, o1 + k * 3 + 1, none⟩ = some (.int .i64 x.chance) := (hg.cell (p := ⟨b1, _, none⟩) hb1).trans x1
            have ⟨_, _⟩ := inB_iff.1 (((Area.oneB_iff x).1 (h1)).2.1)
            clear hsub x0 x1 x2 p0 p1 p2
            go_wp2
            go_roundg (n - (k + 1))
            case measure => have := Hgk.out; omega
            case rel => exact ⟨k + 1, q + x.chance, by omega, rfl, by go_num, by go_num, by rw [Hs.out, Hq.out], by omega, by omega, hbg, Hall.out.step Hx.out h1 (fun q _ hq => by rw [Hp.out] at hq; cases hq; exact Hr.out)⟩
    · have hkn : k = n := by omega
      subst hkn
      go_wp2
      all_goals go_ret
      all_goals exact Ret.b (by unfold Area.validB; rw [validL_all (by rw [Hl.out]; exact Nat.le_refl _) Hall.out, Hl.out, show Area.sum xs = q by rw [Hq.out, List.take_of_length_le (by rw [Hl.out]; exact Nat.le_refl _)]]; simp_all <;> omega) hb

set_option maxHeartbeats 2000000 in
theorem implAreaValid_any (A : Option Addr) (n c : Nat) (xs : List Area) (w : World) (hx : SliceOf w 3 Area.cells A n xs) (hle : n ≤ 1048576) (hg : ∀ x ∈ xs, x.Good) :
    Calls Try.prog 23 #[.slice A n c] w (Ret (.bool (Area.validB xs)) w) := by
  have hn := hx.le
  have hl := hx.len
  have Hl := Lib.hid hl
  clear hl
  by_cases hM : 8 < n
  · go_enter Try.func23, Try.ntmps23
    go_wp2
    go_ret
    exact Ret.b (by unfold Area.validB; rw [validL_len (by rw [Hl.out]; exact hM), Bool.false_and]) (Below.refl _ _)
  go_enter Try.func23, Try.ntmps23
  go_wp2
  go_loopg [3, 11] n (fun gk m i wr => ∃ (k : Nat) (q : Int), k ≤ n ∧ gk = n - k ∧ i = .int .i64 k ∧ m = .int .i64 q ∧ q = Area.sum (xs.take k) ∧ 0 ≤ q ∧ q ≤ 1000 * k ∧ Below w.heap.size w wr ∧ GoodTo Area.oneB Area.rel xs k)
  case atStart => exact ⟨0, 0, Nat.zero_le _, rfl, rfl, rfl, rfl, by omega, by omega, Below.refl _ _, GoodTo.zero⟩
  case round =>
    obtain ⟨k, q, hk, hgk, rfl, rfl, hq, hq0, hq1, hb, hall⟩ := hrel
    have Hq := Lib.hid hq
    clear hq
    have Hall := Lib.hid hall
    have Hgk := Lib.hid hgk
    clear hall hgk
    by_cases hlt : k < n
    · have hx' := hx.below hb
      obtain ⟨b1, o1, x, rfl, hb1, hxk, x0, x1, x2⟩ := Area.at_ hx' hlt
      have hs : x.id.size ≤ 9223372036854775807 := by
        have := (hg x (List.mem_of_getElem? hxk)).2.2; simp [maxLen] at this; omega
      have Hx := Lib.hid hxk
      have Hs := Lib.hid (Area.sum_step hxk)
      clear hxk
      have hsub := fun (o : Obj) (g : Sub (wr.alloc o)) b o' (h : b < (wr.alloc o).heap.size) => g.cell b o' h
      have hlt1 : b1 < wr.heap.size + 1 := by omega
      cases h1 : x.oneB
      · go_wp2_with fail
        refine wp_region_sub (by kernel_rfl) (by kernel_rfl) ?_
        repeat (go_big_quiet_step (exact Calls.sub_of_eq (implAreavalid_any x _ hs) (congrArg Value.bool h1)))
        refine wpQuiet_nil ?_
        intro wg hg
        have hbg := (hb.alloc hb.size _).trans (hg.mono (Nat.le_trans hb.size (by simp)))
        clear hsub x0 x1 x2 hlt1
        go_wp2
        go_ret
        exact Ret.b (by unfold Area.validB; rw [validL_one Hx.out h1, Bool.false_and]) hbg
      · by_cases hk0 : k = 0
        · have hd : decide (0 < k) = false := decide_eq_false (by omega)
          have Hk0 := Lib.hid hk0
          clear hk0
          go_wp2_with fail
          refine wp_region_sub (by kernel_rfl) (by kernel_rfl) ?_
          repeat (go_big_quiet_step (exact Calls.sub_of_eq (implAreavalid_any x _ hs) (congrArg Value.bool h1)))
          refine wpQuiet_nil ?_
          intro wg hg
          have hbg := (hb.alloc hb.size _).trans (hg.mono (Nat.le_trans hb.size (by simp)))
          have xs_ : wg.cell? ⟨wr.heap.size, 1, none⟩ = some (.int .i64 x.chance) := (hg.cell (p := ⟨wr.heap.size, 1, none⟩) (by simp)).trans (by simp)
          have ⟨_, _⟩ := inB_iff.1 (((Area.oneB_iff x).1 (h1)).2.1)
          clear hsub x0 x1 x2 hlt1
          go_wp2
          go_roundg (n - (k + 1))
          case measure => have := Hgk.out; omega
          case rel => exact ⟨k + 1, q + x.chance, by omega, rfl, by go_num, by go_num, by rw [Hs.out, Hq.out], by omega, by omega, hbg, Hall.out.step Hx.out h1 (fun p h => absurd h (by have := Hk0.out; omega))⟩
        · have hd : decide (0 < k) = true := decide_eq_true (by omega)
          have hlt' : k - 1 < n := by omega
          obtain ⟨b2, o2, p, he, hb2, hpk, p0, p1, p2⟩ := Area.at_ hx' hlt'
          injection he with he
          injection he with he1 he2 _
          subst he1 he2
          have Hp := Lib.hid hpk
          clear hpk
          cases hr : Area.rel p x
          · have hr1 := bytesLess_leq x.id.toList p.id.toList
            have hr2 : Go.Op.bytesLess p.id.toList x.id.toList = false := hr
            rw [hr2] at hr1
            have Hr := Lib.hid hr
            clear hr hx hx'
            go_wp2_with fail
            refine wp_region_sub (by kernel_rfl) (by kernel_rfl) ?_
            repeat (go_big_quiet_step (exact Calls.sub_of_eq (implAreavalid_any x _ hs) (congrArg Value.bool h1)))
            refine wpQuiet_nil ?_
            intro wg hg
            have hbg := (hb.alloc hb.size _).trans (hg.mono (Nat.le_trans hb.size (by simp)))
            have xs_ : wg.cell? ⟨wr.heap.size, 1, none⟩ = some (.int .i64 x.chance) := (hg.cell (p := ⟨wr.heap.size, 1, none⟩) (by simp)).trans (by simp)
            have ⟨_, _⟩ := inB_iff.1 (((Area.oneB_iff x).1 (h1)).2.1)
            clear hsub x0 x1 x2 hlt1 p0 p1 p2
            go_wp2
            go_ret
            exact Ret.b (by unfold Area.validB; rw [validL_rel (by omega) Hp.out Hx.out Hr.out, Bool.false_and]) hbg
          · have hr1 := bytesLess_leq x.id.toList p.id.toList
            have hr2 : Go.Op.bytesLess p.id.toList x.id.toList = true := hr
            rw [hr2] at hr1
            have Hr := Lib.hid hr
            clear hr hx hx'
            go_wp2_with fail
            refine wp_region_sub (by kernel_rfl) (by kernel_rfl) ?_
            repeat (go_big_quiet_step (exact Calls.sub_of_eq (implAreavalid_any x _ hs) (congrArg Value.bool h1)))
            refine wpQuiet_nil ?_
            intro wg hg
            have hbg := (hb.alloc hb.size _).trans (hg.mono (Nat.le_trans hb.size (by simp)))
            have xs_ : wg.cell? ⟨wr.heap.size, 1, none⟩ = some (.int .i64 x.chance) := (hg.cell (p := ⟨wr.heap.size, 1, none⟩) (by simp)).trans (by simp)
            have ⟨_, _⟩ := inB_iff.1 (((Area.oneB_iff x).1 (h1)).2.1)
            clear hsub x0 x1 x2 hlt1 p0 p1 p2
            go_wp2
            go_roundg (n - (k + 1))
            case measure => have := Hgk.out; omega
            case rel => exact ⟨k + 1, q + x.chance, by omega, rfl, by go_num, by go_num, by rw [Hs.out, Hq.out], by omega, by omega, hbg, Hall.out.step Hx.out h1 (fun q _ hq => by rw [Hp.out] at hq; cases hq; exact Hr.out)⟩
    · have hkn : k = n := by omega
      subst hkn
      go_wp2
      all_goals go_ret
      all_goals exact Ret.b (by unfold Area.validB; rw [validL_all (by rw [Hl.out]; exact Nat.le_refl _) Hall.out, Hl.out, show Area.sum xs = q by rw [Hq.out, List.take_of_length_le (by rw [Hl.out]; exact Nat.le_refl _)]]; simp_all <;> omega) hb

set_option maxHeartbeats 400000 in
theorem specAreaValidW_any (A : Option Addr) (n c : Nat) (xs : List Area) (w : World) (hx : SliceOf w 3 Area.cells A n xs) (hle : n ≤ 1048576) (hg : ∀ x ∈ xs, x.Good) : Calls Try.prog 21 #[.slice A n c] w (Ret (.bool (Area.validB xs)) w) := by
  go_enter Try.func21, Try.ntmps21
  go_wp2_with fail
  refine (specAreaValid_any _ _ _ xs _ hx hle hg).mono ?_
  rintro e w' ⟨rfl, hb⟩
  go_wp2
  go_ret
  exact Ret.b rfl hb

end Go.Proofs.Ytlfnkgfkimanaaa
