/- The decimal text of a number: the program's function, through the library's, and the reference's. What a decimal text reads as: the plain law of reading a number. Digits and cuts of texts, in plain Lean. Digits that spell a number: the plain law of the reference's reading. No program in sight. The reference's reading of a number. A text in pieces at a byte: the plain law. The reference's splitting of a text. The text of a list of numbers: the plain law. The text of a list of numbers: both sides. What a text reads as, as a list of numbers: the plain law. ReadDecimal of the program: through the library's reading of a number. ReadList, and the text of any list: both sides. ReadList: both sides. -/
import Derived.Test.YtmldijckjenbcaaGreatDoorShelf
import Derived.Test.YtmldijckjenbcaaGreatDoorBase
import Derived.Test.YtmldijckjenbcaaGreatDoorMem
import Derived.Lib.AppendIntMem
import Derived.Laws.IdiomStrings
import Derived.Lib.ItoaLen
import Derived.Lib.ParseIntBCases
import Derived.Lib.ItoaMem
import Derived.Lib.Strings
import Derived.Lib.IndexMore
import Derived.Lib.Join
import Derived.Test.YtmldijckjenbcaaGreatDoorTInt64
import Derived.Test.YtmldijckjenbcaaGreatDoorWithin
import Derived.Test.YtmldijckjenbcaaGreatDoorShelfJ
import Derived.Lib.SplitLaws
import Derived.Test.YtmldijckjenbcaaGreatDoorShelfR
import Derived.Shelf.Strconv.ErrVarParseInt
import Derived.Test.YtmldijckjenbcaaGreatDoorShelfS
namespace Go.Proofs.YtmldijckjenbcaaGreatDoor
open Go.RowKit

def dec (n : Int) : ByteArray := ⟨(Lib.itoa n).toArray⟩
theorem dec_size {n : Int} (h : I64 n) : (dec n).size ≤ 21 := by
  show (Lib.itoa n).toArray.size ≤ 21
  have := Lib.itoa_length_le n h.1 h.2
  simpa using this
/-- The library's table of powers reads as it was laid, whatever is done from block B on. -/
def TabAt (B : Nat) (w : World) : Prop := Lib.TabBelow Tryz.prog B w "internal/strconv.uint64pow10" .u64 Lib.pow10Tab
theorem TabAt.on {B : Nat} {w w' : World} (h : TabAt B w) (hb : Below B w w') : TabAt B w' := Lib.TabBelow.on h hb
theorem TabAt.up {B C : Nat} {w : World} (h : TabAt B w) (hc : B ≤ C) : TabAt C w := fun w' hb => h w' (hb.mono hc)
theorem TabAt.grow {w w' : World} (h : TabAt w.heap.size w) (hb : Below w.heap.size w w') : TabAt w'.heap.size w' := (h.on hb).up hb.size
set_option maxHeartbeats 1000000 in
theorem implDecimal_any (n : Int) (w : World) (h : I64 n) (ht : TabAt w.heap.size w) : Calls Tryz.prog 45 #[.int .i64 n] w (Ret (.string (dec n)) w) := by
  have HC := Lib.hid (Tryz.strconv_FormatInt_10 n h.1 h.2 w (Lib.TabBelow.here ht))
  clear ht
  go_enter Tryz.func45, Tryz.ntmps45
  go_wp2_with fail
  refine HC.out.mono ?_
  rintro e w' ⟨rfl, k, os, rfl⟩
  have hb := Lib.below_grow w.heap.size w (Nat.le_refl _) k os
  obtain ⟨w1, hw1⟩ : ∃ w1, Go.Sort.grow (w.drewN k) os = w1 := ⟨_, rfl⟩
  rw [hw1] at hb ⊢
  have HB := Lib.hid hb
  clear hb hw1
  go_wp2
  go_ret
  exact Ret.mk rfl HB.out
def bcells (c : UInt8) : List Value := [.int .u8 (c.toNat : Int)]
theorem bcells_len (c : UInt8) : (bcells c).length = 1 := rfl
theorem bcells_one (c : UInt8) : ∀ u ∈ bcells c, u.oneCell' = true := by intro u hu; simp [bcells] at hu; subst hu; rfl
theorem infoU8 : (Tryz.prog.info? 5).map (fun i => (i.zero, i.size, i.bytes)) = some (some (.int .u8 0), 1, 1) := by kernel_rfl
theorem bytes_at {w : World} {A : Option Addr} {n : Nat} {xs : List UInt8} (h : SliceOf w 1 bcells A n xs) {k : Nat} (hk : k < n) : ∃ b off x, A = some ⟨b, off, none⟩ ∧ b < w.heap.size ∧ xs[k]? = some x ∧ w.cell? ⟨b, off + k, none⟩ = some (.int .u8 (x.toNat : Int)) := by
  obtain ⟨b, off, x, hA, hb, hx, hc⟩ := h.at_ hk
  have h0 := hc 0 _ rfl
  rw [Nat.mul_one, Nat.add_zero] at h0
  exact ⟨b, off, x, hA, hb, hx, h0⟩
theorem addr_plus (g o n : Nat) : (⟨g, o, none⟩ : Addr).add n = ⟨g, o + n, none⟩ := by
  unfold Addr.add
  split
  · simp only [Addr.mk.injEq, true_and, and_true]; omega
  · simp
/-- 'string(b)' of a slice of bytes that is not empty. -/
theorem conv_bytes {w : World} {A : Option Addr} {n c : Nat} {xs : List UInt8} (h : SliceOf w 1 bcells A n xs) (hn : 0 < n) : (convert 22 9 (.slice A n c)).run Tryz.prog w = .ok (.string ⟨xs.toArray⟩) w := by
  obtain ⟨b, o, rfl, _, hc⟩ := h.base_ hn
  have hl := h.len
  subst hl
  refine run_convert_bytes_back (P := Tryz.prog) w 22 9 5 ⟨b, o, none⟩ c xs Tryz.underlying22 Tryz.underlying5 Tryz.underlying9 (fun j hj => ?_)
  rw [addr_plus]
  have := hc j xs[j] 0 _ (List.getElem?_eq_getElem hj) rfl
  rwa [Nat.mul_one, Nat.add_zero] at this
/-- What is known of the digits that have been taken off: u: the number without its sign, v: what is left of it, ds: the digits, the last first. -/
structure Taken (u v : Nat) (ds : List UInt8) : Prop where
  pos : 0 < u
  mid : 0 < v → Lib.decDigits u = Lib.decDigits v ++ ds.reverse
  done : v = 0 → Lib.decDigits u = ds.reverse
  len : v * 10 ^ ds.length ≤ u
theorem Taken.start {u : Nat} (h : 0 < u) : Taken u u [] := ⟨h, fun _ => by simp, fun h0 => absurd h0 (by omega), by simp⟩
theorem Taken.step {u v : Nat} {ds : List UInt8} (h : Taken u v ds) (hv : 0 < v) : Taken u (v / 10) (ds ++ [UInt8.ofNat (48 + v % 10)]) := by
  refine ⟨h.pos, fun hq => ?_, fun hq => ?_, ?_⟩
  · rw [h.mid hv, Lib.decDigits, dif_neg (by omega), List.reverse_append]
    simp
  · rw [h.mid hv, Lib.decDigits, dif_pos (by omega), List.reverse_append, Nat.mod_eq_of_lt (by omega)]
    simp
  · have h1 := h.len
    have h2 : v / 10 * 10 ≤ v := Nat.div_mul_le_self v 10
    rw [List.length_append, List.length_singleton, Nat.pow_succ]
    calc v / 10 * (10 ^ ds.length * 10) = v / 10 * 10 * 10 ^ ds.length := by rw [Nat.mul_comm (10 ^ ds.length) 10, ← Nat.mul_assoc]
      _ ≤ v * 10 ^ ds.length := Nat.mul_le_mul_right _ h2
      _ ≤ u := h1
theorem Taken.short {u v : Nat} {ds : List UInt8} (h : Taken u v ds) (hv : 0 < v) (hu : u < 10 ^ 20) : ds.length < 20 := by
  have h1 := h.len
  have h2 : 1 * 10 ^ ds.length ≤ v * 10 ^ ds.length := Nat.mul_le_mul_right _ hv
  have h3 : 10 ^ ds.length < 10 ^ 20 := by omega
  exact (Nat.pow_lt_pow_iff_right (by decide)).1 h3
theorem itoa_taken {n : Int} {ds : List UInt8} (h : Taken n.natAbs 0 ds) : Lib.itoa n = (if n < 0 then ds ++ [45] else ds).reverse := by
  have hd := h.done rfl
  have hp := h.pos
  unfold Lib.itoa
  by_cases hn : n < 0
  · rw [if_pos hn, if_pos hn, hd]; simp
  · rw [if_neg hn, if_neg hn, ← hd, show n.toNat = n.natAbs by omega]
theorem itoa_zero : Lib.itoa 0 = [48] := by
  unfold Lib.itoa
  rw [if_neg (by decide), Lib.decDigits, dif_pos (by decide)]
  rfl
theorem digit_nat {c : Nat} (h : c < 10) : ((UInt8.ofNat (48 + c)).toNat : Int) = 48 + (c : Int) := by
  rw [UInt8.toNat_ofNat']
  omega
theorem rev_drop {ds : List UInt8} {j : Nat} {x : UInt8} (h : ds[j]? = some x) : (ds.drop (j + 1)).reverse ++ [x] = (ds.drop j).reverse := by
  obtain ⟨hj, he⟩ := List.getElem?_eq_some_iff.1 h
  rw [List.drop_eq_getElem_cons hj, List.reverse_cons, he]

end Go.Proofs.YtmldijckjenbcaaGreatDoor

namespace Go.Proofs.YtmldijckjenbcaaGreatDoor
open Go.RowKit

/-- A number of at most 18 digits. -/
def Small (n : Int) : Prop := -1000000000000000000 < n ∧ n < 1000000000000000000
theorem Small.i64 {n : Int} (h : Small n) : I64 n := by unfold Small at h; unfold I64; omega
theorem uintM_snoc (M : Nat) (c : UInt8) : ∀ (l : List UInt8) (a v : Nat), Lib.parseUintM M a l = .ok v → Lib.parseUintM M a (l ++ [c]) = Lib.parseUintM M v [c]
  | [], a, v, h => by
    simp only [Lib.parseUintM] at h
    injection h with h
    subst h
    rfl
  | d :: l, a, v, h => by
    rw [List.cons_append]
    rw [Lib.parseUintM] at h ⊢
    by_cases h1 : 48 ≤ d.toNat ∧ d.toNat ≤ 57
    · rw [if_pos h1] at h ⊢
      by_cases h2 : 1844674407370955162 ≤ a
      · rw [if_pos h2] at h; cases h
      · rw [if_neg h2] at h ⊢
        by_cases h3 : M < a * 10 + (d.toNat - 48)
        · rw [if_pos h3] at h; cases h
        · rw [if_neg h3] at h ⊢
          exact uintM_snoc M c l _ v h
    · rw [if_neg h1] at h; cases h
theorem uintM_one {M v c : Nat} (hc : c < 10) (hM : M ≤ 18446744073709551615) (hv : v * 10 + c ≤ M) : Lib.parseUintM M v [UInt8.ofNat (48 + c)] = .ok (v * 10 + c) := by
  have e : (UInt8.ofNat (48 + c)).toNat = 48 + c := by rw [UInt8.toNat_ofNat']; omega
  rw [Lib.parseUintM, e, if_pos (by omega), if_neg (by omega), if_neg (by omega)]
  rw [show v * 10 + (48 + c - 48) = v * 10 + c by omega]
  rfl
theorem uintM_dec {M : Nat} (hM : M ≤ 18446744073709551615) (u : Nat) (hu : u ≤ M) : Lib.parseUintM M 0 (Lib.decDigits u) = .ok u := by
  induction u using Nat.strongRecOn with
  | _ u ih =>
    rw [Lib.decDigits]
    by_cases h : u < 10
    · rw [dif_pos h]
      have := uintM_one (v := 0) h hM (by omega)
      simpa using this
    · rw [dif_neg h, uintM_snoc M _ _ 0 (u / 10) (ih (u / 10) (by omega) (by omega)), uintM_one (by omega) hM (by omega)]
      congr 1
      omega
theorem decDigits_head (u : Nat) : ∃ c r, Lib.decDigits u = c :: r ∧ 48 ≤ c.toNat ∧ c.toNat ≤ 57 := by
  induction u using Nat.strongRecOn with
  | _ u ih =>
    rw [Lib.decDigits]
    by_cases h : u < 10
    · rw [dif_pos h]
      have e : (UInt8.ofNat (48 + u)).toNat = 48 + u := by rw [UInt8.toNat_ofNat']; omega
      exact ⟨_, [], rfl, by omega, by omega⟩
    · rw [dif_neg h]
      obtain ⟨c, r, he, h1, h2⟩ := ih (u / 10) (by omega)
      exact ⟨c, r ++ [_], by rw [he]; rfl, h1, h2⟩
theorem uintB_dec (u : Nat) (hu : u ≤ 18446744073709551615) : Lib.parseUintB 64 (Lib.decDigits u) = .ok u := by
  obtain ⟨c, r, he, _⟩ := decDigits_head u
  unfold Lib.parseUintB
  rw [if_neg (by rw [he]; simp)]
  exact uintM_dec (by decide) u (by omega)
theorem parse_itoa {n : Int} (h : I64 n) : Lib.parseIntB 64 (Lib.itoa n) = .ok n := by
  unfold I64 at h
  unfold Lib.itoa
  by_cases hn : n < 0
  · rw [if_pos hn, Lib.parseIntB_minus, uintB_dec _ (by omega)]
    simp only [Lib.signedC]
    rw [if_neg (by omega)]
    congr 1
    omega
  · rw [if_neg hn]
    obtain ⟨c, r, he, h1, h2⟩ := decDigits_head n.toNat
    have hu := uintB_dec n.toNat (by omega)
    rw [he] at hu ⊢
    rw [Lib.parseIntB_plain _ _ _ (by omega) (by omega), hu]
    simp only [Lib.signlessC]
    rw [if_neg (by omega)]
    congr 1
    omega
theorem dec_list (n : Int) : (dec n).data.toList = Lib.itoa n := by unfold dec; simp
theorem dec_inj {n m : Int} (hn : I64 n) (hm : I64 m) (h : dec n = dec m) : n = m := by
  have h1 := parse_itoa hn
  have h2 := parse_itoa hm
  rw [← dec_list, h, dec_list, h2] at h1
  injection h1 with h1
  exact h1.symm
theorem trim_itoa (n : Int) : Lib.trimPrefix (Lib.itoa n) [45] = Lib.decDigits n.natAbs := by
  unfold Lib.itoa
  by_cases hn : n < 0
  · rw [if_pos hn]
    unfold Lib.trimPrefix
    have : Lib.hasPrefix (45 :: Lib.decDigits n.natAbs) [45] = true := by simp [Lib.hasPrefix]
    rw [if_pos this]
    rfl
  · rw [if_neg hn]
    obtain ⟨c, r, he, h1, h2⟩ := decDigits_head n.toNat
    have hne : c ≠ 45 := by intro e; subst e; exact absurd h1 (by decide)
    unfold Lib.trimPrefix
    have hp : Lib.hasPrefix (c :: r) [45] = false := by
      show ([45] : List UInt8).isPrefixOf (c :: r) = false
      simp only [List.isPrefixOf]
      simp [Ne.symm hne]
    rw [show n.natAbs = n.toNat by omega]
    rw [he, if_neg (by rw [hp]; decide)]
theorem nDigits_lt {u : Nat} (h : u < 10 ^ 18) : Lib.nDigits u ≤ 18 := by
  by_cases h18 : Lib.nDigits u ≤ 18
  · exact h18
  · exfalso
    have h2 : ∀ v, 10 ^ (Lib.nDigits v - 1) ≤ v ∨ v = 0 := by
      intro v
      induction v using Nat.strongRecOn with
      | _ v ih =>
        by_cases hv : v < 10
        · rw [Lib.nDigits_small hv]
          by_cases h0 : v = 0
          · exact .inr h0
          · exact .inl (by simp; omega)
        · left
          have hb := Lib.nDigits_big hv
          have hq := ih (v / 10) (by omega)
          have hp := Lib.nDigits_pos (v / 10)
          rcases hq with hq | hq
          · rw [hb, show Lib.nDigits (v / 10) + 1 - 1 = (Lib.nDigits (v / 10) - 1) + 1 by omega, Nat.pow_succ]
            omega
          · omega
    rcases h2 u with h3 | h3
    · have h4 : 10 ^ 18 ≤ 10 ^ (Lib.nDigits u - 1) := Nat.pow_le_pow_right (by decide) (by omega)
      omega
    · subst h3
      rw [Lib.nDigits_small (by decide)] at h18
      omega
theorem small_digits {n : Int} : Small n ↔ (Lib.decDigits n.natAbs).length ≤ 18 := by
  rw [Lib.decDigits_length]
  unfold Small
  constructor
  · intro h
    refine nDigits_lt ?_
    have : (10 : Nat) ^ 18 = 1000000000000000000 := by decide
    omega
  · intro h
    have h1 := Lib.lt_pow_nDigits n.natAbs
    have h2 : (10 : Nat) ^ Lib.nDigits n.natAbs ≤ 10 ^ 18 := Nat.pow_le_pow_right (by decide) h
    have : (10 : Nat) ^ 18 = 1000000000000000000 := by decide
    omega
/-- What a text reads as. -/
structure ReadsDec (s : ByteArray) (r : Option Int) : Prop where
  yes : ∀ n, r = some n → Small n ∧ s = dec n
  no : r = none → ∀ n, Small n → s ≠ dec n
theorem ReadsDec.uniq {s : ByteArray} {r q : Option Int} (h : ReadsDec s r) (k : ReadsDec s q) : r = q := by
  cases r with
  | none =>
    cases q with
    | none => rfl
    | some m => have := k.yes m rfl; exact absurd this.2 (h.no rfl m this.1)
  | some n =>
    have h1 := h.yes n rfl
    cases q with
    | none => exact absurd h1.2 (k.no rfl n h1.1)
    | some m =>
      have h2 := k.yes m rfl
      rw [dec_inj h1.1.i64 h2.1.i64 (h1.2.symm.trans h2.2)]
theorem ReadsDec.of {n : Int} (h : Small n) : ReadsDec (dec n) (some n) := ⟨fun m e => by injection e with e; subst e; exact ⟨h, rfl⟩, fun e => by cases e⟩
theorem dec_ne_nil (n : Int) : dec n ≠ ⟨#[]⟩ := fun e => by
  have h0 : (dec n).data.toList = [] := by rw [e]
  rw [dec_list] at h0
  have h1 := trim_itoa n
  rw [h0] at h1
  obtain ⟨c, r, he, _⟩ := decDigits_head n.natAbs
  rw [he] at h1
  cases h1
theorem ReadsDec.nil : ReadsDec ⟨#[]⟩ none := ⟨fun n e => (by cases e), fun _ n _ e => dec_ne_nil n e.symm⟩
theorem data_ext {a b : ByteArray} (h : a.data.toList = b.data.toList) : a = b := by
  cases a; cases b; congr 1; exact Array.toList_inj.1 h
/-- What a parse gives tells what is read. -/
theorem reads_no {s : ByteArray} (h : ∀ n, I64 n → Lib.parseIntB 64 s.data.toList = .ok n → s = dec n → ¬ Small n) : ReadsDec s none :=
  ⟨fun n e => (by cases e), fun _ n hn e => h n hn.i64 (by rw [e, dec_list]; exact parse_itoa hn.i64) e hn⟩
theorem parse_bd {l : List UInt8} {n : Int} (h : Lib.parseIntB 64 l = .ok n) : I64 n := by
  cases l with
  | nil => cases h
  | cons c r =>
    by_cases h45 : c.toNat = 45
    · have hc : c = 45 := UInt8.toNat_inj.1 h45
      subst hc
      rw [Lib.parseIntB_minus] at h
      cases hu : Lib.parseUintB 64 r with
      | ok u =>
        rw [hu] at h
        simp only [Lib.signedC] at h
        unfold I64
        split at h
        · cases h
        · injection h with h; omega
      | _ => rw [hu] at h; cases h
    · by_cases h43 : c.toNat = 43
      · have hc : c = 43 := UInt8.toNat_inj.1 h43
        subst hc
        rw [Lib.parseIntB_plus] at h
        cases hu : Lib.parseUintB 64 r with
        | ok u =>
          rw [hu] at h
          simp only [Lib.signlessC] at h
          unfold I64
          split at h
          · cases h
          · injection h with h; omega
        | _ => rw [hu] at h; cases h
      · rw [Lib.parseIntB_plain _ _ _ h43 h45] at h
        cases hu : Lib.parseUintB 64 (c :: r) with
        | ok u =>
          rw [hu] at h
          simp only [Lib.signlessC] at h
          unfold I64
          split at h
          · cases h
          · injection h with h; omega
        | _ => rw [hu] at h; cases h

end Go.Proofs.YtmldijckjenbcaaGreatDoor

namespace Go.Proofs.YtmldijckjenbcaaGreatDoor
open Go.RowKit

theorem index_hit {c : UInt8} : ∀ (A B : List UInt8), c ∉ A → Lib.index (A ++ c :: B) [c] = A.length
  | [], B, _ => by
    rw [List.nil_append, Lib.index, if_pos (by simp [List.isPrefixOf])]
    rfl
  | a :: A, B, h => by
    have ha : ¬ c = a := fun e => h (by rw [e]; exact List.mem_cons_self ..)
    have ih := index_hit A B (fun hm => h (List.mem_cons_of_mem _ hm))
    rw [List.cons_append, Lib.index, if_neg (by simp [List.isPrefixOf, ha]), ih]
    have hne : (((A.length : Nat) : Int) == -1) = false := by simp
    rw [hne]
    simp
theorem index_miss {c : UInt8} : ∀ (A : List UInt8), c ∉ A → Lib.index A [c] = -1
  | [], _ => rfl
  | a :: A, h => by
    have ha : ¬ c = a := fun e => h (by rw [e]; exact List.mem_cons_self ..)
    have ih := index_miss A (fun hm => h (List.mem_cons_of_mem _ hm))
    rw [Lib.index, if_neg (by simp [List.isPrefixOf, ha]), ih]
    rfl
theorem cut_hit {c : UInt8} (A B : List UInt8) (h : c ∉ A) : Lib.cut (A ++ c :: B) [c] = (A, B, true) := by
  unfold Lib.cut
  rw [index_hit A B h, if_pos (by omega)]
  simp
theorem digit_dec {u : Nat} : ∀ c ∈ Lib.decDigits u, 48 ≤ c.toNat ∧ c.toNat ≤ 57 := by
  induction u using Nat.strongRecOn with
  | _ u ih =>
    rw [Lib.decDigits]
    by_cases h : u < 10
    · rw [dif_pos h]
      intro c hc
      rw [List.mem_singleton.1 hc, UInt8.toNat_ofNat']
      omega
    · rw [dif_neg h]
      intro c hc
      rcases List.mem_append.1 hc with h1 | h1
      · exact ih (u / 10) (by omega) c h1
      · rw [List.mem_singleton.1 h1, UInt8.toNat_ofNat']
        omega
theorem itoa_pos {n : Int} (h : 0 ≤ n) : Lib.itoa n = Lib.decDigits n.toNat := by unfold Lib.itoa; rw [if_neg (by omega)]
theorem itoa_not {n : Int} (h : 0 ≤ n) {c : UInt8} (hc : c.toNat < 48) : c ∉ Lib.itoa n := fun hm => by
  rw [itoa_pos h] at hm
  have := digit_dec c hm
  omega
theorem itoa_inj {n m : Int} (hn : I64 n) (hm : I64 m) (h : Lib.itoa n = Lib.itoa m) : n = m := dec_inj hn hm (data_ext (by rw [dec_list, dec_list, h]))
theorem dec_of_list {n : Int} {l : List UInt8} (h : l = Lib.itoa n) : (⟨l.toArray⟩ : ByteArray) = dec n := by rw [h]; rfl
theorem cut_len (l p : List UInt8) : (Lib.cut l p).1.length ≤ l.length ∧ (Lib.cut l p).2.1.length ≤ l.length := by
  unfold Lib.cut
  split
  · exact ⟨by rw [List.length_take]; omega, by rw [List.length_drop]; omega⟩
  · exact ⟨Nat.le_refl _, by simp⟩

end Go.Proofs.YtmldijckjenbcaaGreatDoor

namespace Go.Proofs.YtmldijckjenbcaaGreatDoor
open Go.RowKit

theorem rev_ind {P : List UInt8 → Prop} (h0 : P []) (hs : ∀ l c, P l → P (l ++ [c])) (l : List UInt8) : P l := by
  have key : ∀ m : List UInt8, P m.reverse := by
    intro m
    induction m with
    | nil => exact h0
    | cons c m ih => rw [List.reverse_cons]; exact hs _ _ ih
  have := key l.reverse
  rwa [List.reverse_reverse] at this
def valN (l : List UInt8) : Nat := l.foldl (fun a c => 10 * a + (c.toNat - 48)) 0
theorem valN_snoc (l : List UInt8) (c : UInt8) : valN (l ++ [c]) = 10 * valN l + (c.toNat - 48) := by unfold valN; rw [List.foldl_append]; rfl
def allDig (l : List UInt8) : Bool := l.all digitC
theorem digitC_iff {c : UInt8} : digitC c = true ↔ 48 ≤ c.toNat ∧ c.toNat ≤ 57 := by unfold digitC; simp; omega
theorem byte_of {c : UInt8} (h : 48 ≤ c.toNat) (h2 : c.toNat ≤ 57) : UInt8.ofNat (48 + (c.toNat - 48)) = c := by
  rw [show 48 + (c.toNat - 48) = c.toNat by omega]
  exact UInt8.ofNat_toNat
theorem valN_bd : ∀ {l : List UInt8}, allDig l = true → valN l < 10 ^ l.length := by
  intro l
  refine rev_ind (P := fun l => allDig l = true → valN l < 10 ^ l.length) ?_ ?_ l
  · intro _; decide
  · intro l c ih h
    unfold allDig at h
    rw [List.all_append, Bool.and_eq_true] at h
    have hc := digitC_iff.1 (show digitC c = true by simpa using h.2)
    have := ih h.1
    rw [valN_snoc, List.length_append, List.length_singleton, Nat.pow_succ]
    omega
theorem valN_pos {c : UInt8} {r : List UInt8} (hc : 49 ≤ c.toNat) : 0 < valN (c :: r) := by
  have : ∀ (r : List UInt8) (a : Nat), 0 < a → 0 < r.foldl (fun a (c : UInt8) => 10 * a + (c.toNat - 48)) a := by
    intro r
    induction r with
    | nil => intro a h; exact h
    | cons d r ih => intro a h; exact ih _ (by show 0 < 10 * a + (d.toNat - 48); omega)
  unfold valN
  exact this r _ (by show 0 < 10 * 0 + (c.toNat - 48); omega)
/-- Digits without a leading zero are the number's own. -/
theorem dec_val : ∀ {l : List UInt8}, allDig l = true → l ≠ [] → (l.length = 1 ∨ ∃ c r, l = c :: r ∧ c.toNat ≠ 48) → Lib.decDigits (valN l) = l := by
  intro l
  refine rev_ind (P := fun l => allDig l = true → l ≠ [] → (l.length = 1 ∨ ∃ c r, l = c :: r ∧ c.toNat ≠ 48) → Lib.decDigits (valN l) = l) ?_ ?_ l
  · intro _ h; exact absurd rfl h
  · intro l c ih h _ hz
    unfold allDig at h
    rw [List.all_append, Bool.and_eq_true] at h
    have hc := digitC_iff.1 (show digitC c = true by simpa using h.2)
    rw [valN_snoc]
    cases l with
    | nil =>
      have e : 10 * valN [] + (c.toNat - 48) = c.toNat - 48 := by show 10 * 0 + _ = _; omega
      rw [e, Lib.decDigits, dif_pos (by omega), byte_of hc.1 hc.2]
      rfl
    | cons d r =>
      have hd48 : d.toNat ≠ 48 := by
        rcases hz with h1 | ⟨c', r', h1, h2⟩
        · simp at h1
        · rw [List.cons_append] at h1
          injection h1 with h1 _
          rw [h1]; exact h2
      have hdd := digitC_iff.1 (show digitC d = true by have := h.1; simp at this; exact this.1)
      have hpos := valN_pos (c := d) (r := r) (by omega)
      have hi := ih h.1 (by simp) (.inr ⟨d, r, rfl, hd48⟩)
      rw [Lib.decDigits, dif_neg (by omega), show (10 * valN (d :: r) + (c.toNat - 48)) / 10 = valN (d :: r) by omega, show (10 * valN (d :: r) + (c.toNat - 48)) % 10 = c.toNat - 48 by omega, hi, byte_of hc.1 hc.2]
theorem dec_head48 {u : Nat} (h : 0 < u) : ∃ c r, Lib.decDigits u = c :: r ∧ c.toNat ≠ 48 := by
  induction u using Nat.strongRecOn with
  | _ u ih =>
    rw [Lib.decDigits]
    by_cases h10 : u < 10
    · rw [dif_pos h10]
      have e : (UInt8.ofNat (48 + u)).toNat = 48 + u := by rw [UInt8.toNat_ofNat']; omega
      exact ⟨_, [], rfl, by omega⟩
    · rw [dif_neg h10]
      obtain ⟨c, r, he, h1⟩ := ih (u / 10) (by omega) (by omega)
      exact ⟨c, r ++ [_], by rw [he]; rfl, h1⟩
theorem allDig_dec (u : Nat) : allDig (Lib.decDigits u) = true := by
  unfold allDig
  rw [List.all_eq_true]
  exact fun c hc => digitC_iff.2 (digit_dec c hc)
/-- A text that is a sign or none and a body of digits. -/
theorem reads_body {s : ByteArray} {neg : Bool} {ds : List UInt8} (hs : s.data.toList = (if neg then 45 :: ds else ds)) (hd : allDig ds = true) (h0 : ds ≠ []) (h18 : ds.length ≤ 18) (hz : ∀ c r, ds = c :: r → c.toNat = 48 → s.data.toList.length ≤ 1) :
    ReadsDec s (some (if neg then -(valN ds : Int) else (valN ds : Int))) := by
  have hb := valN_bd hd
  have hp : (10 : Nat) ^ ds.length ≤ 10 ^ 18 := Nat.pow_le_pow_right (by decide) h18
  have h18e : (10 : Nat) ^ 18 = 1000000000000000000 := by decide
  have hlz : ds.length = 1 ∨ ∃ c r, ds = c :: r ∧ c.toNat ≠ 48 := by
    cases ds with
    | nil => exact absurd rfl h0
    | cons c r =>
      by_cases e : c.toNat = 48
      · left
        have := hz c r rfl e
        rw [hs] at this
        cases neg <;> simp at this ⊢ <;> omega
      · exact .inr ⟨c, r, rfl, e⟩
  have hv := dec_val hd h0 hlz
  have hsm : Small (if neg then -(valN ds : Int) else (valN ds : Int)) := by
    unfold Small
    cases neg <;> simp <;> omega
  have he : s = dec (if neg then -(valN ds : Int) else (valN ds : Int)) := by
    refine data_ext ?_
    rw [hs, dec_list]
    cases neg with
    | false => simp only [Bool.false_eq_true, if_false]; rw [itoa_pos (by omega), Int.toNat_natCast, hv]
    | true =>
      have hvp : 0 < valN ds := by
        cases ds with
        | nil => exact absurd rfl h0
        | cons c r =>
          have hc := digitC_iff.1 (show digitC c = true by unfold allDig at hd; simp at hd; exact hd.1)
          have : c.toNat ≠ 48 := fun e => by have := hz c r rfl e; rw [hs] at this; simp at this
          exact valN_pos (by omega)
      simp only [if_true]
      unfold Lib.itoa
      rw [if_pos (by omega), show (-(valN ds : Int)).natAbs = valN ds by omega, hv]
  exact ⟨fun n e => by injection e with e; subst e; exact ⟨hsm, he⟩, fun e => by cases e⟩
/-- A text that reads as a number is a sign or none and a body of digits. -/
theorem body_of {n : Int} (h : Small n) : ∃ (neg : Bool) (ds : List UInt8), (dec n).data.toList = (if neg then 45 :: ds else ds) ∧ allDig ds = true ∧ ds ≠ [] ∧ ds.length ≤ 18 ∧ (∀ c r, ds = c :: r → c.toNat = 48 → (dec n).data.toList.length ≤ 1) := by
  have h18 := small_digits.1 h
  obtain ⟨c, r, he, _⟩ := decDigits_head n.natAbs
  by_cases hn : n < 0
  · refine ⟨true, Lib.decDigits n.natAbs, ?_, allDig_dec _, by rw [he]; simp, h18, ?_⟩
    · rw [dec_list]; unfold Lib.itoa; rw [if_pos hn]; rfl
    · intro c r e e48
      obtain ⟨c2, r2, h1, h2⟩ := dec_head48 (u := n.natAbs) (by omega)
      rw [h1] at e
      injection e with e _
      rw [e] at h2
      exact absurd e48 h2
  · refine ⟨false, Lib.decDigits n.natAbs, ?_, allDig_dec _, by rw [he]; simp, h18, ?_⟩
    · rw [dec_list, itoa_pos (by omega), show n.toNat = n.natAbs by omega]; rfl
    · intro c r e e48
      by_cases h0 : n = 0
      · subst h0
        rw [dec_list, itoa_zero]
        exact Nat.le_refl _
      · obtain ⟨c2, r2, h1, h2⟩ := dec_head48 (u := n.natAbs) (by omega)
        rw [h1] at e
        injection e with e _
        rw [e] at h2
        exact absurd e48 h2
/-- A text that is no such thing reads as none. -/
theorem reads_bad {s : ByteArray} (h : ∀ (neg : Bool) (ds : List UInt8), s.data.toList = (if neg then 45 :: ds else ds) → allDig ds = true → ds ≠ [] → ds.length ≤ 18 → (∀ c r, ds = c :: r → c.toNat = 48 → s.data.toList.length ≤ 1) → False) : ReadsDec s none :=
  ⟨fun n e => (by cases e), fun _ n hn e => by
    obtain ⟨neg, ds, h1, h2, h3, h4, h5⟩ := body_of hn
    rw [← e] at h1 h5
    exact h neg ds h1 h2 h3 h4 h5⟩

end Go.Proofs.YtmldijckjenbcaaGreatDoor

namespace Go.Proofs.YtmldijckjenbcaaGreatDoor
open Go.RowKit

theorem body_uniq {s : ByteArray} {neg neg' : Bool} {body ds : List UInt8} (hs : s.data.toList = (if neg then 45 :: body else body)) (h45 : neg = false → ∀ c r, body = c :: r → c ≠ 45) (hs' : s.data.toList = (if neg' then 45 :: ds else ds)) (hd : allDig ds = true) : neg' = neg ∧ ds = body := by
  rw [hs] at hs'
  have hdig : ∀ c r, ds = c :: r → c ≠ 45 := fun c r e e45 => by
    rw [e] at hd
    unfold allDig at hd
    have := digitC_iff.1 (show digitC c = true by simp at hd; exact hd.1)
    rw [e45] at this
    exact absurd this.1 (by decide)
  cases neg with
  | true =>
    cases neg' with
    | true => simp only [if_true] at hs'; injection hs' with _ h; exact ⟨rfl, h.symm⟩
    | false => simp only [if_true, Bool.false_eq_true, if_false] at hs'; exact absurd rfl (hdig 45 body hs'.symm)
  | false =>
    cases neg' with
    | true => simp only [if_true, Bool.false_eq_true, if_false] at hs'; exact absurd rfl (h45 rfl 45 ds hs')
    | false => simp only [Bool.false_eq_true, if_false] at hs'; exact ⟨rfl, hs'.symm⟩
section
variable {s : ByteArray} {neg : Bool} {body : List UInt8} (hs : s.data.toList = (if neg then 45 :: body else body)) (h45 : neg = false → ∀ c r, body = c :: r → c ≠ 45)
include hs h45
theorem bad_empty (h : body = []) : ReadsDec s none := reads_bad fun _ _ h1 h2 h3 _ _ => h3 ((body_uniq hs h45 h1 h2).2.trans h)
theorem bad_long (h : 18 < body.length) : ReadsDec s none := reads_bad fun _ _ h1 h2 _ h4 _ => by
  rw [(body_uniq hs h45 h1 h2).2] at h4; omega
theorem bad_zero {c : UInt8} {r : List UInt8} (h : body = c :: r) (hc : c.toNat = 48) (hl : 1 < s.size) : ReadsDec s none := reads_bad fun _ _ h1 h2 _ _ h5 => by
  have := h5 c r ((body_uniq hs h45 h1 h2).2.trans h) hc
  rw [Array.length_toList] at this
  have h2 : s.data.size = s.size := rfl
  omega
theorem bad_digit {c : UInt8} (h : c ∈ body) (hc : digitC c = false) : ReadsDec s none := reads_bad fun _ _ h1 h2 _ _ _ => by
  rw [(body_uniq hs h45 h1 h2).2] at h2
  unfold allDig at h2
  have := List.all_eq_true.1 h2 c h
  rw [this] at hc; cases hc
end
theorem str_at {s : ByteArray} {k : Nat} (h : k < s.size) : s.data.toList[k]? = some s[k] := by
  rw [List.getElem?_eq_getElem (by rw [Array.length_toList]; exact h)]
  rfl
theorem pow17 {k : Nat} (h : k ≤ 17) : (10 : Nat) ^ k ≤ 100000000000000000 := by
  have : (10 : Nat) ^ k ≤ 10 ^ 17 := Nat.pow_le_pow_right (by decide) h
  have e : (10 : Nat) ^ 17 = 100000000000000000 := by decide
  omega
theorem allDig_take {l : List UInt8} {k : Nat} {c : UInt8} (h : allDig (l.take k) = true) (hc : l[k]? = some c) (hd : digitC c = true) : allDig (l.take (k + 1)) = true := by
  obtain ⟨hk, he⟩ := List.getElem?_eq_some_iff.1 hc
  rw [List.take_succ_eq_append_getElem hk, he]
  unfold allDig at h ⊢
  rw [List.all_append, h]
  simp [hd]
theorem valN_take {l : List UInt8} {k : Nat} {c : UInt8} (hc : l[k]? = some c) : valN (l.take (k + 1)) = 10 * valN (l.take k) + (c.toNat - 48) := by
  obtain ⟨hk, he⟩ := List.getElem?_eq_some_iff.1 hc
  rw [List.take_succ_eq_append_getElem hk, he, valN_snoc]

end Go.Proofs.YtmldijckjenbcaaGreatDoor

namespace Go.Proofs.YtmldijckjenbcaaGreatDoor
open Go.RowKit

def joinE (c : UInt8) (ps : List ByteArray) : List UInt8 := ps.flatMap (fun p => p.data.toList ++ [c])
theorem joinE_snoc (c : UInt8) (ps : List ByteArray) (p : ByteArray) : joinE c (ps ++ [p]) = joinE c ps ++ (p.data.toList ++ [c]) := by unfold joinE; rw [List.flatMap_append]; simp
theorem joinE_cons (c : UInt8) (ps : List ByteArray) (p : ByteArray) : joinE c (p :: ps) = p.data.toList ++ c :: joinE c ps := by unfold joinE; simp
/-- The pieces of a text at a byte. -/
structure Pieces (c : UInt8) (l : List UInt8) (ps : List ByteArray) (last : ByteArray) : Prop where
  all : l = joinE c ps ++ last.data.toList
  no : ∀ p, p ∈ ps → c ∉ p.data.toList
  nolast : c ∉ last.data.toList
theorem first_uniq {c : UInt8} : ∀ {a b x y : List UInt8}, c ∉ a → c ∉ b → a ++ c :: x = b ++ c :: y → a = b ∧ x = y
  | [], [], _, _, _, _, h => by injection h with _ h; exact ⟨rfl, h⟩
  | [], d :: b, _, _, _, hb, h => by
    injection h with h _
    exact absurd (by rw [h]; exact List.mem_cons_self ..) hb
  | d :: a, [], _, _, ha, _, h => by
    injection h with h _
    exact absurd (by rw [← h]; exact List.mem_cons_self ..) ha
  | d :: a, e :: b, _, _, ha, hb, h => by
    injection h with h1 h2
    obtain ⟨h3, h4⟩ := first_uniq (fun m => ha (List.mem_cons_of_mem _ m)) (fun m => hb (List.mem_cons_of_mem _ m)) h2
    exact ⟨by rw [h1, h3], h4⟩
theorem Pieces.uniq {c : UInt8} : ∀ {l : List UInt8} {ps qs : List ByteArray} {x y : ByteArray}, Pieces c l ps x → Pieces c l qs y → ps = qs ∧ x = y
  | l, [], [], x, y, h, k => ⟨rfl, data_ext (h.all.symm.trans k.all)⟩
  | l, [], q :: qs, x, y, h, k => by
    have e := h.all.symm.trans k.all
    rw [joinE_cons] at e
    exact absurd (show c ∈ x.data.toList by rw [show x.data.toList = _ from e]; simp) h.nolast
  | l, p :: ps, [], x, y, h, k => by
    have e := k.all.symm.trans h.all
    rw [joinE_cons] at e
    exact absurd (show c ∈ y.data.toList by rw [show y.data.toList = _ from e]; simp) k.nolast
  | l, p :: ps, q :: qs, x, y, h, k => by
    have e := h.all.symm.trans k.all
    rw [joinE_cons, joinE_cons, List.append_assoc, List.append_assoc, List.cons_append, List.cons_append] at e
    obtain ⟨e1, e2⟩ := first_uniq (h.no p (List.mem_cons_self ..)) (k.no q (List.mem_cons_self ..)) e
    obtain ⟨f1, f2⟩ := Pieces.uniq (l := joinE c ps ++ x.data.toList) ⟨rfl, fun p hp => h.no p (List.mem_cons_of_mem _ hp), h.nolast⟩ ⟨e2, fun p hp => k.no p (List.mem_cons_of_mem _ hp), k.nolast⟩
    exact ⟨by rw [data_ext e1, f1], f2⟩
/-- A text of two pieces. -/
theorem Pieces.two {c : UInt8} {l : List UInt8} {ps : List ByteArray} {x a b : ByteArray} (h : Pieces c l ps x) (hl : l = a.data.toList ++ c :: b.data.toList) (ha : c ∉ a.data.toList) (hb : c ∉ b.data.toList) : ps = [a] ∧ x = b :=
  h.uniq (qs := [a]) ⟨by rw [joinE_cons, hl]; simp [joinE], fun p hp => by rw [List.mem_singleton.1 hp]; exact ha, hb⟩
theorem extract_list (s : ByteArray) (a b : Nat) : (s.extract a b).data.toList = (s.data.toList.take b).drop a := by
  rw [ByteArray.data_extract, Array.toList_extract, List.extract_eq_take_drop, List.drop_take]
/-- What is known in the middle of the splitting: k bytes are read, the piece under way begins at f. -/
structure SplitSt (c : UInt8) (l : List UInt8) (k f : Nat) (ps : List ByteArray) : Prop where
  fk : f ≤ k
  pre : l.take f = joinE c ps
  no : ∀ p, p ∈ ps → c ∉ p.data.toList
  cur : c ∉ (l.take k).drop f
  len : ps.length ≤ k
theorem SplitSt.start (c : UInt8) (l : List UInt8) : SplitSt c l 0 0 [] := ⟨Nat.le_refl _, by simp [joinE], fun _ h => (by cases h), by simp, Nat.le_refl _⟩
theorem SplitSt.miss {c d : UInt8} {l : List UInt8} {k f : Nat} {ps : List ByteArray} (h : SplitSt c l k f ps) (hd : l[k]? = some d) (hne : d ≠ c) : SplitSt c l (k + 1) f ps := by
  obtain ⟨hk, he⟩ := List.getElem?_eq_some_iff.1 hd
  refine ⟨Nat.le_succ_of_le h.fk, h.pre, h.no, ?_, Nat.le_succ_of_le h.len⟩
  rw [List.take_succ_eq_append_getElem hk, List.drop_append_of_le_length (by rw [List.length_take]; have := h.fk; omega), he]
  intro hm
  rcases List.mem_append.1 hm with h1 | h1
  · exact h.cur h1
  · exact hne (List.mem_singleton.1 h1).symm
theorem SplitSt.hit {c : UInt8} {s : ByteArray} {k f : Nat} {ps : List ByteArray} (h : SplitSt c s.data.toList k f ps) (hd : s.data.toList[k]? = some c) : SplitSt c s.data.toList (k + 1) (k + 1) (ps ++ [s.extract f k]) := by
  obtain ⟨hk, he⟩ := List.getElem?_eq_some_iff.1 hd
  refine ⟨Nat.le_refl _, ?_, ?_, by rw [List.drop_of_length_le (by rw [List.length_take]; omega)]; simp, by rw [List.length_append, List.length_singleton]; have := h.len; omega⟩
  · rw [joinE_snoc, ← h.pre, extract_list, List.take_succ_eq_append_getElem hk, he, ← List.append_assoc]
    congr 1
    have e := List.take_append_drop f (s.data.toList.take k)
    rw [List.take_take, Nat.min_eq_left h.fk] at e
    exact e.symm
  · intro p hp
    rcases List.mem_append.1 hp with h1 | h1
    · exact h.no p h1
    · rw [List.mem_singleton.1 h1, extract_list]; exact h.cur
theorem SplitSt.done {c : UInt8} {s : ByteArray} {f : Nat} {ps : List ByteArray} (h : SplitSt c s.data.toList s.size f ps) : Pieces c s.data.toList ps (s.extract f s.size) := by
  have hl : s.data.toList.length = s.size := by rw [Array.length_toList]; rfl
  have ht : s.data.toList.take s.size = s.data.toList := List.take_of_length_le (by omega)
  have hc := h.cur
  rw [ht] at hc
  refine ⟨?_, h.no, by rw [extract_list, ht]; exact hc⟩
  rw [extract_list, ht, ← h.pre, List.take_append_drop]

end Go.Proofs.YtmldijckjenbcaaGreatDoor

namespace Go.Proofs.YtmldijckjenbcaaGreatDoor
open Go.RowKit

theorem strcells_len (p : ByteArray) : (strcells p).length = 1 := rfl
theorem strcells_one (p : ByteArray) : ∀ u ∈ strcells p, u.oneCell' = true := by intro u hu; simp [strcells] at hu; subst hu; rfl
theorem infoStr : (Tryz.prog.info? 9).map (fun i => (i.zero, i.size, i.bytes)) = some (some (.string ⟨#[]⟩), 1, 16) := by kernel_rfl

end Go.Proofs.YtmldijckjenbcaaGreatDoor

namespace Go.Proofs.YtmldijckjenbcaaGreatDoor
open Go.RowKit

theorem list_size (l : List UInt8) : (⟨l.toArray⟩ : ByteArray).size = l.length := by show l.toArray.size = _; simp
def accText (xs : List Int) : ByteArray := ⟨(Lib.join (xs.map Lib.itoa) [44]).toArray⟩
def textList (xs : List Int) : ByteArray := if xs = [] then ⟨#[45]⟩ else accText xs
theorem join_snoc (l : List (List UInt8)) (y sep : List UInt8) (h : l ≠ []) : Lib.join (l ++ [y]) sep = Lib.join l sep ++ sep ++ y := by
  cases l with
  | nil => exact absurd rfl h
  | cons a r =>
    rw [List.cons_append, Lib.join_cons, Lib.join_cons]
    simp [Lib.joinTail, List.append_assoc]
theorem accText_nil : accText [] = ⟨#[]⟩ := rfl
theorem accText_one (x : Int) : accText [x] = dec x := by
  unfold accText
  rw [List.map_cons, List.map_nil, Lib.join_one]
  rfl
theorem accText_snoc (l : List Int) (y : Int) (h : l ≠ []) : accText (l ++ [y]) = (accText l ++ ⟨#[44]⟩) ++ dec y := by
  refine data_ext ?_
  unfold accText
  rw [List.map_append, List.map_cons, List.map_nil, join_snoc _ _ _ (by simpa using h)]
  simp [dec_list, ByteArray.data_append]
theorem accText_size : ∀ (l : List Int), (∀ y, y ∈ l → I64 y) → (accText l).size ≤ 22 * l.length := by
  intro l
  have key : ∀ m : List Int, (∀ y, y ∈ m.reverse → I64 y) → (accText m.reverse).size ≤ 22 * m.length := by
    intro m
    induction m with
    | nil => intro _; exact Nat.zero_le _
    | cons c m ih =>
      intro h
      rw [List.reverse_cons] at h ⊢
      have hc := dec_size (h c (by simp))
      have hm := ih (fun y hy => h y (List.mem_append.2 (.inl hy)))
      by_cases he : m.reverse = []
      · rw [he, List.nil_append, accText_one, List.length_cons]
        omega
      · rw [accText_snoc _ _ he, ByteArray.size_append, ByteArray.size_append, List.length_cons]
        have : (⟨#[44]⟩ : ByteArray).size = 1 := rfl
        omega
  intro h
  have := key l.reverse (by rwa [List.reverse_reverse])
  rwa [List.reverse_reverse, List.length_reverse] at this
theorem join_decs (xs : List Int) : (⟨(Lib.join ((xs.map dec).map (·.data.toList)) [44]).toArray⟩ : ByteArray) = accText xs := by
  unfold accText
  rw [List.map_map]
  congr 4
theorem take_snocL {xs : List Int} {k : Nat} {x : Int} (h : xs[k]? = some x) : xs.take (k + 1) = xs.take k ++ [x] := by
  obtain ⟨hk, he⟩ := List.getElem?_eq_some_iff.1 h
  rw [List.take_succ_eq_append_getElem hk, he]
theorem textList_size {xs : List Int} (h : ∀ y, y ∈ xs → I64 y) : (textList xs).size ≤ 22 * xs.length + 1 := by
  unfold textList
  by_cases e : xs = []
  · rw [if_pos e]
    have : (⟨#[45]⟩ : ByteArray).size = 1 := rfl
    omega
  · rw [if_neg e]
    have := accText_size xs h
    omega

end Go.Proofs.YtmldijckjenbcaaGreatDoor

namespace Go.Proofs.YtmldijckjenbcaaGreatDoor
open Go.RowKit

theorem make_0 {P : Program} {t e : TypeId} {z : Value} {sz bytes n : Nat} (ht : P.underlying t = some (.slice e)) (hinfo : (P.info? e).map (fun i => (i.zero, i.size, i.bytes)) = some (some z, sz, bytes)) (hb : bytes * n ≤ 281474976710656) (hn : n ≤ 9223372036854775807) (w : World) :
    (Instr.makeSlice t (.int .i64 0) (.int .i64 (n : Int))).run P w = .ok (.slice (some ⟨w.heap.size, 0, none⟩) 0 n) (w.alloc (.cells (madeCells z.cells (n * sz)) e)) := by
  cases hi : P.info? e with
  | none => rw [hi] at hinfo; cases hinfo
  | some i =>
    rw [hi] at hinfo
    simp only [Option.map_some, Option.some.injEq, Prod.mk.injEq] at hinfo
    obtain ⟨h1, rfl, rfl⟩ := hinfo
    have h2 : ((i.bytes * n : Nat) : Int) ≤ 281474976710656 := by omega
    rw [Int.natCast_mul] at h2
    have h := run_make (P := P) w t e i z ht hi h1 .i64 .i64 0 (n : Int) (by omega) (by omega) h2 (by omega)
    simpa using h
theorem own_made0 {α : Type} (w : World) (z : Array Value) (n : Nat) (T : TypeId) (cells : α → List Value) (hn : n ≤ maxLen) : OwnsL (w.alloc (.cells (madeCells z n) T)) w.heap.size T 1 cells (.slice (some ⟨w.heap.size, 0, none⟩) 0 n) [] :=
  ⟨rfl, .inr ⟨w.heap.size, n, madeCells z n, rfl, Nat.le_refl _, Own.new w _ _, Nat.zero_le _, hn, by rw [size_madeCells, Nat.mul_one], by simp⟩⟩
set_option maxRecDepth 100000 in
set_option maxHeartbeats 2000000 in
theorem implListText_any (A : Option Addr) (n c : Nat) (xs : List Int) (w : World) (hx : SliceOf w 1 i64cells A n xs) (hn : n ≤ 64) (hb : ∀ y, y ∈ xs → -1000000000000 ≤ y ∧ y ≤ 1000000000000) (ht : TabAt w.heap.size w) : Calls Tryz.prog 26 #[.slice A n c] w (Ret (.string (textList xs)) w) := by
  have hl := hx.len
  by_cases h0 : n = 0
  · subst h0
    obtain rfl : xs = [] := List.eq_nil_of_length_eq_zero hl
    go_enter Tryz.func26, Tryz.ntmps26
    go_wp2
    go_ret
    exact Ret.mk rfl (Below.refl _ _)
  have hne : ((n : Int) == 0) = false := by simp; omega
  have hgt : decide ((64 : Int) < (n : Int)) = false := decide_eq_false (by omega)
  have HI64 : Hid (∀ y, y ∈ xs → I64 y) := fun y hy => by have := hb y hy; unfold I64; omega
  have HX := Lib.hid hx
  have HL := Lib.hid hl
  have HBD := Lib.hid hb
  have HT := Lib.hid ht
  have hmk := make_0 (P := Tryz.prog) (t := 72) (n := n) Tryz.underlying72 infoStr (by omega) (by omega)
  have HOA := Lib.hid (own_made0 w (Value.string ⟨#[]⟩).cells (n * 1) 9 strcells (by simp [maxLen]; omega))
  rw [Nat.mul_one] at HOA
  have HBA := Lib.hid ((Below.refl w.heap.size w).alloc (Nat.le_refl _) (.cells (madeCells (Value.string ⟨#[]⟩).cells (n * 1)) 9))
  rw [Nat.mul_one] at HBA
  clear hx hl hb ht
  go_enter Tryz.func26, Tryz.ntmps26
  go_wp2
  clear hmk
  go_loopg [3, 17] n (fun gk s3 s17 wr => ∃ (k : Nat) (x : Value), k ≤ n ∧ gk = n - k ∧ x = s3 ∧ s17 = .int .i64 (k : Int) ∧ OwnsL wr w.heap.size 9 1 strcells x ((xs.take k).map dec) ∧ Below w.heap.size w wr)
  case atStart => exact ⟨0, _, Nat.zero_le _, rfl, rfl, rfl, HOA.out, HBA.out⟩
  case round =>
    obtain ⟨k, x, hk, hgk, rfl, rfl, hown, hb⟩ := hrel
    have Hgk := Lib.hid hgk
    have HOW := Lib.hid hown
    have HB := Lib.hid hb
    have HTR := Lib.hid ((HT.out.on hb).up hb.size)
    have hxr := HX.out.below hb
    clear hgk hown hb
    by_cases hlt : k < n
    · obtain ⟨b, o, y, rfl, hbb, hyk, y0⟩ := ints_at hxr hlt
      have HYK := Lib.hid hyk
      have hyb := HBD.out y (List.mem_of_getElem? hyk)
      have hin : inB y (-1000000000000) 1000000000000 = true := inB_iff.2 hyb
      have HSN : Hid ((xs.take (k + 1)).map dec = (xs.take k).map dec ++ [dec y]) := by rw [Hid, take_snocL HYK.out]; simp
      clear hyk hxr
      go_wp2_with (first | (go_at_call 39; refine (within_any _ _ _ _).mono ?_; rintro e w' ⟨rfl, rfl⟩; rw [hin]) | (go_at_call 45; refine (implDecimal_any y wr (HI64.out y (List.mem_of_getElem? HYK.out)) HTR.out).mono ?_; rintro e w5 ⟨rfl, hb5⟩; have HB5 := Lib.hid (HB.out.trans (hb5.mono HB.out.size)); have HO5 := Lib.hid (HOW.out.below' hb5); clear hb5 y0 hbb) | (at_builtin; refine wpList_push (by rfl) (.tmp 24) (.tmp 27) 72 (by rfl) w.heap.size 9 1 Tryz.underlying72 infoStr (by rfl) (by decide) strcells strcells_len strcells_one _ x ((xs.take k).map dec) (dec y) (by simp [strcells]) (by rfl) HO5.out (by first | rfl | simp [go_sem]) (by rw [List.length_map, List.length_take]; omega) (by decide) HB5.out.size ?_))
      intro v' w' hown' hb' _
      have HON := Lib.hid hown'
      have HBN := Lib.hid (HB5.out.trans (hb'.mono (Nat.le_refl _)))
      clear hown' hb'
      go_wp2
      go_roundg (n - (k + 1))
      case measure => have := Hgk.out; omega
      case rel => exact ⟨k + 1, v', by omega, rfl, rfl, by go_num, by rw [HSN.out, List.map_take]; exact HON.out, HBN.out⟩
    · have hkn : k = n := by omega
      subst hkn
      have hfull : xs.take k = xs := List.take_of_length_le (by rw [HL.out]; exact Nat.le_refl _)
      have hown := HOW.out
      rw [hfull] at hown
      have hlen : (xs.map dec).length = k := by rw [List.length_map]; exact HL.out
      obtain ⟨C, cp, rfl, hcp, _, hsl⟩ := hown.slice strcells_len
      rw [hlen] at hcp hsl ⊢
      obtain ⟨bk, o, rfl, hbk, hcl⟩ := hsl.base_ (by omega)
      have hne2 : xs ≠ [] := fun e => by rw [e] at HL; have := HL.out; simp at this; omega
      have HJ := Lib.hid (Tryz.strings_Join bk o cp (xs.map dec) ⟨#[44]⟩ wr (fun j z hz => by have := hcl j z 0 _ hz rfl; simpa using this) hbk (by omega) (by omega) (by
        have e := join_decs xs
        have h1 := accText_size xs HI64.out
        have h2 := HL.out
        rw [← e] at h1
        have h3 : (Lib.join ((xs.map dec).map (·.data.toList)) [44]).length ≤ 22 * xs.length := by rw [list_size] at h1; exact h1
        have h4 : (⟨#[44]⟩ : ByteArray).data.toList = [44] := rfl
        rw [h4]
        omega))
      rw [hlen] at HJ
      have HE : Hid ((⟨(Lib.join ((xs.map dec).map (·.data.toList)) (⟨#[44]⟩ : ByteArray).data.toList).toArray⟩ : ByteArray) = textList xs) := by
        have h4 : (⟨#[44]⟩ : ByteArray).data.toList = [44] := rfl
        rw [Hid, h4, join_decs, textList, if_neg hne2]
      clear hfull hown hlen hcp hsl hbk hcl hne2 hxr hlt
      go_wp2_with fail
      refine HJ.out.mono ?_
      rintro e w6 ⟨rfl, hb6⟩
      rw [HE.out]
      have HB6 := Lib.hid (HB.out.trans (hb6.mono HB.out.size))
      clear hb6
      go_wp2
      go_ret
      exact Ret.mk rfl HB6.out

end Go.Proofs.YtmldijckjenbcaaGreatDoor

namespace Go.Proofs.YtmldijckjenbcaaGreatDoor
open Go.RowKit

theorem itoa_mem {n : Int} {c : UInt8} (h : c ∈ Lib.itoa n) : c = 45 ∨ 48 ≤ c.toNat ∧ c.toNat ≤ 57 := by
  unfold Lib.itoa at h
  split at h
  · rcases List.mem_cons.1 h with h | h
    · exact .inl h
    · exact .inr (digit_dec c h)
  · exact .inr (digit_dec c h)
theorem itoa_no44 (n : Int) : (44 : UInt8) ∉ Lib.itoa n := fun h => by
  rcases itoa_mem h with h | h
  · exact absurd h (by decide)
  · exact absurd h.1 (by decide)
theorem itoa_ne45 (n : Int) : Lib.itoa n ≠ [45] := by
  obtain ⟨c, r, he, h1, _⟩ := decDigits_head n.natAbs
  unfold Lib.itoa
  split
  · rw [he]; intro h; injection h with _ h; cases h
  · rename_i hn
    rw [show n.toNat = n.natAbs by omega, he]
    intro h
    injection h with h _
    rw [h] at h1
    exact absurd h1 (by decide)
theorem joinE_text : ∀ (ys : List Int) (z : Int), joinE 44 (ys.map dec) ++ Lib.itoa z = Lib.join ((ys ++ [z]).map Lib.itoa) [44]
  | [], z => by simp [joinE, Lib.join_one]
  | y :: ys, z => by
    have ih := joinE_text ys z
    rw [List.map_cons, joinE_cons, List.append_assoc, List.cons_append, ih, List.cons_append, List.map_cons, dec_list]
    cases h : (ys ++ [z]).map Lib.itoa with
    | nil => simp at h
    | cons a r => rw [Lib.join_cons, Lib.join_cons]; simp [Lib.joinTail]
theorem pieces_list (ys : List Int) (z : Int) : Pieces 44 (accText (ys ++ [z])).data.toList (ys.map dec) (dec z) :=
  ⟨by rw [dec_list]; exact (joinE_text ys z).symm, fun p hp => by
    obtain ⟨y, _, rfl⟩ := List.mem_map.1 hp
    rw [dec_list]; exact itoa_no44 y, by rw [dec_list]; exact itoa_no44 z⟩
theorem text_of_pieces {s : ByteArray} {ps : List ByteArray} {last : ByteArray} {xs : List Int} (h : Pieces 44 s.data.toList ps last) (he : ps ++ [last] = xs.map dec) : xs ≠ [] ∧ s = textList xs := by
  have hne : xs ≠ [] := fun e => by rw [e] at he; simp at he
  refine ⟨hne, ?_⟩
  rw [textList, if_neg hne]
  rcases List.eq_nil_or_concat xs with e | ⟨ys, z, e⟩
  · exact absurd e hne
  · rw [List.concat_eq_append] at e
    subst e
    rw [List.map_append, List.map_cons, List.map_nil] at he
    obtain ⟨h1, h2⟩ := List.append_inj' he rfl
    injection h2 with h2 _
    refine data_ext ?_
    rw [h.all, h1, h2, dec_list]
    exact joinE_text ys z
theorem pieces_text {xs : List Int} (hne : xs ≠ []) {s : ByteArray} (hs : s = textList xs) {ps : List ByteArray} {last : ByteArray} (h : Pieces 44 s.data.toList ps last) : ps ++ [last] = xs.map dec := by
  rw [textList, if_neg hne] at hs
  rcases List.eq_nil_or_concat xs with e | ⟨ys, z, e⟩
  · exact absurd e hne
  · rw [List.concat_eq_append] at e
    subst e
    rw [hs] at h
    obtain ⟨h1, h2⟩ := h.uniq (pieces_list ys z)
    rw [h1, h2, List.map_append, List.map_cons, List.map_nil]
def ValidList (xs : List Int) : Prop := xs.length ≤ 64 ∧ ∀ y, y ∈ xs → -1000000000000 ≤ y ∧ y ≤ 1000000000000
theorem ValidList.small {xs : List Int} (h : ValidList xs) {y : Int} (hy : y ∈ xs) : Small y := by have := h.2 y hy; unfold Small; omega
theorem map_dec_inj : ∀ {xs ys : List Int}, (∀ y, y ∈ xs → Small y) → (∀ y, y ∈ ys → Small y) → xs.map dec = ys.map dec → xs = ys
  | [], [], _, _, _ => rfl
  | [], _ :: _, _, _, h => by cases h
  | _ :: _, [], _, _, h => by cases h
  | x :: xs, y :: ys, hx, hy, h => by
    injection h with h1 h2
    rw [dec_inj (hx x (by simp)).i64 (hy y (by simp)).i64 h1, map_dec_inj (fun z hz => hx z (by simp [hz])) (fun z hz => hy z (by simp [hz])) h2]
theorem bar_list : (⟨#[45]⟩ : ByteArray).data.toList = [45] := rfl
theorem text_ne_bar {xs : List Int} (h : xs ≠ []) : textList xs ≠ ⟨#[45]⟩ := fun e => by
  have hp : Pieces 44 (⟨#[45]⟩ : ByteArray).data.toList [] ⟨#[45]⟩ := ⟨by simp [joinE], fun _ h => (by cases h), by decide⟩
  have := pieces_text h e.symm hp
  cases xs with
  | nil => exact h rfl
  | cons a r =>
    cases r with
    | nil =>
      simp at this
      have h1 := congrArg (·.data.toList) this
      rw [dec_list] at h1
      exact itoa_ne45 a h1.symm
    | cons b r => simp at this
/-- What a text reads as, as a list. -/
structure ReadsList (s : ByteArray) (r : Option (List Int)) : Prop where
  yes : ∀ xs, r = some xs → ValidList xs ∧ s = textList xs
  no : r = none → ∀ xs, ValidList xs → s ≠ textList xs
theorem textList_inj {xs ys : List Int} (hx : ValidList xs) (hy : ValidList ys) (h : textList xs = textList ys) : xs = ys := by
  by_cases e : xs = []
  · subst e
    by_cases e2 : ys = []
    · exact e2.symm
    · exact absurd h.symm (text_ne_bar e2)
  · by_cases e2 : ys = []
    · subst e2; exact absurd h (text_ne_bar e)
    · rcases List.eq_nil_or_concat xs with e3 | ⟨zs, z, e3⟩
      · exact absurd e3 e
      · rw [List.concat_eq_append] at e3
        have hp : Pieces 44 (textList xs).data.toList (zs.map dec) (dec z) := by rw [textList, if_neg e, e3]; exact pieces_list zs z
        have h1 := pieces_text e rfl hp
        have h2 := pieces_text e2 h hp
        exact map_dec_inj (fun y hy => hx.small hy) (fun y h => hy.small h) (h1.symm.trans h2)
theorem ReadsList.uniq {s : ByteArray} {r q : Option (List Int)} (h : ReadsList s r) (k : ReadsList s q) : r = q := by
  cases r with
  | none =>
    cases q with
    | none => rfl
    | some m => have := k.yes m rfl; exact absurd this.2 (h.no rfl m this.1)
  | some n =>
    have h1 := h.yes n rfl
    cases q with
    | none => exact absurd h1.2 (k.no rfl n h1.1)
    | some m =>
      have h2 := k.yes m rfl
      rw [textList_inj h1.1 h2.1 (h1.2.symm.trans h2.2)]
/-- The library's pieces are these pieces. -/
theorem splitB_pieces {c : UInt8} : ∀ (ps : List ByteArray) (k : Nat) (s last : ByteArray), Pieces c s.data.toList ps last → ps.length ≤ k → Lib.splitB ⟨#[c]⟩ 0 k s = ps ++ [last]
  | [], k, s, last, h, _ => by
    have hs : s = last := data_ext (by rw [h.all]; simp [joinE])
    subst hs
    exact Lib.splitB_miss _ _ _ _ (index_miss _ h.nolast)
  | p :: ps, 0, s, last, _, hk => by simp at hk
  | p :: ps, k + 1, s, last, h, hk => by
    have hl : s.data.toList = p.data.toList ++ c :: (joinE c ps ++ last.data.toList) := by rw [h.all, joinE_cons]; simp
    have hix : Lib.indexB s ⟨#[c]⟩ = ((p.size : Nat) : Int) := by
      show Lib.index s.data.toList [c] = _
      rw [hl, index_hit _ _ (h.no p (List.mem_cons_self ..)), Array.length_toList]
      rfl
    have hps : p.data.toList.length = p.size := by rw [Array.length_toList]; rfl
    rw [Lib.splitB_hit _ _ _ _ _ hix]
    have e1 : s.extract 0 (p.size + 0) = p := data_ext (by rw [extract_list, hl, Nat.add_zero, ← hps, List.take_left]; rfl)
    have e2 : Pieces c (s.extract (p.size + (⟨#[c]⟩ : ByteArray).size) s.size).data.toList ps last := by
      refine ⟨?_, fun q hq => h.no q (List.mem_cons_of_mem _ hq), h.nolast⟩
      have hz : s.data.toList.length = s.size := by rw [Array.length_toList]; rfl
      rw [extract_list, List.take_of_length_le (by omega), hl]
      show List.drop (p.size + 1) _ = _
      rw [← hps, ← List.drop_drop, List.drop_left]
      rfl
    rw [e1, splitB_pieces ps k _ last e2 (by simpa using hk)]
    rfl
theorem count_joinE {c : UInt8} : ∀ (ps : List ByteArray), (∀ p, p ∈ ps → c ∉ p.data.toList) → (joinE c ps).count c = ps.length
  | [], _ => rfl
  | p :: ps, h => by
    rw [joinE_cons, List.count_append, List.count_cons_self, count_joinE ps (fun q hq => h q (List.mem_cons_of_mem _ hq)), List.count_eq_zero.2 (h p (List.mem_cons_self ..)), List.length_cons]
    omega
theorem countB_pieces {c : UInt8} {s : ByteArray} {ps : List ByteArray} {last : ByteArray} (h : Pieces c s.data.toList ps last) : Lib.countB s ⟨#[c]⟩ = ps.length := by
  show Lib.count s.data.toList [c] = _
  rw [Lib.count_one, h.all, List.count_append, count_joinE ps h.no, List.count_eq_zero.2 h.nolast]
  rfl
theorem pieces_len {c : UInt8} {l : List UInt8} {ps : List ByteArray} {last : ByteArray} (h : Pieces c l ps last) : ps.length ≤ l.length := by
  have h1 : l.count c = ps.length := by rw [h.all, List.count_append, count_joinE ps h.no, List.count_eq_zero.2 h.nolast]; rfl
  rw [← h1]
  exact List.count_le_length

end Go.Proofs.YtmldijckjenbcaaGreatDoor

namespace Go.Proofs.YtmldijckjenbcaaGreatDoor
open Go.RowKit

/-- What the library's variables hold, whatever is done from block B on. -/
structure LibAt (B : Nat) (w : World) : Prop where
  tab : TabAt B w
  syn : ∀ w', Below B w w' → ∃ tp p, w'.var? Tryz.prog "strconv.ErrSyntax" = some #[.iface tp p]
  rng : ∀ w', Below B w w' → ∃ tp p, w'.var? Tryz.prog "strconv.ErrRange" = some #[.iface tp p]
  max : ∀ w', Below B w w' → ∃ m : Int, w'.cell? ⟨0, 0, none⟩ = some (.int .i64 m)
theorem LibAt.on {B : Nat} {w w' : World} (h : LibAt B w) (hb : Below B w w') : LibAt B w' := ⟨h.tab.on hb, fun w2 h2 => h.syn w2 (hb.trans h2), fun w2 h2 => h.rng w2 (hb.trans h2), fun w2 h2 => h.max w2 (hb.trans h2)⟩
theorem LibAt.up {B C : Nat} {w : World} (h : LibAt B w) (hc : B ≤ C) : LibAt C w := ⟨h.tab.up hc, fun w2 h2 => h.syn w2 (h2.mono hc), fun w2 h2 => h.rng w2 (h2.mono hc), fun w2 h2 => h.max w2 (h2.mono hc)⟩
theorem LibAt.grow {w w' : World} (h : LibAt w.heap.size w) (hb : Below w.heap.size w w') : LibAt w'.heap.size w' := (h.on hb).up hb.size
set_option maxHeartbeats 1000000 in
theorem readDecimal_any (s : ByteArray) (w : World) (hs : s.size ≤ 281474976710656) (ht : LibAt w.heap.size w) : Calls Tryz.prog 43 #[.string s] w (fun e w' => ∃ r : Option Int, e = .returned (.tuple #[.int .i64 (r.getD 0), .bool r.isSome]) ∧ ReadsDec s r ∧ Below w.heap.size w w') := by
  obtain ⟨tp, p, hsyn⟩ := ht.syn w (Below.refl _ _)
  obtain ⟨tq, q, hrng⟩ := ht.rng w (Below.refl _ _)
  have HT := Lib.hid ht
  cases hp : Lib.parseIntB 64 s.data.toList
  · rename_i n
    have HC := Lib.hid (Tryz.strconv_ParseInt_10_at64_ok s (by omega) n hp w)
    have hb64 : I64 n := parse_bd hp
    clear hsyn hrng ht
    go_enter Tryz.func43, Tryz.ntmps43
    go_wp2_with fail
    refine HC.out.mono ?_
    rintro e w1 ⟨rfl, hw1⟩
    have HB1 : Hid (Below w.heap.size w w1) := by
      rcases hw1 with rfl | ⟨t, rfl⟩
      · exact Below.refl _ _
      · exact Lib.bytesWorld_below _ _ _
    have HT1 := Lib.hid (HT.out.grow HB1.out)
    obtain ⟨T, hT⟩ : ∃ T : ByteArray, (⟨(Lib.trimPrefix s.data.toList [45]).toArray⟩ : ByteArray) = T := ⟨_, rfl⟩
    have HTL : Hid ((Lib.trimPrefix s.data.toList [45]).length = T.size) := by rw [Hid, ← hT]; show _ = (Lib.trimPrefix s.data.toList [45]).toArray.size; simp
    have HP := Lib.hid hp
    clear hw1 hp
    go_wp2_with fail
    refine (Tryz.strings_TrimPrefix s ⟨#[45]⟩ _).mono ?_
    rintro e w' ⟨rfl, rfl⟩
    have hT2 : (⟨(Lib.trimPrefix s.data.toList (⟨#[45]⟩ : ByteArray).data.toList).toArray⟩ : ByteArray) = T := hT
    rw [hT2]
    clear hT hT2
    by_cases h18 : 18 < T.size
    · have hno : ReadsDec s none := reads_no fun m hm hpm he hsm => by
        rw [HP.out] at hpm
        injection hpm with hpm
        subst hpm
        have h1 := HTL.out
        rw [he, dec_list, trim_itoa] at h1
        have h2 := small_digits.1 hsm
        omega
      have HNO := Lib.hid hno
      clear hno
      go_wp2
      go_ret2
      exact ⟨none, rfl, HNO.out, HB1.out⟩
    · go_wp2_with fail
      refine (implDecimal_any n _ hb64 HT1.out.tab).mono ?_
      rintro e w2 ⟨rfl, hb2⟩
      have HB2 := Lib.hid (HB1.out.trans (hb2.mono HB1.out.size))
      clear hb2
      by_cases hd : dec n = s
      · have hsm : Small n := small_digits.2 (by have h1 := HTL.out; rw [← hd, dec_list, trim_itoa] at h1; omega)
        have HSM := Lib.hid hsm
        subst hd
        clear hsm
        go_wp2
        go_ret2
        exact ⟨some n, rfl, ReadsDec.of HSM.out, HB2.out⟩
      · have hno : ReadsDec s none := reads_no fun m hm hpm he hsm => by
          rw [HP.out] at hpm
          injection hpm with hpm
          subst hpm
          exact hd he.symm
        have HNO := Lib.hid hno
        have hne : ((dec n).toList == s.toList) = false := by
          rw [beq_eq_false_iff_ne]; intro h; exact hd ((bytes_inj _ _).1 h)
        clear hno
        go_wp2
        go_ret2
        exact ⟨none, rfl, HNO.out, HB2.out⟩
  all_goals
    have hno : ReadsDec s none := reads_no fun m hm hpm he hsm => by rw [hp] at hpm; cases hpm
    have HNO := Lib.hid hno
    clear hno
  · have HC := Lib.hid (Any.strconv_ParseInt_10_at64_syntax_var Tryz.laysC174 s hs hp tp p w hsyn)
    clear hsyn hrng ht hp
    go_enter Tryz.func43, Tryz.ntmps43
    go_wp2_with fail
    refine HC.out.mono ?_
    rintro e w1 ⟨N, rfl, hN, _, hb1⟩
    have HB1 := Lib.hid hb1
    clear hb1
    go_wp2
    go_ret2
    exact ⟨none, rfl, HNO.out, HB1.out⟩
  · have HC := Lib.hid (Any.strconv_ParseInt_10_at64_range_var Tryz.laysC174 s hs hp tq q w hrng)
    clear hsyn hrng ht hp
    go_enter Tryz.func43, Tryz.ntmps43
    go_wp2_with fail
    refine HC.out.mono ?_
    rintro e w1 ⟨N, rfl, hN, _, hb1⟩
    have HB1 := Lib.hid hb1
    clear hb1
    go_wp2
    go_ret2
    exact ⟨none, rfl, HNO.out, HB1.out⟩

end Go.Proofs.YtmldijckjenbcaaGreatDoor

namespace Go.Proofs.YtmldijckjenbcaaGreatDoor
open Go.RowKit

set_option maxRecDepth 100000 in
set_option maxHeartbeats 2000000 in
theorem implListText_all (A : Option Addr) (n c : Nat) (xs : List Int) (w : World) (hx : SliceOf w 1 i64cells A n xs) (ht : TabAt w.heap.size w) : Calls Tryz.prog 26 #[.slice A n c] w (fun e w' => ∃ t, e = .returned (.string t) ∧ (ValidList xs ∧ t = textList xs ∨ ¬ ValidList xs ∧ t = ⟨#[]⟩) ∧ Below w.heap.size w w') := by
  have hl := hx.len
  have hle := hx.le
  by_cases hnv : ValidList xs
  · refine (implListText_any A n c xs w hx (by rw [← hl]; exact hnv.1) hnv.2 ht).mono ?_
    rintro e w' ⟨rfl, hb⟩
    exact ⟨_, rfl, .inl ⟨hnv, rfl⟩, hb⟩
  have h0 : n ≠ 0 := fun e => hnv (by
    obtain rfl : xs = [] := List.eq_nil_of_length_eq_zero (by omega)
    exact ⟨Nat.zero_le _, fun y h => by cases h⟩)
  by_cases hn64 : 64 < n
  · have hgt : decide ((64 : Int) < (n : Int)) = true := decide_eq_true (by omega)
    have HNV := Lib.hid hnv
    clear hnv hx hl
    go_enter Tryz.func26, Tryz.ntmps26
    go_wp2
    all_goals (go_ret; exact ⟨_, rfl, .inr ⟨HNV.out, rfl⟩, Below.refl _ _⟩)
  have hn : n ≤ 64 := by omega
  clear hn64
  have hne : ((n : Int) == 0) = false := by simp; omega
  have hgt : decide ((64 : Int) < (n : Int)) = false := decide_eq_false (by omega)
  have HX := Lib.hid hx
  have HL := Lib.hid hl
  have HNV := Lib.hid hnv
  have HT := Lib.hid ht
  have hmk := make_0 (P := Tryz.prog) (t := 72) (n := n) Tryz.underlying72 infoStr (by omega) (by omega)
  have HOA := Lib.hid (own_made0 w (Value.string ⟨#[]⟩).cells (n * 1) 9 strcells (by simp [maxLen]; omega))
  rw [Nat.mul_one] at HOA
  have HBA := Lib.hid ((Below.refl w.heap.size w).alloc (Nat.le_refl _) (.cells (madeCells (Value.string ⟨#[]⟩).cells (n * 1)) 9))
  rw [Nat.mul_one] at HBA
  clear hx hl hnv ht
  go_enter Tryz.func26, Tryz.ntmps26
  go_wp2
  clear hmk
  go_loopg [3, 17] n (fun gk s3 s17 wr => ∃ (k : Nat) (x : Value), k ≤ n ∧ gk = n - k ∧ x = s3 ∧ s17 = .int .i64 (k : Int) ∧ OwnsL wr w.heap.size 9 1 strcells x ((xs.take k).map dec) ∧ Below w.heap.size w wr ∧ ∀ j y, j < k → xs[j]? = some y → -1000000000000 ≤ y ∧ y ≤ 1000000000000)
  case atStart => exact ⟨0, _, Nat.zero_le _, rfl, rfl, rfl, HOA.out, HBA.out, fun j _ h => absurd h (Nat.not_lt_zero j)⟩
  case round =>
    obtain ⟨k, x, hk, hgk, rfl, rfl, hown, hb, hall⟩ := hrel
    have HALL := Lib.hid hall
    clear hall
    have Hgk := Lib.hid hgk
    have HOW := Lib.hid hown
    have HB := Lib.hid hb
    have HTR := Lib.hid ((HT.out.on hb).up hb.size)
    have hxr := HX.out.below hb
    clear hgk hown hb
    by_cases hlt : k < n
    · obtain ⟨b, o, y, rfl, hbb, hyk, y0⟩ := ints_at hxr hlt
      have HYK := Lib.hid hyk
      cases hin : inB y (-1000000000000) 1000000000000
      · clear hyk hxr
        go_wp2_with (go_at_call 39; refine (within_any _ _ _ _).mono ?_; rintro e w' ⟨rfl, rfl⟩; rw [hin])
        go_ret
        exact ⟨_, rfl, .inr ⟨HNV.out, rfl⟩, HB.out⟩
      have hyb := inB_iff.1 hin
      have HYB := Lib.hid hyb
      have HSN : Hid ((xs.take (k + 1)).map dec = (xs.take k).map dec ++ [dec y]) := by rw [Hid, take_snocL HYK.out]; simp
      clear hyk hxr hyb
      go_wp2_with (first | (go_at_call 39; refine (within_any _ _ _ _).mono ?_; rintro e w' ⟨rfl, rfl⟩; rw [hin]) | (go_at_call 45; refine (implDecimal_any y wr (by have := HYB.out; unfold I64; omega) HTR.out).mono ?_; rintro e w5 ⟨rfl, hb5⟩; have HB5 := Lib.hid (HB.out.trans (hb5.mono HB.out.size)); have HO5 := Lib.hid (HOW.out.below' hb5); clear hb5 y0 hbb) | (at_builtin; refine wpList_push (by rfl) (.tmp 24) (.tmp 27) 72 (by rfl) w.heap.size 9 1 Tryz.underlying72 infoStr (by rfl) (by decide) strcells strcells_len strcells_one _ x ((xs.take k).map dec) (dec y) (by simp [strcells]) (by rfl) HO5.out (by first | rfl | simp [go_sem]) (by rw [List.length_map, List.length_take]; omega) (by decide) HB5.out.size ?_))
      intro v' w' hown' hb' _
      have HON := Lib.hid hown'
      have HBN := Lib.hid (HB5.out.trans (hb'.mono (Nat.le_refl _)))
      clear hown' hb'
      go_wp2
      go_roundg (n - (k + 1))
      case measure => have := Hgk.out; omega
      case rel => exact ⟨k + 1, v', by omega, rfl, rfl, by go_num, by rw [HSN.out, List.map_take]; exact HON.out, HBN.out, fun j z hj hz => by
        by_cases e : j = k
        · subst e; rw [HYK.out] at hz; injection hz with hz; subst hz; exact HYB.out
        · exact HALL.out j z (by omega) hz⟩
    · exact absurd ⟨by rw [HL.out]; omega, fun y hy => by
        obtain ⟨j, hj⟩ := List.getElem?_of_mem hy
        have := (List.getElem?_eq_some_iff.1 hj).1
        exact HALL.out j y (by have := HL.out; omega) hj⟩ HNV.out

end Go.Proofs.YtmldijckjenbcaaGreatDoor

namespace Go.Proofs.YtmldijckjenbcaaGreatDoor
open Go.RowKit

theorem splitB_size {sep : ByteArray} : ∀ (k : Nat) (s p : ByteArray), p ∈ Lib.splitB sep 0 k s → p.size ≤ s.size
  | 0, s, p, h => by rw [Lib.splitB_zero, List.mem_singleton] at h; rw [h]; exact Nat.le_refl _
  | k + 1, s, p, h => by
    unfold Lib.splitB at h
    split at h
    · rw [List.mem_singleton] at h; rw [h]; exact Nat.le_refl _
    · rcases List.mem_cons.1 h with h | h
      · rw [h, ByteArray.size_extract]; omega
      · have := splitB_size k _ p h
        rw [ByteArray.size_extract] at this
        omega
theorem own_cells (w : World) (P : List ByteArray) (N : Nat) (h : P.length ≤ N) (hN : N ≤ maxLen) : OwnsL (w.alloc (.cells (Lib.cellsOf P N) 9)) w.heap.size 9 1 strcells (.slice (some ⟨w.heap.size, 0, none⟩) P.length N) P :=
  ⟨by rw [flat_len strcells_len], .inr ⟨w.heap.size, N, Lib.cellsOf P N, rfl, Nat.le_refl _, Own.new w _ _, h, hN, by rw [Lib.cellsOf_size h, Nat.mul_one], by
    have e : P.flatMap strcells = P.map Value.string := by
      induction P with
      | nil => rfl
      | cons a r ih => rw [List.flatMap_cons, ih (by simp at h; omega)]; rfl
    rw [e]
    unfold Lib.cellsOf
    rw [Nat.mul_one]
    show List.take P.length (P.map Value.string ++ _) = _
    rw [List.take_left' (by simp)]⟩⟩
/-- What ReadList hands back. -/
structure ListOut (s : ByteArray) (w w' : World) (v : Value) (r : Option (List Int)) : Prop where
  reads : ReadsList s r
  own : ∀ xs, r = some xs → OwnsL w' w.heap.size 2 1 i64cells v xs
  nil : r = none → v = .slice none 0 0
  below : Below w.heap.size w w'
theorem ListOut.none {s : ByteArray} {w w' : World} (h : ReadsList s none) (hb : Below w.heap.size w w') : ListOut s w w' (.slice none 0 0) none := ⟨h, fun _ e => (by cases e), fun _ => rfl, hb⟩
theorem ListOut.some {s : ByteArray} {w w' : World} {v : Value} {xs : List Int} (hv : ValidList xs) (hs : s = textList xs) (ho : OwnsL w' w.heap.size 2 1 i64cells v xs) (hb : Below w.heap.size w w') : ListOut s w w' v (some xs) :=
  ⟨⟨fun _ e => by injection e with e; subst e; exact ⟨hv, hs⟩, fun e => (by cases e)⟩, fun _ e => by injection e with e; subst e; exact ho, fun e => (by cases e), hb⟩
theorem reads_bad_piece {s : ByteArray} {P : List ByteArray} (hf : ∀ xs, ValidList xs → s = textList xs → P = xs.map dec) {k : Nat} {p : ByteArray} (hp : P[k]? = some p) (hr : ReadsDec p none) : ReadsList s none :=
  ⟨fun _ e => (by cases e), fun _ xs hv hs => by
    rw [hf xs hv hs, List.getElem?_map] at hp
    obtain ⟨y, hy, rfl⟩ := Option.map_eq_some_iff.1 hp
    exact hr.no rfl y (hv.small (List.mem_of_getElem? hy)) rfl⟩
theorem reads_other {s : ByteArray} {P : List ByteArray} (hf : ∀ xs, ValidList xs → s = textList xs → P = xs.map dec) {nums : List Int} (hP : P = nums.map dec) (hsm : ∀ y, y ∈ nums → Small y) (hno : ValidList nums → s ≠ textList nums) : ReadsList s none :=
  ⟨fun _ e => (by cases e), fun _ xs hv hs => by
    have e := map_dec_inj (fun y hy => hv.small hy) hsm ((hf xs hv hs).symm.trans hP)
    subst e
    exact hno hv hs⟩
theorem take_piece {P : List ByteArray} {nums : List Int} {k : Nat} {m : Int} (h : P.take k = nums.map dec) (hp : P[k]? = some (dec m)) : P.take (k + 1) = (nums ++ [m]).map dec := by
  obtain ⟨hk, he⟩ := List.getElem?_eq_some_iff.1 hp
  rw [List.take_succ_eq_append_getElem hk, he, h]
  simp
set_option maxRecDepth 100000 in
set_option maxHeartbeats 4000000 in
theorem implReadList_any (s : ByteArray) (w : World) (hs : s.size ≤ 1048576) (ht : LibAt w.heap.size w) : Calls Tryz.prog 24 #[.string s] w (fun e w' => ∃ v r, e = .returned (.tuple #[v, .bool r.isSome]) ∧ ListOut s w w' v r) := by
  by_cases hbar : s = ⟨#[45]⟩
  · subst hbar
    have HO : Hid (ListOut ⟨#[45]⟩ w w (.slice none 0 0) (some [])) := ListOut.some ⟨Nat.zero_le _, fun _ h => (by cases h)⟩ rfl (OwnsL.nil_ _ _ _ _ _) (Below.refl _ _)
    clear ht
    go_enter Tryz.func24, Tryz.ntmps24
    go_wp2
    go_ret2
    exact ⟨_, _, rfl, HO.out⟩
  have hnb : (s.toList == (⟨#[45]⟩ : ByteArray).toList) = false := by
    rw [beq_eq_false_iff_ne]; intro h; exact hbar ((bytes_inj _ _).1 h)
  have hnb2 : (s.toList == [45]) = false := by simp only [ByteArray.toList_eq] at hnb ⊢; exact hnb
  clear hnb
  obtain ⟨m, hm⟩ := ht.max w (Below.refl _ _)
  obtain ⟨N, hN⟩ : ∃ N, min 65 (s.size + 1) = N := ⟨_, rfl⟩
  obtain ⟨P, hP⟩ : ∃ P, Lib.splitB ⟨#[44]⟩ 0 (N - 1) s = P := ⟨_, rfl⟩
  obtain ⟨w1, hw1⟩ : ∃ w1, w.alloc (.cells (Lib.cellsOf P N) 9) = w1 := ⟨_, rfl⟩
  have HC : Hid (Calls Tryz.prog 42 #[.string s, .string ⟨#[44]⟩, .int .i64 65] w fun e w' => e = .returned (.slice (some ⟨w.heap.size, 0, none⟩) P.length N) ∧ w' = w1) := by
    have h := Tryz.strings_SplitN s ⟨#[44]⟩ 65 m w (by omega) hm (by decide) (by decide) (by decide)
    rw [hN, hP, hw1] at h
    exact h
  have hNb : 1 ≤ N ∧ N ≤ 65 := by omega
  have hPl : P.length ≤ N := by
    have := Lib.splitB_length_le ⟨#[44]⟩ 0 (N - 1) s
    rw [hP] at this
    omega
  have hb1 : Below w.heap.size w w1 := by rw [← hw1]; exact (Below.refl _ _).alloc (Nat.le_refl _) _
  have hown : OwnsL w1 w.heap.size 9 1 strcells (.slice (some ⟨w.heap.size, 0, none⟩) P.length N) P := by
    rw [← hw1]; exact own_cells w P N hPl (by simp [maxLen]; omega)
  have HSL := Lib.hid (hown.sl strcells_len)
  have HSZ : Hid (∀ p, p ∈ P → p.size ≤ 281474976710656) := fun p hp => by
    rw [← hP] at hp
    have := splitB_size _ _ _ hp
    omega
  have HF : Hid (∀ xs, ValidList xs → s = textList xs → P = xs.map dec) := fun xs hv he => by
    have hne : xs ≠ [] := fun e => hbar (by rw [he, e]; rfl)
    rcases List.eq_nil_or_concat xs with e | ⟨ys, z, e⟩
    · exact absurd e hne
    · rw [List.concat_eq_append] at e
      have hp : Pieces 44 s.data.toList (ys.map dec) (dec z) := by rw [he, textList, if_neg hne, e]; exact pieces_list ys z
      have h1 := pieces_len hp
      have h2 := hv.1
      have h3 : s.data.toList.length = s.size := by rw [Array.length_toList]; rfl
      rw [e, List.length_append, List.length_singleton] at h2
      rw [List.length_map] at h1
      rw [← hP, splitB_pieces _ _ _ _ hp (by rw [List.length_map]; omega), e]
      simp
  have HNIL : Hid (s = ⟨#[]⟩ → ∀ nums : List Int, P ≠ nums.map dec) := fun he nums h => by
    have hp : Pieces 44 s.data.toList [] s := ⟨by simp [joinE], fun _ h => (by cases h), by rw [he]; decide⟩
    have h1 := splitB_pieces [] (N - 1) s s hp (Nat.zero_le _)
    rw [hP, h] at h1
    cases nums with
    | nil => simp at h1
    | cons a r =>
      simp at h1
      exact dec_ne_nil a (h1.1.trans he)
  have HTW := Lib.hid ht
  have HB1 := Lib.hid hb1
  obtain ⟨L, hL⟩ : ∃ L, P.length = L := ⟨_, rfl⟩
  rw [hL] at HC HSL hPl
  have HL := Lib.hid hL
  have hLb : L ≤ 65 := by omega
  clear ht hm hN hP hw1 hb1 hown hL hbar
  go_enter Tryz.func24, Tryz.ntmps24
  go_wp2_with fail
  refine HC.out.mono ?_
  rintro e w' ⟨rfl, rfl⟩
  clear HC
  go_wp2
  go_loopg [4, 14] L (fun gk s4 s14 wr => ∃ (k : Nat) (x : Value) (nums : List Int), k ≤ L ∧ gk = L - k ∧ x = s4 ∧ s14 = .int .i64 (k : Int) ∧ OwnsL wr w'.heap.size 2 1 i64cells x nums ∧ P.take k = nums.map dec ∧ (∀ y, y ∈ nums → Small y) ∧ Below w'.heap.size w' wr)
  case atStart => exact ⟨0, _, [], Nat.zero_le _, rfl, rfl, rfl, OwnsL.nil_ _ _ _ _ _, rfl, fun _ h => (by cases h), Below.refl _ _⟩
  case round =>
    obtain ⟨k, x, nums, hk, hgk, rfl, rfl, hown, htk, hsm, hbw⟩ := hrel
    have hb : Below w.heap.size w wr := HB1.out.trans (hbw.mono HB1.out.size)
    have Hgk := Lib.hid hgk
    have HOW := Lib.hid hown
    have HTK := Lib.hid htk
    have HSM := Lib.hid hsm
    have HBW := Lib.hid hbw
    have HB := Lib.hid hb
    have HTR := Lib.hid ((HTW.out.on hb).up hb.size)
    have hxr := HSL.out.below hbw
    have hnl : nums.length = k := by
      have := congrArg List.length htk
      rw [List.length_take, List.length_map, HL.out] at this
      omega
    have HNL := Lib.hid hnl
    clear hgk hown htk hsm hbw hb hnl
    by_cases hlt : k < L
    · obtain ⟨b, o, p, he, hbb, hpk, y0⟩ := strs_at hxr hlt
      injection he with he
      injection he with he1 he2
      subst he1 he2
      have HPK := Lib.hid hpk
      rw [Nat.zero_add] at y0
      clear hpk hxr
      go_wp2_with fail
      refine (readDecimal_any p wr (HSZ.out p (List.mem_of_getElem? HPK.out)) HTR.out).mono ?_
      rintro e w5 ⟨r, rfl, hr, hb5⟩
      have HR := Lib.hid hr
      have HB5 := Lib.hid (HB.out.trans (hb5.mono HB.out.size))
      have HW5 := Lib.hid (HBW.out.trans (hb5.mono HBW.out.size))
      have HO5 := Lib.hid (HOW.out.below' hb5)
      clear hr hb5 y0 hbb
      cases r with
      | none =>
        have HNO := Lib.hid (ListOut.none (reads_bad_piece HF.out HPK.out HR.out) HB5.out)
        go_wp2
        go_ret2
        exact ⟨_, _, rfl, HNO.out⟩
      | some q =>
        have hq := HR.out.yes q rfl
        have HSQ := Lib.hid hq.1
        have HTS : Hid (P.take (k + 1) = (nums ++ [q]).map dec) := take_piece HTK.out (by rw [← hq.2]; exact HPK.out)
        clear hq
        go_wp2_with (at_builtin; refine wpList_push (by rfl) (.tmp 25) (.tmp 27) 24 (by rfl) w'.heap.size 2 1 Tryz.underlying24 infoI64 (by rfl) (by decide) i64cells i64cells_len i64cells_one _ x nums q (by simp [i64cells]) (by rfl) HO5.out (by first | rfl | simp [go_sem]) (by have := HNL.out; omega) (by decide) HW5.out.size ?_)
        intro v' w6 hown' hb' _
        have HON := Lib.hid hown'
        have HBN := Lib.hid (HW5.out.trans (hb'.mono (Nat.le_refl _)))
        clear hown' hb'
        go_wp2
        go_roundg (L - (k + 1))
        case measure => have := Hgk.out; omega
        case rel => exact ⟨k + 1, v', nums ++ [q], by omega, rfl, rfl, by go_num, HON.out, HTS.out, fun y hy => by
          rcases List.mem_append.1 hy with h | h
          · exact HSM.out y h
          · rw [List.mem_singleton.1 h]; exact HSQ.out, HBN.out⟩
    · have hkL : k = L := by omega
      subst hkL
      have HPN : Hid (P = nums.map dec) := by
        have := HTK.out
        rwa [List.take_of_length_le (by rw [HL.out]; exact Nat.le_refl _)] at this
      obtain ⟨A, c, rfl, _, _, hsl⟩ := HOW.out.slice i64cells_len
      have HS2 := Lib.hid hsl
      rw [HNL.out] at HS2 ⊢
      clear hsl hxr hlt
      go_wp2_with fail
      refine (implListText_all A k c nums wr HS2.out HTR.out.tab).mono ?_
      rintro e w5 ⟨t, rfl, hcase, hb5⟩
      have HB5 := Lib.hid (HB.out.trans (hb5.mono HB.out.size))
      have HO5 := Lib.hid ((HOW.out.below' hb5).rebase HB1.out.size)
      rw [HNL.out] at HO5
      have HCA := Lib.hid hcase
      clear hcase hb5
      by_cases hts : t = s
      · subst hts
        have HV : Hid (ValidList nums ∧ t = textList nums) := by
          rcases HCA.out with h | h
          · exact h
          · exact absurd HPN.out (HNIL.out h.2 nums)
        have HOK := Lib.hid (ListOut.some HV.out.1 HV.out.2 HO5.out HB5.out)
        go_wp2
        go_ret2
        exact ⟨_, some nums, rfl, HOK.out⟩
      · have hne : (t.toList == s.toList) = false := by
          rw [beq_eq_false_iff_ne]; intro h; exact hts ((bytes_inj _ _).1 h)
        have HNO := Lib.hid (ListOut.none (reads_other HF.out HPN.out HSM.out (fun hv he => by
          rcases HCA.out with h | h
          · exact hts (h.2.trans he.symm)
          · exact h.1 hv)) HB5.out)
        clear hts
        go_wp2
        go_ret2
        exact ⟨_, none, rfl, HNO.out⟩

end Go.Proofs.YtmldijckjenbcaaGreatDoor
