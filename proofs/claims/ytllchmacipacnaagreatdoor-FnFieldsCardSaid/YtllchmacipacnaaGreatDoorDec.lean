/- The decimal text of a number: the program's function, through the library's, and the reference's. -/
import Derived.Test.YtllchmacipacnaaGreatDoorShelf
import Derived.Test.YtllchmacipacnaaGreatDoorBase
import Derived.Test.YtllchmacipacnaaGreatDoorMem
import Derived.Lib.AppendIntMem
import Derived.Laws.IdiomStrings
import Derived.Lib.ItoaLen
namespace Go.Proofs.YtllchmacipacnaaGreatDoor
open Go.RowKit

def dec (n : Int) : ByteArray := ⟨(Lib.itoa n).toArray⟩
theorem dec_size {n : Int} (h : I64 n) : (dec n).size ≤ 21 := by
  show (Lib.itoa n).toArray.size ≤ 21
  have := Lib.itoa_length_le n h.1 h.2
  simpa using this
/-- The library's table of powers reads as it was laid, whatever is done from block B on. -/
def TabAt (B : Nat) (w : World) : Prop := Lib.TabBelow Tryz.prog B w "internal/strconv.uint64pow10" .u64 Lib.pow10Tab
theorem TabAt.on {B : Nat} {w w' : World} (h : TabAt B w) (hb : Below B w w') : TabAt B w' := Lib.TabBelow.on h hb
theorem TabAt.up {B C : Nat} {w : World} (h : TabAt B w) (hc : B ≤ C) : TabAt C w := fun w' hb => h w' (hb.mono hc)
theorem TabAt.grow {w w' : World} (h : TabAt w.heap.size w) (hb : Below w.heap.size w w') : TabAt w'.heap.size w' := (h.on hb).up hb.size
set_option maxHeartbeats 1000000 in
theorem implDecimal_any (n : Int) (w : World) (h : I64 n) (ht : TabAt w.heap.size w) : Calls Tryz.prog 30 #[.int .i64 n] w (Ret (.string (dec n)) w) := by
  have HC := Lib.hid (Tryz.strconv_FormatInt_10 n h.1 h.2 w (Lib.TabBelow.here ht))
  clear ht
  go_enter Tryz.func30, Tryz.ntmps30
  go_wp2_with fail
  refine HC.out.mono ?_
  rintro e w' ⟨rfl, k, os, rfl⟩
  have hb := Lib.below_grow w.heap.size w (Nat.le_refl _) k os
  obtain ⟨w1, hw1⟩ : ∃ w1, Go.Sort.grow (w.drewN k) os = w1 := ⟨_, rfl⟩
  rw [hw1] at hb ⊢
  have HB := Lib.hid hb
  clear hb hw1
  go_wp2
  go_ret
  exact Ret.mk rfl HB.out
def bcells (c : UInt8) : List Value := [.int .u8 (c.toNat : Int)]
theorem bcells_len (c : UInt8) : (bcells c).length = 1 := rfl
theorem bcells_one (c : UInt8) : ∀ u ∈ bcells c, u.oneCell' = true := by intro u hu; simp [bcells] at hu; subst hu; rfl
theorem infoU8 : (Tryz.prog.info? 5).map (fun i => (i.zero, i.size, i.bytes)) = some (some (.int .u8 0), 1, 1) := by kernel_rfl
theorem bytes_at {w : World} {A : Option Addr} {n : Nat} {xs : List UInt8} (h : SliceOf w 1 bcells A n xs) {k : Nat} (hk : k < n) : ∃ b off x, A = some ⟨b, off, none⟩ ∧ b < w.heap.size ∧ xs[k]? = some x ∧ w.cell? ⟨b, off + k, none⟩ = some (.int .u8 (x.toNat : Int)) := by
  obtain ⟨b, off, x, hA, hb, hx, hc⟩ := h.at_ hk
  have h0 := hc 0 _ rfl
  rw [Nat.mul_one, Nat.add_zero] at h0
  exact ⟨b, off, x, hA, hb, hx, h0⟩
theorem addr_plus (g o n : Nat) : (⟨g, o, none⟩ : Addr).add n = ⟨g, o + n, none⟩ := by
  unfold Addr.add
  split
  · simp only [Addr.mk.injEq, true_and, and_true]; omega
  · simp
/-- 'string(b)' of a slice of bytes that is not empty. -/
theorem conv_bytes {w : World} {A : Option Addr} {n c : Nat} {xs : List UInt8} (h : SliceOf w 1 bcells A n xs) (hn : 0 < n) : (convert 22 9 (.slice A n c)).run Tryz.prog w = .ok (.string ⟨xs.toArray⟩) w := by
  obtain ⟨b, o, rfl, _, hc⟩ := h.base_ hn
  have hl := h.len
  subst hl
  refine run_convert_bytes_back (P := Tryz.prog) w 22 9 5 ⟨b, o, none⟩ c xs Tryz.underlying22 Tryz.underlying5 Tryz.underlying9 (fun j hj => ?_)
  rw [addr_plus]
  have := hc j xs[j] 0 _ (List.getElem?_eq_getElem hj) rfl
  rwa [Nat.mul_one, Nat.add_zero] at this
/-- What is known of the digits that have been taken off: u: the number without its sign, v: what is left of it, ds: the digits, the last first. -/
structure Taken (u v : Nat) (ds : List UInt8) : Prop where
  pos : 0 < u
  mid : 0 < v → Lib.decDigits u = Lib.decDigits v ++ ds.reverse
  done : v = 0 → Lib.decDigits u = ds.reverse
  len : v * 10 ^ ds.length ≤ u
theorem Taken.start {u : Nat} (h : 0 < u) : Taken u u [] := ⟨h, fun _ => by simp, fun h0 => absurd h0 (by omega), by simp⟩
theorem Taken.step {u v : Nat} {ds : List UInt8} (h : Taken u v ds) (hv : 0 < v) : Taken u (v / 10) (ds ++ [UInt8.ofNat (48 + v % 10)]) := by
  refine ⟨h.pos, fun hq => ?_, fun hq => ?_, ?_⟩
  · rw [h.mid hv, Lib.decDigits, dif_neg (by omega), List.reverse_append]
    simp
  · rw [h.mid hv, Lib.decDigits, dif_pos (by omega), List.reverse_append, Nat.mod_eq_of_lt (by omega)]
    simp
  · have h1 := h.len
    have h2 : v / 10 * 10 ≤ v := Nat.div_mul_le_self v 10
    rw [List.length_append, List.length_singleton, Nat.pow_succ]
    calc v / 10 * (10 ^ ds.length * 10) = v / 10 * 10 * 10 ^ ds.length := by rw [Nat.mul_comm (10 ^ ds.length) 10, ← Nat.mul_assoc]
      _ ≤ v * 10 ^ ds.length := Nat.mul_le_mul_right _ h2
      _ ≤ u := h1
theorem Taken.short {u v : Nat} {ds : List UInt8} (h : Taken u v ds) (hv : 0 < v) (hu : u < 10 ^ 20) : ds.length < 20 := by
  have h1 := h.len
  have h2 : 1 * 10 ^ ds.length ≤ v * 10 ^ ds.length := Nat.mul_le_mul_right _ hv
  have h3 : 10 ^ ds.length < 10 ^ 20 := by omega
  exact (Nat.pow_lt_pow_iff_right (by decide)).1 h3
theorem itoa_taken {n : Int} {ds : List UInt8} (h : Taken n.natAbs 0 ds) : Lib.itoa n = (if n < 0 then ds ++ [45] else ds).reverse := by
  have hd := h.done rfl
  have hp := h.pos
  unfold Lib.itoa
  by_cases hn : n < 0
  · rw [if_pos hn, if_pos hn, hd]; simp
  · rw [if_neg hn, if_neg hn, ← hd, show n.toNat = n.natAbs by omega]
theorem itoa_zero : Lib.itoa 0 = [48] := by
  unfold Lib.itoa
  rw [if_neg (by decide), Lib.decDigits, dif_pos (by decide)]
  rfl
theorem digit_nat {c : Nat} (h : c < 10) : ((UInt8.ofNat (48 + c)).toNat : Int) = 48 + (c : Int) := by
  rw [UInt8.toNat_ofNat']
  omega
theorem rev_drop {ds : List UInt8} {j : Nat} {x : UInt8} (h : ds[j]? = some x) : (ds.drop (j + 1)).reverse ++ [x] = (ds.drop j).reverse := by
  obtain ⟨hj, he⟩ := List.getElem?_eq_some_iff.1 h
  rw [List.drop_eq_getElem_cons hj, List.reverse_cons, he]

end Go.Proofs.YtllchmacipacnaaGreatDoor
