/- The program's map of counts: what its keys say, and what it is known to hold. -/
import Derived.Test.YtjidibohbbdboaaDoorCountP
import Derived.Test.YtjidibohbbdboaaDoorCntQ
import Derived.Test.YtjidibohbbdboaaDoorListQ
import Derived.Test.YtjidibohbbdboaaDoorBase
import Derived.Test.YtjidibohbbdboaaDoorMem
import Derived.Maps.OwnSet
import Derived.Maps.OwnOps
namespace Go.Proofs.YtjidibohbbdboaaDoor
open Go.RowKit

def keyS (g : Nat) (given : List Int) : ByteArray := (dec given.length ++ ⟨#[58]⟩) ++ textList (keyL g given)
def Ppl (x : List Int) : Prop := x.length ≤ 12 ∧ ∀ y ∈ x, 0 ≤ y ∧ y < 8
theorem Ppl.snoc {x : List Int} (h : Ppl x) (hl : x.length < 12) {p : Nat} (hp : p < 8) : Ppl (x ++ [(p : Int)]) := by
  refine ⟨by simp; omega, fun y hy => ?_⟩
  rcases List.mem_append.1 hy with hy | hy
  · exact h.2 y hy
  · rw [List.mem_singleton.1 hy]; omega
theorem Ppl.keyV {x : List Int} (h : Ppl x) (g : Nat) : ValidList (keyL g x) := by
  refine ⟨?_, fun y hy => ?_⟩
  · unfold keyL; rw [List.length_drop]; have := h.1; omega
  · have := h.2 y (List.mem_of_mem_drop hy); omega
theorem dec_no58 {n : Nat} : (58 : UInt8) ∉ (dec (n : Int)).data.toList := by
  rw [dec_list, itoa_pos (by omega)]
  intro hm
  have := digit_dec 58 hm
  have h2 : (58 : UInt8).toNat = 58 := rfl
  omega
theorem keyS_list (g : Nat) (x : List Int) : (keyS g x).data.toList = (dec (x.length : Int)).data.toList ++ 58 :: (textList (keyL g x)).data.toList := by
  unfold keyS
  simp [ByteArray.data_append]
theorem keyS_inj {g : Nat} {x y : List Int} (hx : Ppl x) (hy : Ppl y) (h : (keyS g x).data.toList = (keyS g y).data.toList) : x.length = y.length ∧ keyL g x = keyL g y := by
  rw [keyS_list, keyS_list] at h
  obtain ⟨h1, h2⟩ := first_uniq dec_no58 dec_no58 h
  have e1 : dec (x.length : Int) = dec (y.length : Int) := data_ext (by simpa using congrArg List.toArray h1)
  have e2 : textList (keyL g x) = textList (keyL g y) := data_ext (by simpa using congrArg List.toArray h2)
  have h3 := dec_inj (n := (x.length : Int)) (m := (y.length : Int)) (by have := hx.1; unfold I64; omega) (by have := hy.1; unfold I64; omega) e1
  exact ⟨by omega, textList_inj (hx.keyV g) (hy.keyV g) e2⟩
theorem keyS_size {g : Nat} {x : List Int} (h : Ppl x) : (dec (x.length : Int)).size ≤ 21 ∧ (textList (keyL g x)).size ≤ 300 := by
  have h1 := dec_size (n := (x.length : Int)) (by have := h.1; unfold I64; omega)
  have h2 := textList_size (xs := keyL g x) (fun y hy => by have := (h.keyV g).2 y hy; unfold I64; omega)
  have h3 : (keyL g x).length ≤ 12 := by unfold keyL; rw [List.length_drop]; have := h.1; omega
  exact ⟨h1, by omega⟩
/-- The key, as the map's reader reads it. -/
def keyK (g : Nat) (x : List Int) : Lit := .string (keyS g x).data.toList
theorem isKey_K (g : Nat) (x : List Int) : WideAt.IsKeyLit (keyK g x) := by simp [keyK, WideAt.IsKeyLit]
def cntD (n : Nat) : DataW Unit := .lit (.int .i64 (n : Int))
/-- What the map is known to hold: at each key the count that belongs to it. -/
def Memo (n m g : Nat) (ab : List Row) (D : DataW Unit) : Prop := ∀ (given : List Int) (f : Nat), Ppl given → given.length + f = m → Maps.has D (keyK g given) = true → D.atKey (keyK g given) (cntD 0) = cntD (waysN n g ab f given)
theorem Memo.empty (n m g : Nat) (ab : List Row) : Memo n m g ab (.map []) := fun _ _ _ _ h => by cases h
theorem Memo.put {n m g : Nat} {ab : List Row} {D : DataW Unit} (h : Memo n m g ab D) (hg : 1 ≤ g) (hD : Maps.IsMap D) {x : List Int} {f : Nat} (hx : Ppl x) (hf : x.length + f = m) : Memo n m g ab (D.put (keyK g x) (cntD (waysN n g ab f x))) := by
  intro y q hy hq hh
  by_cases e : keyK g y = keyK g x
  · rw [e, Maps.atKey_put_same hD (isKey_K g x)]
    injection e with e
    obtain ⟨h1, h2⟩ := keyS_inj hy hx e
    obtain rfl : q = f := by omega
    exact congrArg cntD (waysN_key hg q x y h1.symm h2.symm)
  · rw [Maps.atKey_put_other e]
    rw [Maps.has_put_other e] at hh
    exact h y q hy hq hh
def MapAt (n m g : Nat) (ab : List Row) (b N : Nat) (w : World) : Prop := ∃ D : DataW Unit, w.ownsMap Tryd.prog 9 (plainElem Tryd.prog 2) b N D ∧ Memo n m g ab D
theorem MapAt.grow {n m g : Nat} {ab : List Row} {b N : Nat} {w w' : World} (h : MapAt n m g ab b N w) (hb : w'.heap[b]? = w.heap[b]?) : MapAt n m g ab b N w' := by
  obtain ⟨D, ⟨es, clock, h1, h2⟩, h3⟩ := h
  exact ⟨D, ⟨es, clock, by rw [hb]; exact h1, h2⟩, h3⟩
theorem MapAt.mono {n m g : Nat} {ab : List Row} {b N N' : Nat} {w : World} (h : MapAt n m g ab b N w) (hn : N ≤ N') : MapAt n m g ab b N' w := by
  obtain ⟨D, h1, h2⟩ := h
  exact ⟨D, h1.mono hn, h2⟩
theorem MapAt.lt {n m g : Nat} {ab : List Row} {b N : Nat} {w : World} (h : MapAt n m g ab b N w) : b < w.heap.size := by
  obtain ⟨D, h1, _⟩ := h
  exact h1.lt
theorem MapAt.made (n m g : Nat) (ab : List Row) (w : World) : MapAt n m g ab w.heap.size 0 (w.alloc (.map #[] 0)) := ⟨.map [], World.ownsMap_made w _ _ _, Memo.empty n m g ab⟩
theorem MapAt.below {n m g : Nat} {ab : List Row} {b N : Nat} {w w' : World} (h : MapAt n m g ab b N w) (hb : Below w.heap.size w w') : MapAt n m g ab b N w' := h.grow (hb.block b h.lt)
theorem strKeyed : Maps.Keyed Tryd.prog 9 := Maps.string_keyed Tryd.underlying9
theorem key_of {s : ByteArray} (h : s.size ≤ 1000) : keyOf Tryd.prog 9 (.string s) = some (.string s.data.toList) := WideMaps.keyOf_string_mk Tryd.underlying9 (by unfold maxLen; omega)
theorem zeroI64 (w : World) : (zeroValue 2).run Tryd.prog w = .ok (.int .i64 0) w := by kernel_rfl

end Go.Proofs.YtjidibohbbdboaaDoor
