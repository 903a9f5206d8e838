/- Plain laws on lists, Booleans and bytes: nothing of the program stands here. -/
import GoSem.Op.String
namespace Go.Proofs.YtllchmacipacnaaGreatDoor

def goodFrom {α : Type} (one : α → Bool) (rel : α → α → Bool) : Option α → List α → Bool
  | _, [] => true
  | none, x :: xs => one x && goodFrom one rel (some x) xs
  | some p, x :: xs => one x && rel p x && goodFrom one rel (some x) xs
/-- At most M elements, each fine by itself and beside the one ahead of it. -/
def validL {α : Type} (M : Nat) (one : α → Bool) (rel : α → α → Bool) (xs : List α) : Bool := decide (xs.length ≤ M) && goodFrom one rel none xs
def GoodTo {α : Type} (one : α → Bool) (rel : α → α → Bool) (xs : List α) (n : Nat) : Prop :=
  ∀ k x, k < n → xs[k]? = some x → one x = true ∧ ∀ p, 0 < k → xs[k - 1]? = some p → rel p x = true
section
variable {α : Type} {one : α → Bool} {rel : α → α → Bool}
theorem goodFrom_some : ∀ (xs : List α) (q : α), goodFrom one rel (some q) xs = true ↔ ∀ (k : Nat) (x : α), xs[k]? = some x → one x = true ∧ (∀ p, (q :: xs)[k]? = some p → rel p x = true)
  | [], q => by simp [goodFrom]
  | y :: xs, q => by
    rw [goodFrom, Bool.and_eq_true, Bool.and_eq_true, goodFrom_some xs y]
    constructor
    · rintro ⟨⟨h1, h2⟩, h3⟩ k x hk
      cases k with
      | zero => simp at hk; subst hk; exact ⟨h1, fun p hp => by simp at hp; subst hp; exact h2⟩
      | succ k => simp only [List.getElem?_cons_succ] at hk ⊢; exact h3 k x hk
    · intro h
      refine ⟨⟨(h 0 y rfl).1, (h 0 y rfl).2 q rfl⟩, fun k x hk => ?_⟩
      have := h (k + 1) x (by simpa using hk)
      simpa using this
theorem goodFrom_iff (xs : List α) : goodFrom one rel none xs = true ↔ ∀ n, GoodTo one rel xs n := by
  cases xs with
  | nil => simp [goodFrom, GoodTo]
  | cons y xs =>
    rw [goodFrom, Bool.and_eq_true, goodFrom_some]
    constructor
    · rintro ⟨h1, h2⟩ n k x _ hk
      cases k with
      | zero => simp at hk; subst hk; exact ⟨h1, fun p h => absurd h (by omega)⟩
      | succ k => simp only [List.getElem?_cons_succ] at hk; exact ⟨(h2 k x hk).1, fun p _ hp => (h2 k x hk).2 p (by simpa using hp)⟩
    · intro h
      refine ⟨(h 1 0 y (by omega) rfl).1, fun k x hk => ?_⟩
      have := h (k + 2) (k + 1) x (by omega) (by simpa using hk)
      exact ⟨this.1, fun p hp => this.2 p (by omega) (by simpa using hp)⟩
theorem validL_one {M : Nat} {xs : List α} {k : Nat} {x : α} (hx : xs[k]? = some x) (h : one x = false) : validL M one rel xs = false := by
  rw [validL, Bool.and_eq_false_iff]; right
  rw [← Bool.not_eq_true, goodFrom_iff]
  intro h1
  rw [(h1 (k + 1) k x (by omega) hx).1] at h; cases h
theorem validL_rel {M : Nat} {xs : List α} {k : Nat} {p x : α} (hk : 0 < k) (hp : xs[k - 1]? = some p) (hx : xs[k]? = some x) (h : rel p x = false) : validL M one rel xs = false := by
  rw [validL, Bool.and_eq_false_iff]; right
  rw [← Bool.not_eq_true, goodFrom_iff]
  intro h1
  rw [(h1 (k + 1) k x (by omega) hx).2 p hk hp] at h; cases h
theorem validL_len {M : Nat} {xs : List α} (h : M < xs.length) : validL M one rel xs = false := by
  simp [validL]; omega
theorem validL_all {M n : Nat} {xs : List α} (hn : xs.length ≤ n) (h : GoodTo one rel xs n) : validL M one rel xs = decide (xs.length ≤ M) := by
  rw [validL, (goodFrom_iff xs).2, Bool.and_true]
  intro m k x _ hx
  exact h k x (Nat.lt_of_lt_of_le (List.getElem?_eq_some_iff.1 hx).1 hn) hx
theorem GoodTo.zero {xs : List α} : GoodTo one rel xs 0 := fun _ _ h => absurd h (by omega)
theorem GoodTo.step {xs : List α} {k : Nat} {x : α} (h : GoodTo one rel xs k) (hx : xs[k]? = some x) (h1 : one x = true) (h2 : ∀ p, 0 < k → xs[k - 1]? = some p → rel p x = true) : GoodTo one rel xs (k + 1) := by
  intro j y hj hy
  by_cases e : j = k
  · subst e; rw [hx] at hy; cases hy; exact ⟨h1, h2⟩
  · exact h j y (by omega) hy
theorem validL_spec {M : Nat} {xs : List α} : validL M one rel xs = true ↔ xs.length ≤ M ∧ ∀ n, GoodTo one rel xs n := by
  rw [validL, Bool.and_eq_true, goodFrom_iff]; simp
theorem validL_good {M : Nat} {xs : List α} (h : validL M one rel xs = true) {k : Nat} {x : α} (hx : xs[k]? = some x) : one x = true := ((validL_spec.1 h).2 (k + 1) k x (by omega) hx).1
theorem validL_goodrel {M : Nat} {xs : List α} (h : validL M one rel xs = true) {k : Nat} {p x : α} (hp : xs[k]? = some p) (hx : xs[k + 1]? = some x) : rel p x = true := ((validL_spec.1 h).2 (k + 2) (k + 1) x (by omega) hx).2 p (by omega) hp
end
theorem cases2 (a b : Bool) : a = false ∨ a = true ∧ b = false ∨ a = true ∧ b = true := by cases a <;> cases b <;> simp
theorem cases3 (a b c : Bool) : a = false ∨ a = true ∧ b = false ∨ a = true ∧ b = true ∧ c = false ∨ a = true ∧ b = true ∧ c = true := by cases a <;> cases b <;> cases c <;> simp
theorem cases4 (a b c d : Bool) : a = false ∨ a = true ∧ b = false ∨ a = true ∧ b = true ∧ c = false ∨ a = true ∧ b = true ∧ c = true ∧ d = false ∨ a = true ∧ b = true ∧ c = true ∧ d = true := by cases a <;> cases b <;> cases c <;> cases d <;> simp
theorem cases5 (a b c d e : Bool) : a = false ∨ a = true ∧ b = false ∨ a = true ∧ b = true ∧ c = false ∨ a = true ∧ b = true ∧ c = true ∧ d = false ∨ a = true ∧ b = true ∧ c = true ∧ d = true ∧ e = false ∨ a = true ∧ b = true ∧ c = true ∧ d = true ∧ e = true := by cases a <;> cases b <;> cases c <;> cases d <;> cases e <;> simp
theorem cases6 (a b c d e f : Bool) : a = false ∨ a = true ∧ b = false ∨ a = true ∧ b = true ∧ c = false ∨ a = true ∧ b = true ∧ c = true ∧ d = false ∨ a = true ∧ b = true ∧ c = true ∧ d = true ∧ e = false ∨ a = true ∧ b = true ∧ c = true ∧ d = true ∧ e = true ∧ f = false ∨ a = true ∧ b = true ∧ c = true ∧ d = true ∧ e = true ∧ f = true := by cases a <;> cases b <;> cases c <;> cases d <;> cases e <;> cases f <;> simp
theorem cases7 (a b c d e f g : Bool) : a = false ∨ a = true ∧ b = false ∨ a = true ∧ b = true ∧ c = false ∨ a = true ∧ b = true ∧ c = true ∧ d = false ∨ a = true ∧ b = true ∧ c = true ∧ d = true ∧ e = false ∨ a = true ∧ b = true ∧ c = true ∧ d = true ∧ e = true ∧ f = false ∨ a = true ∧ b = true ∧ c = true ∧ d = true ∧ e = true ∧ f = true ∧ g = false ∨ a = true ∧ b = true ∧ c = true ∧ d = true ∧ e = true ∧ f = true ∧ g = true := by cases a <;> cases b <;> cases c <;> cases d <;> cases e <;> cases f <;> cases g <;> simp

theorem bytesLess_leq : ∀ a b : List UInt8, (Go.Op.bytesLess a b || a == b) = !Go.Op.bytesLess b a
  | [], [] => by simp [Go.Op.bytesLess]
  | [], _ :: _ => by simp [Go.Op.bytesLess]
  | _ :: _, [] => by simp [Go.Op.bytesLess]
  | x :: a, y :: b => by
    have ih := bytesLess_leq a b
    simp only [Go.Op.bytesLess]
    by_cases h : x = y
    · subst h
      simp only [UInt8.lt_irrefl, decide_false, beq_self_eq_true, Bool.true_and, Bool.false_or, List.cons_beq_cons]
      exact ih
    · have h' : ¬ y = x := fun e => h e.symm
      simp only [List.cons_beq_cons, beq_eq_false_iff_ne.2 h, beq_eq_false_iff_ne.2 h', Bool.false_and, Bool.or_false]
      have : x < y ∨ y < x := by
        rcases UInt8.lt_or_lt_of_ne h with h | h
        · exact .inl h
        · exact .inr h
      rcases this with h1 | h1
      · simp [h1, UInt8.lt_asymm h1]
      · simp [h1, UInt8.lt_asymm h1]

/-- The number of the first element of which p holds, or -1. -/
def findI {α : Type} (p : α → Bool) (xs : List α) : Int := match xs.findIdx? p with | some i => (i : Int) | none => -1
def NoneTo {α : Type} (p : α → Bool) (xs : List α) (n : Nat) : Prop := ∀ (j : Nat) (y : α), j < n → xs[j]? = some y → p y = false
section
variable {α : Type} {p : α → Bool} {xs : List α}
theorem NoneTo.zero : NoneTo p xs 0 := fun _ _ h => absurd h (by omega)
theorem NoneTo.step {k : Nat} {x : α} (h : NoneTo p xs k) (hx : xs[k]? = some x) (hp : p x = false) : NoneTo p xs (k + 1) := fun j y hj hy => by
  by_cases e : j = k
  · subst e; rw [hx] at hy; cases hy; exact hp
  · exact h j y (by omega) hy
theorem findI_hit {k : Nat} {x : α} (h : NoneTo p xs k) (hx : xs[k]? = some x) (hp : p x = true) : findI p xs = k := by
  have hk := (List.getElem?_eq_some_iff.1 hx).1
  have : xs.findIdx? p = some k := by
    rw [List.findIdx?_eq_some_iff_getElem]
    refine ⟨hk, by rw [← (List.getElem?_eq_some_iff.1 hx).2] at hp; exact hp, fun j hj => ?_⟩
    rw [h j xs[j] hj (List.getElem?_eq_getElem (by omega))]; simp
  unfold findI; rw [this]
theorem findI_none {n : Nat} (hn : xs.length ≤ n) (h : NoneTo p xs n) : findI p xs = -1 := by
  have : xs.findIdx? p = none := by
    rw [List.findIdx?_eq_none_iff]
    intro x hx
    obtain ⟨k, hk, rfl⟩ := List.getElem_of_mem hx
    exact h k _ (by omega) (List.getElem?_eq_getElem hk)
  unfold findI; rw [this]
theorem findI_cases : (∃ k x, xs[k]? = some x ∧ p x = true ∧ NoneTo p xs k ∧ findI p xs = k) ∨ ((∀ n, NoneTo p xs n) ∧ findI p xs = -1) := by
  cases h : xs.findIdx? p with
  | none =>
    right
    rw [List.findIdx?_eq_none_iff] at h
    refine ⟨fun n j y _ hy => h y (List.mem_of_getElem? hy), ?_⟩
    unfold findI; rw [List.findIdx?_eq_none_iff.2 h]
  | some k =>
    left
    have h' := h
    rw [List.findIdx?_eq_some_iff_getElem] at h
    obtain ⟨hk, hp, hlt⟩ := h
    refine ⟨k, xs[k], List.getElem?_eq_getElem hk, hp, fun j y hj hy => ?_, by unfold findI; rw [h']⟩
    have := hlt j hj
    rw [(List.getElem?_eq_some_iff.1 hy).2] at this
    simpa using this
theorem findI_neg : findI p xs < 0 ↔ ∀ (k : Nat) (x : α), xs[k]? = some x → p x = false := by
  rcases findI_cases (p := p) (xs := xs) with ⟨k, x, hx, hp, _, he⟩ | ⟨h, he⟩
  · rw [he]
    constructor
    · intro h; omega
    · intro h; rw [h k x hx] at hp; cases hp
  · rw [he]
    exact ⟨fun _ k x hx => h (k + 1) k x (by omega) hx, fun _ => by omega⟩
theorem findI_ge : -1 ≤ findI p xs := by
  rcases findI_cases (p := p) (xs := xs) with ⟨k, x, hx, hp, _, he⟩ | ⟨h, he⟩ <;> omega
theorem findI_lt : findI p xs < xs.length := by
  rcases findI_cases (p := p) (xs := xs) with ⟨k, x, hx, hp, _, he⟩ | ⟨h, he⟩
  · have := (List.getElem?_eq_some_iff.1 hx).1; omega
  · omega
end

/-- The sum of a value of the elements. -/
def sumBy {α : Type} (f : α → Int) (xs : List α) : Int := (xs.map f).sum
theorem sumBy_step {α : Type} {f : α → Int} {xs : List α} {k : Nat} {x : α} (hx : xs[k]? = some x) : sumBy f (xs.take (k + 1)) = sumBy f (xs.take k) + f x := by
  rw [List.take_succ_eq_append_getElem (List.getElem?_eq_some_iff.1 hx).1, (List.getElem?_eq_some_iff.1 hx).2]
  unfold sumBy
  simp
end Go.Proofs.YtllchmacipacnaaGreatDoor
