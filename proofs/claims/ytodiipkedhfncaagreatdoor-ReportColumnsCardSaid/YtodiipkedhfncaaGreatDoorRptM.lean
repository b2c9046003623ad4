/- Reports, plainly: the spread of all pairs, numbers in their order, the root bit by bit. No program is in sight. -/
namespace Go.Proofs.YtodiipkedhfncaaGreatDoor.RptM
set_option linter.unusedVariables false
set_option linter.unusedSimpArgs false

/-! ### Sums -/
def sum1 (l : List Int) : Int := l.foldl (· + ·) 0
def sum2 (l : List Int) : Int := l.foldl (fun a x => a + x * x) 0
def apart (x : Int) (l : List Int) : Int := l.foldl (fun a y => a + (x - y) * (x - y)) 0
theorem sum1_snoc (l : List Int) (x : Int) : sum1 (l ++ [x]) = sum1 l + x := by unfold sum1; rw [List.foldl_append]; rfl
theorem sum2_snoc (l : List Int) (x : Int) : sum2 (l ++ [x]) = sum2 l + x * x := by unfold sum2; rw [List.foldl_append]; rfl
theorem apart_snoc (x : Int) (l : List Int) (y : Int) : apart x (l ++ [y]) = apart x l + (x - y) * (x - y) := by unfold apart; rw [List.foldl_append]; rfl
/-- lists from their end -/
theorem snoc_ind {α : Type} {p : List α → Prop} (h0 : p []) (h : ∀ l x, p l → p (l ++ [x])) : ∀ l, p l := by
  intro l
  have : ∀ n, ∀ l : List α, l.length = n → p l := by
    intro n
    induction n with
    | zero => intro l hl; rw [List.eq_nil_of_length_eq_zero hl]; exact h0
    | succ n ih =>
      intro l hl
      have hne : l ≠ [] := fun e => by rw [e] at hl; simp at hl
      rw [← List.dropLast_concat_getLast hne]
      exact h _ _ (ih _ (by rw [List.length_dropLast]; omega))
  exact this _ l rfl
theorem apart_eq (x : Int) (l : List Int) : apart x l = (l.length : Int) * (x * x) - 2 * x * sum1 l + sum2 l := by
  induction l using snoc_ind with
  | h0 => simp [apart, sum1, sum2]
  | h l y ih =>
    rw [apart_snoc, ih, sum1_snoc, sum2_snoc, List.length_append]
    simp only [List.length_cons, List.length_nil, Int.natCast_add, Int.natCast_one, Int.natCast_zero, Int.zero_add]
    grind
/-- of all pairs how far they are apart, squared, together: one after the other as they come -/
def pairs : List Int → List Int → Int
  | _, [] => 0
  | done, x :: r => apart x done + pairs (done ++ [x]) r
theorem pairs_append (l m done : List Int) : pairs done (l ++ m) = pairs done l + pairs (done ++ l) m := by
  induction l generalizing done with
  | nil => simp [pairs]
  | cons x l ih => rw [List.cons_append, pairs, pairs, ih]; simp; omega
theorem pairs_snoc (l : List Int) (x : Int) : pairs [] (l ++ [x]) = pairs [] l + apart x l := by
  rw [pairs_append]
  simp [pairs]
/-- THE SPREAD: so many times the squares of all together, less the square of all together -/
theorem spread_eq (l : List Int) : pairs [] l = (l.length : Int) * sum2 l - sum1 l * sum1 l := by
  induction l using snoc_ind with
  | h0 => simp [pairs, sum1, sum2]
  | h l x ih =>
    rw [pairs_snoc, ih, apart_eq, sum1_snoc, sum2_snoc, List.length_append]
    simp only [List.length_cons, List.length_nil, Int.natCast_add, Int.natCast_one, Int.natCast_zero, Int.zero_add]
    grind
theorem apart_ge (x : Int) (l : List Int) : 0 ≤ apart x l := by
  induction l using snoc_ind with
  | h0 => simp [apart]
  | h l y ih =>
    rw [apart_snoc]
    have : 0 ≤ (x - y) * (x - y) := by
      rcases Int.le_total 0 (x - y) with h | h
      · exact Int.mul_nonneg h h
      · exact Int.mul_nonneg_of_nonpos_of_nonpos h h
    omega
theorem pairs_ge (l : List Int) : ∀ done, 0 ≤ pairs done l := by
  induction l with
  | nil => intro _; simp [pairs]
  | cons x l ih =>
    intro done
    have := apart_ge x done
    have := ih (done ++ [x])
    rw [pairs]; omega
theorem sum2_le (B : Int) (hB : 0 ≤ B) (l : List Int) (h : ∀ x ∈ l, x * x ≤ B) : 0 ≤ sum2 l ∧ sum2 l ≤ (l.length : Int) * B := by
  induction l using snoc_ind with
  | h0 => simp [sum2]
  | h l x ih =>
    have h1 := ih (fun y hy => h y (by simp [hy]))
    have h2 := h x (by simp)
    have h3 : 0 ≤ x * x := by
      rcases Int.le_total 0 x with h | h
      · exact Int.mul_nonneg h h
      · exact Int.mul_nonneg_of_nonpos_of_nonpos h h
    rw [sum2_snoc, List.length_append]
    simp only [List.length_cons, List.length_nil, Int.natCast_add, Int.natCast_one, Int.natCast_zero, Int.zero_add]
    rw [Int.add_mul, Int.one_mul]
    omega
/-- moved by as much, the spread stays -/
theorem apart_move (by_ x : Int) (l : List Int) : apart (x + by_) (l.map (· + by_)) = apart x l := by
  induction l using snoc_ind with
  | h0 => rfl
  | h l y ih =>
    rw [List.map_append, List.map_cons, List.map_nil, apart_snoc, apart_snoc, ih]
    rw [show x + by_ - (y + by_) = x - y by omega]
theorem pairs_move (by_ : Int) (l : List Int) : ∀ done, pairs (done.map (· + by_)) (l.map (· + by_)) = pairs done l := by
  induction l with
  | nil => intro _; rfl
  | cons x l ih =>
    intro done
    rw [List.map_cons, pairs, pairs, apart_move]
    have := ih (done ++ [x])
    rw [List.map_append, List.map_cons, List.map_nil] at this
    rw [this]
/-- the spread is 0 just of what is all the same -/
theorem apart_zero {x : Int} {l : List Int} : apart x l = 0 ↔ ∀ y ∈ l, y = x := by
  induction l using snoc_ind with
  | h0 => simp [apart]
  | h l y ih =>
    rw [apart_snoc]
    have h1 := apart_ge x l
    have h2 : 0 ≤ (x - y) * (x - y) := by
      rcases Int.le_total 0 (x - y) with h | h
      · exact Int.mul_nonneg h h
      · exact Int.mul_nonneg_of_nonpos_of_nonpos h h
    constructor
    · intro h z hz
      have h3 : apart x l = 0 := by omega
      have h4 : (x - y) * (x - y) = 0 := by omega
      rcases List.mem_append.1 hz with hz | hz
      · exact ih.1 h3 z hz
      · rw [List.mem_singleton.1 hz]
        rcases Int.mul_eq_zero.1 h4 with h5 | h5 <;> omega
    · intro h
      have h3 := ih.2 (fun z hz => h z (by simp [hz]))
      have h4 := h y (by simp)
      rw [h3, h4]; simp
theorem pairs_zero (l : List Int) : ∀ done : List Int, pairs done l = 0 → (∀ x ∈ done, ∀ y ∈ done, x = y) → ∀ x ∈ done ++ l, ∀ y ∈ done ++ l, x = y := by
  induction l with
  | nil => intro done _ h; simpa using h
  | cons z l ih =>
    intro done hp h
    rw [pairs] at hp
    have h1 := apart_ge z done
    have h2 := pairs_ge l (done ++ [z])
    have h3 : apart z done = 0 := by omega
    have h4 : pairs (done ++ [z]) l = 0 := by omega
    have h5 := apart_zero.1 h3
    have := ih (done ++ [z]) h4 (fun x hx y hy => by
      rcases List.mem_append.1 hx with hx | hx <;> rcases List.mem_append.1 hy with hy | hy
      · exact h x hx y hy
      · rw [List.mem_singleton.1 hy]; exact h5 x hx
      · rw [List.mem_singleton.1 hx]; exact (h5 y hy).symm
      · rw [List.mem_singleton.1 hx, List.mem_singleton.1 hy])
    intro x hx y hy
    exact this x (by simpa using hx) y (by simpa using hy)
theorem pairs_same {l : List Int} : ∀ done : List Int, (∀ x ∈ done ++ l, ∀ y ∈ done ++ l, x = y) → pairs done l = 0 := by
  induction l with
  | nil => intro _ _; rfl
  | cons z l ih =>
    intro done h
    rw [pairs, apart_zero.2 (fun y hy => h y (by simp [hy]) z (by simp)), ih (done ++ [z]) (by simpa using h)]
    rfl
/-! ### Numbers in their order -/
def insR (x : Int) : List Int → List Int
  | [] => [x]
  | y :: r => if y ≤ x then y :: insR x r else x :: y :: r
def sortR (l : List Int) : List Int := l.foldl (fun o x => insR x o) []
theorem insR_perm (x : Int) : ∀ l, (insR x l).Perm (x :: l)
  | [] => .refl _
  | y :: r => by
    rw [insR]
    split
    · exact ((insR_perm x r).cons y).trans (.swap x y r)
    · exact .refl _
theorem insR_mem {x z : Int} {l : List Int} (h : z ∈ insR x l) : z = x ∨ z ∈ l := by
  have := (insR_perm x l).mem_iff.1 h
  simpa using this
theorem insR_sorted (x : Int) : ∀ l : List Int, l.Pairwise (· ≤ ·) → (insR x l).Pairwise (· ≤ ·)
  | [], _ => by simp [insR]
  | y :: r, h => by
    rw [insR]
    have h' := List.pairwise_cons.1 h
    split
    · rename_i hy
      refine List.pairwise_cons.2 ⟨fun z hz => ?_, insR_sorted x r h'.2⟩
      rcases insR_mem hz with rfl | hz
      · exact hy
      · exact h'.1 z hz
    · rename_i hy
      refine List.pairwise_cons.2 ⟨fun z hz => ?_, h⟩
      rcases List.mem_cons.1 hz with rfl | hz
      · omega
      · have := h'.1 z hz; omega
theorem sortR_snoc (l : List Int) (x : Int) : sortR (l ++ [x]) = insR x (sortR l) := by unfold sortR; rw [List.foldl_append]; rfl
theorem sortR_perm (l : List Int) : (sortR l).Perm l := by
  induction l using snoc_ind with
  | h0 => exact .refl _
  | h l x ih => rw [sortR_snoc]; exact ((insR_perm x _).trans (ih.cons x)).trans (List.perm_append_singleton x l).symm
theorem sortR_sorted (l : List Int) : (sortR l).Pairwise (· ≤ ·) := by
  induction l using snoc_ind with
  | h0 => exact .nil
  | h l x ih => rw [sortR_snoc]; exact insR_sorted x _ ih
/-- two rising lists of the same numbers are one -/
theorem sorted_eq : ∀ {l m : List Int}, l.Perm m → l.Pairwise (· ≤ ·) → m.Pairwise (· ≤ ·) → l = m
  | [], m, h, _, _ => (List.perm_nil.1 h.symm).symm ▸ rfl
  | x :: l, [], h, _, _ => by have := h.length_eq; simp at this
  | x :: l, y :: m, h, h1, h2 => by
    have h1' := List.pairwise_cons.1 h1
    have h2' := List.pairwise_cons.1 h2
    have hxy : x = y := by
      have hx : x ∈ y :: m := h.mem_iff.1 (by simp)
      have hy : y ∈ x :: l := h.mem_iff.2 (by simp)
      rcases List.mem_cons.1 hx with hx | hx
      · exact hx
      · rcases List.mem_cons.1 hy with hy | hy
        · exact hy.symm
        · have := h2'.1 x hx; have := h1'.1 y hy; omega
    subst hxy
    rw [sorted_eq (List.Perm.cons_inv h) h1'.2 h2'.2]
/-! ### The root, bit by bit -/
def rootS (a r k : Nat) : Nat := if (r + 2 ^ k) * (r + 2 ^ k) ≤ a then r + 2 ^ k else r
/-- from bit k - 1 down -/
def rootK (a : Nat) : Nat → Nat → Nat
  | 0, r => r
  | k + 1, r => rootK a k (rootS a r k)
theorem rootK_ok (a : Nat) : ∀ (k r : Nat), r * r ≤ a → a < (r + 2 ^ k) * (r + 2 ^ k) → rootK a k r * rootK a k r ≤ a ∧ a < (rootK a k r + 1) * (rootK a k r + 1)
  | 0, r, h1, h2 => ⟨h1, by rw [rootK]; simpa using h2⟩
  | k + 1, r, h1, h2 => by
    rw [rootK]
    unfold rootS
    split
    · rename_i h
      refine rootK_ok a k _ h ?_
      rw [Nat.pow_succ] at h2
      rw [show r + 2 ^ k + 2 ^ k = r + 2 ^ k * 2 by omega]
      exact h2
    · rename_i h
      exact rootK_ok a k r h1 (by omega)
def rootF (a : Nat) : Nat := rootK a 64 0
theorem rootF_ok {a : Nat} (h : a < 340282366920938463463374607431768211456) : rootF a * rootF a ≤ a ∧ a < (rootF a + 1) * (rootF a + 1) := rootK_ok a 64 0 (by omega) (by simpa using h)
theorem rootF_lt {a : Nat} (h : a < 340282366920938463463374607431768211456) : rootF a < 18446744073709551616 := by
  have h1 := (rootF_ok h).1
  rcases Nat.lt_or_ge (rootF a) 18446744073709551616 with h2 | h2
  · exact h2
  · have := Nat.mul_le_mul h2 h2; omega
/-- the deviation: so many times, squared, it is no more than the spread, and one more is -/
theorem dev_low {a n : Nat} (h : a < 340282366920938463463374607431768211456) : (rootF a / n * n) * (rootF a / n * n) ≤ a :=
  Nat.le_trans (Nat.mul_le_mul (Nat.div_mul_le_self _ _) (Nat.div_mul_le_self _ _)) (rootF_ok h).1
theorem dev_high {a n : Nat} (hn : 0 < n) (h : a < 340282366920938463463374607431768211456) : a < (rootF a / n * n + n) * (rootF a / n * n + n) := by
  have h1 : rootF a + 1 ≤ rootF a / n * n + n := by
    have h2 := Nat.div_add_mod (rootF a) n
    have h3 := Nat.mod_lt (rootF a) hn
    rw [Nat.mul_comm (rootF a / n) n]
    omega
  exact Nat.lt_of_lt_of_le (rootF_ok h).2 (Nat.mul_le_mul h1 h1)
end Go.Proofs.YtodiipkedhfncaaGreatDoor.RptM
