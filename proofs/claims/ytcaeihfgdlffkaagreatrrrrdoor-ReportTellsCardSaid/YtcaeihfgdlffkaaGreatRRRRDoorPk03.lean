/- Plain mathematics of numbers by digits of base 65536, the lowest first. No program is in sight. -/

namespace Go.Proofs.YtcaeihfgdlffkaaGreatRRRRDoor.BigM

def val : List Int → Int
  | [] => 0
  | d :: r => d + 65536 * val r
def Dig (l : List Int) : Prop := ∀ d ∈ l, 0 ≤ d ∧ d < 65536
/-- without noughts at the top -/
def Top (l : List Int) : Prop := ∀ d, l.getLast? = some d → d ≠ 0
def Canon (l : List Int) : Prop := Dig l ∧ Top l

def pw (n : Nat) : Int := 65536 ^ n
theorem pw_zero : pw 0 = 1 := rfl
theorem pw_succ (n : Nat) : pw (n + 1) = 65536 * pw n := by simp [pw, Int.pow_succ, Int.mul_comm]
theorem pw_pos (n : Nat) : 0 < pw n := by
  induction n with
  | zero => simp [pw_zero]
  | succ n ih => rw [pw_succ]; omega
theorem pw_add (m n : Nat) : pw (m + n) = pw m * pw n := by simp [pw, Int.pow_add]

theorem val_append (l r : List Int) : val (l ++ r) = val l + pw l.length * val r := by
  induction l with
  | nil => simp [val, pw_zero]
  | cons d l ih => simp only [List.cons_append, val, ih, List.length_cons, pw_succ, Int.mul_add, Int.mul_assoc]; omega
theorem val_snoc (l : List Int) (d : Int) : val (l ++ [d]) = val l + pw l.length * d := by rw [val_append]; simp [val]
theorem val_nonneg {l : List Int} (h : Dig l) : 0 ≤ val l := by
  induction l with
  | nil => simp [val]
  | cons d l ih =>
    have h1 := h d (by simp)
    have h2 := ih (fun x hx => h x (by simp [hx]))
    simp only [val]; omega
theorem val_lt {l : List Int} (h : Dig l) : val l < pw l.length := by
  induction l with
  | nil => simp [val, pw_zero]
  | cons d l ih =>
    have h1 := h d (by simp)
    have h2 := ih (fun x hx => h x (by simp [hx]))
    simp only [val, List.length_cons, pw_succ]; omega
theorem dig_nil : Dig [] := by intro d hd; cases hd
theorem dig_append {l r : List Int} (h : Dig l) (k : Dig r) : Dig (l ++ r) := by
  intro d hd
  rcases List.mem_append.1 hd with h' | h'
  · exact h d h'
  · exact k d h'
theorem dig_snoc {l : List Int} {d : Int} (h : Dig l) (h0 : 0 ≤ d) (h1 : d < 65536) : Dig (l ++ [d]) :=
  dig_append h (by intro x hx; simp at hx; subst hx; exact ⟨h0, h1⟩)
theorem dig_take {l : List Int} (h : Dig l) (k : Nat) : Dig (l.take k) := fun d hd => h d (List.mem_of_mem_take hd)
def dg (l : List Int) (k : Nat) : Int := l.getD k 0
theorem dg_eq (l : List Int) (k : Nat) : dg l k = l[k]?.getD 0 := by unfold dg; rw [List.getD_eq_getElem?_getD]
theorem dig_getD {l : List Int} (h : Dig l) (k : Nat) : 0 ≤ dg l k ∧ dg l k < 65536 := by
  rcases Nat.lt_or_ge k l.length with hk | hk
  · rw [dg_eq, List.getElem?_eq_getElem hk]; exact h _ (List.getElem_mem hk)
  · rw [dg_eq, List.getElem?_eq_none hk]; simp
theorem dg_out (l : List Int) (k : Nat) (h : l.length ≤ k) : dg l k = 0 := by rw [dg_eq, List.getElem?_eq_none h]; rfl
theorem canon_nil : Canon [] := ⟨dig_nil, by intro d hd; simp at hd⟩
theorem top_snoc {l : List Int} {d : Int} (h : d ≠ 0) : Top (l ++ [d]) := by
  intro x hx; simp at hx; omega

theorem take_succ_getD (l : List Int) (k : Nat) (hk : k < l.length) : l.take (k + 1) = l.take k ++ [dg l k] := by
  rw [List.take_succ_eq_append_getElem hk, dg_eq, List.getElem?_eq_getElem hk]; rfl
theorem take_getD_none (l : List Int) (k : Nat) (hk : l.length ≤ k) : l.take (k + 1) = l.take k ∧ dg l k = 0 := by
  refine ⟨?_, by rw [dg_eq, List.getElem?_eq_none hk]; rfl⟩
  rw [List.take_of_length_le (by omega), List.take_of_length_le hk]
/-- The value of the first k digits, noughts past the end. -/
def pre (l : List Int) (k : Nat) : Int := val (l.take k)
theorem pre_zero (l : List Int) : pre l 0 = 0 := by simp [pre, val]
theorem pre_succ (l : List Int) (k : Nat) : pre l (k + 1) = pre l k + pw k * dg l k := by
  unfold pre
  rcases Nat.lt_or_ge k l.length with hk | hk
  · rw [take_succ_getD l k hk, val_snoc, List.length_take, Nat.min_eq_left (Nat.le_of_lt hk)]
  · obtain ⟨h1, h2⟩ := take_getD_none l k hk
    rw [h1, h2]; omega
theorem pre_all (l : List Int) (k : Nat) (hk : l.length ≤ k) : pre l k = val l := by unfold pre; rw [List.take_of_length_le hk]

/-- trim: how many digits are left. -/
theorem trim_step (l : List Int) (k : Nat) (h0 : dg l k = 0) : pre l (k + 1) = pre l k := by
  rw [pre_succ, h0]; omega
theorem trim_canon {l : List Int} (h : Dig l) (k : Nat) (hk : k ≤ l.length) (hstop : k = 0 ∨ dg l (k - 1) ≠ 0) : Canon (l.take k) := by
  refine ⟨dig_take h k, ?_⟩
  cases k with
  | zero => intro d hd; simp at hd
  | succ j =>
    rw [take_succ_getD l j (by omega)]
    exact top_snoc (by simpa using hstop)

theorem val_split (l : List Int) (k : Nat) (hk : k ≤ l.length) : val l = pre l k + pw k * val (l.drop k) := by
  have h : l = l.take k ++ l.drop k := (List.take_append_drop k l).symm
  conv => lhs; rw [h]
  rw [val_append, List.length_take, Nat.min_eq_left hk]; rfl
theorem drop_getD (l : List Int) (k : Nat) (hk : k < l.length) : l.drop k = dg l k :: l.drop (k + 1) := by
  rw [List.drop_eq_getElem_cons hk, dg_eq, List.getElem?_eq_getElem hk]; rfl
theorem pre_nonneg {l : List Int} (h : Dig l) (k : Nat) : 0 ≤ pre l k := val_nonneg (dig_take h k)
theorem pre_lt {l : List Int} (h : Dig l) (k : Nat) (hk : k ≤ l.length) : pre l k < pw k := by
  have := val_lt (dig_take h k)
  rwa [List.length_take, Nat.min_eq_left hk] at this
theorem canon_ge {l : List Int} (h : Canon l) (k : Nat) (hk : l.length = k + 1) : pw k ≤ val l := by
  have h1 := val_split l k (by omega)
  rw [drop_getD l k (by omega)] at h1
  have h2 : l.drop (k + 1) = [] := List.drop_of_length_le (by omega)
  rw [h2] at h1
  simp only [val] at h1
  have h3 := pre_nonneg h.1 k
  have h4 := dig_getD h.1 k
  have h5 : l.getLast? = some (dg l k) := by
    rw [List.getLast?_eq_getElem?, hk, dg_eq, Nat.add_sub_cancel, List.getElem?_eq_getElem (show k < l.length by omega)]; rfl
  have h6 := h.2 _ h5
  have h7 : pw k * 1 ≤ pw k * dg l k := Int.mul_le_mul_of_nonneg_left (by omega) (Int.le_of_lt (pw_pos k))
  have h8 : dg l k + 65536 * 0 = dg l k := by omega
  rw [h8] at h1
  omega
theorem canon_zero {l : List Int} (h : Canon l) : val l = 0 ↔ l.length = 0 := by
  constructor
  · intro h0
    rcases Nat.eq_zero_or_pos l.length with h1 | h1
    · exact h1
    · have := canon_ge h (l.length - 1) (by omega)
      have := pw_pos (l.length - 1)
      omega
  · intro h0
    have : l = [] := List.eq_nil_of_length_eq_zero h0
    subst this; rfl
theorem pw_mono {a b : Nat} (h : a ≤ b) : pw a ≤ pw b := by
  induction h with
  | refl => exact Int.le_refl _
  | step _ ih => rw [pw_succ]; have := pw_pos a; omega
theorem canon_len_lt {l r : List Int} (hl : Dig l) (hr : Canon r) (h : l.length < r.length) : val l < val r := by
  have h1 := val_lt hl
  have h2 := canon_ge hr (r.length - 1) (by omega)
  have h3 := pw_mono (show l.length ≤ r.length - 1 by omega)
  omega
theorem canon_len_le {l : List Int} (hl : Canon l) (k : Nat) (h : val l < pw k) : l.length ≤ k := by
  rcases Nat.lt_or_ge k l.length with h1 | h1
  · have h2 := canon_ge hl (l.length - 1) (by omega)
    have h3 := pw_mono (show k ≤ l.length - 1 by omega)
    omega
  · exact h1
theorem val_at (l : List Int) (k : Nat) (hk : k < l.length) : val l = pre l k + pw k * (dg l k + 65536 * val (l.drop (k + 1))) := by
  rw [val_split l k (by omega), drop_getD l k hk, val]
theorem dig_lt {l r : List Int} (hl : Dig l) (hr : Dig r) (k : Nat) (h1 : k < l.length) (h2 : k < r.length) (he : l.drop (k + 1) = r.drop (k + 1)) (hlt : dg l k < dg r k) : val l < val r := by
  rw [val_at l k h1, val_at r k h2, he]
  have h3 := pre_lt hl k (by omega)
  have h4 := pre_nonneg hr k
  have h5 : pw k * (dg l k + 1 + 65536 * val (r.drop (k + 1))) ≤ pw k * (dg r k + 65536 * val (r.drop (k + 1))) := Int.mul_le_mul_of_nonneg_left (by omega) (Int.le_of_lt (pw_pos k))
  have h6 : pw k * (dg l k + 1 + 65536 * val (r.drop (k + 1))) = pw k * (dg l k + 65536 * val (r.drop (k + 1))) + pw k := by rw [show dg l k + 1 + 65536 * val (r.drop (k + 1)) = (dg l k + 65536 * val (r.drop (k + 1))) + 1 by omega, Int.mul_add, Int.mul_one]
  omega
def ord (a b : Int) : Int := if a < b then -1 else if b < a then 1 else 0
theorem ord_lt {a b : Int} (h : a < b) : ord a b = -1 := by unfold ord; rw [if_pos h]
theorem ord_gt {a b : Int} (h : b < a) : ord a b = 1 := by unfold ord; rw [if_neg (by omega), if_pos h]
theorem ord_eq {a b : Int} (h : a = b) : ord a b = 0 := by unfold ord; rw [if_neg (by omega), if_neg (by omega)]
theorem pw4 : pw 4 = 18446744073709551616 := by simp [pw]
theorem of_step (l : List Int) (m : Int) : val (l ++ [m % 65536]) + pw (l ++ [m % 65536]).length * (m / 65536) = val l + pw l.length * m := by
  rw [val_snoc, List.length_append, List.length_singleton, pw_succ]
  have h : m = m % 65536 + 65536 * (m / 65536) := by omega
  have h2 : pw l.length * m = pw l.length * (m % 65536) + pw l.length * (65536 * (m / 65536)) := by rw [← Int.mul_add, ← h]
  have h3 : 65536 * pw l.length * (m / 65536) = pw l.length * (65536 * (m / 65536)) := by rw [Int.mul_comm 65536 (pw l.length), Int.mul_assoc]
  omega
theorem of_top (l : List Int) (m : Int) (hm : 0 < m) (h : m / 65536 = 0) : Top (l ++ [m % 65536]) := top_snoc (by omega)
theorem of_lt (k : Nat) (m : Int) (h : m < pw (k + 1)) : m / 65536 < pw k := by rw [pw_succ] at h; omega
theorem carry_step (l : List Int) (n : Int) (k : Nat) (hk : l.length = k) : val (l ++ [n % 65536]) + pw (k + 1) * (n / 65536) = val l + pw k * n := by
  have := of_step l n
  rw [List.length_append, List.length_singleton, hk] at this
  exact this
theorem plus_step {l a b : List Int} {k : Nat} {c : Int} (hk : l.length = k) (h : val l + pw k * c = pre a k + pre b k) :
    val (l ++ [(dg a k + dg b k + c) % 65536]) + pw (k + 1) * ((dg a k + dg b k + c) / 65536) = pre a (k + 1) + pre b (k + 1) := by
  rw [carry_step l _ k hk, pre_succ, pre_succ, Int.mul_add, Int.mul_add]; omega
/-- what is taken off, with what is borrowed -/
def mdig (n : Int) : Int := if n < 0 then n + 65536 else n
def mbor (n : Int) : Int := if n < 0 then 1 else 0
theorem minus_step {l a b : List Int} {k : Nat} {c : Int} (hk : l.length = k) (h : val l - pw k * c = pre a k - pre b k) :
    val (l ++ [mdig (dg a k - dg b k - c)]) - pw (k + 1) * mbor (dg a k - dg b k - c) = pre a (k + 1) - pre b (k + 1) := by
  rw [val_snoc, hk, pre_succ, pre_succ, pw_succ]
  generalize dg a k = x at *
  generalize dg b k = y at *
  have e : pw k * (x - y - c) = pw k * x - pw k * y - pw k * c := by rw [Int.mul_sub, Int.mul_sub]
  unfold mdig mbor
  split
  · have e2 : pw k * (x - y - c + 65536) = pw k * (x - y - c) + pw k * 65536 := Int.mul_add _ _ _
    have e3 : 65536 * pw k * 1 = pw k * 65536 := by rw [Int.mul_one, Int.mul_comm]
    omega
  · have e3 : 65536 * pw k * 0 = 0 := by rw [Int.mul_zero]
    omega
theorem minus_end {l a b : List Int} {c : Int} (ha : Dig a) (hb : Dig b) (hd : Dig l) (hl : l.length = a.length) (hc : 0 ≤ c) (h : val l - pw a.length * c = pre a a.length - pre b a.length)
    (hle : val b ≤ val a) : val l = val a - val b := by
  rw [pre_all a _ (Nat.le_refl _)] at h
  have h1 := val_lt ha
  rcases Nat.lt_or_ge a.length b.length with h2 | h2
  · have h3 := val_split b a.length (by omega)
    have h4 := val_nonneg (l := b.drop a.length) (fun d hd => hb d (List.mem_of_mem_drop hd))
    have h5 := pre_nonneg hb a.length
    have h6 := val_nonneg hd
    have h7 := val_lt hd
    rw [hl] at h7
    have h8 : val (b.drop a.length) = 0 := by
      rcases Int.lt_or_le 0 (val (b.drop a.length)) with h9 | h9
      · have : pw a.length * 1 ≤ pw a.length * val (b.drop a.length) := Int.mul_le_mul_of_nonneg_left (by omega) (Int.le_of_lt (pw_pos _))
        omega
      · omega
    rw [h8] at h3
    have h10 : c = 0 := by
      rcases Int.lt_or_le 0 c with h9 | h9
      · have : pw a.length * 1 ≤ pw a.length * c := Int.mul_le_mul_of_nonneg_left (by omega) (Int.le_of_lt (pw_pos _))
        omega
      · omega
    subst h10
    omega
  · rw [pre_all b _ h2] at h
    have h6 := val_nonneg hd
    have h7 := val_lt hd
    rw [hl] at h7
    have h10 : c = 0 := by
      rcases Int.lt_or_le 0 c with h9 | h9
      · have : pw a.length * 1 ≤ pw a.length * c := Int.mul_le_mul_of_nonneg_left (by omega) (Int.le_of_lt (pw_pos _))
        omega
      · omega
    subst h10
    omega
theorem dig_zeros (n : Nat) : Dig (List.replicate n 0) := by
  intro d hd; rw [List.mem_replicate] at hd; omega
theorem val_zeros (n : Nat) : val (List.replicate n 0) = 0 := by
  induction n with
  | zero => rfl
  | succ n ih => simp [List.replicate_succ, val, ih]
/-- one more digit of the row of x times b -/
theorem row_step {l b : List Int} {i k : Nat} {x c : Int} (hk : l.length = i + k) (h : val l + pw (i + k) * c = pw i * (x * pre b k)) :
    val (l ++ [(x * dg b k + c) % 65536]) + pw (i + (k + 1)) * ((x * dg b k + c) / 65536) = pw i * (x * pre b (k + 1)) := by
  rw [← Nat.add_assoc, carry_step l _ (i + k) hk, pre_succ, Int.mul_add, Int.mul_add, Int.mul_add, pw_add]
  rw [pw_add] at h
  have e : pw i * (x * (pw k * dg b k)) = pw i * pw k * (x * dg b k) := by
    rw [Int.mul_assoc]; congr 1; rw [← Int.mul_assoc, Int.mul_comm x, Int.mul_assoc]
  omega
theorem row_bound {x d : Int} (h0 : 0 ≤ x) (h1 : x < 65536) (h2 : 0 ≤ d) (h3 : d < 65536) : 0 ≤ x * d ∧ x * d ≤ 4294836225 := by
  refine ⟨Int.mul_nonneg h0 h2, ?_⟩
  have h6 : x * d ≤ 65535 * d := Int.mul_le_mul_of_nonneg_right (by omega) h2
  omega
theorem row_end {l b : List Int} {i : Nat} {x c : Int} (hl : l.length = i + b.length) (h : val l + pw (i + b.length) * c = pw i * (x * pre b b.length)) : val (l ++ [c]) = pw i * (x * val b) := by
  rw [val_snoc, hl, h, pre_all b _ (Nat.le_refl _)]
theorem times_step (a : List Int) (i : Nat) (M : Int) : pre a i * M + pw i * (dg a i * M) = pre a (i + 1) * M := by
  rw [pre_succ, Int.add_mul, Int.mul_assoc]
theorem prod_lt {a b : List Int} (ha : Dig a) (hb : Dig b) : val a * val b < pw (a.length + b.length) := by
  have h1 := val_lt ha
  have h2 := val_lt hb
  have h3 := val_nonneg ha
  have h4 := val_nonneg hb
  rw [pw_add]
  have h5 : val a * val b ≤ val a * pw b.length := Int.mul_le_mul_of_nonneg_left (by omega) h3
  have h6 : val a * pw b.length < pw a.length * pw b.length := Int.mul_lt_mul_of_pos_right h1 (pw_pos _)
  omega
theorem val_lt_len {l : List Int} (h : Dig l) {s : Nat} (hs : l.length ≤ s) : val l < pw s := Int.lt_of_lt_of_le (val_lt h) (pw_mono hs)
theorem val_drop (l : List Int) (k : Nat) (hk : k < l.length) : val (l.drop k) = dg l k + 65536 * val (l.drop (k + 1)) := by rw [drop_getD l k hk, val]
theorem dig_drop {l : List Int} (h : Dig l) (k : Nat) : Dig (l.drop k) := fun d hd => h d (List.mem_of_mem_drop hd)
theorem val_drop_le {l : List Int} (h : Dig l) (k : Nat) (hk : k ≤ l.length) : val (l.drop k) ≤ val l := by
  have h1 := val_split l k hk
  have h2 := pre_nonneg h k
  have h3 := val_nonneg (dig_drop h k)
  have h4 : 1 * val (l.drop k) ≤ pw k * val (l.drop k) := Int.mul_le_mul_of_nonneg_right (pw_pos k) h3
  omega
/-- a number as an int: it and 0, or 0 and 10 (ErrOver) -/
def fitsV (z : Int) : Int := if -9223372036854775808 ≤ z ∧ z ≤ 9223372036854775807 then z else 0
def fitsE (z : Int) : Int := if -9223372036854775808 ≤ z ∧ z ≤ 9223372036854775807 then 0 else 10
theorem fits_in {z : Int} (h0 : -9223372036854775808 ≤ z) (h1 : z ≤ 9223372036854775807) : fitsV z = z ∧ fitsE z = 0 := by unfold fitsV fitsE; rw [if_pos ⟨h0, h1⟩, if_pos ⟨h0, h1⟩]; exact ⟨rfl, rfl⟩
theorem fits_out {z : Int} (h : ¬(-9223372036854775808 ≤ z ∧ z ≤ 9223372036854775807)) : fitsV z = 0 ∧ fitsE z = 10 := by unfold fitsV fitsE; rw [if_neg h, if_neg h]; exact ⟨rfl, rfl⟩
end Go.Proofs.YtcaeihfgdlffkaaGreatRRRRDoor.BigM

/- Plain mathematics of wide numbers: how products lie. -/
namespace Go.Proofs.YtcaeihfgdlffkaaGreatRRRRDoor.WideM
open BigM
def two64 : Int := 18446744073709551616
theorem two64_def : two64 = 18446744073709551616 := rfl
theorem ord_cases (a b : Int) : (ord a b = -1 ∧ a < b) ∨ (ord a b = 0 ∧ a = b) ∨ (ord a b = 1 ∧ b < a) := by
  rcases Int.lt_trichotomy a b with h | h | h
  · exact .inl ⟨ord_lt h, h⟩
  · exact .inr (.inl ⟨ord_eq h, h⟩)
  · exact .inr (.inr ⟨ord_gt h, h⟩)
theorem sgn_mul (a b : Int) : ord (a * b) 0 = ord a 0 * ord b 0 := by
  rcases ord_cases a 0 with ⟨e, h⟩ | ⟨e, h⟩ | ⟨e, h⟩ <;> rcases ord_cases b 0 with ⟨e2, h2⟩ | ⟨e2, h2⟩ | ⟨e2, h2⟩ <;> rw [e, e2]
  · exact ord_gt (Int.mul_pos_of_neg_of_neg h h2)
  · rw [h2, Int.mul_zero]; rfl
  · exact ord_lt (Int.mul_neg_of_neg_of_pos h h2)
  · rw [h, Int.zero_mul]; rfl
  · rw [h, Int.zero_mul]; rfl
  · rw [h, Int.zero_mul]; rfl
  · exact ord_lt (Int.mul_neg_of_pos_of_neg h h2)
  · rw [h2, Int.mul_zero]; rfl
  · exact ord_gt (Int.mul_pos h h2)
theorem prods_ne (x y : Int) (h : ord x 0 ≠ ord y 0) : ord (ord x 0) (ord y 0) = ord x y := by
  rcases ord_cases x 0 with ⟨e, h1⟩ | ⟨e, h1⟩ | ⟨e, h1⟩ <;> rcases ord_cases y 0 with ⟨e2, h2⟩ | ⟨e2, h2⟩ | ⟨e2, h2⟩ <;> rw [e, e2] at h ⊢
  all_goals first
    | exact absurd rfl h
    | (rw [ord_lt (show x < y by omega)]; rfl)
    | (rw [ord_gt (show y < x by omega)]; rfl)
theorem prods_eq (x y : Int) (h : ord x 0 = ord y 0) : ord x 0 * ord (x.natAbs : Int) (y.natAbs : Int) = ord x y := by
  rcases ord_cases x 0 with ⟨e, h1⟩ | ⟨e, h1⟩ | ⟨e, h1⟩ <;> rcases ord_cases y 0 with ⟨e2, h2⟩ | ⟨e2, h2⟩ | ⟨e2, h2⟩ <;> rw [e, e2] at h <;> rw [e]
  all_goals first
    | exact absurd h (by decide)
    | skip
  · rcases ord_cases x y with ⟨f, g⟩ | ⟨f, g⟩ | ⟨f, g⟩ <;> rw [f]
    · rw [ord_gt (show (y.natAbs : Int) < x.natAbs by omega)]; rfl
    · rw [ord_eq (show (x.natAbs : Int) = y.natAbs by omega)]; rfl
    · rw [ord_lt (show (x.natAbs : Int) < y.natAbs by omega)]; rfl
  · rw [Int.zero_mul, ord_eq (show x = y by omega)]
  · rcases ord_cases x y with ⟨f, g⟩ | ⟨f, g⟩ | ⟨f, g⟩ <;> rw [f]
    · rw [ord_lt (show (x.natAbs : Int) < y.natAbs by omega)]; rfl
    · rw [ord_eq (show (x.natAbs : Int) = y.natAbs by omega)]; rfl
    · rw [ord_gt (show (y.natAbs : Int) < x.natAbs by omega)]; rfl
theorem ord_bd (a b : Int) : -1 ≤ ord a b ∧ ord a b ≤ 1 := by unfold ord; split <;> (try split) <;> omega
/-- two words are compared word by word -/
theorem ord_words {h l h' l' : Int} (h0 : 0 ≤ l) (h1 : l < two64) (h2 : 0 ≤ l') (h3 : l' < two64) : (if h = h' then ord l l' else ord h h') = ord (h * two64 + l) (h' * two64 + l') := by
  unfold two64 at *
  split
  · subst h
    rcases ord_cases l l' with ⟨f, g⟩ | ⟨f, g⟩ | ⟨f, g⟩ <;> rw [f]
    · rw [ord_lt (by omega)]
    · rw [ord_eq (by omega)]
    · rw [ord_gt (by omega)]
  · rcases ord_cases h h' with ⟨f, g⟩ | ⟨f, g⟩ | ⟨f, g⟩ <;> rw [f]
    · rw [ord_lt (by omega)]
    · omega
    · rw [ord_gt (by omega)]
theorem words (x : Int) : x / 18446744073709551616 * two64 + x % 18446744073709551616 = x := by unfold two64; omega
theorem natAbs_mul' (a b : Int) : (a.natAbs : Int) * (b.natAbs : Int) = ((a * b).natAbs : Int) := by rw [Int.natAbs_mul]; simp
theorem natAbs_bd {a : Int} (h0 : -9223372036854775808 ≤ a) (h1 : a ≤ 9223372036854775807) : 0 ≤ (a.natAbs : Int) ∧ (a.natAbs : Int) ≤ 9223372036854775808 := by omega
end Go.Proofs.YtcaeihfgdlffkaaGreatRRRRDoor.WideM
