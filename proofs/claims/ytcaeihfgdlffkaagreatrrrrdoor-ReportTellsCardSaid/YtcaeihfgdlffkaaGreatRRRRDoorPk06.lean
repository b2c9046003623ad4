/- Reports, plainly: the bits of a root, how many scores have a level of so many hundreds, the words of a wide number. No program is in sight. -/
import Derived.Test.YtcaeihfgdlffkaaGreatRRRRDoorPk05
import Derived.Test.YtcaeihfgdlffkaaGreatRRRRDoorShelf
import Derived.Test.YtcaeihfgdlffkaaGreatRRRRDoorRows
import Derived.Test.YtcaeihfgdlffkaaGreatRRRRDoorPk03
import Derived.Laws.Externs
import Derived.Deep.RegionLaw
import Derived.Shelf.Spec.BitsCarry
import Derived.Deep.DeepMust
namespace Go.Proofs.YtcaeihfgdlffkaaGreatRRRRDoor.RptO
open RptM
set_option linter.unusedVariables false
set_option linter.unusedSimpArgs false

/-! ### The bits of a root -/
/-- nothing below bit k is set -/
def Rt (k r : Nat) : Prop := r % 2 ^ k = 0 ∧ r < 18446744073709551616
theorem rt_start : Rt 64 0 := ⟨by simp, by omega⟩
theorem rt_down {k r : Nat} (h : Rt (k + 1) r) : Rt k r := by
  refine ⟨?_, h.2⟩
  have h1 : 2 ^ k ∣ 2 ^ (k + 1) := ⟨2, by rw [Nat.pow_succ]⟩
  exact Nat.mod_eq_zero_of_dvd (Nat.dvd_trans h1 (Nat.dvd_of_mod_eq_zero h.1))
theorem rt_room {k r : Nat} (hk : k < 64) (h : Rt (k + 1) r) : r + 2 ^ k < 18446744073709551616 := by
  obtain ⟨m, hm⟩ := Nat.dvd_of_mod_eq_zero h.1
  have h2 := h.2
  have h3 : (18446744073709551616 : Nat) = 2 ^ (k + 1) * 2 ^ (63 - k) := by rw [← Nat.pow_add, show k + 1 + (63 - k) = 64 by omega]
  have h4 : m < 2 ^ (63 - k) := by
    rw [h3, hm] at h2
    exact Nat.lt_of_mul_lt_mul_left h2
  have h5 : 2 ^ (k + 1) * (m + 1) ≤ 2 ^ (k + 1) * 2 ^ (63 - k) := Nat.mul_le_mul_left _ h4
  have h6 : 2 ^ k < 2 ^ (k + 1) := by rw [Nat.pow_succ]; have := Nat.two_pow_pos k; omega
  rw [h3, hm]
  rw [Nat.mul_add, Nat.mul_one] at h5
  omega
theorem rt_up {k r : Nat} (hk : k < 64) (h : Rt (k + 1) r) : Rt k (r + 2 ^ k) := by
  refine ⟨?_, rt_room hk h⟩
  rw [Nat.add_mod_right]
  exact (rt_down h).1
theorem rt_or {k r : Nat} (h : Rt (k + 1) r) : r ||| 2 ^ k = r + 2 ^ k := by
  obtain ⟨m, hm⟩ := Nat.dvd_of_mod_eq_zero h.1
  have h6 : 2 ^ k < 2 ^ (k + 1) := by rw [Nat.pow_succ]; have := Nat.two_pow_pos k; omega
  rw [hm]
  exact (Nat.two_pow_add_eq_or_of_lt h6 m).symm
theorem rt_step {a k r : Nat} (hk : k < 64) (h : Rt (k + 1) r) : Rt k (rootS a r k) := by
  unfold rootS
  split
  · exact rt_up hk h
  · exact rt_down h
/-- the deviation and its error: `a` the spread -/
def devV (a n : Int) : Int := if n < 1 ∨ 256 < n then 0 else if (rootF a.toNat : Int) / n > 9223372036854775807 then 0 else (rootF a.toNat : Int) / n
def devE (a n : Int) : Int := if n < 1 ∨ 256 < n then 1 else if (rootF a.toNat : Int) / n > 9223372036854775807 then 10 else 0
theorem dev_arg {a n : Int} (h : n < 1 ∨ 256 < n) : devV a n = 0 ∧ devE a n = 1 := by unfold devV devE; rw [if_pos h, if_pos h]; exact ⟨rfl, rfl⟩
theorem dev_over {a n : Int} (h : ¬ (n < 1 ∨ 256 < n)) (k : (rootF a.toNat : Int) / n > 9223372036854775807) : devV a n = 0 ∧ devE a n = 10 := by unfold devV devE; rw [if_neg h, if_neg h, if_pos k, if_pos k]; exact ⟨rfl, rfl⟩
theorem dev_ok {a n : Int} (h : ¬ (n < 1 ∨ 256 < n)) (k : ¬ (rootF a.toNat : Int) / n > 9223372036854775807) : devV a n = (rootF a.toNat : Int) / n ∧ devE a n = 0 := by unfold devV devE; rw [if_neg h, if_neg h, if_neg k, if_neg k]; exact ⟨rfl, rfl⟩
/-- what the statement says of it -/
theorem dev_says {a n : Int} (h0 : 0 ≤ a) (h1 : a < 340282366920938463463374607431768211456) (he : devE a n = 0) :
    (1 ≤ n ∧ n ≤ 256) ∧ (0 ≤ devV a n ∧ devV a n ≤ 9223372036854775807) ∧ (devV a n * n) * (devV a n * n) ≤ a ∧ a < (devV a n * n + n) * (devV a n * n + n) := by
  by_cases h : n < 1 ∨ 256 < n
  · rw [(dev_arg h).2] at he; cases he
  by_cases k : (rootF a.toNat : Int) / n > 9223372036854775807
  · rw [(dev_over h k).2] at he; cases he
  rw [(dev_ok h k).1]
  have hn : 1 ≤ n ∧ n ≤ 256 := by omega
  have hd : 0 ≤ (rootF a.toNat : Int) / n := Int.ediv_nonneg (by omega) (by omega)
  have e1 : a = (a.toNat : Int) := by omega
  have e2 : n = (n.toNat : Int) := by omega
  have ha : a.toNat < 340282366920938463463374607431768211456 := by omega
  have l := dev_low (n := n.toNat) ha
  have u := dev_high (n := n.toNat) (by omega) ha
  have e3 : (rootF a.toNat : Int) / n = ((rootF a.toNat / n.toNat : Nat) : Int) := by rw [Int.natCast_ediv, ← e2]
  refine ⟨hn, ⟨hd, by omega⟩, ?_, ?_⟩
  · rw [e3, e2, ← Int.natCast_mul, ← Int.natCast_mul]
    have := Int.ofNat_le.2 l
    simp only [Int.toNat_natCast] at this ⊢
    omega
  · rw [e3, e2, ← Int.natCast_mul, ← Int.natCast_add, ← Int.natCast_mul]
    have := Int.ofNat_lt.2 u
    simp only [Int.toNat_natCast] at this ⊢
    omega
/-! ### Levels -/
/-- one more at a place -/
def bump (l : List Int) (k : Nat) : List Int := l.set k (l.getD k 0 + 1)
theorem bump_length (l : List Int) (k : Nat) : (bump l k).length = l.length := by unfold bump; simp
theorem bump_sum : ∀ (l : List Int) (k : Nat), k < l.length → (bump l k).sum = l.sum + 1
  | [], k, h => by simp at h
  | x :: l, 0, _ => by simp [bump]; omega
  | x :: l, k + 1, h => by
    have := bump_sum l k (by simpa using h)
    unfold bump at this ⊢
    simp only [List.set_cons_succ, List.getD_cons_succ, List.sum_cons]
    omega
theorem bump_le {B : Int} {l : List Int} {k : Nat} (hB : 0 ≤ B) (h : ∀ x ∈ l, 0 ≤ x ∧ x ≤ B) : ∀ x ∈ bump l k, 0 ≤ x ∧ x ≤ B + 1 := by
  intro x hx
  unfold bump at hx
  rcases List.mem_or_eq_of_mem_set hx with hx | rfl
  · have := h x hx; omega
  · rw [List.getD_eq_getElem?_getD]
    rcases Nat.lt_or_ge k l.length with hk | hk
    · rw [List.getElem?_eq_getElem hk]
      have := h _ (List.getElem_mem hk)
      simp only [Option.getD_some]
      omega
    · rw [List.getElem?_eq_none hk]; simp; omega
/-- how many have a level of so many hundreds: none, where one of them is no score. `s p q`: a score?; `v p q`: its hundreds -/
def lev (s : Int → Int → Bool) (v : Int → Int → Nat) : List Int → List (Int × Int) → Option (List Int)
  | out, [] => some out
  | out, (p, q) :: r => if s p q then lev s v (bump out (v p q)) r else none
theorem lev_snoc {s : Int → Int → Bool} {v : Int → Int → Nat} : ∀ {l : List (Int × Int)} {o o' : List Int} {p q : Int}, lev s v o l = some o' → lev s v o (l ++ [(p, q)]) = if s p q then some (bump o' (v p q)) else none
  | [], o, o', p, q, h => by cases h; rfl
  | (a, b) :: l, o, o', p, q, h => by
    rw [lev] at h
    rw [List.cons_append, lev]
    split
    · rename_i hs; rw [if_pos hs] at h; exact lev_snoc h
    · rename_i hs; rw [if_neg hs] at h; cases h
theorem lev_take_none {s : Int → Int → Bool} {v : Int → Int → Nat} : ∀ {l m : List (Int × Int)} {o : List Int}, lev s v o l = none → lev s v o (l ++ m) = none
  | [], m, o, h => by cases h
  | (a, b) :: l, m, o, h => by
    rw [lev] at h
    rw [List.cons_append, lev]
    split
    · rename_i hs; rw [if_pos hs] at h; exact lev_take_none h
    · rfl
theorem lev_length {s : Int → Int → Bool} {v : Int → Int → Nat} : ∀ {l : List (Int × Int)} {o o' : List Int}, lev s v o l = some o' → o'.length = o.length
  | [], o, o', h => by cases h; rfl
  | (a, b) :: l, o, o', h => by
    rw [lev] at h
    split at h
    · rw [lev_length h, bump_length]
    · cases h
theorem lev_sum {s : Int → Int → Bool} {v : Int → Int → Nat} (hv : ∀ p q, s p q = true → v p q < 11) : ∀ {l : List (Int × Int)} {o o' : List Int}, o.length = 11 → lev s v o l = some o' → o'.sum = o.sum + l.length
  | [], o, o', _, h => by cases h; simp
  | (a, b) :: l, o, o', ho, h => by
    rw [lev] at h
    split at h
    · rename_i hs
      rw [lev_sum hv (by rw [bump_length]; exact ho) h, bump_sum _ _ (by rw [ho]; exact hv _ _ hs), List.length_cons]
      omega
    · cases h
theorem lev_le {s : Int → Int → Bool} {v : Int → Int → Nat} : ∀ {l : List (Int × Int)} {o o' : List Int} {B : Int}, 0 ≤ B → (∀ x ∈ o, 0 ≤ x ∧ x ≤ B) → lev s v o l = some o' → ∀ x ∈ o', 0 ≤ x ∧ x ≤ B + l.length
  | [], o, o', B, hB, ho, h => by cases h; intro x hx; have := ho x hx; simp; omega
  | (a, b) :: l, o, o', B, hB, ho, h => by
    rw [lev] at h
    split at h
    · intro x hx
      have := lev_le (B := B + 1) (by omega) (bump_le hB ho) h x hx
      rw [List.length_cons]; omega
    · cases h
theorem lev_none {s : Int → Int → Bool} {v : Int → Int → Nat} : ∀ {l : List (Int × Int)} {o : List Int}, lev s v o l = none → l.all (fun x => s x.1 x.2) = false
  | [], o, h => by cases h
  | (a, b) :: l, o, h => by
    rw [lev] at h
    split at h
    · rw [List.all_cons, lev_none h, Bool.and_false]
    · rename_i hs; rw [List.all_cons]; simp [hs]
/-! ### The words of a wide number -/
def hiW (z : Int) : Int := z / 18446744073709551616
def loW (z : Int) : Int := z % 18446744073709551616
theorem W_range {z : Int} (h0 : 0 ≤ z) (h1 : z < 340282366920938463463374607431768211456) : (0 ≤ hiW z ∧ hiW z < 18446744073709551616) ∧ (0 ≤ loW z ∧ loW z < 18446744073709551616) ∧ hiW z * 18446744073709551616 + loW z = z := by
  unfold hiW loW; omega
theorem W_add (a b : Int) : loW (a + b) = (loW a + loW b) % 18446744073709551616 ∧ hiW (a + b) = hiW a + hiW b + (loW a + loW b) / 18446744073709551616 := by
  unfold hiW loW; omega
theorem W_sub (a b : Int) : loW (a - b) = (loW a - loW b) % 18446744073709551616 ∧ hiW (a - b) = hiW a - hiW b - (if loW a < loW b then 1 else 0) := by
  unfold hiW loW; split <;> omega
theorem W_inj {a b : Int} : (hiW a = hiW b ∧ loW a = loW b) ↔ a = b := by
  unfold hiW loW; omega
end Go.Proofs.YtcaeihfgdlffkaaGreatRRRRDoor.RptO

/- Reports, plainly: what a column is like, and the columns of vectors. No program is in sight. -/
namespace Go.Proofs.YtcaeihfgdlffkaaGreatRRRRDoor.RptC
open RptM RptO
set_option linter.unusedVariables false
set_option linter.unusedSimpArgs false

/-- numbers of a vector -/
def Nm (l : List Int) : Prop := ∀ x ∈ l, -2147483648 ≤ x ∧ x ≤ 2147483647
theorem sq_le {x : Int} (h : -2147483648 ≤ x ∧ x ≤ 2147483647) : x * x ≤ 4611686018427387904 := by
  have h1 : x.natAbs ≤ 2147483648 := by omega
  have h2 := Nat.mul_le_mul h1 h1
  rw [← Int.natAbs_mul] at h2
  omega
theorem sum1_le (l : List Int) (h : Nm l) : -2147483648 * (l.length : Int) ≤ sum1 l ∧ sum1 l ≤ 2147483648 * (l.length : Int) := by
  induction l using snoc_ind with
  | h0 => simp [sum1]
  | h l x ih =>
    have h1 := ih (fun y hy => h y (by simp [hy]))
    have h2 := h x (by simp)
    rw [sum1_snoc, List.length_append]
    simp only [List.length_cons, List.length_nil, Int.natCast_add, Int.natCast_one, Int.natCast_zero, Int.zero_add]
    omega
theorem Nm.sum2 {l : List Int} (h : Nm l) : 0 ≤ sum2 l ∧ sum2 l ≤ (l.length : Int) * 4611686018427387904 := sum2_le _ (by omega) l (fun x hx => sq_le (h x hx))
theorem Nm.take {l : List Int} (h : Nm l) (k : Nat) : Nm (l.take k) := fun x hx => h x (List.mem_of_mem_take hx)
/-- the spread fits into a wide number -/
theorem spread_bd {l : List Int} (h : Nm l) (hl : l.length ≤ 256) : (0 ≤ pairs [] l ∧ pairs [] l ≤ 302231454903657293676544) ∧ (0 ≤ (l.length : Int) * sum2 l ∧ (l.length : Int) * sum2 l ≤ 302231454903657293676544) ∧ (0 ≤ sum1 l * sum1 l) := by
  have h0 := pairs_ge l []
  have h1 := h.sum2
  have h2 : (l.length : Int) * sum2 l ≤ 256 * (256 * 4611686018427387904) := by
    refine Int.mul_le_mul (by omega) ?_ h1.1 (by omega)
    have : (l.length : Int) * 4611686018427387904 ≤ 256 * 4611686018427387904 := Int.mul_le_mul_of_nonneg_right (by omega) (by omega)
    omega
  have h4 : 0 ≤ (l.length : Int) * sum2 l := Int.mul_nonneg (by omega) h1.1
  have h3 : 0 ≤ sum1 l * sum1 l := by
    rcases Int.le_total 0 (sum1 l) with h | h
    · exact Int.mul_nonneg h h
    · exact Int.mul_nonneg_of_nonpos_of_nonpos h h
  have h5 := spread_eq l
  refine ⟨⟨h0, by omega⟩, ⟨h4, by omega⟩, h3⟩
/-- so many times the squares: one after the other -/
theorem times_le {l : List Int} (h : Nm l) (hl : l.length ≤ 256) (k : Nat) (hk : k ≤ l.length) : 0 ≤ (k : Int) * sum2 l ∧ (k : Int) * sum2 l ≤ 302231454903657293676544 := by
  have h1 := h.sum2
  have h2 := (spread_bd h hl).2.1
  have h3 : (k : Int) * sum2 l ≤ (l.length : Int) * sum2 l := Int.mul_le_mul_of_nonneg_right (by omega) h1.1
  exact ⟨Int.mul_nonneg (by omega) h1.1, by omega⟩
theorem times_succ (k : Nat) (z : Int) : ((k + 1 : Nat) : Int) * z = (k : Int) * z + z := by
  rw [Int.natCast_add, Int.natCast_one, Int.add_mul, Int.one_mul]
theorem sum2_take {l : List Int} {k : Nat} (hk : k < l.length) : sum2 (l.take (k + 1)) = sum2 (l.take k) + l[k] * l[k] := by rw [List.take_succ_eq_append_getElem hk, sum2_snoc]
theorem sum1_take {l : List Int} {k : Nat} (hk : k < l.length) : sum1 (l.take (k + 1)) = sum1 (l.take k) + l[k] := by rw [List.take_succ_eq_append_getElem hk, sum1_snoc]
theorem pairs_take {l : List Int} {k : Nat} (hk : k < l.length) : pairs [] (l.take (k + 1)) = pairs [] (l.take k) + apart l[k] (l.take k) := by rw [List.take_succ_eq_append_getElem hk, pairs_snoc]
theorem apart_take {l : List Int} {k : Nat} (x : Int) (hk : k < l.length) : apart x (l.take (k + 1)) = apart x (l.take k) + (x - l[k]) * (x - l[k]) := by rw [List.take_succ_eq_append_getElem hk, apart_snoc]
theorem sum2_take_le {l : List Int} (h : Nm l) (hl : l.length ≤ 256) (k : Nat) : 0 ≤ sum2 (l.take k) ∧ sum2 (l.take k) ≤ 1180591620717411303424 := by
  have h1 := (h.take k).sum2
  have h2 : (l.take k).length ≤ 256 := by rw [List.length_take]; omega
  have : ((l.take k).length : Int) * 4611686018427387904 ≤ 256 * 4611686018427387904 := Int.mul_le_mul_of_nonneg_right (by omega) (by omega)
  omega
/-- what a column is like: the least one, the most, the middle one, the sum, the spread's upper word, its lower one -/
def col (l : List Int) : List Int := [(sortR l).getD 0 0, (sortR l).getD (l.length - 1) 0, (sortR l).getD ((l.length + 1) / 2 - 1) 0, sum1 l, hiW (pairs [] l), loW (pairs [] l)]
theorem sortR_length (l : List Int) : (sortR l).length = l.length := (sortR_perm l).length_eq
theorem sortR_of {l m : List Int} (h : m.Perm l) (hs : m.Pairwise (· ≤ ·)) : m = sortR l := sorted_eq (h.trans (sortR_perm l).symm) hs (sortR_sorted l)
/-! ### Moved by as much -/
theorem insR_map (c x : Int) : ∀ l : List Int, insR (x + c) (l.map (· + c)) = (insR x l).map (· + c)
  | [] => rfl
  | y :: r => by
    rw [List.map_cons, insR, insR]
    by_cases h : y ≤ x
    · rw [if_pos h, if_pos (by omega), List.map_cons, insR_map]
    · rw [if_neg h, if_neg (by omega), List.map_cons, List.map_cons]
theorem sortR_map (c : Int) (l : List Int) : sortR (l.map (· + c)) = (sortR l).map (· + c) := by
  induction l using snoc_ind with
  | h0 => rfl
  | h l x ih => rw [List.map_append, List.map_cons, List.map_nil, sortR_snoc, sortR_snoc, ih, insR_map]
theorem mid_move (c : Int) {l : List Int} (h : l ≠ []) : (sortR (l.map (· + c))).getD (((l.map (· + c)).length + 1) / 2 - 1) 0 = (sortR l).getD ((l.length + 1) / 2 - 1) 0 + c := by
  have hl : 0 < l.length := List.length_pos_iff.2 h
  have hk : (l.length + 1) / 2 - 1 < (sortR l).length := by rw [sortR_length]; omega
  rw [sortR_map, List.length_map, List.getD_eq_getElem?_getD, List.getD_eq_getElem?_getD, List.getElem?_map, List.getElem?_eq_getElem hk]
  rfl
theorem pairs_moved (c : Int) (l : List Int) : pairs [] (l.map (· + c)) = pairs [] l := pairs_move c l []
/-- the spread is 0 just of what is all the same -/
theorem zero_same {l : List Int} {x : Int} (hx : x ∈ l) : pairs [] l = 0 ↔ ∀ y ∈ l, y = x := by
  constructor
  · intro h y hy
    have := pairs_zero l [] h (by simp) y (by simpa using hy) x (by simpa using hx)
    exact this
  · intro h
    refine pairs_same [] ?_
    intro a ha b hb
    rw [h a (by simpa using ha), h b (by simpa using hb)]
theorem wide_zero {z : Int} (h0 : 0 ≤ z) : (hiW z = 0 ∧ loW z = 0) ↔ z = 0 := by unfold hiW loW; omega
/-! ### Rows and columns -/
/-- the k-th numbers of vectors -/
def colK (l : List (List Int)) (k : Nat) : List Int := l.map (fun x => x.getD k 0)
theorem colK_length (l : List (List Int)) (k : Nat) : (colK l k).length = l.length := by unfold colK; simp
/-- is a row of numbers a vector? -/
def rngB (x : Int) : Bool := decide (-2147483648 ≤ x ∧ x ≤ 2147483647)
def vecB (l : List Int) (dim : Int) : Bool := decide (1 ≤ dim ∧ dim ≤ 8 ∧ (l.length : Int) = dim) && l.all rngB
theorem vec_nm {l : List Int} {dim : Int} (h : vecB l dim = true) : (1 ≤ dim ∧ dim ≤ 8 ∧ (l.length : Int) = dim) ∧ Nm l := by
  unfold vecB at h
  rw [Bool.and_eq_true] at h
  exact ⟨of_decide_eq_true h.1, fun x hx => of_decide_eq_true ((List.all_eq_true.1 h.2) x hx)⟩
def allV (l : List (List Int)) (dim : Int) : Bool := l.all (fun x => vecB x dim)
theorem allV_at {l : List (List Int)} {dim : Int} (h : allV l dim = true) {i : Nat} {x : List Int} (hx : l[i]? = some x) : vecB x dim = true := (List.all_eq_true.1 h) x (List.mem_of_getElem? hx)
/-- a column of vectors is numbers of vectors -/
theorem colK_nm {l : List (List Int)} {dim : Int} (h : allV l dim = true) {k : Nat} (hk : (k : Int) < dim) : Nm (colK l k) := by
  intro y hy
  unfold colK at hy
  obtain ⟨x, hx, rfl⟩ := List.mem_map.1 hy
  have h1 := vec_nm ((List.all_eq_true.1 h) x hx)
  have h2 : k < x.length := by omega
  rw [List.getD_eq_getElem?_getD, List.getElem?_eq_getElem h2]
  exact h1.2 _ (List.getElem_mem h2)
theorem colK_take (l : List (List Int)) (k i : Nat) : (colK l k).take i = colK (l.take i) k := by unfold colK; rw [List.map_take]
/-- the columns, or why none can be told -/
def colsV (l : List (List Int)) (dim : Int) : List (List Int) := if l.length ≤ 256 ∧ 0 < l.length ∧ allV l dim = true then (List.range dim.toNat).map (fun k => col (colK l k)) else []
def colsE (l : List (List Int)) (dim : Int) : Int := if 256 < l.length then 3 else if l.length = 0 then 4 else if allV l dim = true then 0 else 80
end Go.Proofs.YtcaeihfgdlffkaaGreatRRRRDoor.RptC

/- The walks of package wide that report reaches: cmp.Compare, Cmp, Mul, Add, Sub, Root (lines of WideW, Glob, PartW turned); report.size. -/
namespace Go.Proofs.YtcaeihfgdlffkaaGreatRRRRDoor.WidX
set_option linter.unusedVariables false
open Go.RowKit Go.Sort Base BigM BigZ WideM RptM RptO RptC

theorem Mul64_any (x y : Int) (w : World) (h0 : 0 ≤ x) (h1 : x ≤ 18446744073709551615) (h2 : 0 ≤ y) (h3 : y ≤ 18446744073709551615) :
    Calls Tryz.prog 105 #[.int .u64 x, .int .u64 y] w fun e w' => e = .returned (.tuple #[.int .u64 (x * y / 18446744073709551616), .int .u64 (x * y % 18446744073709551616)]) ∧ w = w' := by
  obtain ⟨a, rfl⟩ := Int.eq_ofNat_of_zero_le h0
  obtain ⟨b, rfl⟩ := Int.eq_ofNat_of_zero_le h2
  refine (Tryz.bits_Mul64 a b (by omega) (by omega) w).mono fun _ _ ⟨he, hw⟩ => ⟨?_, hw.symm⟩
  rw [he]
  exact ret_int2 (by simp) (by simp)
theorem isNaNu_any (x : Int) (w : World) : Calls Tryz.prog 130 #[.int .u64 x] w fun e w' => e = .returned (.bool false) ∧ w = w' := by
  go_enter Tryz.func130, Tryz.ntmps130
  go_wp2
  go_ret
  exact ⟨ret_bool (by simp), rfl⟩
theorem Compareu_any (x y : Int) (w : World) : Calls Tryz.prog 104 #[.int .u64 x, .int .u64 y] w fun e w' => e = .returned (.int .i64 (ord x y)) ∧ w = w' := by
  rcases ord_cases x y with ⟨e, h⟩ | ⟨e, h⟩ | ⟨e, h⟩
  all_goals
    have HE := Lib.hid e
    clear e
    go_enter Tryz.func104, Tryz.ntmps104
    go_wp2_with (go_at_call 130; refine (isNaNu_any _ _).mono ?_; rintro e w' ⟨rfl, rfl⟩)
    go_ret
    exact ⟨ret_int HE.out.symm, rfl⟩
set_option maxHeartbeats 1000000 in
theorem WCmp_any (h l h' l' : Int) (w : World) (h0 : 0 ≤ l) (h1 : l ≤ 18446744073709551615) (h2 : 0 ≤ l') (h3 : l' ≤ 18446744073709551615) :
    Calls Tryz.prog 63 #[.agg #[.int .u64 h, .int .u64 l], .agg #[.int .u64 h', .int .u64 l']] w fun e w' => e = .returned (.int .i64 (ord (h * two64 + l) (h' * two64 + l'))) ∧ Below w.heap.size w w' := by
  have HW := Lib.hid (ord_words (h := h) (h' := h') h0 (by unfold two64; omega) h2 (by unfold two64; omega))
  by_cases he : h = h'
  · have HE := Lib.hid (show ord (h * two64 + l) (h' * two64 + l') = ord l l' by rw [← HW.out, if_pos he])
    subst he
    go_enter Tryz.func63, Tryz.ntmps63
    go_wp2_with (go_at_call 104; refine (Compareu_any _ _ _).mono ?_; rintro e w' ⟨rfl, rfl⟩)
    go_ret
    exact ⟨ret_int HE.out.symm, below_alloc2 _ _ _⟩
  · have HE := Lib.hid (show ord (h * two64 + l) (h' * two64 + l') = ord h h' by rw [← HW.out, if_neg he])
    have hb : (h == h') = false := by simpa using he
    clear he
    go_enter Tryz.func63, Tryz.ntmps63
    go_wp2_with (go_at_call 104; refine (Compareu_any _ _ _).mono ?_; rintro e w' ⟨rfl, rfl⟩)
    go_ret
    exact ⟨ret_int HE.out.symm, below_alloc2 _ _ _⟩
set_option maxHeartbeats 1000000 in
theorem WMul_any (x y : Int) (w : World) (h0 : 0 ≤ x) (h1 : x ≤ 18446744073709551615) (h2 : 0 ≤ y) (h3 : y ≤ 18446744073709551615) :
    Calls Tryz.prog 64 #[.int .u64 x, .int .u64 y] w fun e w' => e = .returned (.agg #[.int .u64 (x * y / 18446744073709551616), .int .u64 (x * y % 18446744073709551616)]) ∧ Below w.heap.size w w' := by
  obtain ⟨a, ea⟩ : ∃ a, x * y / 18446744073709551616 = a := ⟨_, rfl⟩
  obtain ⟨b, eb⟩ : ∃ b, x * y % 18446744073709551616 = b := ⟨_, rfl⟩
  rw [ea, eb]
  have EA := Lib.hid ea
  have EB := Lib.hid eb
  clear ea eb
  go_enter Tryz.func64, Tryz.ntmps64
  go_wp2_with fail
  refine (Mul64_any x y _ h0 h1 h2 h3).mono ?_
  rintro e w' ⟨rfl, rfl⟩
  rw [EA.out, EB.out]
  go_wp2
  refine bodyPost_ret (v := .agg #[.int .u64 a, .int .u64 b]) (by simp [results, Tryz.results64, go_sem]) rfl ?_
  exact ⟨rfl, below_alloc1 _ _⟩
theorem add64 (x y c : Int) (hx : 0 ≤ x) (hy : 0 ≤ y) (hc0 : 0 ≤ c) (hc : c ≤ 1) (w : World) : (callFunc 128 #[.int .u64 x, .int .u64 y, .int .u64 c]).run Tryz.prog w =
    .ok (.value (.tuple #[.int .u64 ((x + y + c) % 18446744073709551616), .int .u64 ((x + y + c) / 18446744073709551616)])) w := by
  rw [run_callFunc_extern Tryz.func128 (by kernel_rfl) (by kernel_rfl) (by kernel_rfl) (e := add64Entry) (by kernel_rfl), run_add64 x y c hx hy hc0 hc]
  rfl
theorem add64_0 (x y : Int) (hx : 0 ≤ x) (hy : 0 ≤ y) (w : World) : (callFunc 128 #[.int .u64 x, .int .u64 y, .int .u64 0]).run Tryz.prog w =
    .ok (.value (.tuple #[.int .u64 ((x + y) % 18446744073709551616), .int .u64 ((x + y) / 18446744073709551616)])) w := by
  simpa using add64 x y 0 hx hy (Int.le_refl 0) (by decide) w

/-- A word. -/
def Word (x : Int) : Prop := 0 ≤ x ∧ x ≤ 18446744073709551615

set_option maxHeartbeats 1000000 in
theorem WAdd_any (ah al bh bl : Int) (h1 : Word ah) (h2 : Word al) (h3 : Word bh) (h4 : Word bl) (hno : ah + bh + (al + bl) / 18446744073709551616 ≤ 18446744073709551615) (w : World) :
    Calls Tryz.prog 101 #[.agg #[.int .u64 ah, .int .u64 al], .agg #[.int .u64 bh, .int .u64 bl]] w fun e w' =>
      e = .returned (.tuple #[.agg #[.int .u64 (ah + bh + (al + bl) / 18446744073709551616), .int .u64 ((al + bl) % 18446744073709551616)], .int .i64 0]) ∧ Below w.heap.size w w' := by
  obtain ⟨a1, a2⟩ := h1; obtain ⟨b1, b2⟩ := h2; obtain ⟨c1, c2⟩ := h3; obtain ⟨d1, d2⟩ := h4
  have k0 : 0 ≤ (al + bl) / 18446744073709551616 := by omega
  have k1 : (al + bl) / 18446744073709551616 ≤ 1 := by omega
  have k2 : (ah + bh + (al + bl) / 18446744073709551616) / 18446744073709551616 = 0 := by omega
  have k3 : (ah + bh + (al + bl) / 18446744073709551616) % 18446744073709551616 = ah + bh + (al + bl) / 18446744073709551616 := by omega
  go_enter Tryz.func101, Tryz.ntmps101
  go_wp2_with (first | simp only [add64_0 al bl b1 d1] | simp only [add64 ah bh _ a1 c1 k0 k1])
  refine bodyPost_ret (v := .tuple #[.agg #[.int .u64 (ah + bh + (al + bl) / 18446744073709551616), .int .u64 ((al + bl) % 18446744073709551616)], .int .i64 0]) (by simp [results, Tryz.results101, go_sem]) rfl ?_
  exact ⟨rfl, below_alloc3 _ _ _ _⟩

/-- a wide number as a value -/
def WV (z : Int) : Value := .agg #[.int .u64 (hiW z), .int .u64 (loW z)]
theorem wv_words {z : Int} (h0 : 0 ≤ z) (h1 : z < 340282366920938463463374607431768211456) : Word (hiW z) ∧ Word (loW z) ∧ hiW z * two64 + loW z = z := by
  have := W_range h0 h1
  exact ⟨⟨this.1.1, by have := this.1.2; omega⟩, ⟨this.2.1.1, by have := this.2.1.2; omega⟩, this.2.2⟩
theorem Add_any (a b : Int) (ha : 0 ≤ a) (hb : 0 ≤ b) (h : a + b < 340282366920938463463374607431768211456) (w : World) :
    Calls Tryz.prog 101 #[WV a, WV b] w fun e w' => e = .returned (.tuple #[WV (a + b), .int .i64 0]) ∧ Below w.heap.size w w' := by
  have h1 := wv_words ha (by omega)
  have h2 := wv_words hb (by omega)
  have h3 := W_add a b
  have h4 := (wv_words (z := a + b) (by omega) h).1
  refine (WAdd_any (hiW a) (loW a) (hiW b) (loW b) h1.1 h1.2.1 h2.1 h2.2.1 (by rw [← h3.2]; exact h4.2) w).mono ?_
  rintro e w' ⟨rfl, hw⟩
  refine ⟨?_, hw⟩
  unfold WV
  rw [h3.1, h3.2]
theorem Mul_any (x y : Int) (hx : Word x) (hy : Word y) (w : World) :
    Calls Tryz.prog 64 #[.int .u64 x, .int .u64 y] w fun e w' => e = .returned (WV (x * y)) ∧ Below w.heap.size w w' := WMul_any x y w hx.1 hx.2 hy.1 hy.2
theorem Cmp_any (a b : Int) (ha : 0 ≤ a ∧ a < 340282366920938463463374607431768211456) (hb : 0 ≤ b ∧ b < 340282366920938463463374607431768211456) (w : World) :
    Calls Tryz.prog 63 #[WV a, WV b] w fun e w' => e = .returned (.int .i64 (ord a b)) ∧ Below w.heap.size w w' := by
  have h1 := wv_words ha.1 ha.2
  have h2 := wv_words hb.1 hb.2
  refine (WCmp_any (hiW a) (loW a) (hiW b) (loW b) w h1.2.1.1 h1.2.1.2 h2.2.1.1 h2.2.1.2).mono ?_
  rintro e w' ⟨rfl, hw⟩
  rw [h1.2.2, h2.2.2]
  exact ⟨rfl, hw⟩
theorem sub64 (x y c : Int) (hx : 0 ≤ x) (hy : 0 ≤ y) (hy1 : y ≤ 18446744073709551615) (hc0 : 0 ≤ c) (hc : c ≤ 1) (w : World) : (callFunc 129 #[.int .u64 x, .int .u64 y, .int .u64 c]).run Tryz.prog w =
    .ok (.value (.tuple #[.int .u64 ((x - y - c) % 18446744073709551616), .int .u64 (if x < y + c then 1 else 0)])) w := by
  obtain ⟨x, rfl⟩ := Int.eq_ofNat_of_zero_le hx
  obtain ⟨y, rfl⟩ := Int.eq_ofNat_of_zero_le hy
  obtain ⟨c, rfl⟩ := Int.eq_ofNat_of_zero_le hc0
  rw [run_callFunc_extern Tryz.func129 (by kernel_rfl) (by kernel_rfl) (by kernel_rfl) (e := sub64Entry) (by kernel_rfl), run_sub64 x y c (by omega)]
  have e1 : (((x + 18446744073709551616 - y - c) % 18446744073709551616 : Nat) : Int) = ((x : Int) - y - c) % 18446744073709551616 := by omega
  have e2 : ((if x < y + c then 1 else 0 : Nat) : Int) = if (x : Int) < y + c then 1 else 0 := by split <;> split <;> omega
  show Result.ok (Next.value (.tuple #[.int .u64 _, .int .u64 _])) w = _
  rw [e1, e2]
set_option maxHeartbeats 1000000 in
theorem Sub_any (a b : Int) (hb : 0 ≤ b) (hle : b ≤ a) (h : a < 340282366920938463463374607431768211456) (w : World) :
    Calls Tryz.prog 103 #[WV a, WV b] w fun e w' => e = .returned (.tuple #[WV (a - b), .int .i64 0]) ∧ Below w.heap.size w w' := by
  have h1 := wv_words (z := a) (by omega) h
  have h2 := wv_words hb (by omega)
  have h3 := W_sub a b
  have h4 := wv_words (z := a - b) (by omega) (by omega)
  unfold WV
  generalize hiW a = ah at *
  generalize loW a = al at *
  generalize hiW b = bh at *
  generalize loW b = bl at *
  obtain ⟨⟨a1, a2⟩, ⟨b1, b2⟩, _⟩ := h1
  obtain ⟨⟨c1, c2⟩, ⟨d1, d2⟩, _⟩ := h2
  have k0 : (0 : Int) ≤ (if al < bl + 0 then 1 else 0) ∧ (if al < bl + 0 then (1 : Int) else 0) ≤ 1 := by split <;> omega
  obtain ⟨c, hc⟩ : ∃ c : Int, (if al < bl + 0 then (1 : Int) else 0) = c := ⟨_, rfl⟩
  have e1 := sub64 al bl 0 b1 d1 d2 (Int.le_refl 0) (by decide)
  rw [hc] at e1 k0
  have hhi : hiW (a - b) = ah - bh - c := by rw [h3.2, ← hc]; simp
  have hlo : loW (a - b) = (al - bl - 0) % 18446744073709551616 := by rw [h3.1]; simp
  have hx := h4.1
  rw [hhi] at hx
  have k1 : (if ah < bh + c then (1 : Int) else 0) = 0 := by rw [if_neg (by have := hx.1; omega)]
  have k2 : (ah - bh - c) % 18446744073709551616 = ah - bh - c := by have := hx.1; have := hx.2; omega
  have e2 := sub64 ah bh c a1 c1 c2 k0.1 k0.2
  rw [k1, k2] at e2
  rw [hhi, hlo]
  obtain ⟨lo, hl⟩ : ∃ lo, (al - bl - 0) % 18446744073709551616 = lo := ⟨_, rfl⟩
  rw [hl] at e1 ⊢
  obtain ⟨hi, hh⟩ : ∃ hi, ah - bh - c = hi := ⟨_, rfl⟩
  rw [hh] at e2 ⊢
  clear h3 h4 hc hhi hlo hx k1 k2 hl hh
  go_enter Tryz.func103, Tryz.ntmps103
  go_wp2_with (first | simp only [e1] | simp only [e2])
  refine bodyPost_ret (v := .tuple #[.agg #[.int .u64 hi, .int .u64 lo], .int .i64 0]) (by simp [results, Tryz.results103, go_sem]) rfl ?_
  exact ⟨rfl, below_alloc3 _ _ _ _⟩
theorem size_any (a : Int) (w : World) (a0 : -9223372036854775808 < a) (a1 : a ≤ 9223372036854775807) :
    Calls Tryz.prog 102 #[.int .i64 a] w fun e w' => e = .returned (.int .u64 (a.natAbs : Int)) ∧ w = w' := by
  have e : wrap64 (-a) = -a := by unfold wrap64; omega
  go_enter Tryz.func102, Tryz.ntmps102
  go_wp2
  go_ret
  exact ⟨ret_int (by omega), rfl⟩
end Go.Proofs.YtcaeihfgdlffkaaGreatRRRRDoor.WidX
