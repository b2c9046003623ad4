/- Reports, plainly: what a column is like, and the columns of vectors. No program is in sight. -/
import Derived.Test.YtodiipkedhfncaaGreatDoorRptO
namespace Go.Proofs.YtodiipkedhfncaaGreatDoor.RptC
open RptM RptO
set_option linter.unusedVariables false
set_option linter.unusedSimpArgs false

/-- numbers of a vector -/
def Nm (l : List Int) : Prop := ∀ x ∈ l, -2147483648 ≤ x ∧ x ≤ 2147483647
theorem sq_le {x : Int} (h : -2147483648 ≤ x ∧ x ≤ 2147483647) : x * x ≤ 4611686018427387904 := by
  have h1 : x.natAbs ≤ 2147483648 := by omega
  have h2 := Nat.mul_le_mul h1 h1
  rw [← Int.natAbs_mul] at h2
  omega
theorem sum1_le (l : List Int) (h : Nm l) : -2147483648 * (l.length : Int) ≤ sum1 l ∧ sum1 l ≤ 2147483648 * (l.length : Int) := by
  induction l using snoc_ind with
  | h0 => simp [sum1]
  | h l x ih =>
    have h1 := ih (fun y hy => h y (by simp [hy]))
    have h2 := h x (by simp)
    rw [sum1_snoc, List.length_append]
    simp only [List.length_cons, List.length_nil, Int.natCast_add, Int.natCast_one, Int.natCast_zero, Int.zero_add]
    omega
theorem Nm.sum2 {l : List Int} (h : Nm l) : 0 ≤ sum2 l ∧ sum2 l ≤ (l.length : Int) * 4611686018427387904 := sum2_le _ (by omega) l (fun x hx => sq_le (h x hx))
theorem Nm.take {l : List Int} (h : Nm l) (k : Nat) : Nm (l.take k) := fun x hx => h x (List.mem_of_mem_take hx)
/-- the spread fits into a wide number -/
theorem spread_bd {l : List Int} (h : Nm l) (hl : l.length ≤ 256) : (0 ≤ pairs [] l ∧ pairs [] l ≤ 302231454903657293676544) ∧ (0 ≤ (l.length : Int) * sum2 l ∧ (l.length : Int) * sum2 l ≤ 302231454903657293676544) ∧ (0 ≤ sum1 l * sum1 l) := by
  have h0 := pairs_ge l []
  have h1 := h.sum2
  have h2 : (l.length : Int) * sum2 l ≤ 256 * (256 * 4611686018427387904) := by
    refine Int.mul_le_mul (by omega) ?_ h1.1 (by omega)
    have : (l.length : Int) * 4611686018427387904 ≤ 256 * 4611686018427387904 := Int.mul_le_mul_of_nonneg_right (by omega) (by omega)
    omega
  have h4 : 0 ≤ (l.length : Int) * sum2 l := Int.mul_nonneg (by omega) h1.1
  have h3 : 0 ≤ sum1 l * sum1 l := by
    rcases Int.le_total 0 (sum1 l) with h | h
    · exact Int.mul_nonneg h h
    · exact Int.mul_nonneg_of_nonpos_of_nonpos h h
  have h5 := spread_eq l
  refine ⟨⟨h0, by omega⟩, ⟨h4, by omega⟩, h3⟩
/-- so many times the squares: one after the other -/
theorem times_le {l : List Int} (h : Nm l) (hl : l.length ≤ 256) (k : Nat) (hk : k ≤ l.length) : 0 ≤ (k : Int) * sum2 l ∧ (k : Int) * sum2 l ≤ 302231454903657293676544 := by
  have h1 := h.sum2
  have h2 := (spread_bd h hl).2.1
  have h3 : (k : Int) * sum2 l ≤ (l.length : Int) * sum2 l := Int.mul_le_mul_of_nonneg_right (by omega) h1.1
  exact ⟨Int.mul_nonneg (by omega) h1.1, by omega⟩
theorem times_succ (k : Nat) (z : Int) : ((k + 1 : Nat) : Int) * z = (k : Int) * z + z := by
  rw [Int.natCast_add, Int.natCast_one, Int.add_mul, Int.one_mul]
theorem sum2_take {l : List Int} {k : Nat} (hk : k < l.length) : sum2 (l.take (k + 1)) = sum2 (l.take k) + l[k] * l[k] := by rw [List.take_succ_eq_append_getElem hk, sum2_snoc]
theorem sum1_take {l : List Int} {k : Nat} (hk : k < l.length) : sum1 (l.take (k + 1)) = sum1 (l.take k) + l[k] := by rw [List.take_succ_eq_append_getElem hk, sum1_snoc]
theorem pairs_take {l : List Int} {k : Nat} (hk : k < l.length) : pairs [] (l.take (k + 1)) = pairs [] (l.take k) + apart l[k] (l.take k) := by rw [List.take_succ_eq_append_getElem hk, pairs_snoc]
theorem apart_take {l : List Int} {k : Nat} (x : Int) (hk : k < l.length) : apart x (l.take (k + 1)) = apart x (l.take k) + (x - l[k]) * (x - l[k]) := by rw [List.take_succ_eq_append_getElem hk, apart_snoc]
theorem sum2_take_le {l : List Int} (h : Nm l) (hl : l.length ≤ 256) (k : Nat) : 0 ≤ sum2 (l.take k) ∧ sum2 (l.take k) ≤ 1180591620717411303424 := by
  have h1 := (h.take k).sum2
  have h2 : (l.take k).length ≤ 256 := by rw [List.length_take]; omega
  have : ((l.take k).length : Int) * 4611686018427387904 ≤ 256 * 4611686018427387904 := Int.mul_le_mul_of_nonneg_right (by omega) (by omega)
  omega
/-- what a column is like: the least one, the most, the middle one, the sum, the spread's upper word, its lower one -/
def col (l : List Int) : List Int := [(sortR l).getD 0 0, (sortR l).getD (l.length - 1) 0, (sortR l).getD ((l.length + 1) / 2 - 1) 0, sum1 l, hiW (pairs [] l), loW (pairs [] l)]
theorem sortR_length (l : List Int) : (sortR l).length = l.length := (sortR_perm l).length_eq
theorem sortR_of {l m : List Int} (h : m.Perm l) (hs : m.Pairwise (· ≤ ·)) : m = sortR l := sorted_eq (h.trans (sortR_perm l).symm) hs (sortR_sorted l)
/-! ### Moved by as much -/
theorem insR_map (c x : Int) : ∀ l : List Int, insR (x + c) (l.map (· + c)) = (insR x l).map (· + c)
  | [] => rfl
  | y :: r => by
    rw [List.map_cons, insR, insR]
    by_cases h : y ≤ x
    · rw [if_pos h, if_pos (by omega), List.map_cons, insR_map]
    · rw [if_neg h, if_neg (by omega), List.map_cons, List.map_cons]
theorem sortR_map (c : Int) (l : List Int) : sortR (l.map (· + c)) = (sortR l).map (· + c) := by
  induction l using snoc_ind with
  | h0 => rfl
  | h l x ih => rw [List.map_append, List.map_cons, List.map_nil, sortR_snoc, sortR_snoc, ih, insR_map]
theorem mid_move (c : Int) {l : List Int} (h : l ≠ []) : (sortR (l.map (· + c))).getD (((l.map (· + c)).length + 1) / 2 - 1) 0 = (sortR l).getD ((l.length + 1) / 2 - 1) 0 + c := by
  have hl : 0 < l.length := List.length_pos_iff.2 h
  have hk : (l.length + 1) / 2 - 1 < (sortR l).length := by rw [sortR_length]; omega
  rw [sortR_map, List.length_map, List.getD_eq_getElem?_getD, List.getD_eq_getElem?_getD, List.getElem?_map, List.getElem?_eq_getElem hk]
  rfl
theorem pairs_moved (c : Int) (l : List Int) : pairs [] (l.map (· + c)) = pairs [] l := pairs_move c l []
/-- the spread is 0 just of what is all the same -/
theorem zero_same {l : List Int} {x : Int} (hx : x ∈ l) : pairs [] l = 0 ↔ ∀ y ∈ l, y = x := by
  constructor
  · intro h y hy
    have := pairs_zero l [] h (by simp) y (by simpa using hy) x (by simpa using hx)
    exact this
  · intro h
    refine pairs_same [] ?_
    intro a ha b hb
    rw [h a (by simpa using ha), h b (by simpa using hb)]
theorem wide_zero {z : Int} (h0 : 0 ≤ z) : (hiW z = 0 ∧ loW z = 0) ↔ z = 0 := by unfold hiW loW; omega
/-! ### Rows and columns -/
/-- the k-th numbers of vectors -/
def colK (l : List (List Int)) (k : Nat) : List Int := l.map (fun x => x.getD k 0)
theorem colK_length (l : List (List Int)) (k : Nat) : (colK l k).length = l.length := by unfold colK; simp
/-- is a row of numbers a vector? -/
def rngB (x : Int) : Bool := decide (-2147483648 ≤ x ∧ x ≤ 2147483647)
def vecB (l : List Int) (dim : Int) : Bool := decide (1 ≤ dim ∧ dim ≤ 8 ∧ (l.length : Int) = dim) && l.all rngB
theorem vec_nm {l : List Int} {dim : Int} (h : vecB l dim = true) : (1 ≤ dim ∧ dim ≤ 8 ∧ (l.length : Int) = dim) ∧ Nm l := by
  unfold vecB at h
  rw [Bool.and_eq_true] at h
  exact ⟨of_decide_eq_true h.1, fun x hx => of_decide_eq_true ((List.all_eq_true.1 h.2) x hx)⟩
def allV (l : List (List Int)) (dim : Int) : Bool := l.all (fun x => vecB x dim)
theorem allV_at {l : List (List Int)} {dim : Int} (h : allV l dim = true) {i : Nat} {x : List Int} (hx : l[i]? = some x) : vecB x dim = true := (List.all_eq_true.1 h) x (List.mem_of_getElem? hx)
/-- a column of vectors is numbers of vectors -/
theorem colK_nm {l : List (List Int)} {dim : Int} (h : allV l dim = true) {k : Nat} (hk : (k : Int) < dim) : Nm (colK l k) := by
  intro y hy
  unfold colK at hy
  obtain ⟨x, hx, rfl⟩ := List.mem_map.1 hy
  have h1 := vec_nm ((List.all_eq_true.1 h) x hx)
  have h2 : k < x.length := by omega
  rw [List.getD_eq_getElem?_getD, List.getElem?_eq_getElem h2]
  exact h1.2 _ (List.getElem_mem h2)
theorem colK_take (l : List (List Int)) (k i : Nat) : (colK l k).take i = colK (l.take i) k := by unfold colK; rw [List.map_take]
/-- the columns, or why none can be told -/
def colsV (l : List (List Int)) (dim : Int) : List (List Int) := if l.length ≤ 256 ∧ 0 < l.length ∧ allV l dim = true then (List.range dim.toNat).map (fun k => col (colK l k)) else []
def colsE (l : List (List Int)) (dim : Int) : Int := if 256 < l.length then 3 else if l.length = 0 then 4 else if allV l dim = true then 0 else 80
end Go.Proofs.YtodiipkedhfncaaGreatDoor.RptC
