/- Plain laws of sorted scores: the merged halves and the document's insertion give the same list; the oddest one. -/
import Derived.Test.YtdpmijmofeechaaDoorSclW
import Derived.Test.YtdpmijmofeechaaDoorRatB
namespace Go.Proofs.YtdpmijmofeechaaDoor.SorM
set_option linter.unusedVariables false
open BigM GcdM RatM ScoW SclW

/-- the greater a score's key, the less odd it is -/
def key (x : Int × Int) : Int := x.1 * (720720 / x.2)
theorem div_part {q : Int} (h1 : 1 ≤ q) (h2 : q ≤ 16) : 720720 / q * q = 720720 := by
  have : q = 1 ∨ q = 2 ∨ q = 3 ∨ q = 4 ∨ q = 5 ∨ q = 6 ∨ q = 7 ∨ q = 8 ∨ q = 9 ∨ q = 10 ∨ q = 11 ∨ q = 12 ∨ q = 13 ∨ q = 14 ∨ q = 15 ∨ q = 16 := by omega
  rcases this with rfl | rfl | rfl | rfl | rfl | rfl | rfl | rfl | rfl | rfl | rfl | rfl | rfl | rfl | rfl | rfl <;> rfl
def rightX (x : Int × Int) : Bool := isS x.1 x.2
theorem key_mul {x : Int × Int} (h : rightX x = true) : key x * x.2 = x.1 * 720720 := by
  obtain ⟨h1, h2, _⟩ := isS_true h
  unfold key
  rw [Int.mul_assoc, div_part h1 h2]
def oddX (x y : Int × Int) : Int := oddV x.1 x.2 y.1 y.2
theorem odd_key {x y : Int × Int} (hx : rightX x = true) (hy : rightX y = true) : oddX x y = ord (key y) (key x) := by
  have k1 := key_mul hx
  have k2 := key_mul hy
  have x1 := (isS_true hx).1
  have y1 := (isS_true hy).1
  unfold oddX oddV
  refine ord_diff (K := 720720) (L := x.2 * y.2) (by decide) (Int.mul_pos (by omega) (by omega)) ?_
  have e1 : y.1 * x.2 * 720720 = y.1 * 720720 * x.2 := by rw [Int.mul_assoc, Int.mul_comm x.2, ← Int.mul_assoc]
  have e2 : x.1 * y.2 * 720720 = x.1 * 720720 * y.2 := by rw [Int.mul_assoc, Int.mul_comm y.2, ← Int.mul_assoc]
  rw [Int.sub_mul, Int.sub_mul, e1, e2, ← k1, ← k2, Int.mul_assoc, Int.mul_assoc, Int.mul_comm y.2 x.2]
theorem key_inj {x y : Int × Int} (hx : rightX x = true) (hy : rightX y = true) (h : key x = key y) : x = y := by
  have k1 := key_mul hx
  have k2 := key_mul hy
  obtain ⟨x1, x2, x3, x4, x5⟩ := isS_true hx
  obtain ⟨y1, y2, y3, y4, y5⟩ := isS_true hy
  have hc : x.1 * y.2 = y.1 * x.2 := by
    have : x.1 * y.2 * 720720 = y.1 * x.2 * 720720 := by
      have e1 : y.1 * x.2 * 720720 = y.1 * 720720 * x.2 := by rw [Int.mul_assoc, Int.mul_comm x.2, ← Int.mul_assoc]
      have e2 : x.1 * y.2 * 720720 = x.1 * 720720 * y.2 := by rw [Int.mul_assoc, Int.mul_comm y.2, ← Int.mul_assoc]
      rw [e1, e2, ← k1, ← k2, h, Int.mul_assoc, Int.mul_assoc, Int.mul_comm x.2 y.2]
    omega
  obtain ⟨a, b⟩ := x
  obtain ⟨c, d⟩ := y
  simp only at *
  obtain ⟨a, rfl⟩ := Int.eq_ofNat_of_zero_le x3
  obtain ⟨c, rfl⟩ := Int.eq_ofNat_of_zero_le y3
  obtain ⟨b, rfl⟩ := Int.eq_ofNat_of_zero_le (show 0 ≤ b by omega)
  obtain ⟨d, rfl⟩ := Int.eq_ofNat_of_zero_le (show 0 ≤ d by omega)
  rw [g_def, Int.natAbs_natCast, Int.natAbs_natCast] at x5 y5
  have n1 : Nat.Coprime a b := by unfold Nat.Coprime; omega
  have n2 : Nat.Coprime c d := by unfold Nat.Coprime; omega
  have hn : a * d = c * b := by exact_mod_cast hc
  have d1 : b ∣ d := (n1.symm).dvd_of_dvd_mul_left (by rw [hn]; exact Nat.dvd_mul_left ..)
  have d2 : d ∣ b := (n2.symm).dvd_of_dvd_mul_left (by rw [← hn]; exact Nat.dvd_mul_left ..)
  have e : b = d := Nat.dvd_antisymm d1 d2
  subst e
  have e2 : a = c := Nat.eq_of_mul_eq_mul_right (by omega) hn
  rw [e2]
/-- two sorted lists together; what is alike in the first one comes first -/
def leK (x y : Int × Int) : Bool := decide (key y ≤ key x)
def mergeL (a b : List (Int × Int)) : List (Int × Int) := List.merge a b leK
def sortF : Nat → List (Int × Int) → List (Int × Int)
  | 0, l => l
  | f + 1, l => if l.length < 2 then l else mergeL (sortF f (l.take (l.length / 2))) (sortF f (l.drop (l.length / 2)))
theorem merge_perm (a b : List (Int × Int)) : (mergeL a b).Perm (a ++ b) := List.merge_perm_append ..
theorem sort_perm : ∀ (f : Nat) (l : List (Int × Int)), (sortF f l).Perm l
  | 0, l => List.Perm.refl _
  | f + 1, l => by
    unfold sortF
    split
    · exact List.Perm.refl _
    · refine (merge_perm _ _).trans ?_
      have := (sort_perm f (l.take (l.length / 2))).append (sort_perm f (l.drop (l.length / 2)))
      rwa [List.take_append_drop] at this
theorem merge_sorted {a b : List (Int × Int)} (ha : a.Pairwise (fun x y => leK x y = true)) (hb : b.Pairwise (fun x y => leK x y = true)) : (mergeL a b).Pairwise (fun x y => leK x y = true) := by
  refine List.pairwise_merge ?_ ?_ a b ha hb
  · intro x y z h1 h2
    unfold leK at *
    have := of_decide_eq_true h1
    have := of_decide_eq_true h2
    exact decide_eq_true (by omega)
  · intro x y
    unfold leK
    rw [Bool.or_eq_true, decide_eq_true_eq, decide_eq_true_eq]
    omega
theorem sort_sorted : ∀ (f : Nat) (l : List (Int × Int)), l.length ≤ f + 1 → (sortF f l).Pairwise (fun x y => leK x y = true)
  | 0, l, h => by
    unfold sortF
    match l, h with
    | [], _ => exact List.Pairwise.nil
    | [x], _ => exact List.pairwise_singleton _ _
  | f + 1, l, h => by
    unfold sortF
    split
    · match l with
      | [] => exact List.Pairwise.nil
      | [x] => exact List.pairwise_singleton _ _
    · exact merge_sorted (sort_sorted f _ (by rw [List.length_take]; omega)) (sort_sorted f _ (by rw [List.length_drop]; omega))
/-- the document's: each one behind those that are not odder -/
def insX (x : Int × Int) (out : List (Int × Int)) : List (Int × Int) := out.takeWhile (fun y => decide (key x ≤ key y)) ++ x :: out.dropWhile (fun y => decide (key x ≤ key y))
def insL (l : List (Int × Int)) : List (Int × Int) := l.foldl (fun out x => insX x out) []
theorem ins_perm (x : Int × Int) (out : List (Int × Int)) : (insX x out).Perm (x :: out) := by
  unfold insX
  refine List.perm_middle.trans ?_
  rw [List.takeWhile_append_dropWhile]
theorem ins_sorted {x : Int × Int} : ∀ {out : List (Int × Int)}, out.Pairwise (fun x y => leK x y = true) → (insX x out).Pairwise (fun x y => leK x y = true)
  | [], _ => by unfold insX; exact List.pairwise_singleton _ _
  | y :: r, h => by
    have hp := List.pairwise_cons.1 h
    unfold insX
    by_cases hk : key x ≤ key y
    · rw [List.takeWhile_cons_of_pos (by simpa using hk), List.dropWhile_cons_of_pos (by simpa using hk), List.cons_append]
      refine List.pairwise_cons.2 ⟨fun z hz => ?_, ins_sorted hp.2⟩
      have hz2 := (ins_perm x r).mem_iff.1 (show z ∈ insX x r from hz)
      rcases List.mem_cons.1 hz2 with rfl | hz2
      · exact decide_eq_true hk
      · exact hp.1 z hz2
    · rw [List.takeWhile_cons_of_neg (by simpa using hk), List.dropWhile_cons_of_neg (by simpa using hk), List.nil_append]
      refine List.pairwise_cons.2 ⟨fun z hz => ?_, h⟩
      rcases List.mem_cons.1 hz with rfl | hz2
      · exact decide_eq_true (by omega)
      · have := of_decide_eq_true (hp.1 z hz2)
        exact decide_eq_true (by omega)
theorem fold_perm : ∀ (l out : List (Int × Int)), (l.foldl (fun out x => insX x out) out).Perm (out ++ l)
  | [], out => by simp
  | x :: r, out => by
    refine (fold_perm r (insX x out)).trans ?_
    refine ((ins_perm x out).append_right r).trans ?_
    exact (List.perm_middle).symm
theorem fold_sorted : ∀ (l out : List (Int × Int)), out.Pairwise (fun x y => leK x y = true) → (l.foldl (fun out x => insX x out) out).Pairwise (fun x y => leK x y = true)
  | [], _, h => h
  | x :: r, out, h => fold_sorted r _ (ins_sorted h)
theorem all_mem {l : List (Int × Int)} (h : allS l = true) {x : Int × Int} (hx : x ∈ l) : rightX x = true := List.all_eq_true.1 h x hx
/-- both sorts give the same list -/
theorem sort_eq {l : List (Int × Int)} (f : Nat) (hl : l.length ≤ f + 1) (h : allS l = true) : sortF f l = insL l := by
  have p1 := sort_perm f l
  have p2 : (insL l).Perm l := fold_perm l []
  refine List.Perm.eq_of_pairwise (fun a b ha hb h1 h2 => ?_) (sort_sorted f l hl) (fold_sorted l [] List.Pairwise.nil) (p1.trans p2.symm)
  refine key_inj (all_mem h (p1.mem_iff.1 ha)) (all_mem h (p2.mem_iff.1 hb)) ?_
  have := of_decide_eq_true h1
  have := of_decide_eq_true h2
  omega
theorem sort_right {l : List (Int × Int)} (f : Nat) (h : allS l = true) : allS (sortF f l) = true := by
  unfold allS
  rw [List.all_eq_true]
  exact fun x hx => all_mem h ((sort_perm f l).mem_iff.1 hx)
theorem merge_right {a b : List (Int × Int)} (h : allS a = true) (h2 : allS b = true) : allS (mergeL a b) = true := by
  unfold allS
  rw [List.all_eq_true]
  intro x hx
  rcases List.mem_append.1 ((merge_perm a b).mem_iff.1 hx) with h' | h'
  · exact all_mem h h'
  · exact all_mem h2 h'
/-- the place of the first one than which none is odder -/
def oddestF : List (Int × Int) → Nat → Nat → List (Int × Int) → Nat
  | _, best, _, [] => best
  | l, best, i, x :: r => oddestF l (if 0 < oddX x (l.getD best (0, 0)) then i else best) (i + 1) r
def oddest (l : List (Int × Int)) : Nat := oddestF l 0 0 l
end Go.Proofs.YtdpmijmofeechaaDoor.SorM
