/- Plain laws for RatioBack: what was added is taken off again, what was multiplied is divided again. -/
import Derived.Test.YtdpmijmofeechaaDoorRatL
namespace Go.Proofs.YtdpmijmofeechaaDoor.RatM
open BigM GcdM

theorem g_neg (p q : Int) : g (-p) (-q) = g p q := by rw [g_def, g_def, Int.natAbs_neg, Int.natAbs_neg]
theorem ofX_neg (p q : Int) : ofX (-p) (-q) = -ofX p q := by unfold ofX; rw [g_neg, Int.neg_tdiv]
theorem ofY_neg (p q : Int) : ofY (-p) (-q) = -ofY p q := by unfold ofY; rw [g_neg, Int.neg_tdiv]
/-- the reduced form is the only one, whatever the second's sign -/
theorem ofR_eq' {p q x y : Int} (hq : q ≠ 0) (h : isR x y = true) (hx : x * q = p * y) : ofR p q = (x, y, 0) := by
  by_cases h1 : 1 ≤ q
  · exact ofR_eq h1 h hx
  · have h2 : ofR (-p) (-q) = (x, y, 0) := ofR_eq (by omega) h (by rw [Int.mul_neg, Int.neg_mul, hx])
    obtain ⟨d1, d2, _⟩ := div_g p q hq
    have hg := g_pos (p := p) hq
    have hy : ofY p q < 0 := by
      rcases Int.lt_or_le (ofY p q) 0 with h0 | h0
      · exact h0
      · exfalso
        have := Int.mul_nonneg h0 (show 0 ≤ g p q by omega)
        omega
    obtain ⟨y1, y2, x1, x2, _⟩ := isR_true h
    have hl : (longB (ofX (-p) (-q)) || longB (ofY (-p) (-q))) = false := by
      cases hc : (longB (ofX (-p) (-q)) || longB (ofY (-p) (-q)))
      · rfl
      · rw [ofR_long (by omega) hc] at h2
        simp only [Prod.mk.injEq] at h2
        omega
    rw [ofR_pos (by omega) hl (by rw [ofY_neg]; omega), ofX_neg, ofY_neg] at h2
    simp only [Prod.mk.injEq] at h2
    have hl2 : (longB (ofX p q) || longB (ofY p q)) = false := by
      unfold longB
      rw [decide_eq_false (by omega), decide_eq_false (by omega)]; rfl
    rw [ofR_neg hq hl2 hy, h2.1, h2.2.1]
theorem add_sub {p q r s x y : Int} (ha : isR p q = true) (hb : isR r s = true) (h : addR p q r s = (x, y, 0)) : isR x y = true ∧ doR 1 x y r s = (p, q, 0) := by
  have hk : (isR p q && isR r s) = true := by rw [ha, hb]; rfl
  have e : ofR (p * s + r * q) (q * s) = (x, y, 0) := by rw [← h]; unfold addR; rw [if_pos hk]
  obtain ⟨i1, i2⟩ := ofR_is (p := p * s + r * q) (q := q * s) (by rw [e])
  rw [e] at i1 i2
  refine ⟨i1, ?_⟩
  have hk2 : (isR x y && isR r s) = true := by rw [show isR x y = true from i1, hb]; rfl
  have hy := (isR_true (show isR x y = true from i1)).1
  have hs := (isR_true hb).1
  have hpos := Int.mul_pos (show 0 < y by omega) (show 0 < s by omega)
  rw [doR_ok hk2]
  refine ofR_eq (p := x * s - r * y) (q := y * s) (by omega) ha ?_
  have i3 : x * (q * s) = (p * s + r * q) * y := i2
  have e1 : x * (q * s) = x * s * q := by rw [Int.mul_comm q s, Int.mul_assoc]
  have e2 : (p * s + r * q) * y = p * (y * s) + r * y * q := by
    rw [Int.add_mul, Int.mul_assoc, Int.mul_comm s y, Int.mul_assoc r q y, Int.mul_comm q y, ← Int.mul_assoc r y q]
  rw [Int.sub_mul]
  omega
theorem mul_div {p q r s x y : Int} (ha : isR p q = true) (hb : isR r s = true) (hr : r ≠ 0) (h : doR 2 p q r s = (x, y, 0)) : isR x y = true ∧ doR 3 x y r s = (p, q, 0) := by
  have hk : (isR p q && isR r s) = true := by rw [ha, hb]; rfl
  have e : ofR (p * r) (q * s) = (x, y, 0) := by rw [← h, doR_ok hk]; rfl
  obtain ⟨i1, i2⟩ := ofR_is (p := p * r) (q := q * s) (by rw [e])
  rw [e] at i1 i2
  refine ⟨i1, ?_⟩
  have hk2 : (isR x y && isR r s) = true := by rw [show isR x y = true from i1, hb]; rfl
  have hy := (isR_true (show isR x y = true from i1)).1
  rw [doR_ok hk2]
  refine ofR_eq' (p := x * s) (q := y * r) (Int.mul_ne_zero (by omega) hr) ha ?_
  have i3 : x * (q * s) = p * r * y := i2
  have e1 : p * (y * r) = p * r * y := by rw [Int.mul_comm y r, Int.mul_assoc]
  have e2 : x * s * q = x * (q * s) := by rw [Int.mul_comm q s, Int.mul_assoc]
  rw [e1, e2, i3]
theorem ord_diff {A B C D K L : Int} (hK : 0 < K) (hL : 0 < L) (h : (A - B) * K = (C - D) * L) : ord A B = ord C D := by
  have hpos : ∀ z M : Int, 0 < M → 0 < z → 0 < z * M := fun z M hM hz => Int.mul_pos hz hM
  have hneg : ∀ z M : Int, 0 < M → z < 0 → z * M < 0 := fun z M hM hz => Int.mul_neg_of_neg_of_pos hz hM
  rcases Int.lt_trichotomy A B with h1 | h1 | h1 <;> rcases Int.lt_trichotomy C D with h2 | h2 | h2
  · rw [ord_lt h1, ord_lt h2]
  · have := hneg (A - B) K hK (by omega); rw [h, h2] at this; simp at this
  · have := hneg (A - B) K hK (by omega); have := hpos (C - D) L hL (by omega); omega
  · have := hneg (C - D) L hL (by omega); rw [← h, h1] at this; simp at this
  · rw [ord_eq h1, ord_eq h2]
  · have := hpos (C - D) L hL (by omega); rw [← h, h1] at this; simp at this
  · have := hpos (A - B) K hK (by omega); have := hneg (C - D) L hL (by omega); omega
  · have := hpos (A - B) K hK (by omega); rw [h, h2] at this; simp at this
  · rw [ord_gt h1, ord_gt h2]
theorem cross_id {p q r s u v x y m n : Int} (h1 : x * (q * s) = (p * s + r * q) * y) (h2 : m * (v * s) = (u * s + r * v) * n) :
    (p * v - u * q) * ((y * n) * (s * s)) = (x * n - m * y) * ((q * s) * (v * s)) := by
  grind
theorem add_is {p q r s x y : Int} (h : addR p q r s = (x, y, 0)) : isR p q = true ∧ isR r s = true ∧ isR x y = true ∧ x * (q * s) = (p * s + r * q) * y := by
  cases hk : (isR p q && isR r s)
  · unfold addR at h
    rw [if_neg (by rw [hk]; decide)] at h
    simp only [Prod.mk.injEq] at h
    omega
  · have hk' := hk
    rw [Bool.and_eq_true] at hk'
    have e : ofR (p * s + r * q) (q * s) = (x, y, 0) := by rw [← h]; unfold addR; rw [if_pos hk]
    obtain ⟨i1, i2⟩ := ofR_is (p := p * s + r * q) (q := q * s) (by rw [e])
    rw [e] at i1 i2
    exact ⟨hk'.1, hk'.2, i1, i2⟩
end Go.Proofs.YtdpmijmofeechaaDoor.RatM
