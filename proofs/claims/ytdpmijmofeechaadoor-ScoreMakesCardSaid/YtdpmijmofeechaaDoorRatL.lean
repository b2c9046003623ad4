/- Plain laws of reduced ratios: what ofR makes of a pair. -/
import Derived.Test.YtdpmijmofeechaaDoorRatM
namespace Go.Proofs.YtdpmijmofeechaaDoor.RatM
open BigM GcdM

/-- the reduced form is the only one: what ofR makes of a pair that lies as x to y -/
theorem ofR_eq {p q x y : Int} (hq : 1 ≤ q) (h : isR x y = true) (hx : x * q = p * y) : ofR p q = (x, y, 0) := by
  obtain ⟨y1, y2, x1, x2, hg⟩ := isR_true h
  have hc : Nat.gcd x.natAbs y.natAbs = 1 := by rw [g_def] at hg; omega
  have hn : x.natAbs * q.natAbs = p.natAbs * y.natAbs := by rw [← Int.natAbs_mul, ← Int.natAbs_mul, hx]
  have hd : y.natAbs ∣ q.natAbs := by
    refine Nat.Coprime.dvd_of_dvd_mul_left (m := x.natAbs) ?_ (by rw [hn]; exact Nat.dvd_mul_left _ _)
    unfold Nat.Coprime; rw [Nat.gcd_comm]; exact hc
  obtain ⟨k, hk⟩ := hd
  have hqk : q = y * (k : Int) := by
    have h1 : (q.natAbs : Int) = (y.natAbs : Int) * k := by rw [hk]; simp
    rw [show (q.natAbs : Int) = q by omega, show (y.natAbs : Int) = y by omega] at h1
    exact h1
  have hk1 : 1 ≤ k := by
    rcases Nat.eq_zero_or_pos k with h0 | h0
    · subst h0; simp at hqk; omega
    · exact h0
  have hpk : p = x * (k : Int) := by
    have h2 : (x * k) * y = p * y := by rw [← hx, hqk]; rw [Int.mul_assoc, Int.mul_comm (k : Int) y]
    exact (Int.eq_of_mul_eq_mul_right (by omega) h2).symm
  have hgk : g p q = (k : Int) := by
    rw [g_def, hpk, hqk, Int.natAbs_mul, Int.natAbs_mul, Int.natAbs_natCast, Nat.gcd_mul_right, hc, Nat.one_mul]
  have ex : ofX p q = x := by unfold ofX; rw [hgk, hpk]; exact Int.mul_tdiv_cancel _ (by omega)
  have ey : ofY p q = y := by unfold ofY; rw [hgk, hqk]; exact Int.mul_tdiv_cancel _ (by omega)
  have hl : (longB (ofX p q) || longB (ofY p q)) = false := by
    rw [ex, ey]; unfold longB; rw [decide_eq_false (by omega), decide_eq_false (by omega)]; rfl
  rw [ofR_pos (by omega) hl (by rw [ey]; omega), ex, ey]

theorem div_g (p q : Int) (hq : q ≠ 0) : p = ofX p q * g p q ∧ q = ofY p q * g p q ∧ Nat.gcd (ofX p q).natAbs (ofY p q).natAbs = 1 := by
  have hg := g_pos (p := p) hq
  have d1 : g p q ∣ p := by rw [g_def]; exact Int.ofNat_dvd_left.2 (Nat.gcd_dvd_left _ _)
  have d2 : g p q ∣ q := by rw [g_def]; exact Int.ofNat_dvd_left.2 (Nat.gcd_dvd_right _ _)
  have e1 : ofX p q * g p q = p := by unfold ofX; exact Int.tdiv_mul_cancel d1
  have e2 : ofY p q * g p q = q := by unfold ofY; exact Int.tdiv_mul_cancel d2
  refine ⟨e1.symm, e2.symm, ?_⟩
  have n1 : (ofX p q).natAbs * (g p q).natAbs = p.natAbs := by rw [← Int.natAbs_mul, e1]
  have n2 : (ofY p q).natAbs * (g p q).natAbs = q.natAbs := by rw [← Int.natAbs_mul, e2]
  have h3 : Nat.gcd ((ofX p q).natAbs * (g p q).natAbs) ((ofY p q).natAbs * (g p q).natAbs) = Nat.gcd (ofX p q).natAbs (ofY p q).natAbs * (g p q).natAbs := Nat.gcd_mul_right _ _ _
  rw [n1, n2] at h3
  have h4 : (g p q).natAbs = Nat.gcd p.natAbs q.natAbs := by rw [g_def]; simp
  rw [← h4] at h3
  have h5 : 0 < (g p q).natAbs := by omega
  exact Nat.eq_of_mul_eq_mul_right h5 (by rw [← h3]; simp)

/-- what ofR makes is right, and lies as p to q -/
theorem ofR_is {p q : Int} (h : (ofR p q).2.2 = 0) : isR (ofR p q).1 (ofR p q).2.1 = true ∧ (ofR p q).1 * q = p * (ofR p q).2.1 := by
  by_cases hq : q = 0
  · subst hq; rw [ofR_zero] at h; exact absurd h (by decide)
  · obtain ⟨h1, h2, h3⟩ := div_g p q hq
    have hcross : ofX p q * q = p * ofY p q := by
      have e : ofX p q * (ofY p q * g p q) = ofX p q * g p q * ofY p q := by rw [Int.mul_assoc, Int.mul_comm (ofY p q)]
      rw [← h2, ← h1] at e
      exact e
    cases hl : (longB (ofX p q) || longB (ofY p q))
    · simp only [Bool.or_eq_false_iff] at hl
      have l1 := of_decide_eq_false hl.1
      have l2 := of_decide_eq_false hl.2
      have hy0 : ofY p q ≠ 0 := fun h0 => hq (by rw [h2, h0, Int.zero_mul])
      have hl' : (longB (ofX p q) || longB (ofY p q)) = false := by rw [hl.1, hl.2]; rfl
      by_cases hn : ofY p q < 0
      · rw [ofR_neg hq hl' hn]
        refine ⟨isR_mk ⟨by show 1 ≤ -ofY p q; omega, by show -ofY p q ≤ _; omega, by show _ ≤ -ofX p q; omega, by show -ofX p q ≤ _; omega, ?_⟩, ?_⟩
        · rw [g_def, Int.natAbs_neg, Int.natAbs_neg, h3]; rfl
        · show -ofX p q * q = p * -ofY p q
          rw [Int.neg_mul, Int.mul_neg, hcross]
      · rw [ofR_pos hq hl' hn]
        refine ⟨isR_mk ⟨by show 1 ≤ ofY p q; omega, by show ofY p q ≤ _; omega, by show _ ≤ ofX p q; omega, by show ofX p q ≤ _; omega, ?_⟩, hcross⟩
        rw [g_def, h3]; rfl
    · rw [ofR_long hq hl] at h; exact absurd h (by decide)
theorem ofR_e (p q : Int) : (q = 0 ∧ (ofR p q).2.2 = 11) ∨ (q ≠ 0 ∧ ((ofR p q).2.2 = 10 ∨ (ofR p q).2.2 = 0)) := by
  by_cases hq : q = 0
  · subst hq; left; rw [ofR_zero]; exact ⟨rfl, rfl⟩
  · refine .inr ⟨hq, ?_⟩
    cases hl : (longB (ofX p q) || longB (ofY p q))
    · by_cases hn : ofY p q < 0
      · rw [ofR_neg hq hl hn]; exact .inr rfl
      · rw [ofR_pos hq hl hn]; exact .inr rfl
    · rw [ofR_long hq hl]; exact .inl rfl
end Go.Proofs.YtdpmijmofeechaaDoor.RatM
